/- The walk of reading a digest's digits. -/
import Derived.Test.YtimokikpnngikaaW9
import Derived.Test.YtimokikpnngikaaD6
namespace Go.Proofs.Ytimokikpnngikaa
open Go Go.RowKit Go.Proofs Go.Fw Go.Dig
theorem parse_calls (s : List UInt8) (w : World) : Calls Try.prog 16 #[S s] w (Pure1 w (.tuple #[.agg (arr 32 fun i => B8 (if parsed s then wantB s 64 i else 0)), .int .i64 (if parsed s then 0 else 130)])) := by
  refine enter (args := [S s]) 57 Try.func16 rfl rfl (by simp) ?_
  refine J.seq ?_
  refine J.region ?_
  refine JL.eff (Eff.allocA 32 (fun _ => B8 0) (by kernel_rfl)) rfl rfl (fun g2 _ => ?_)
  refine JL.ev _ rfl rfl (Ev.assign rfl) ?_
  refine JL.nil ?_
  refine JE.next ?_
  refine J.scope ?_
  refine J.seq ?_
  refine J.region ?_
  refine JL.eff (Eff.allocA 32 (fun _ => B8 0) (by kernel_rfl)) rfl rfl (fun g4 _ => ?_)
  refine JL.nil ?_
  refine JE.next ?_
  refine J.seq ?_
  refine J.region ?_
  refine JL.ev _ rfl rfl (Ev.move rfl) ?_
  refine JL.ev _ rfl rfl (Ev.lenS rfl Try.underlying9) ?_
  refine JL.ev _ rfl rfl (Ev.eqI rfl rfl rfl) ?_
  refine JL.ev _ rfl rfl (Ev.assign rfl) ?_
  refine JL.nil ?_
  refine JE.next ?_
  refine J.seq ?_
  refine J.label ?_
  refine JE.next ?_
  refine J.seq ?_
  refine J.seq ?_
  refine J.region ?_
  refine JL.ev _ rfl rfl (Ev.move rfl) ?_
  refine JL.eff (Eff.rangeS rfl Try.underlying9) rfl rfl (fun gi _ => ?_)
  refine JL.nil ?_
  refine JE.next ?_
  refine J.block ?_
  refine J.loop (σ := Nat) (fun k => k ≤ s.length ∧ (0 < k → s.length = 64) ∧ ∀ i, i < k → hexOk (byteAt s i) = true) (fun k => [(2, .pointer (some ⟨g2, 0, none⟩)), (3, .int .i64 0), (4, .pointer (some ⟨g4, 0, none⟩)), (5, .bool (decide ((s.length : Int) = 64))), (13, .pointer (some ⟨gi, 0, none⟩))]) (fun k => [iterE gi s k, cells g4 (arr 32 (fun i => B8 (wantB s k i))) 27, cells g2 (arr 32 (fun _ => B8 0)) 27]) (fun k => s.length - k) 0 ⟨Nat.zero_le _, fun h => absurd h (by decide), fun i hi => absurd hi (Nat.not_lt_zero _)⟩ ⟨rfl, rfl, rfl, rfl, rfl, trivial⟩ (fun w s => by rw [wantB_zero]; exact s) ?_
  rintro k ⟨hk, hk64, hall⟩
  refine J.seq ?_
  refine J.region ?_
  refine JL.eff (Eff.nextS rfl (by repeat (first | exact At.here | apply At.there))) rfl rfl (fun _ _ => ?_)
  refine JL.ev _ rfl rfl (Ev.next0 rfl) ?_
  refine JL.nil ?_
  refine JE.next ?_
  refine J.seq ?_
  refine J.cond _ rfl (fun ht15 => ?_) (fun ht15 => ?_)
  · try replace ht15 := of_decide_eq_true ht15
    obtain ⟨hru, hrn⟩ := rune_of s k ht15
    have hdl := dec_le s k
    have hbl := (byteAt s k).toNat_lt
    refine J.skip ?_
    refine JE.next ?_
    refine J.block ?_
    refine J.seq ?_
    refine J.region ?_
    refine JL.ev _ rfl rfl (Ev.next1 rfl ht15) ?_
    refine JL.ev _ rfl rfl (Ev.next2 rfl ht15) ?_
    refine JL.ev _ rfl rfl (Ev.assign rfl) ?_
    refine JL.ev _ rfl rfl (Ev.assign rfl) ?_
    refine JL.nil ?_
    refine JE.next ?_
    refine J.seq ?_
    refine J.region ?_
    refine JL.ev _ rfl rfl (Ev.assign rfl) ?_
    refine JL.nil ?_
    refine JE.next ?_
    refine J.seq ?_
    refine J.block ?_
    refine J.seq ?_
    refine J.region ?_
    refine JL.ev _ rfl rfl (Ev.move rfl) ?_
    refine JL.ev _ rfl rfl (Ev.not rfl rfl) ?_
    refine JL.ev _ rfl rfl (Ev.assign rfl) ?_
    refine JL.nil ?_
    refine JE.next ?_
    refine J.cond _ rfl (fun ht18 => ?_) (fun ht18 => ?_)
    · try replace ht18 := of_decide_eq_true ht18
      have hl : s.length ≠ 64 := fun e => by rw [e] at ht18; exact absurd ht18 (by decide)
      have hp := parsed_len hl
      refine J.exit ?_
      refine JE.blockOut rfl ?_
      refine JE.thenExit ?_
      refine JE.blockOut rfl ?_
      refine JE.thenExit ?_
      refine JE.blockHere ?_
      refine JE.next ?_
      refine J.seq ?_
      refine J.seq ?_
      refine J.region ?_
      refine JL.ev _ rfl rfl (Ev.move rfl) ?_
      refine JL.ev _ rfl rfl (Ev.not rfl rfl) ?_
      refine JL.nil ?_
      refine JE.next ?_
      refine J.cond _ rfl (fun ht54 => ?_) (fun ht54 => ?_)
      · try replace ht54 := of_decide_eq_true ht54
        have hp : parsed s = false := by
          first
          | exact hp
          | exact parsed_len (fun e => by rw [e] at ht54; exact absurd ht54 (by decide))
          | exact parsed_at (k := k) (by omega) (by
              rcases Nat.lt_or_ge (dec s k).1 128 with h | h
              · have hd := hru h
                have hd1 : (dec s k).1 = (byteAt s k).toNat := by rw [hd]
                exact hexOk_none (by rintro ⟨a, b⟩; first | omega | (have q := of_decide_eq_false hb48; omega)) (by rintro ⟨a, b⟩; first | omega | (have q := of_decide_eq_false hb97; omega))
              · exact hrn h)
        rw [hp]
        refine J.seq ?_
        refine J.region ?_
        refine JL.ev _ rfl rfl (Ev.closed (v := .agg (arr 32 fun _ => B8 0)) (fun u w => by kernel_rfl)) ?_
        refine JL.eff0 (Eff.storeAll rfl rfl (by kernel_rfl) (fun _ => rfl) (by repeat (first | exact At.here | apply At.there))) rfl rfl (fun _ _ => ?_)
        refine JL.ev _ rfl rfl (Ev.assign rfl) ?_
        refine JL.nil ?_
        refine JE.next ?_
        refine J.ret ?_
        refine JE.thenRet ?_
        refine JE.scopeRet ?_
        exact JE.retCell1 rfl rfl rfl (by repeat (first | exact At.here | apply At.there)) Try.underlying27 rfl (by kernel_rfl) fun w' s => ⟨rfl, s.below⟩
      · try replace ht54 := of_decide_eq_false ht54
        have hpk : parsed s = true ∧ k = 64 := by
          first
          | exact absurd ht54 (by decide)
          | (have hl64 : s.length = 64 := by
              rcases Nat.decEq s.length 64 with h | h
              · rw [decide_eq_false (by omega)] at ht54; exact absurd ht54 (by decide)
              · exact h
             first
             | exact absurd hl64 hl
             | exact ⟨parsed_all hl64 (fun i hi => hall i (by omega)), by omega⟩)
        obtain ⟨hp, rfl⟩ := hpk
        rw [hp]
        refine J.skip ?_
        refine JE.next ?_
        refine J.seq ?_
        refine J.region ?_
        refine JL.ev _ rfl rfl (Ev.loadAll rfl Try.underlying27 rfl (by repeat (first | exact At.here | apply At.there)) (by kernel_rfl)) ?_
        refine JL.eff0 (Eff.storeAll rfl rfl (by kernel_rfl) (fun _ => rfl) (by repeat (first | exact At.here | apply At.there))) rfl rfl (fun _ _ => ?_)
        refine JL.ev _ rfl rfl (Ev.assign rfl) ?_
        refine JL.nil ?_
        refine JE.next ?_
        refine J.ret ?_
        refine JE.scopeRet ?_
        exact JE.retCell1 rfl rfl rfl (by repeat (first | exact At.here | apply At.there)) Try.underlying27 rfl (by kernel_rfl) fun w' s => ⟨rfl, s.below⟩
    · try replace ht18 := of_decide_eq_false ht18
      have hl : s.length = 64 := by
        rcases Nat.decEq s.length 64 with h | h
        · rw [decide_eq_false (by omega)] at ht18; exact absurd ht18 (by decide)
        · exact h
      refine J.seq ?_
      refine J.region ?_
      refine JL.ev _ rfl rfl (Ev.move rfl) ?_
      refine JL.ev _ rfl rfl (Ev.leq rfl rfl rfl) ?_
      refine JL.ev _ rfl rfl (Ev.move rfl) ?_
      cases hb48 : decide ((48 : Int) ≤ ((dec s k).1 : Int))
      · refine JL.off rfl rfl ?_
        refine JL.off rfl rfl ?_
        refine JL.ev _ rfl rfl (Ev.pickF rfl rfl) ?_
        refine JL.ev _ rfl rfl (Ev.assign rfl) ?_
        refine JL.nil ?_
        refine JE.next ?_
        refine J.condF rfl (rfl) ?_
        refine J.seq ?_
        refine J.region ?_
        refine JL.ev _ rfl rfl (Ev.move rfl) ?_
        refine JL.ev _ rfl rfl (Ev.leq rfl rfl rfl) ?_
        refine JL.ev _ rfl rfl (Ev.move rfl) ?_
        cases hb97 : decide ((97 : Int) ≤ ((dec s k).1 : Int))
        · refine JL.off rfl rfl ?_
          refine JL.off rfl rfl ?_
          refine JL.ev _ rfl rfl (Ev.pickF rfl rfl) ?_
          refine JL.ev _ rfl rfl (Ev.assign rfl) ?_
          refine JL.nil ?_
          refine JE.next ?_
          refine J.condF rfl (rfl) ?_
          refine J.seq ?_
          refine J.region ?_
          refine JL.ev _ rfl rfl (Ev.assign rfl) ?_
          refine JL.nil ?_
          refine JE.next ?_
          refine J.exit ?_
          refine JE.blockOut rfl ?_
          refine JE.thenExit ?_
          refine JE.blockOut rfl ?_
          refine JE.thenExit ?_
          refine JE.blockHere ?_
          refine JE.next ?_
          refine J.seq ?_
          refine J.seq ?_
          refine J.region ?_
          refine JL.ev _ rfl rfl (Ev.move rfl) ?_
          refine JL.ev _ rfl rfl (Ev.not rfl rfl) ?_
          refine JL.nil ?_
          refine JE.next ?_
          refine J.cond _ rfl (fun ht54 => ?_) (fun ht54 => ?_)
          · try replace ht54 := of_decide_eq_true ht54
            have hp : parsed s = false := by
              first
              | exact hp
              | exact parsed_len (fun e => by rw [e] at ht54; exact absurd ht54 (by decide))
              | exact parsed_at (k := k) (by omega) (by
                  rcases Nat.lt_or_ge (dec s k).1 128 with h | h
                  · have hd := hru h
                    have hd1 : (dec s k).1 = (byteAt s k).toNat := by rw [hd]
                    exact hexOk_none (by rintro ⟨a, b⟩; first | omega | (have q := of_decide_eq_false hb48; omega)) (by rintro ⟨a, b⟩; first | omega | (have q := of_decide_eq_false hb97; omega))
                  · exact hrn h)
            rw [hp]
            refine J.seq ?_
            refine J.region ?_
            refine JL.ev _ rfl rfl (Ev.closed (v := .agg (arr 32 fun _ => B8 0)) (fun u w => by kernel_rfl)) ?_
            refine JL.eff0 (Eff.storeAll rfl rfl (by kernel_rfl) (fun _ => rfl) (by repeat (first | exact At.here | apply At.there))) rfl rfl (fun _ _ => ?_)
            refine JL.ev _ rfl rfl (Ev.assign rfl) ?_
            refine JL.nil ?_
            refine JE.next ?_
            refine J.ret ?_
            refine JE.thenRet ?_
            refine JE.scopeRet ?_
            exact JE.retCell1 rfl rfl rfl (by repeat (first | exact At.here | apply At.there)) Try.underlying27 rfl (by kernel_rfl) fun w' s => ⟨rfl, s.below⟩
          · try replace ht54 := of_decide_eq_false ht54
            have hpk : parsed s = true ∧ k = 64 := by
              first
              | exact absurd ht54 (by decide)
              | (have hl64 : s.length = 64 := by
                  rcases Nat.decEq s.length 64 with h | h
                  · rw [decide_eq_false (by omega)] at ht54; exact absurd ht54 (by decide)
                  · exact h
                 first
                 | exact absurd hl64 hl
                 | exact ⟨parsed_all hl64 (fun i hi => hall i (by omega)), by omega⟩)
            obtain ⟨hp, rfl⟩ := hpk
            rw [hp]
            refine J.skip ?_
            refine JE.next ?_
            refine J.seq ?_
            refine J.region ?_
            refine JL.ev _ rfl rfl (Ev.loadAll rfl Try.underlying27 rfl (by repeat (first | exact At.here | apply At.there)) (by kernel_rfl)) ?_
            refine JL.eff0 (Eff.storeAll rfl rfl (by kernel_rfl) (fun _ => rfl) (by repeat (first | exact At.here | apply At.there))) rfl rfl (fun _ _ => ?_)
            refine JL.ev _ rfl rfl (Ev.assign rfl) ?_
            refine JL.nil ?_
            refine JE.next ?_
            refine J.ret ?_
            refine JE.scopeRet ?_
            exact JE.retCell1 rfl rfl rfl (by repeat (first | exact At.here | apply At.there)) Try.underlying27 rfl (by kernel_rfl) fun w' s => ⟨rfl, s.below⟩
        · refine JL.ev _ rfl rfl (Ev.move rfl) ?_
          refine JL.ev _ rfl rfl (Ev.leq rfl rfl rfl) ?_
          refine JL.ev _ rfl rfl (Ev.pickT rfl rfl) ?_
          refine JL.ev _ rfl rfl (Ev.assign rfl) ?_
          refine JL.nil ?_
          refine JE.next ?_
          refine J.cond _ rfl (fun ht31 => ?_) (fun ht31 => ?_)
          · try replace ht31 := of_decide_eq_true ht31
            have h97 := of_decide_eq_true hb97
            have hd := hru (by omega)
            have hd1 : (dec s k).1 = (byteAt s k).toNat := by rw [hd]
            obtain ⟨hok, hhv, hh16⟩ := hexOk_letter (c := byteAt s k) (by omega) (by omega)
            refine J.region ?_
            refine JL.ev _ rfl rfl (Ev.move rfl) ?_
            refine JL.ev _ rfl rfl (Ev.sub rfl rfl (i32_in (by omega) (by omega))) ?_
            refine JL.ev _ rfl rfl (Ev.conv rfl Try.underlying21 Try.underlying3 (i64_in (by omega) (by omega))) ?_
            refine JL.ev _ rfl rfl (Ev.add rfl rfl (i64_in (by omega) (by omega))) ?_
            refine JL.ev _ rfl rfl (Ev.assign rfl) ?_
            refine JL.nil ?_
            refine JE.blockNormal ?_
            refine JE.next ?_
            refine J.region ?_
            refine JL.ev _ rfl rfl (Ev.move rfl) ?_
            refine JL.ev _ rfl rfl (Ev.quo rfl rfl (by omega) (quo_i64 (by omega) (by omega) (by omega))) ?_
            refine JL.ev _ rfl rfl (Ev.move rfl) ?_
            refine JL.ev _ rfl rfl (Ev.quo rfl rfl (by omega) (quo_i64 (by omega) (by omega) (by omega))) ?_
            refine JL.ev _ rfl rfl (Ev.indexAddrA rfl rfl Try.underlying27 (by kernel_rfl) (by omega) (by omega) (j := k / 2) (by omega)) ?_
            refine JL.ev _ rfl rfl (Ev.loadA rfl Try.underlying5 rfl (by repeat (first | exact At.here | apply At.there)) (by omega)) ?_
            refine JL.ev _ rfl rfl (Ev.shl (r := (((wantB s k (k / 2)).toNat * 16 % 256 : Nat) : Int)) rfl rfl (by decide) (by show IntKind.u8.wrap (_ * 16) = _; rw [u8_wrap]; omega)) ?_
            refine JL.ev _ rfl rfl (Ev.move rfl) ?_
            refine JL.ev _ rfl rfl (Ev.conv rfl Try.underlying3 Try.underlying5 (r := (hv (byteAt s k) : Int)) (by rw [u8_in (by omega) (by omega)]; omega)) ?_
            refine JL.ev _ rfl rfl (Ev.or rfl rfl (or16 (wantB s k (k / 2)) (hv (byteAt s k)) hh16)) ?_
            refine JL.ev _ rfl rfl (Ev.indexAddrA rfl rfl Try.underlying27 (by kernel_rfl) (by omega) (by omega) (j := k / 2) (by omega)) ?_
            refine JL.eff0 (Eff.storeA rfl rfl rfl (by kernel_rfl) (by repeat (first | exact At.here | apply At.there)) (by omega)) rfl rfl (fun _ _ => ?_)
            refine JL.nil ?_
            refine JE.blockNormal ?_
            exact JE.back (k + 1) ⟨by omega, fun _ => hl, fun i hi => by
              rcases Nat.lt_or_ge i k with h | h
              · exact hall i h
              · obtain rfl : i = k := by omega
                exact hok⟩ (by omega) ⟨rfl, rfl, rfl, rfl, rfl, trivial⟩ (fun w s' => by
              rw [nextP_one ht15 (by omega)] at s'
              rw [← wantB_step s k hall]
              exact s')
          · try replace ht31 := of_decide_eq_false ht31
            refine J.seq ?_
            refine J.region ?_
            refine JL.ev _ rfl rfl (Ev.assign rfl) ?_
            refine JL.nil ?_
            refine JE.next ?_
            refine J.exit ?_
            refine JE.blockOut rfl ?_
            refine JE.thenExit ?_
            refine JE.blockOut rfl ?_
            refine JE.thenExit ?_
            refine JE.blockHere ?_
            refine JE.next ?_
            refine J.seq ?_
            refine J.seq ?_
            refine J.region ?_
            refine JL.ev _ rfl rfl (Ev.move rfl) ?_
            refine JL.ev _ rfl rfl (Ev.not rfl rfl) ?_
            refine JL.nil ?_
            refine JE.next ?_
            refine J.cond _ rfl (fun ht54 => ?_) (fun ht54 => ?_)
            · try replace ht54 := of_decide_eq_true ht54
              have hp : parsed s = false := by
                first
                | exact hp
                | exact parsed_len (fun e => by rw [e] at ht54; exact absurd ht54 (by decide))
                | exact parsed_at (k := k) (by omega) (by
                    rcases Nat.lt_or_ge (dec s k).1 128 with h | h
                    · have hd := hru h
                      have hd1 : (dec s k).1 = (byteAt s k).toNat := by rw [hd]
                      exact hexOk_none (by rintro ⟨a, b⟩; first | omega | (have q := of_decide_eq_false hb48; omega)) (by rintro ⟨a, b⟩; first | omega | (have q := of_decide_eq_false hb97; omega))
                    · exact hrn h)
              rw [hp]
              refine J.seq ?_
              refine J.region ?_
              refine JL.ev _ rfl rfl (Ev.closed (v := .agg (arr 32 fun _ => B8 0)) (fun u w => by kernel_rfl)) ?_
              refine JL.eff0 (Eff.storeAll rfl rfl (by kernel_rfl) (fun _ => rfl) (by repeat (first | exact At.here | apply At.there))) rfl rfl (fun _ _ => ?_)
              refine JL.ev _ rfl rfl (Ev.assign rfl) ?_
              refine JL.nil ?_
              refine JE.next ?_
              refine J.ret ?_
              refine JE.thenRet ?_
              refine JE.scopeRet ?_
              exact JE.retCell1 rfl rfl rfl (by repeat (first | exact At.here | apply At.there)) Try.underlying27 rfl (by kernel_rfl) fun w' s => ⟨rfl, s.below⟩
            · try replace ht54 := of_decide_eq_false ht54
              have hpk : parsed s = true ∧ k = 64 := by
                first
                | exact absurd ht54 (by decide)
                | (have hl64 : s.length = 64 := by
                    rcases Nat.decEq s.length 64 with h | h
                    · rw [decide_eq_false (by omega)] at ht54; exact absurd ht54 (by decide)
                    · exact h
                   first
                   | exact absurd hl64 hl
                   | exact ⟨parsed_all hl64 (fun i hi => hall i (by omega)), by omega⟩)
              obtain ⟨hp, rfl⟩ := hpk
              rw [hp]
              refine J.skip ?_
              refine JE.next ?_
              refine J.seq ?_
              refine J.region ?_
              refine JL.ev _ rfl rfl (Ev.loadAll rfl Try.underlying27 rfl (by repeat (first | exact At.here | apply At.there)) (by kernel_rfl)) ?_
              refine JL.eff0 (Eff.storeAll rfl rfl (by kernel_rfl) (fun _ => rfl) (by repeat (first | exact At.here | apply At.there))) rfl rfl (fun _ _ => ?_)
              refine JL.ev _ rfl rfl (Ev.assign rfl) ?_
              refine JL.nil ?_
              refine JE.next ?_
              refine J.ret ?_
              refine JE.scopeRet ?_
              exact JE.retCell1 rfl rfl rfl (by repeat (first | exact At.here | apply At.there)) Try.underlying27 rfl (by kernel_rfl) fun w' s => ⟨rfl, s.below⟩
      · refine JL.ev _ rfl rfl (Ev.move rfl) ?_
        refine JL.ev _ rfl rfl (Ev.leq rfl rfl rfl) ?_
        refine JL.ev _ rfl rfl (Ev.pickT rfl rfl) ?_
        refine JL.ev _ rfl rfl (Ev.assign rfl) ?_
        refine JL.nil ?_
        refine JE.next ?_
        refine J.cond _ rfl (fun ht21 => ?_) (fun ht21 => ?_)
        · try replace ht21 := of_decide_eq_true ht21
          have h48 := of_decide_eq_true hb48
          have hd := hru (by omega)
          have hd1 : (dec s k).1 = (byteAt s k).toNat := by rw [hd]
          obtain ⟨hok, hhv, hh16⟩ := hexOk_digit (c := byteAt s k) (by omega) (by omega)
          refine J.region ?_
          refine JL.ev _ rfl rfl (Ev.move rfl) ?_
          refine JL.ev _ rfl rfl (Ev.sub rfl rfl (i32_in (by omega) (by omega))) ?_
          refine JL.ev _ rfl rfl (Ev.conv rfl Try.underlying21 Try.underlying3 (i64_in (by omega) (by omega))) ?_
          refine JL.ev _ rfl rfl (Ev.assign rfl) ?_
          refine JL.nil ?_
          refine JE.blockNormal ?_
          refine JE.next ?_
          refine J.region ?_
          refine JL.ev _ rfl rfl (Ev.move rfl) ?_
          refine JL.ev _ rfl rfl (Ev.quo rfl rfl (by omega) (quo_i64 (by omega) (by omega) (by omega))) ?_
          refine JL.ev _ rfl rfl (Ev.move rfl) ?_
          refine JL.ev _ rfl rfl (Ev.quo rfl rfl (by omega) (quo_i64 (by omega) (by omega) (by omega))) ?_
          refine JL.ev _ rfl rfl (Ev.indexAddrA rfl rfl Try.underlying27 (by kernel_rfl) (by omega) (by omega) (j := k / 2) (by omega)) ?_
          refine JL.ev _ rfl rfl (Ev.loadA rfl Try.underlying5 rfl (by repeat (first | exact At.here | apply At.there)) (by omega)) ?_
          refine JL.ev _ rfl rfl (Ev.shl (r := (((wantB s k (k / 2)).toNat * 16 % 256 : Nat) : Int)) rfl rfl (by decide) (by show IntKind.u8.wrap (_ * 16) = _; rw [u8_wrap]; omega)) ?_
          refine JL.ev _ rfl rfl (Ev.move rfl) ?_
          refine JL.ev _ rfl rfl (Ev.conv rfl Try.underlying3 Try.underlying5 (r := (hv (byteAt s k) : Int)) (by rw [u8_in (by omega) (by omega)]; omega)) ?_
          refine JL.ev _ rfl rfl (Ev.or rfl rfl (or16 (wantB s k (k / 2)) (hv (byteAt s k)) hh16)) ?_
          refine JL.ev _ rfl rfl (Ev.indexAddrA rfl rfl Try.underlying27 (by kernel_rfl) (by omega) (by omega) (j := k / 2) (by omega)) ?_
          refine JL.eff0 (Eff.storeA rfl rfl rfl (by kernel_rfl) (by repeat (first | exact At.here | apply At.there)) (by omega)) rfl rfl (fun _ _ => ?_)
          refine JL.nil ?_
          refine JE.blockNormal ?_
          exact JE.back (k + 1) ⟨by omega, fun _ => hl, fun i hi => by
            rcases Nat.lt_or_ge i k with h | h
            · exact hall i h
            · obtain rfl : i = k := by omega
              exact hok⟩ (by omega) ⟨rfl, rfl, rfl, rfl, rfl, trivial⟩ (fun w s' => by
            rw [nextP_one ht15 (by omega)] at s'
            rw [← wantB_step s k hall]
            exact s')
        · try replace ht21 := of_decide_eq_false ht21
          refine J.seq ?_
          refine J.region ?_
          refine JL.ev _ rfl rfl (Ev.move rfl) ?_
          refine JL.ev _ rfl rfl (Ev.leq rfl rfl rfl) ?_
          refine JL.ev _ rfl rfl (Ev.move rfl) ?_
          cases hb97 : decide ((97 : Int) ≤ ((dec s k).1 : Int))
          · refine JL.off rfl rfl ?_
            refine JL.off rfl rfl ?_
            refine JL.ev _ rfl rfl (Ev.pickF rfl rfl) ?_
            refine JL.ev _ rfl rfl (Ev.assign rfl) ?_
            refine JL.nil ?_
            refine JE.next ?_
            refine J.condF rfl (rfl) ?_
            refine J.seq ?_
            refine J.region ?_
            refine JL.ev _ rfl rfl (Ev.assign rfl) ?_
            refine JL.nil ?_
            refine JE.next ?_
            refine J.exit ?_
            refine JE.blockOut rfl ?_
            refine JE.thenExit ?_
            refine JE.blockOut rfl ?_
            refine JE.thenExit ?_
            refine JE.blockHere ?_
            refine JE.next ?_
            refine J.seq ?_
            refine J.seq ?_
            refine J.region ?_
            refine JL.ev _ rfl rfl (Ev.move rfl) ?_
            refine JL.ev _ rfl rfl (Ev.not rfl rfl) ?_
            refine JL.nil ?_
            refine JE.next ?_
            refine J.cond _ rfl (fun ht54 => ?_) (fun ht54 => ?_)
            · try replace ht54 := of_decide_eq_true ht54
              have hp : parsed s = false := by
                first
                | exact hp
                | exact parsed_len (fun e => by rw [e] at ht54; exact absurd ht54 (by decide))
                | exact parsed_at (k := k) (by omega) (by
                    rcases Nat.lt_or_ge (dec s k).1 128 with h | h
                    · have hd := hru h
                      have hd1 : (dec s k).1 = (byteAt s k).toNat := by rw [hd]
                      exact hexOk_none (by rintro ⟨a, b⟩; first | omega | (have q := of_decide_eq_false hb48; omega)) (by rintro ⟨a, b⟩; first | omega | (have q := of_decide_eq_false hb97; omega))
                    · exact hrn h)
              rw [hp]
              refine J.seq ?_
              refine J.region ?_
              refine JL.ev _ rfl rfl (Ev.closed (v := .agg (arr 32 fun _ => B8 0)) (fun u w => by kernel_rfl)) ?_
              refine JL.eff0 (Eff.storeAll rfl rfl (by kernel_rfl) (fun _ => rfl) (by repeat (first | exact At.here | apply At.there))) rfl rfl (fun _ _ => ?_)
              refine JL.ev _ rfl rfl (Ev.assign rfl) ?_
              refine JL.nil ?_
              refine JE.next ?_
              refine J.ret ?_
              refine JE.thenRet ?_
              refine JE.scopeRet ?_
              exact JE.retCell1 rfl rfl rfl (by repeat (first | exact At.here | apply At.there)) Try.underlying27 rfl (by kernel_rfl) fun w' s => ⟨rfl, s.below⟩
            · try replace ht54 := of_decide_eq_false ht54
              have hpk : parsed s = true ∧ k = 64 := by
                first
                | exact absurd ht54 (by decide)
                | (have hl64 : s.length = 64 := by
                    rcases Nat.decEq s.length 64 with h | h
                    · rw [decide_eq_false (by omega)] at ht54; exact absurd ht54 (by decide)
                    · exact h
                   first
                   | exact absurd hl64 hl
                   | exact ⟨parsed_all hl64 (fun i hi => hall i (by omega)), by omega⟩)
              obtain ⟨hp, rfl⟩ := hpk
              rw [hp]
              refine J.skip ?_
              refine JE.next ?_
              refine J.seq ?_
              refine J.region ?_
              refine JL.ev _ rfl rfl (Ev.loadAll rfl Try.underlying27 rfl (by repeat (first | exact At.here | apply At.there)) (by kernel_rfl)) ?_
              refine JL.eff0 (Eff.storeAll rfl rfl (by kernel_rfl) (fun _ => rfl) (by repeat (first | exact At.here | apply At.there))) rfl rfl (fun _ _ => ?_)
              refine JL.ev _ rfl rfl (Ev.assign rfl) ?_
              refine JL.nil ?_
              refine JE.next ?_
              refine J.ret ?_
              refine JE.scopeRet ?_
              exact JE.retCell1 rfl rfl rfl (by repeat (first | exact At.here | apply At.there)) Try.underlying27 rfl (by kernel_rfl) fun w' s => ⟨rfl, s.below⟩
          · refine JL.ev _ rfl rfl (Ev.move rfl) ?_
            refine JL.ev _ rfl rfl (Ev.leq rfl rfl rfl) ?_
            refine JL.ev _ rfl rfl (Ev.pickT rfl rfl) ?_
            refine JL.ev _ rfl rfl (Ev.assign rfl) ?_
            refine JL.nil ?_
            refine JE.next ?_
            refine J.cond _ rfl (fun ht31 => ?_) (fun ht31 => ?_)
            · try replace ht31 := of_decide_eq_true ht31
              have h97 := of_decide_eq_true hb97
              have hd := hru (by omega)
              have hd1 : (dec s k).1 = (byteAt s k).toNat := by rw [hd]
              obtain ⟨hok, hhv, hh16⟩ := hexOk_letter (c := byteAt s k) (by omega) (by omega)
              refine J.region ?_
              refine JL.ev _ rfl rfl (Ev.move rfl) ?_
              refine JL.ev _ rfl rfl (Ev.sub rfl rfl (i32_in (by omega) (by omega))) ?_
              refine JL.ev _ rfl rfl (Ev.conv rfl Try.underlying21 Try.underlying3 (i64_in (by omega) (by omega))) ?_
              refine JL.ev _ rfl rfl (Ev.add rfl rfl (i64_in (by omega) (by omega))) ?_
              refine JL.ev _ rfl rfl (Ev.assign rfl) ?_
              refine JL.nil ?_
              refine JE.blockNormal ?_
              refine JE.next ?_
              refine J.region ?_
              refine JL.ev _ rfl rfl (Ev.move rfl) ?_
              refine JL.ev _ rfl rfl (Ev.quo rfl rfl (by omega) (quo_i64 (by omega) (by omega) (by omega))) ?_
              refine JL.ev _ rfl rfl (Ev.move rfl) ?_
              refine JL.ev _ rfl rfl (Ev.quo rfl rfl (by omega) (quo_i64 (by omega) (by omega) (by omega))) ?_
              refine JL.ev _ rfl rfl (Ev.indexAddrA rfl rfl Try.underlying27 (by kernel_rfl) (by omega) (by omega) (j := k / 2) (by omega)) ?_
              refine JL.ev _ rfl rfl (Ev.loadA rfl Try.underlying5 rfl (by repeat (first | exact At.here | apply At.there)) (by omega)) ?_
              refine JL.ev _ rfl rfl (Ev.shl (r := (((wantB s k (k / 2)).toNat * 16 % 256 : Nat) : Int)) rfl rfl (by decide) (by show IntKind.u8.wrap (_ * 16) = _; rw [u8_wrap]; omega)) ?_
              refine JL.ev _ rfl rfl (Ev.move rfl) ?_
              refine JL.ev _ rfl rfl (Ev.conv rfl Try.underlying3 Try.underlying5 (r := (hv (byteAt s k) : Int)) (by rw [u8_in (by omega) (by omega)]; omega)) ?_
              refine JL.ev _ rfl rfl (Ev.or rfl rfl (or16 (wantB s k (k / 2)) (hv (byteAt s k)) hh16)) ?_
              refine JL.ev _ rfl rfl (Ev.indexAddrA rfl rfl Try.underlying27 (by kernel_rfl) (by omega) (by omega) (j := k / 2) (by omega)) ?_
              refine JL.eff0 (Eff.storeA rfl rfl rfl (by kernel_rfl) (by repeat (first | exact At.here | apply At.there)) (by omega)) rfl rfl (fun _ _ => ?_)
              refine JL.nil ?_
              refine JE.blockNormal ?_
              exact JE.back (k + 1) ⟨by omega, fun _ => hl, fun i hi => by
                rcases Nat.lt_or_ge i k with h | h
                · exact hall i h
                · obtain rfl : i = k := by omega
                  exact hok⟩ (by omega) ⟨rfl, rfl, rfl, rfl, rfl, trivial⟩ (fun w s' => by
                rw [nextP_one ht15 (by omega)] at s'
                rw [← wantB_step s k hall]
                exact s')
            · try replace ht31 := of_decide_eq_false ht31
              refine J.seq ?_
              refine J.region ?_
              refine JL.ev _ rfl rfl (Ev.assign rfl) ?_
              refine JL.nil ?_
              refine JE.next ?_
              refine J.exit ?_
              refine JE.blockOut rfl ?_
              refine JE.thenExit ?_
              refine JE.blockOut rfl ?_
              refine JE.thenExit ?_
              refine JE.blockHere ?_
              refine JE.next ?_
              refine J.seq ?_
              refine J.seq ?_
              refine J.region ?_
              refine JL.ev _ rfl rfl (Ev.move rfl) ?_
              refine JL.ev _ rfl rfl (Ev.not rfl rfl) ?_
              refine JL.nil ?_
              refine JE.next ?_
              refine J.cond _ rfl (fun ht54 => ?_) (fun ht54 => ?_)
              · try replace ht54 := of_decide_eq_true ht54
                have hp : parsed s = false := by
                  first
                  | exact hp
                  | exact parsed_len (fun e => by rw [e] at ht54; exact absurd ht54 (by decide))
                  | exact parsed_at (k := k) (by omega) (by
                      rcases Nat.lt_or_ge (dec s k).1 128 with h | h
                      · have hd := hru h
                        have hd1 : (dec s k).1 = (byteAt s k).toNat := by rw [hd]
                        exact hexOk_none (by rintro ⟨a, b⟩; first | omega | (have q := of_decide_eq_false hb48; omega)) (by rintro ⟨a, b⟩; first | omega | (have q := of_decide_eq_false hb97; omega))
                      · exact hrn h)
                rw [hp]
                refine J.seq ?_
                refine J.region ?_
                refine JL.ev _ rfl rfl (Ev.closed (v := .agg (arr 32 fun _ => B8 0)) (fun u w => by kernel_rfl)) ?_
                refine JL.eff0 (Eff.storeAll rfl rfl (by kernel_rfl) (fun _ => rfl) (by repeat (first | exact At.here | apply At.there))) rfl rfl (fun _ _ => ?_)
                refine JL.ev _ rfl rfl (Ev.assign rfl) ?_
                refine JL.nil ?_
                refine JE.next ?_
                refine J.ret ?_
                refine JE.thenRet ?_
                refine JE.scopeRet ?_
                exact JE.retCell1 rfl rfl rfl (by repeat (first | exact At.here | apply At.there)) Try.underlying27 rfl (by kernel_rfl) fun w' s => ⟨rfl, s.below⟩
              · try replace ht54 := of_decide_eq_false ht54
                have hpk : parsed s = true ∧ k = 64 := by
                  first
                  | exact absurd ht54 (by decide)
                  | (have hl64 : s.length = 64 := by
                      rcases Nat.decEq s.length 64 with h | h
                      · rw [decide_eq_false (by omega)] at ht54; exact absurd ht54 (by decide)
                      · exact h
                     first
                     | exact absurd hl64 hl
                     | exact ⟨parsed_all hl64 (fun i hi => hall i (by omega)), by omega⟩)
                obtain ⟨hp, rfl⟩ := hpk
                rw [hp]
                refine J.skip ?_
                refine JE.next ?_
                refine J.seq ?_
                refine J.region ?_
                refine JL.ev _ rfl rfl (Ev.loadAll rfl Try.underlying27 rfl (by repeat (first | exact At.here | apply At.there)) (by kernel_rfl)) ?_
                refine JL.eff0 (Eff.storeAll rfl rfl (by kernel_rfl) (fun _ => rfl) (by repeat (first | exact At.here | apply At.there))) rfl rfl (fun _ _ => ?_)
                refine JL.ev _ rfl rfl (Ev.assign rfl) ?_
                refine JL.nil ?_
                refine JE.next ?_
                refine J.ret ?_
                refine JE.scopeRet ?_
                exact JE.retCell1 rfl rfl rfl (by repeat (first | exact At.here | apply At.there)) Try.underlying27 rfl (by kernel_rfl) fun w' s => ⟨rfl, s.below⟩
  · try replace ht15 := of_decide_eq_false ht15
    have hks : k = s.length := by omega
    refine J.exit ?_
    refine JE.thenExit ?_
    refine JE.thenExit ?_
    refine JE.blockHere ?_
    refine JE.next ?_
    refine J.seq ?_
    refine J.seq ?_
    refine J.region ?_
    refine JL.ev _ rfl rfl (Ev.move rfl) ?_
    refine JL.ev _ rfl rfl (Ev.not rfl rfl) ?_
    refine JL.nil ?_
    refine JE.next ?_
    refine J.cond _ rfl (fun ht54 => ?_) (fun ht54 => ?_)
    · try replace ht54 := of_decide_eq_true ht54
      have hp : parsed s = false := by
        first
        | exact hp
        | exact parsed_len (fun e => by rw [e] at ht54; exact absurd ht54 (by decide))
        | exact parsed_at (k := k) (by omega) (by
            rcases Nat.lt_or_ge (dec s k).1 128 with h | h
            · have hd := hru h
              have hd1 : (dec s k).1 = (byteAt s k).toNat := by rw [hd]
              exact hexOk_none (by rintro ⟨a, b⟩; first | omega | (have q := of_decide_eq_false hb48; omega)) (by rintro ⟨a, b⟩; first | omega | (have q := of_decide_eq_false hb97; omega))
            · exact hrn h)
      rw [hp]
      refine J.seq ?_
      refine J.region ?_
      refine JL.ev _ rfl rfl (Ev.closed (v := .agg (arr 32 fun _ => B8 0)) (fun u w => by kernel_rfl)) ?_
      refine JL.eff0 (Eff.storeAll rfl rfl (by kernel_rfl) (fun _ => rfl) (by repeat (first | exact At.here | apply At.there))) rfl rfl (fun _ _ => ?_)
      refine JL.ev _ rfl rfl (Ev.assign rfl) ?_
      refine JL.nil ?_
      refine JE.next ?_
      refine J.ret ?_
      refine JE.thenRet ?_
      refine JE.scopeRet ?_
      exact JE.retCell1 rfl rfl rfl (by repeat (first | exact At.here | apply At.there)) Try.underlying27 rfl (by kernel_rfl) fun w' s => ⟨rfl, s.below⟩
    · try replace ht54 := of_decide_eq_false ht54
      have hpk : parsed s = true ∧ k = 64 := by
        first
        | exact absurd ht54 (by decide)
        | (have hl64 : s.length = 64 := by
            rcases Nat.decEq s.length 64 with h | h
            · rw [decide_eq_false (by omega)] at ht54; exact absurd ht54 (by decide)
            · exact h
           first
           | exact absurd hl64 hl
           | exact ⟨parsed_all hl64 (fun i hi => hall i (by omega)), by omega⟩)
      obtain ⟨hp, rfl⟩ := hpk
      rw [hp]
      refine J.skip ?_
      refine JE.next ?_
      refine J.seq ?_
      refine J.region ?_
      refine JL.ev _ rfl rfl (Ev.loadAll rfl Try.underlying27 rfl (by repeat (first | exact At.here | apply At.there)) (by kernel_rfl)) ?_
      refine JL.eff0 (Eff.storeAll rfl rfl (by kernel_rfl) (fun _ => rfl) (by repeat (first | exact At.here | apply At.there))) rfl rfl (fun _ _ => ?_)
      refine JL.ev _ rfl rfl (Ev.assign rfl) ?_
      refine JL.nil ?_
      refine JE.next ?_
      refine J.ret ?_
      refine JE.scopeRet ?_
      exact JE.retCell1 rfl rfl rfl (by repeat (first | exact At.here | apply At.there)) Try.underlying27 rfl (by kernel_rfl) fun w' s => ⟨rfl, s.below⟩
end Go.Proofs.Ytimokikpnngikaa
