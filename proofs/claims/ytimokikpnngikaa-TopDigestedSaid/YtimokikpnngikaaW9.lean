/- The walk of a digest, as sha does it; digits; order. -/
import Derived.Test.YtimokikpnngikaaW8
namespace Go.Proofs.Ytimokikpnngikaa
open Go Go.RowKit Go.Proofs Go.Fw Go.Dig
theorem sum_calls (v : Value) (bs : List UInt8) (hl : bs.length ≤ 100000000) (w : World) (hv : rdOk v (bs.map B8) w) : Calls Try.prog 14 #[v] w (Pure1 w (.agg (arr 32 fun i => B8 (byteAt (sumL bs) i)))) := by
  obtain ⟨hp1, hp2, hp3⟩ := padL_len bs
  obtain ⟨N, hN⟩ : ∃ N, (padL bs).length = 64 * N := ⟨(padL bs).length / 64, by omega⟩
  have hz : zc bs.length < 64 := Nat.mod_lt _ (by decide)
  rw [show sumL bs = out8 (dig kT N hT (padL bs)) by unfold sumL digest; rw [hN, Nat.mul_div_cancel_left _ (by decide)]]
  refine enter (args := [v]) 44 Try.func14 rfl rfl (by simp) ?_
  refine J.withRd hv ?_
  refine J.seq ?_
  refine J.region ?_
  refine JL.eff (Eff.allocA 32 (fun _ => B8 0) (by kernel_rfl)) rfl rfl (fun g2 _ => ?_)
  refine JL.nil ?_
  refine JE.next ?_
  refine J.seq ?_
  refine J.region ?_
  refine JL.eff (Eff.callP rfl (enters Try.func11 (by kernel_rfl) rfl) (start_calls)) rfl rfl (fun _ _ => ?_)
  refine JL.eff (Eff.allocA 8 (fun _ => U 0) (by kernel_rfl)) rfl rfl (fun g3 _ => ?_)
  refine JL.eff0 (Eff.storeAll rfl rfl (by kernel_rfl) (fun _ => rfl) (by repeat (first | exact At.here | apply At.there))) rfl rfl (fun _ _ => ?_)
  refine JL.nil ?_
  refine JE.next ?_
  refine J.seq ?_
  refine J.seq ?_
  refine J.region ?_
  refine JL.ev _ rfl rfl (Ev.move rfl) ?_
  refine JL.eff (Eff.callRd rfl (enters Try.func15 (by kernel_rfl) rfl) fun w s => pad_calls v bs hl w (rdE_ok s (by repeat (first | exact At.here | apply At.there)))) rfl rfl (fun vn hcap => ?_)
  refine JL.ev _ rfl rfl (Ev.assign rfl) ?_
  refine JL.nil ?_
  refine JE.next ?_
  refine J.block ?_
  refine J.loop (σ := Nat × Value) (fun p => p.1 ≤ N ∧ ∀ a m c, p.2 = .slice a m c → m ≤ c) (fun p => [(2, .pointer (some ⟨g2, 0, none⟩)), (3, .pointer (some ⟨g3, 0, none⟩)), (4, p.2)]) (fun p => [rdE p.2 (((padL bs).map B8).drop (64 * p.1)) true, cells g3 (arr 8 (fun i => U (dig kT p.1 hT (padL bs) i))) 24, cells g2 (arr 32 (fun _ => B8 0)) 27]) (fun p => N - p.1) (0, vn) ⟨Nat.zero_le _, hcap⟩ ⟨rfl, rfl, rfl, trivial⟩ (fun w s => s.sub (by repeat (first | exact List.Sublist.refl _ | exact List.nil_sublist _ | apply List.Sublist.cons_cons | apply List.Sublist.cons))) ?_
  clear hcap vn
  rintro ⟨k, vk⟩ ⟨hk, hcap⟩
  dsimp only at hk hcap ⊢
  have hlm : (((padL bs).map B8).drop (64 * k)).length = 64 * (N - k) := by rw [List.length_drop, List.length_map]; omega
  refine J.seq ?_
  refine J.seq ?_
  refine J.region ?_
  refine JL.ev _ rfl rfl (Ev.move rfl) ?_
  refine JL.ev _ rfl rfl (Ev.lenR rfl Try.underlying22 (by repeat (first | exact At.here | apply At.there))) ?_
  refine JL.ev _ rfl rfl (Ev.gtr rfl rfl rfl) ?_
  refine JL.nil ?_
  refine JE.next ?_
  refine J.cond _ rfl (fun ht14 => ?_) (fun ht14 => ?_)
  · try replace ht14 := of_decide_eq_true ht14
    rw [hlm] at ht14
    have hF : ∀ i, i < 64 → (((padL bs).map B8).drop (64 * k))[i]? = some (B8 (byteAt ((padL bs).drop (64 * k)) i)) := by
      intro i hi
      rw [List.getElem?_drop, List.getElem?_map, byteAt_drop, byteAt_get (by omega)]
      rfl
    refine J.skip ?_
    refine JE.next ?_
    refine J.seq ?_
    refine J.block ?_
    refine J.draw [(0, true), (1, true), (2, true), (3, true), (4, false)] [5] (by kernel_rfl) (by kernel_rfl) ?_
    refine JD.ev _ rfl rfl rfl (Ev.loadAll rfl Try.underlying24 rfl (by repeat (first | exact At.here | apply At.there)) (by kernel_rfl)) ?_
    refine JD.ev _ rfl rfl rfl (Ev.move rfl) ?_
    refine JD.ev _ rfl rfl rfl (Ev.arrPtr rfl Try.underlying25 (by repeat (first | exact At.here | apply At.there)) (by omega)) ?_
    refine JD.ev _ rfl rfl rfl (Ev.loadPtr0 (F := fun i => B8 (byteAt ((padL bs).drop (64 * k)) i)) rfl Try.underlying25 rfl (by kernel_rfl) (by repeat (first | exact At.here | apply At.there)) (by decide) hF) ?_
    refine JD.eff (fun _ => _) rfl (Eff.callP rfl (enters Try.func12 (by kernel_rfl) rfl) (block_calls (dig kT k hT (padL bs)) ((padL bs).drop (64 * k)))) rfl rfl (fun _ _ _ s => s) (fun _ _ s => s) (fun _ _ => ?_)
    refine JD.tail ?_
    refine JT.eff0 rfl (Eff.storeAll rfl rfl (by kernel_rfl) (fun _ => rfl) (by repeat (first | exact At.here | apply At.there))) rfl rfl (fun _ _ => ?_)
    refine JT.nil (JE.np ?_)
    refine JE.blockNormal ?_
    refine JE.next ?_
    refine J.region ?_
    refine JL.ev _ rfl rfl (Ev.move rfl) ?_
    refine JL.ev _ rfl rfl (Ev.tail (k := 64) rfl rfl Try.underlying22 (by kernel_rfl) (by repeat (first | exact At.here | apply At.there)) (by omega)) ?_
    refine JL.ev _ rfl rfl (Ev.assign rfl) ?_
    refine JL.nil ?_
    exact JE.back (k + 1, tailV vk 64) ⟨by dsimp only; omega, fun a m c he => by
        cases vk with
        | slice a' m' c' => simp only [tailV] at he; injection he with _ h1 h2; have := hcap _ _ _ rfl; omega
        | _ => simp [tailV] at he⟩ (by dsimp only; omega) ⟨rfl, rfl, rfl, trivial⟩ (fun w s => by
      dsimp only
      rw [dig_succ, show 64 * (k + 1) = 64 * k + 64 by omega, ← List.drop_drop]
      exact s.tailRd (by repeat (first | exact At.here | apply At.there)) (by omega) hcap)
  · try replace ht14 := of_decide_eq_false ht14
    rw [hlm] at ht14
    obtain rfl : k = N := by omega
    refine J.exit ?_
    refine JE.thenExit ?_
    refine JE.thenExit ?_
    refine JE.blockHere ?_
    refine JE.next ?_
    refine J.seq ?_
    refine J.region ?_
    refine JL.eff (Eff.allocA 32 (fun _ => B8 0) (by kernel_rfl)) rfl rfl (fun g5 _ => ?_)
    refine JL.nil ?_
    refine JE.next ?_
    refine J.seq ?_
    refine J.seq ?_
    refine J.region ?_
    refine JL.ev _ rfl rfl (Ev.loadAll rfl Try.underlying24 rfl (by repeat (first | exact At.here | apply At.there)) (by kernel_rfl)) ?_
    refine JL.ev _ rfl rfl (Ev.move rfl) ?_
    refine JL.nil ?_
    refine JE.next ?_
    refine J.block ?_
    refine J.loop (σ := Nat) (fun i => i ≤ 8) (fun i => [(2, .pointer (some ⟨g2, 0, none⟩)), (5, .pointer (some ⟨g5, 0, none⟩)), (22, .agg (arr 8 (fun i => U (dig kT k hT (padL bs) i)))), (23, .int .i64 i)]) (fun i => [cells g5 (arr 32 (fillTo (fun p => B8 (byteAt (out8 (dig kT k hT (padL bs))) p)) (B8 0) (4 * i))) 27, cells g2 (arr 32 (fun _ => B8 0)) 27]) (fun i => 8 - i) 0 (Nat.zero_le _) ⟨rfl, rfl, rfl, rfl, trivial⟩ (fun w s => by rw [Nat.mul_zero, fillTo_zero]; exact s.sub (by repeat (first | exact List.Sublist.refl _ | exact List.nil_sublist _ | apply List.Sublist.cons_cons | apply List.Sublist.cons))) ?_
    intro i hi
    refine J.seq ?_
    refine J.region ?_
    refine JL.ev _ rfl rfl (Ev.lss rfl rfl rfl) ?_
    refine JL.nil ?_
    refine JE.next ?_
    refine J.seq ?_
    refine J.cond _ rfl (fun ht24 => ?_) (fun ht24 => ?_)
    · try replace ht24 := of_decide_eq_true ht24
      refine J.skip ?_
      refine JE.next ?_
      refine J.seq ?_
      refine J.block ?_
      refine J.seq ?_
      refine J.region ?_
      refine JL.ev _ rfl rfl (Ev.move rfl) ?_
      refine JL.ev _ rfl rfl (Ev.indexArr rfl rfl Try.underlying24 (by kernel_rfl) Try.underlying23 rfl (by omega) (by omega) (by first | exact idxN _ | rfl)) ?_
      refine JL.ev _ rfl rfl (Ev.assign rfl) ?_
      refine JL.ev _ rfl rfl (Ev.assign rfl) ?_
      refine JL.nil ?_
      refine JE.next ?_
      refine J.seq ?_
      refine J.region ?_
      refine JL.ev _ rfl rfl (Ev.move rfl) ?_
      refine JL.nil ?_
      refine JE.next ?_
      refine J.block ?_
      refine J.loop (σ := Nat) (fun j => j ≤ 4) (fun j => [(2, .pointer (some ⟨g2, 0, none⟩)), (5, .pointer (some ⟨g5, 0, none⟩)), (22, .agg (arr 8 (fun i => U (dig kT k hT (padL bs) i)))), (23, .int .i64 i), (6, .int .i64 i), (7, U (dig kT k hT (padL bs) i)), (27, .int .i64 j)]) (fun j => [cells g5 (arr 32 (fillTo (fun p => B8 (byteAt (out8 (dig kT k hT (padL bs))) p)) (B8 0) (4 * i + j))) 27, cells g2 (arr 32 (fun _ => B8 0)) 27]) (fun j => 4 - j) 0 (Nat.zero_le _) ⟨rfl, rfl, rfl, rfl, rfl, rfl, rfl, trivial⟩ (fun w s => s) ?_
      intro j hj
      refine J.seq ?_
      refine J.region ?_
      refine JL.ev _ rfl rfl (Ev.lss rfl rfl rfl) ?_
      refine JL.nil ?_
      refine JE.next ?_
      refine J.seq ?_
      refine J.cond _ rfl (fun ht28 => ?_) (fun ht28 => ?_)
      · try replace ht28 := of_decide_eq_true ht28
        refine J.skip ?_
        refine JE.next ?_
        refine J.seq ?_
        refine J.block ?_
        refine J.seq ?_
        refine J.region ?_
        refine JL.ev _ rfl rfl (Ev.move rfl) ?_
        refine JL.ev _ rfl rfl (Ev.assign rfl) ?_
        refine JL.nil ?_
        refine JE.next ?_
        refine J.region ?_
        refine JL.ev _ rfl rfl (Ev.move rfl) ?_
        refine JL.ev _ rfl rfl (Ev.mul rfl rfl (i64_in (by omega) (by omega))) ?_
        refine JL.ev _ rfl rfl (Ev.move rfl) ?_
        refine JL.ev _ rfl rfl (Ev.add rfl rfl (i64_in (by omega) (by omega))) ?_
        refine JL.ev _ rfl rfl (Ev.move rfl) ?_
        refine JL.ev _ rfl rfl (Ev.move rfl) ?_
        refine JL.ev _ rfl rfl (Ev.mul rfl rfl (i64_in (by omega) (by omega))) ?_
        refine JL.ev _ rfl rfl (Ev.sub rfl rfl (i64_in (by omega) (by omega))) ?_
        refine JL.ev _ rfl rfl (Ev.shrU rfl rfl (by omega)) ?_
        refine JL.ev _ rfl rfl (Ev.convUB rfl Try.underlying23 Try.underlying5) ?_
        refine JL.ev _ rfl rfl (Ev.indexAddrA rfl rfl Try.underlying27 (by kernel_rfl) (by omega) (by omega) (j := 4 * i + j) (by omega)) ?_
        refine JL.eff0 (Eff.storeA rfl rfl rfl (by kernel_rfl) (by repeat (first | exact At.here | apply At.there)) (by omega)) rfl rfl (fun _ _ => ?_)
        refine JL.nil ?_
        refine JE.blockNormal ?_
        refine JE.next ?_
        refine J.region ?_
        refine JL.ev _ rfl rfl (Ev.add rfl rfl (i64_in (by omega) (by omega))) ?_
        refine JL.ev _ rfl rfl (Ev.move rfl) ?_
        refine JL.nil ?_
        exact JE.back (j + 1) (by omega) (by omega) ⟨rfl, rfl, rfl, rfl, rfl, rfl, rfl, trivial⟩ (fun w s => by
          rw [fillTo_step _ _ _ _ (by rw [out8_byte _ _ _ (by omega) (by omega), shr_byte _ _ (by omega)])] at s
          exact s)
      · try replace ht28 := of_decide_eq_false ht28
        refine J.exit ?_
        refine JE.thenExit ?_
        refine JE.thenExit ?_
        refine JE.blockHere ?_
        refine JE.blockNormal ?_
        refine JE.next ?_
        refine J.region ?_
        refine JL.ev _ rfl rfl (Ev.add rfl rfl (i64_in (by omega) (by omega))) ?_
        refine JL.ev _ rfl rfl (Ev.move rfl) ?_
        refine JL.nil ?_
        obtain rfl : j = 4 := by omega
        exact JE.back (i + 1) (by omega) (by omega) ⟨rfl, rfl, rfl, rfl, trivial⟩ (fun w s => s)
    · try replace ht24 := of_decide_eq_false ht24
      obtain rfl : i = 8 := by omega
      rw [fillTo_all]
      refine J.exit ?_
      refine JE.thenExit ?_
      refine JE.thenExit ?_
      refine JE.blockHere ?_
      refine JE.next ?_
      refine J.seq ?_
      refine J.region ?_
      refine JL.ev _ rfl rfl (Ev.loadAll rfl Try.underlying27 rfl (by repeat (first | exact At.here | apply At.there)) (by kernel_rfl)) ?_
      refine JL.eff0 (Eff.storeAll rfl rfl (by kernel_rfl) (fun _ => rfl) (by repeat (first | exact At.here | apply At.there))) rfl rfl (fun _ _ => ?_)
      refine JL.nil ?_
      refine JE.next ?_
      refine J.ret ?_
      exact JE.retCell rfl rfl (by repeat (first | exact At.here | apply At.there)) Try.underlying27 rfl (by kernel_rfl) fun w' s => ⟨rfl, s.below⟩
theorem text_calls (l : List UInt8) (hl : l.length = 32) (w : World) : Calls Try.prog 17 #[.agg (arr 32 fun i => B8 (byteAt l i))] w (Pure1 w (S (hexL l))) := by
  have hln : (hexL l).length = 64 := by rw [hexL_len, hl]
  have hread : ∀ (i : Nat) (y : Value), ((hexL l).map B8)[i]? = some y → (arr 64 (fun p => B8 (byteAt (hexL l) p)))[0 + i]? = some y := by
    intro i y hy
    have hi := (List.getElem?_eq_some_iff.1 hy).1
    rw [List.length_map, hln] at hi
    rw [List.getElem?_map, byteAt_get (by omega)] at hy
    rw [Nat.zero_add, arr_get _ hi, ← hy]
    rfl
  refine enter (args := [.agg (arr 32 fun i => B8 (byteAt l i))]) 23 Try.func17 rfl rfl (by simp) ?_
  refine J.seq ?_
  refine J.region ?_
  refine JL.eff (Eff.boxA rfl) rfl rfl (fun g1 _ => ?_)
  refine JL.ev (S []) rfl rfl (Ev.assign rfl) ?_
  refine JL.nil ?_
  refine JE.next ?_
  refine J.seq ?_
  refine J.region ?_
  refine JL.eff (Eff.makeC (m := 0) (c := 64) (z := B8 0) (bytes := 1) rfl rfl Try.underlying22 (by kernel_rfl) rfl (by omega) (by omega) (by omega)) rfl rfl (fun g _ => ?_)
  refine JL.ev _ rfl rfl (Ev.assign rfl) ?_
  refine JL.nil ?_
  refine JE.next ?_
  refine J.seq ?_
  refine J.seq ?_
  refine J.region ?_
  refine JL.ev _ rfl rfl (Ev.loadAll rfl Try.underlying27 rfl (by repeat (first | exact At.here | apply At.there)) (by kernel_rfl)) ?_
  refine JL.ev _ rfl rfl (Ev.move rfl) ?_
  refine JL.nil ?_
  refine JE.next ?_
  refine J.block ?_
  refine J.loop (σ := Nat) (fun k => k ≤ 32) (fun k => [(3, .slice (some ⟨g, 0, none⟩) (2 * k) 64), (7, .agg (arr 32 fun i => B8 (byteAt l i))), (8, .int .i64 k)]) (fun k => [cells g (arr 64 (fillTo (fun p => B8 (byteAt (hexL l) p)) (B8 0) (2 * k))) 5]) (fun k => 32 - k) 0 (Nat.zero_le _) ⟨rfl, rfl, rfl, trivial⟩ (fun w s => by rw [Nat.mul_zero, fillTo_zero]; exact s.sub (by repeat (first | exact List.Sublist.refl _ | exact List.nil_sublist _ | apply List.Sublist.cons_cons | apply List.Sublist.cons))) ?_
  intro k hk
  refine J.seq ?_
  refine J.region ?_
  refine JL.ev _ rfl rfl (Ev.lss rfl rfl rfl) ?_
  refine JL.nil ?_
  refine JE.next ?_
  refine J.seq ?_
  refine J.cond _ rfl (fun ht9 => ?_) (fun ht9 => ?_)
  · try replace ht9 := of_decide_eq_true ht9
    have hc := (byteAt l k).toNat_lt
    obtain ⟨hb1, hb2⟩ := hexL_byte l k (by omega)
    refine J.skip ?_
    refine JE.next ?_
    refine J.seq ?_
    refine J.block ?_
    refine J.seq ?_
    refine J.region ?_
    refine JL.ev _ rfl rfl (Ev.indexArr rfl rfl Try.underlying27 (by kernel_rfl) Try.underlying5 rfl (by omega) (by omega) (by first | exact idxN _ | rfl)) ?_
    refine JL.ev _ rfl rfl (Ev.assign rfl) ?_
    refine JL.nil ?_
    refine JE.next ?_
    refine J.drawS [] [(0, true), (1, true), (2, true), (3, true), (4, true), (5, true), (6, true), (7, false), (8, false)] [9] (fun w s => s.sub (List.nil_sublist _)) (by kernel_rfl) (by kernel_rfl) ?_
    refine JD.ev _ rfl rfl rfl (Ev.move rfl) ?_
    refine JD.ev _ rfl rfl rfl (Ev.move rfl) ?_
    refine JD.ev _ rfl rfl rfl (Ev.quoB (b := 16) rfl rfl (by decide)) ?_
    refine JD.ev _ rfl rfl rfl (Ev.indexS (a := hexDigits) rfl rfl Try.underlying9 (by omega) (z := dgt ((byteAt l k).toNat / 16)) (by rw [idxN]; exact byteAt_get (by show _ < 16; omega))) ?_
    refine JD.ev _ rfl rfl rfl (Ev.move rfl) ?_
    refine JD.ev _ rfl rfl rfl (Ev.remB (b := 16) rfl rfl (by decide)) ?_
    refine JD.ev _ rfl rfl rfl (Ev.indexS (a := hexDigits) rfl rfl Try.underlying9 (by omega) (z := dgt ((byteAt l k).toNat % 16)) (by rw [idxN]; exact byteAt_get (by show _ < 16; omega))) ?_
    refine JD.eff (fun _ => []) rfl (Eff.litV (e := 5) (z := B8 0) (xs := [B8 (dgt ((byteAt l k).toNat / 16)), B8 (dgt ((byteAt l k).toNat % 16))]) Try.underlying22 (by kernel_rfl) rfl (by decide) rfl (fun u => by kernel_rfl) (by decide)) rfl rfl (fun _ _ _ s => s.sub (List.nil_sublist _)) (fun _ _ s => s) (fun g18 _ => ?_)
    refine JD.eff (fun _ => []) rfl (Eff.appendC (xs := [B8 (dgt ((byteAt l k).toNat / 16)), B8 (dgt ((byteAt l k).toNat % 16))]) (N := 64) rfl rfl Try.underlying22 (by kernel_rfl) (fun w s => rdOk_row (rowE_ok0 s (by repeat (first | exact At.here | apply At.there)))) (by intro y hy; simp at hy; rcases hy with rfl | rfl <;> rfl) (by simp; omega) (by simp; omega) (by repeat (first | exact At.here | apply At.there))) rfl rfl (fun _ _ _ s => s.sub (List.nil_sublist _)) (fun _ _ s => s) (fun _ _ => ?_)
    refine JD.tail ?_
    refine JT.ev _ rfl rfl rfl (Ev.assign rfl) ?_
    refine JT.nil (JE.np ?_)
    refine JE.blockNormal ?_
    refine JE.next ?_
    refine J.region ?_
    refine JL.ev _ rfl rfl (Ev.add rfl rfl (i64_in (by omega) (by omega))) ?_
    refine JL.ev _ rfl rfl (Ev.move rfl) ?_
    refine JL.nil ?_
    exact JE.back (k + 1) (by omega) (by omega) ⟨rfl, rfl, rfl, trivial⟩ (fun w s => by
      rw [fillTo_ovl _ _ _ _ (by
        intro i y hy
        match i, hy with
        | 0, hy => simp at hy; rw [← hy, Nat.add_zero, hb1]
        | 1, hy => simp at hy; rw [← hy, hb2])] at s
      exact s.sub (by repeat (first | exact List.Sublist.refl _ | exact List.nil_sublist _ | apply List.Sublist.cons_cons | apply List.Sublist.cons)))
  · try replace ht9 := of_decide_eq_false ht9
    obtain rfl : k = 32 := by omega
    rw [fillTo_all]
    refine J.exit ?_
    refine JE.thenExit ?_
    refine JE.thenExit ?_
    refine JE.blockHere ?_
    refine JE.next ?_
    refine J.seq ?_
    refine J.region ?_
    refine JL.ev _ rfl rfl (Ev.move rfl) ?_
    refine JL.ev _ rfl rfl (Ev.strR (a := hexL l) rfl Try.underlying22 Try.underlying5 Try.underlying9 (fun w s => rdOk_cells s (by repeat (first | exact At.here | apply At.there)) (by rw [List.length_map, hln]) hread)) ?_
    refine JL.ev _ rfl rfl (Ev.assign rfl) ?_
    refine JL.nil ?_
    refine JE.next ?_
    refine J.ret ?_
    exact JE.ret1 _ rfl rfl fun w' s => ⟨rfl, s.below⟩
theorem less_calls (l m : List UInt8) (hl : l.length = 32) (hm : m.length = 32) (w : World) : Calls Try.prog 18 #[.agg (arr 32 fun i => B8 (byteAt l i)), .agg (arr 32 fun i => B8 (byteAt m i))] w (Pure1 w (.bool (Op.bytesLess l m))) := by
  refine enter (args := [.agg (arr 32 fun i => B8 (byteAt l i)), .agg (arr 32 fun i => B8 (byteAt m i))]) 23 Try.func18 rfl rfl (by simp) ?_
  refine J.seq ?_
  refine J.region ?_
  refine JL.eff (Eff.boxA rfl) rfl rfl (fun g2 _ => ?_)
  refine JL.eff (Eff.boxA rfl) rfl rfl (fun g3 _ => ?_)
  refine JL.ev _ rfl rfl (Ev.assign rfl) ?_
  refine JL.nil ?_
  refine JE.next ?_
  refine J.seq ?_
  refine J.seq ?_
  refine J.region ?_
  refine JL.ev _ rfl rfl (Ev.loadAll rfl Try.underlying27 rfl (by repeat (first | exact At.here | apply At.there)) (by kernel_rfl)) ?_
  refine JL.ev _ rfl rfl (Ev.move rfl) ?_
  refine JL.nil ?_
  refine JE.next ?_
  refine J.block ?_
  refine J.loop (σ := Nat) (fun k => k ≤ 32 ∧ ∀ i, i < k → byteAt l i = byteAt m i) (fun k => [(2, .pointer (some ⟨g2, 0, none⟩)), (3, .pointer (some ⟨g3, 0, none⟩)), (7, .agg (arr 32 fun i => B8 (byteAt l i))), (8, .int .i64 k)]) (fun k => [cells g3 (arr 32 (fun i => B8 (byteAt m i))) 27, cells g2 (arr 32 (fun i => B8 (byteAt l i))) 27]) (fun k => 32 - k) 0 ⟨Nat.zero_le _, fun i hi => absurd hi (Nat.not_lt_zero _)⟩ ⟨rfl, rfl, rfl, rfl, trivial⟩ (fun w s => s) ?_
  rintro k ⟨hk, hsame⟩
  refine J.seq ?_
  refine J.region ?_
  refine JL.ev _ rfl rfl (Ev.lss rfl rfl rfl) ?_
  refine JL.nil ?_
  refine JE.next ?_
  refine J.seq ?_
  refine J.cond _ rfl (fun ht9 => ?_) (fun ht9 => ?_)
  · try replace ht9 := of_decide_eq_true ht9
    refine J.skip ?_
    refine JE.next ?_
    refine J.seq ?_
    refine J.block ?_
    refine J.seq ?_
    refine J.region ?_
    refine JL.ev _ rfl rfl (Ev.move rfl) ?_
    refine JL.ev _ rfl rfl (Ev.indexArr rfl rfl Try.underlying27 (by kernel_rfl) Try.underlying5 rfl (by omega) (by omega) (by first | exact idxN _ | rfl)) ?_
    refine JL.ev _ rfl rfl (Ev.assign rfl) ?_
    refine JL.ev _ rfl rfl (Ev.assign rfl) ?_
    refine JL.nil ?_
    refine JE.next ?_
    refine J.seq ?_
    refine J.region ?_
    refine JL.ev _ rfl rfl (Ev.move rfl) ?_
    refine JL.ev _ rfl rfl (Ev.move rfl) ?_
    refine JL.ev _ rfl rfl (Ev.indexAddrA rfl rfl Try.underlying27 (by kernel_rfl) (by omega) (by omega) (by first | exact idx0 _ | exact Nat.zero_add _)) ?_
    refine JL.ev _ rfl rfl (Ev.loadA rfl Try.underlying5 rfl (by repeat (first | exact At.here | apply At.there)) (by omega)) ?_
    refine JL.ev _ rfl rfl (Ev.neI (a := ((byteAt l k).toNat : Int)) (b := ((byteAt m k).toNat : Int)) rfl rfl rfl) ?_
    refine JL.nil ?_
    refine JE.next ?_
    refine J.cond _ rfl (fun ht16 => ?_) (fun ht16 => ?_)
    · try replace ht16 := of_decide_eq_true ht16
      rw [bytesLess_at l m k (by omega) (by omega) hsame (fun e => ht16 (by rw [e]))]
      refine J.seq ?_
      refine J.region ?_
      refine JL.ev _ rfl rfl (Ev.move rfl) ?_
      refine JL.ev _ rfl rfl (Ev.move rfl) ?_
      refine JL.ev _ rfl rfl (Ev.indexAddrA rfl rfl Try.underlying27 (by kernel_rfl) (by omega) (by omega) (by first | exact idx0 _ | exact Nat.zero_add _)) ?_
      refine JL.ev _ rfl rfl (Ev.loadA rfl Try.underlying5 rfl (by repeat (first | exact At.here | apply At.there)) (by omega)) ?_
      refine JL.ev _ rfl rfl (Ev.lss (a := ((byteAt l k).toNat : Int)) (b := ((byteAt m k).toNat : Int)) rfl rfl rfl) ?_
      refine JL.ev _ rfl rfl (Ev.assign rfl) ?_
      refine JL.nil ?_
      refine JE.next ?_
      refine J.ret ?_
      refine JE.blockRet ?_
      refine JE.thenRet ?_
      refine JE.thenRet ?_
      refine JE.blockRet ?_
      refine JE.thenRet ?_
      exact JE.ret1 _ rfl rfl fun w' s => ⟨rfl, s.below⟩
    · try replace ht16 := of_decide_eq_false ht16
      refine J.skip ?_
      refine JE.blockNormal ?_
      refine JE.next ?_
      refine J.region ?_
      refine JL.ev _ rfl rfl (Ev.add rfl rfl (i64_in (by omega) (by omega))) ?_
      refine JL.ev _ rfl rfl (Ev.move rfl) ?_
      refine JL.nil ?_
      exact JE.back (k + 1) ⟨by omega, fun i hi => by
        by_cases h : i < k
        · exact hsame i h
        · obtain rfl : i = k := by omega
          exact UInt8.toNat_inj.1 (by omega)⟩ (by omega) ⟨rfl, rfl, rfl, rfl, trivial⟩ (fun w s => s)
  · try replace ht9 := of_decide_eq_false ht9
    obtain rfl : k = 32 := by omega
    rw [show l = m by rw [← bytes_of l 32 hl, ← bytes_of m 32 hm]; exact List.map_congr_left fun i hi => hsame i (List.mem_range.1 hi), bytesLess_self]
    refine J.exit ?_
    refine JE.thenExit ?_
    refine JE.thenExit ?_
    refine JE.blockHere ?_
    refine JE.next ?_
    refine J.seq ?_
    refine J.region ?_
    refine JL.ev _ rfl rfl (Ev.assign rfl) ?_
    refine JL.nil ?_
    refine JE.next ?_
    refine J.ret ?_
    exact JE.ret1 _ rfl rfl fun w' s => ⟨rfl, s.below⟩
end Go.Proofs.Ytimokikpnngikaa
