/- The walk of digested03. -/
import Derived.Test.YtimokikpnngikaaW6
import Derived.Test.YtimokikpnngikaaW10
import Derived.Test.YtimokikpnngikaaW3
import Derived.Test.YtimokikpnngikaaFu
namespace Go.Proofs.Ytimokikpnngikaa
open Go Go.RowKit Go.Proofs Go.Fw Go.Dig
theorem parse_ok (s : List UInt8) (ok : Bool) (h : parsed s = ok) (w : World) : Calls Try.prog 16 #[S s] w (Pure1 w (.tuple #[.agg (arr 32 fun i => B8 (bif ok then wantB s 64 i else 0)), .int .i64 (bif ok then 0 else 130)])) := by
  have := parse_calls s w
  rw [h] at this
  cases ok <;> exact this
set_option maxHeartbeats 1000000 in
theorem digested03_calls (v : Value) (bs : List UInt8) (H : Nat → BitVec 32) (lb s lx ly : List UInt8) (hl : bs.length ≤ 100000000) (hlb : lb.length = 64) (hs : s.length ≤ 1000000) (hlx : lx.length = 32) (hly : ly.length = 32) (w : World) (hrd : rdOk v (bs.map B8) w) :
    Calls Try.prog 5 #[v, .agg (arr 8 fun i => U (H i)), .agg (arr 64 fun i => B8 (byteAt lb i)), S s, .agg (arr 32 fun i => B8 (byteAt lx i)), .agg (arr 32 fun i => B8 (byteAt ly i))] w (Pure1 w (.bool true)) := by
  have hhx : (hexL lx).length = 64 := by rw [hexL_len, hlx]
  have hsl : (sumL bs).length = 32 := out8_len _
  refine enter (args := [v, .agg (arr 8 fun i => U (H i)), .agg (arr 64 fun i => B8 (byteAt lb i)), S s, .agg (arr 32 fun i => B8 (byteAt lx i)), .agg (arr 32 fun i => B8 (byteAt ly i))]) 173 Try.func5 rfl rfl (by simp) ?_
  refine J.withRd hrd ?_
  refine J.seq ?_
  refine J.region ?_
  refine JL.eff (Eff.boxA rfl) rfl rfl (fun g7 _ => ?_)
  refine JL.eff (Eff.boxA rfl) rfl rfl (fun g8 _ => ?_)
  refine JL.eff (Eff.boxA rfl) rfl rfl (fun g10 _ => ?_)
  refine JL.eff (Eff.boxA rfl) rfl rfl (fun g11 _ => ?_)
  refine JL.ev _ rfl rfl (Ev.assign rfl) ?_
  refine JL.nil ?_
  refine JE.next ?_
  refine J.seq ?_
  refine J.region ?_
  refine JL.eff (Eff.callP rfl (enters Try.func6 (by kernel_rfl) rfl) (tables_calls)) rfl rfl (fun _ _ => ?_)
  refine JL.ev _ rfl rfl (Ev.move rfl) ?_
  refine JL.ev _ rfl rfl (Ev.extract rfl rfl) ?_
  refine JL.ev _ rfl rfl (Ev.extract rfl rfl) ?_
  refine JL.eff (Eff.allocA 64 (fun _ => U 0) (by kernel_rfl)) rfl rfl (fun g13 _ => ?_)
  refine JL.eff (Eff.allocA 8 (fun _ => U 0) (by kernel_rfl)) rfl rfl (fun g14 _ => ?_)
  refine JL.eff0 (Eff.storeAll rfl rfl (by kernel_rfl) (fun _ => rfl) (by repeat (first | exact At.here | apply At.there))) rfl rfl (fun _ _ => ?_)
  refine JL.eff0 (Eff.storeAll rfl rfl (by kernel_rfl) (fun _ => rfl) (by repeat (first | exact At.here | apply At.there))) rfl rfl (fun _ _ => ?_)
  refine JL.nil ?_
  refine JE.next ?_
  refine J.seq ?_
  refine J.seq ?_
  refine J.draw [(1, true), (0, false), (2, true), (3, true), (5, true), (4, false), (6, true), (7, true), (8, true), (9, true), (10, true), (12, true), (13, true), (14, true), (15, true), (11, false), (16, false), (17, true), (18, true)] [] (by kernel_rfl) (by kernel_rfl) ?_
  refine JD.ev _ rfl rfl rfl (Ev.loadAll rfl Try.underlying30 rfl (by repeat (first | exact At.here | apply At.there)) (by kernel_rfl)) ?_
  refine JD.eff (fun _ => _) rfl (Eff.callP rfl (enters Try.func10 (by kernel_rfl) rfl) (constants_calls)) rfl rfl (fun _ _ _ s => s) (fun _ _ s => s) (fun _ _ => ?_)
  refine JD.ev _ rfl rfl rfl (Ev.neqA (c := false) (k := .u32) (f := fun i => ((kT i).toNat : Int)) (g := fun i => ((kT i).toNat : Int)) rfl rfl Try.underlying30 Try.underlying23 (by kernel_rfl) (by kernel_rfl) (fun _ => rfl) (fun _ => rfl) (by simp [sameTo_self])) ?_
  refine JD.ev _ rfl rfl rfl (Ev.move rfl) ?_
  refine JD.ev _ rfl rfl rfl (Ev.loadAll rfl Try.underlying24 rfl (by repeat (first | exact At.here | apply At.there)) (by kernel_rfl)) ?_
  refine JD.eff (fun _ => _) rfl (Eff.callP rfl (enters Try.func11 (by kernel_rfl) rfl) (start_calls)) rfl rfl (fun _ _ _ s => s) (fun _ _ s => s) (fun _ _ => ?_)
  refine JD.ev _ rfl rfl rfl (Ev.neqA (c := false) (k := .u32) (f := fun i => ((hT i).toNat : Int)) (g := fun i => ((hT i).toNat : Int)) rfl rfl Try.underlying24 Try.underlying23 (by kernel_rfl) (by kernel_rfl) (fun _ => rfl) (fun _ => rfl) (by simp [sameTo_self])) ?_
  refine JD.ev _ rfl rfl rfl (Ev.pickF rfl rfl) ?_
  refine JD.ev _ rfl rfl rfl (Ev.move rfl) ?_
  refine JD.ev _ rfl rfl rfl (Ev.loadAll rfl Try.underlying24 rfl (by repeat (first | exact At.here | apply At.there)) (by kernel_rfl)) ?_
  refine JD.ev _ rfl rfl rfl (Ev.loadAll rfl Try.underlying25 rfl (by repeat (first | exact At.here | apply At.there)) (by kernel_rfl)) ?_
  refine JD.ev _ rfl rfl rfl (Ev.loadAll rfl Try.underlying30 rfl (by repeat (first | exact At.here | apply At.there)) (by kernel_rfl)) ?_
  refine JD.ev _ rfl rfl rfl (Ev.loadAll rfl Try.underlying24 rfl (by repeat (first | exact At.here | apply At.there)) (by kernel_rfl)) ?_
  refine JD.ev _ rfl rfl rfl (Ev.sliceArr rfl Try.underlying25 (by kernel_rfl)) ?_
  refine JD.ev _ rfl rfl rfl (Ev.strR (a := lb) rfl Try.underlying22 Try.underlying5 Try.underlying9 (fun w s => rdOk_cells s (by repeat (first | exact At.here | apply At.there)) (by rw [List.length_map, hlb]) (bytes_arr _ _ hlb))) ?_
  refine JD.eff (fun _ => _) rfl (Eff.callP rfl (enters Try.func12 (by kernel_rfl) rfl) (block_calls H lb)) rfl rfl (fun _ _ _ s => s) (fun _ _ s => s) (fun _ _ => ?_)
  refine JD.eff (fun _ => _) rfl (Eff.callP rfl (enters Try.func13 (by kernel_rfl) rfl) (block03_calls kT H lb (by omega))) rfl rfl (fun _ _ _ s => s) (fun _ _ s => s) (fun _ _ => ?_)
  refine JD.ev _ rfl rfl rfl (Ev.neqA (c := false) (k := .u32) (f := fun i => ((blk kT H lb i).toNat : Int)) (g := fun i => ((blk kT H lb i).toNat : Int)) rfl rfl Try.underlying24 Try.underlying23 (by kernel_rfl) (by kernel_rfl) (fun _ => rfl) (fun _ => rfl) (by simp [sameTo_self])) ?_
  refine JD.ev _ rfl rfl rfl (Ev.pickF rfl rfl) ?_
  refine JD.tail ?_
  refine JT.nil (JE.np ?_)
  refine JE.next ?_
  refine J.condF rfl (rfl) ?_
  refine J.skip ?_
  refine JE.next ?_
  refine J.seq ?_
  refine J.region ?_
  refine JL.ev _ rfl rfl (Ev.move rfl) ?_
  refine JL.eff (Eff.callW rfl (enters Try.func14 (by kernel_rfl) rfl) fun w s => sum_calls v bs hl w (rdE_ok s (by repeat (first | exact At.here | apply At.there)))) rfl rfl (fun _ _ => ?_)
  refine JL.eff (Eff.allocA 32 (fun _ => B8 0) (by kernel_rfl)) rfl rfl (fun g15 _ => ?_)
  refine JL.eff0 (Eff.storeAll rfl rfl (by kernel_rfl) (fun _ => rfl) (by repeat (first | exact At.here | apply At.there))) rfl rfl (fun _ _ => ?_)
  refine JL.nil ?_
  refine JE.next ?_
  refine J.seq ?_
  refine J.seq ?_
  refine J.draw [(0, true), (1, true), (2, true), (3, true), (4, true), (5, true), (6, false), (7, true), (8, true), (9, true), (12, true), (13, true), (10, false), (11, true), (14, false), (15, true), (16, true)] [] (by kernel_rfl) (by kernel_rfl) ?_
  refine JD.ev _ rfl rfl rfl (Ev.sliceArr rfl Try.underlying27 (by kernel_rfl)) ?_
  refine JD.ev _ rfl rfl rfl (Ev.strR (a := sumL bs) rfl Try.underlying22 Try.underlying5 Try.underlying9 (fun w s => rdOk_cells s (by repeat (first | exact At.here | apply At.there)) (by rw [List.length_map, hsl]) (bytes_arr _ _ hsl))) ?_
  refine JD.ev _ rfl rfl rfl (Ev.loadAll rfl Try.underlying30 rfl (by repeat (first | exact At.here | apply At.there)) (by kernel_rfl)) ?_
  refine JD.ev _ rfl rfl rfl (Ev.loadAll rfl Try.underlying24 rfl (by repeat (first | exact At.here | apply At.there)) (by kernel_rfl)) ?_
  refine JD.ev _ rfl rfl rfl (Ev.move rfl) ?_
  refine JD.ev _ rfl rfl rfl (Ev.strR (a := bs) rfl Try.underlying22 Try.underlying5 Try.underlying9 (fun w s => rdE_ok s (by repeat (first | exact At.here | apply At.there)))) ?_
  refine JD.eff (fun _ => _) rfl (Eff.callP rfl (enters Try.func8 (by kernel_rfl) rfl) (digest03_calls kT hT bs (by omega))) rfl rfl (fun _ _ _ s => s) (fun _ _ s => s) (fun _ _ => ?_)
  refine JD.ev _ rfl rfl rfl (Ev.neqS (a := sumL bs) (b := sumL bs) (c := false) rfl rfl (by simp)) ?_
  refine JD.ev _ rfl rfl rfl (Ev.move rfl) ?_
  refine JD.ev _ rfl rfl rfl (Ev.move rfl) ?_
  refine JD.ev _ rfl rfl rfl (Ev.move rfl) ?_
  refine JD.ev _ rfl rfl rfl (Ev.strR (a := bs) rfl Try.underlying22 Try.underlying5 Try.underlying9 (fun w s => rdE_ok s (by repeat (first | exact At.here | apply At.there)))) ?_
  refine JD.eff (fun v => rdE v ((padL bs).map B8) true :: _) rfl (Eff.callRd rfl (enters Try.func15 (by kernel_rfl) rfl) fun w s => pad_calls v bs hl w (rdE_ok s (by repeat (first | exact At.here | apply At.there)))) rfl rfl (fun _ _ _ s => s) (fun _ _ s => s.sub (List.sublist_cons_self ..)) (fun vn _ => ?_)
  refine JD.ev _ rfl rfl rfl (Ev.strR (a := padL bs) rfl Try.underlying22 Try.underlying5 Try.underlying9 (fun w s => rdE_ok s (by repeat (first | exact At.here | apply At.there)))) ?_
  refine JD.eff (fun _ => _) rfl (Eff.callP rfl (enters Try.func9 (by kernel_rfl) rfl) (filled_calls bs (by omega))) rfl rfl (fun _ _ _ s => s) (fun _ _ s => s) (fun _ _ => ?_)
  refine JD.ev _ rfl rfl rfl (Ev.neqS (a := padL bs) (b := padL bs) (c := false) rfl rfl (by simp)) ?_
  refine JD.ev _ rfl rfl rfl (Ev.pickF rfl rfl) ?_
  refine JD.tail ?_
  refine JT.nil (JE.np ?_)
  refine JE.next ?_
  refine J.condF rfl (rfl) ?_
  refine J.skip ?_
  refine JE.next ?_
  refine J.seq ?_
  refine J.seq ?_
  refine J.region ?_
  refine JL.ev _ rfl rfl (Ev.move rfl) ?_
  refine JL.ev _ rfl rfl (Ev.sliceArr rfl Try.underlying27 (by kernel_rfl)) ?_
  refine JL.ev _ rfl rfl (Ev.strR (a := lx) rfl Try.underlying22 Try.underlying5 Try.underlying9 (fun w s => rdOk_cells s (by repeat (first | exact At.here | apply At.there)) (by rw [List.length_map, hlx]) (bytes_arr _ _ hlx))) ?_
  refine JL.eff (Eff.callP rfl (enters Try.func7 (by kernel_rfl) rfl) (hex_calls lx (by omega))) rfl rfl (fun _ _ => ?_)
  refine JL.eff (Eff.litV (e := 9) (z := S []) (xs := [S s, S (hexL lx)]) Try.underlying41 (by kernel_rfl) rfl (by decide) rfl (fun u => by kernel_rfl) (by decide)) rfl rfl (fun gl _ => ?_)
  refine JL.ev _ rfl rfl (Ev.lenL rfl Try.underlying41) ?_
  refine JL.ev _ rfl rfl (Ev.move rfl) ?_
  refine JL.nil ?_
  refine JE.next ?_
  refine J.block ?_
  refine J.loop (σ := Nat) (fun k => k ≤ 2) (fun k => [(10, .pointer (some ⟨g10, 0, none⟩)), (11, .pointer (some ⟨g11, 0, none⟩)), (71, .slice (some ⟨gl, 0, none⟩) 2 2), (72, .int .i64 2), (73, .int .i64 k)]) (fun _ => [rowE (.slice (some ⟨gl, 0, none⟩) 2 2) 9 [S s, S (hexL lx)], cells g11 (arr 32 (fun i => B8 (byteAt ly i))) 27, cells g10 (arr 32 (fun i => B8 (byteAt lx i))) 27]) (fun k => 2 - k) 0 (Nat.zero_le _) ⟨rfl, rfl, rfl, rfl, rfl, trivial⟩ (fun w s => s.sub (by repeat (first | exact List.Sublist.refl _ | exact List.nil_sublist _ | apply List.Sublist.cons_cons | apply List.Sublist.cons))) ?_
  intro k hk
  refine J.seq ?_
  refine J.region ?_
  refine JL.ev _ rfl rfl (Ev.lss rfl rfl rfl) ?_
  refine JL.nil ?_
  refine JE.next ?_
  refine J.seq ?_
  refine J.cond _ rfl (fun ht74 => ?_) (fun ht74 => ?_)
  · try replace ht74 := of_decide_eq_true ht74
    obtain ⟨one, hone, hol⟩ : ∃ one, ([S s, S (hexL lx)] : List Value)[k]? = some (S one) ∧ one.length ≤ 1000000 := by
      match k, ht74 with
      | 0, _ => exact ⟨s, rfl, hs⟩
      | 1, _ => exact ⟨hexL lx, rfl, by omega⟩
      | k + 2, h => omega
    refine J.skip ?_
    refine JE.next ?_
    refine J.seq ?_
    refine J.block ?_
    refine J.seq ?_
    refine J.region ?_
    refine JL.ev _ rfl rfl (Ev.indexAddrV (e := 9) (xs := [S s, S (hexL lx)]) rfl rfl (by repeat (first | exact At.here | apply At.there)) Try.underlying41 (by kernel_rfl) (by omega) (by show (k : Int) < 2; omega) (idxN _)) ?_
    refine JL.ev _ rfl rfl (Ev.loadV (e := 9) (xs := [S s, S (hexL lx)]) rfl Try.underlying9 rfl (by repeat (first | exact At.here | apply At.there)) hone) ?_
    refine JL.ev _ rfl rfl (Ev.assign rfl) ?_
    refine JL.nil ?_
    refine JE.next ?_
    refine J.seq ?_
    refine J.region ?_
    refine JL.eff (Eff.allocA 32 (fun _ => B8 0) (by kernel_rfl)) rfl rfl (fun g18 _ => ?_)
    refine JL.nil ?_
    refine JE.next ?_
    refine J.seq ?_
    refine J.region ?_
    refine JL.ev _ rfl rfl (Ev.move rfl) ?_
    refine JL.ev _ rfl rfl (Ev.lenS rfl Try.underlying9) ?_
    refine JL.ev _ rfl rfl (Ev.eqI rfl rfl rfl) ?_
    refine JL.ev _ rfl rfl (Ev.assign rfl) ?_
    refine JL.nil ?_
    refine JE.next ?_
    refine J.seq ?_
    refine J.seq ?_
    refine J.region ?_
    refine JL.ev _ rfl rfl (Ev.assign rfl) ?_
    refine JL.nil ?_
    refine JE.next ?_
    refine J.block ?_
    refine J.loop (σ := Nat × Bool × (Nat → UInt8)) (fun p => p.1 ≤ one.length ∧ (p.2.1 = true → one.length = 64 ∧ (∀ i, i < p.1 → hexOk (byteAt one i) = true) ∧ p.2.2 = wantB one p.1) ∧ (p.2.1 = false → parsed one = false)) (fun p => [(10, .pointer (some ⟨g10, 0, none⟩)), (11, .pointer (some ⟨g11, 0, none⟩)), (71, .slice (some ⟨gl, 0, none⟩) 2 2), (72, .int .i64 2), (73, .int .i64 k), (17, S one), (18, .pointer (some ⟨g18, 0, none⟩)), (19, .bool p.2.1), (20, .int .i64 p.1)]) (fun p => [cells g18 (arr 32 (fun i => B8 (p.2.2 i))) 27, rowE (.slice (some ⟨gl, 0, none⟩) 2 2) 9 [S s, S (hexL lx)], cells g11 (arr 32 (fun i => B8 (byteAt ly i))) 27, cells g10 (arr 32 (fun i => B8 (byteAt lx i))) 27]) (fun p => one.length - p.1) (0, decide ((one.length : Int) = 64), fun _ => 0) ⟨Nat.zero_le _, fun h => ⟨by have := of_decide_eq_true h; omega, fun i hi => absurd hi (Nat.not_lt_zero _), by funext i; unfold wantB; rw [if_neg (Nat.not_lt_zero _), if_neg (Nat.not_lt_zero _)]⟩, fun h => parsed_len (by have := of_decide_eq_false h; omega)⟩ ⟨rfl, rfl, rfl, rfl, rfl, rfl, rfl, rfl, rfl, trivial⟩ (fun w s => s) ?_
    rintro ⟨j, ok, F⟩ ⟨hj, hok, hno⟩
    dsimp only at hj hok hno ⊢
    refine J.seq ?_
    refine J.seq ?_
    refine J.region ?_
    refine JL.ev _ rfl rfl (Ev.move rfl) ?_
    refine JL.ev _ rfl rfl (Ev.move rfl) ?_
    refine JL.ev _ rfl rfl (Ev.lenS rfl Try.underlying9) ?_
    refine JL.ev _ rfl rfl (Ev.lss rfl rfl rfl) ?_
    refine JL.ev _ rfl rfl (Ev.move rfl) ?_
    cases hjl : decide ((j : Int) < (one.length : Int))
    · refine JL.off rfl rfl ?_
      refine JL.ev _ rfl rfl (Ev.pickF rfl rfl) ?_
      refine JL.nil ?_
      have hpar : parsed one = ok ∧ (ok = true → (fun i => B8 (F i)) = fun i => B8 (wantB one 64 i)) := by
        cases ok
        · exact ⟨hno rfl, fun h => absurd h (by decide)⟩
        · first
          | exact absurd ht86 (by decide)
          | (obtain ⟨h64, hall, hF⟩ := hok rfl
             have hj64 : j = 64 := by
               have q := of_decide_eq_false hjl
               omega
             subst hj64
             exact ⟨parsed_all h64 (fun i hi => hall i hi), fun _ => by rw [hF]⟩)
      refine JE.next ?_
      refine J.condF rfl (rfl) ?_
      refine J.exit ?_
      refine JE.thenExit ?_
      refine JE.thenExit ?_
      refine JE.blockHere ?_
      refine JE.next ?_
      refine J.seq ?_
      refine J.region ?_
      refine JL.ev _ rfl rfl (Ev.move rfl) ?_
      refine JL.eff (Eff.callP rfl (enters Try.func16 (by kernel_rfl) rfl) (parse_ok one ok hpar.1)) rfl rfl (fun _ _ => ?_)
      refine JL.ev _ rfl rfl (Ev.move rfl) ?_
      refine JL.ev _ rfl rfl (Ev.extract rfl rfl) ?_
      refine JL.ev _ rfl rfl (Ev.extract rfl rfl) ?_
      refine JL.eff (Eff.allocA 32 (fun _ => B8 0) (by kernel_rfl)) rfl rfl (fun g23 _ => ?_)
      refine JL.eff0 (Eff.storeAll rfl rfl (by kernel_rfl) (fun _ => rfl) (by repeat (first | exact At.here | apply At.there))) rfl rfl (fun _ _ => ?_)
      refine JL.ev _ rfl rfl (Ev.assign rfl) ?_
      refine JL.nil ?_
      refine JE.next ?_
      refine J.seq ?_
      refine J.region ?_
      refine JL.ev _ rfl rfl (Ev.move rfl) ?_
      cases ok
      · refine JL.ev _ rfl rfl (Ev.move rfl) ?_
        refine JL.off rfl rfl ?_
        refine JL.off rfl rfl ?_
        refine JL.off rfl rfl ?_
        refine JL.off rfl rfl ?_
        refine JL.off rfl rfl ?_
        refine JL.off rfl rfl ?_
        refine JL.off rfl rfl ?_
        refine JL.ev _ rfl rfl (Ev.pickF rfl rfl) ?_
        refine JL.ev _ rfl rfl (Ev.move rfl) ?_
        refine JL.ev _ rfl rfl (Ev.move rfl) ?_
        refine JL.ev _ rfl rfl (Ev.not (c := true) rfl rfl) ?_
        refine JL.ev _ rfl rfl (Ev.move rfl) ?_
        refine JL.ev _ rfl rfl (Ev.move rfl) ?_
        refine JL.ev _ rfl rfl (Ev.neI (a := 130) (b := 130) (c := false) rfl rfl rfl) ?_
        refine JL.ev _ rfl rfl (Ev.move rfl) ?_
        refine JL.ev _ rfl rfl (Ev.loadAll rfl Try.underlying27 rfl (by repeat (first | exact At.here | apply At.there)) (by kernel_rfl)) ?_
        refine JL.ev _ rfl rfl (Ev.closed (v := .agg (arr 32 fun _ => B8 0)) (fun u w => by kernel_rfl)) ?_
        refine JL.ev _ rfl rfl (Ev.neqA (c := false) (k := .u8) (f := fun _ => 0) (g := fun _ => 0) rfl rfl Try.underlying27 Try.underlying5 (by kernel_rfl) (by kernel_rfl) (fun _ => rfl) (fun _ => rfl) (by simp [sameTo_self])) ?_
        refine JL.ev _ rfl rfl (Ev.pickF rfl rfl) ?_
        refine JL.ev _ rfl rfl (Ev.pickT rfl rfl) ?_
        refine JL.ev _ rfl rfl (Ev.pickF rfl rfl) ?_
        refine JL.nil ?_
        refine JE.next ?_
        refine J.condF rfl (rfl) ?_
        refine J.skip ?_
        refine JE.blockNormal ?_
        refine JE.next ?_
        refine J.region ?_
        refine JL.ev _ rfl rfl (Ev.add rfl rfl (i64_in (by omega) (by omega))) ?_
        refine JL.ev _ rfl rfl (Ev.move rfl) ?_
        refine JL.nil ?_
        exact JE.back (k + 1) (by omega) (by omega) ⟨rfl, rfl, rfl, rfl, rfl, trivial⟩ (fun w s' => s'.sub (by repeat (first | exact List.Sublist.refl _ | exact List.nil_sublist _ | apply List.Sublist.cons_cons | apply List.Sublist.cons)))
      · refine JL.ev _ rfl rfl (Ev.move rfl) ?_
        refine JL.ev _ rfl rfl (Ev.move rfl) ?_
        refine JL.ev _ rfl rfl (Ev.neI (a := 0) (b := 0) (c := false) rfl rfl rfl) ?_
        refine JL.ev _ rfl rfl (Ev.move rfl) ?_
        refine JL.ev _ rfl rfl (Ev.loadAll rfl Try.underlying27 rfl (by repeat (first | exact At.here | apply At.there)) (by kernel_rfl)) ?_
        refine JL.ev _ rfl rfl (Ev.loadAll rfl Try.underlying27 rfl (by repeat (first | exact At.here | apply At.there)) (by kernel_rfl)) ?_
        refine JL.ev _ rfl rfl (Ev.neqA (c := false) (k := .u8) (f := fun i => ((wantB one 64 i).toNat : Int)) (g := fun i => ((wantB one 64 i).toNat : Int)) rfl rfl Try.underlying27 Try.underlying5 (by kernel_rfl) (by kernel_rfl) (fun _ => rfl) (fun i => congrFun (hpar.2 rfl) i) (by simp [sameTo_self])) ?_
        refine JL.ev _ rfl rfl (Ev.pickF rfl rfl) ?_
        refine JL.ev _ rfl rfl (Ev.pickT rfl rfl) ?_
        refine JL.ev _ rfl rfl (Ev.move rfl) ?_
        refine JL.ev _ rfl rfl (Ev.move rfl) ?_
        refine JL.ev _ rfl rfl (Ev.not (c := false) rfl rfl) ?_
        refine JL.ev _ rfl rfl (Ev.move rfl) ?_
        refine JL.off rfl rfl ?_
        refine JL.off rfl rfl ?_
        refine JL.off rfl rfl ?_
        refine JL.off rfl rfl ?_
        refine JL.off rfl rfl ?_
        refine JL.off rfl rfl ?_
        refine JL.off rfl rfl ?_
        refine JL.ev _ rfl rfl (Ev.pickF rfl rfl) ?_
        refine JL.ev _ rfl rfl (Ev.pickF rfl rfl) ?_
        refine JL.nil ?_
        refine JE.next ?_
        refine J.condF rfl (rfl) ?_
        refine J.skip ?_
        refine JE.blockNormal ?_
        refine JE.next ?_
        refine J.region ?_
        refine JL.ev _ rfl rfl (Ev.add rfl rfl (i64_in (by omega) (by omega))) ?_
        refine JL.ev _ rfl rfl (Ev.move rfl) ?_
        refine JL.nil ?_
        exact JE.back (k + 1) (by omega) (by omega) ⟨rfl, rfl, rfl, rfl, rfl, trivial⟩ (fun w s' => s'.sub (by repeat (first | exact List.Sublist.refl _ | exact List.nil_sublist _ | apply List.Sublist.cons_cons | apply List.Sublist.cons)))
    · refine JL.ev _ rfl rfl (Ev.move rfl) ?_
      refine JL.ev _ rfl rfl (Ev.pickT rfl rfl) ?_
      refine JL.nil ?_
      refine JE.next ?_
      refine J.cond _ rfl (fun ht86 => ?_) (fun ht86 => ?_)
      · try replace ht86 := of_decide_eq_true ht86
        subst ht86
        have hj2 := of_decide_eq_true hjl
        obtain ⟨h64, hall, rfl⟩ := hok rfl
        have hbl := (byteAt one j).toNat_lt
        have hwl := (wantB one j (j / 2)).toNat_lt
        refine J.skip ?_
        refine JE.next ?_
        refine J.seq ?_
        refine J.block ?_
        refine J.seq ?_
        refine J.region ?_
        refine JL.ev _ rfl rfl (Ev.move rfl) ?_
        refine JL.ev _ rfl rfl (Ev.move rfl) ?_
        refine JL.ev _ rfl rfl (Ev.indexS rfl rfl Try.underlying9 (by omega) (z := byteAt one j) (by rw [idxN]; exact byteAt_get (by omega))) ?_
        refine JL.ev _ rfl rfl (Ev.assign rfl) ?_
        refine JL.nil ?_
        refine JE.next ?_
        refine J.seq ?_
        refine J.region ?_
        refine JL.ev (B8 0) rfl rfl (Ev.assign rfl) ?_
        refine JL.nil ?_
        refine JE.next ?_
        refine J.seq ?_
        refine J.block ?_
        refine J.seq ?_
        refine J.region ?_
        refine JL.ev _ rfl rfl (Ev.move rfl) ?_
        refine JL.ev _ rfl rfl (Ev.geq (a := ((byteAt one j).toNat : Int)) (b := 48) rfl rfl rfl) ?_
        refine JL.ev _ rfl rfl (Ev.move rfl) ?_
        cases hb48 : decide ((48 : Int) ≤ ((byteAt one j).toNat : Int))
        · refine JL.off rfl rfl ?_
          refine JL.off rfl rfl ?_
          refine JL.ev _ rfl rfl (Ev.pickF rfl rfl) ?_
          refine JL.ev _ rfl rfl (Ev.assign rfl) ?_
          refine JL.nil ?_
          refine JE.next ?_
          refine J.condF rfl (rfl) ?_
          refine J.seq ?_
          refine J.region ?_
          refine JL.ev _ rfl rfl (Ev.move rfl) ?_
          refine JL.ev _ rfl rfl (Ev.geq (a := ((byteAt one j).toNat : Int)) (b := 97) rfl rfl rfl) ?_
          refine JL.ev _ rfl rfl (Ev.move rfl) ?_
          cases hb97 : decide ((97 : Int) ≤ ((byteAt one j).toNat : Int))
          · refine JL.off rfl rfl ?_
            refine JL.off rfl rfl ?_
            refine JL.ev _ rfl rfl (Ev.pickF rfl rfl) ?_
            refine JL.ev _ rfl rfl (Ev.assign rfl) ?_
            refine JL.nil ?_
            have hz8 : (0 : UInt8).toNat = 0 := rfl
            obtain ⟨dd, hdd⟩ : ∃ dd : Nat, dd = 0 := ⟨_, rfl⟩
            have hno' : hexOk (byteAt one j) = false := hexOk_none (by rintro ⟨a, b⟩; first | omega | (have q := of_decide_eq_false hb48; omega)) (by rintro ⟨a, b⟩; first | omega | (have q := of_decide_eq_false hb97; omega))
            refine JE.next ?_
            refine J.condF rfl (rfl) ?_
            refine J.region ?_
            refine JL.ev _ rfl rfl (Ev.assign rfl) ?_
            refine JL.nil ?_
            refine JE.blockNormal ?_
            refine JE.next ?_
            refine J.region ?_
            refine JL.ev _ rfl rfl (Ev.move rfl) ?_
            refine JL.ev _ rfl rfl (Ev.quo rfl rfl (by omega) (quo_i64 (by omega) (by omega) (by omega))) ?_
            refine JL.ev _ rfl rfl (Ev.move rfl) ?_
            refine JL.ev _ rfl rfl (Ev.quo rfl rfl (by omega) (quo_i64 (by omega) (by omega) (by omega))) ?_
            refine JL.ev _ rfl rfl (Ev.indexAddrA rfl rfl Try.underlying27 (by kernel_rfl) (by omega) (by omega) (j := j / 2) (by omega)) ?_
            refine JL.ev _ rfl rfl (Ev.loadA rfl Try.underlying5 rfl (by repeat (first | exact At.here | apply At.there)) (by omega)) ?_
            refine JL.ev _ rfl rfl (Ev.mul (a := ((wantB one j (j / 2)).toNat : Int)) (b := 16) (r := (((wantB one j (j / 2)).toNat * 16 % 256 : Nat) : Int)) rfl rfl (by rw [u8_wrap]; omega)) ?_
            refine JL.ev _ rfl rfl (Ev.move rfl) ?_
            refine JL.ev _ rfl rfl (Ev.add (r := ((UInt8.ofNat ((wantB one j (j / 2)).toNat * 16 + dd)).toNat : Int)) rfl rfl (by rw [u8_wrap, UInt8.toNat_ofNat']; omega)) ?_
            refine JL.ev _ rfl rfl (Ev.indexAddrA rfl rfl Try.underlying27 (by kernel_rfl) (by omega) (by omega) (j := j / 2) (by omega)) ?_
            refine JL.eff0 (Eff.storeA rfl rfl rfl (by kernel_rfl) (by repeat (first | exact At.here | apply At.there)) (by omega)) rfl rfl (fun _ _ => ?_)
            refine JL.nil ?_
            refine JE.blockNormal ?_
            refine JE.next ?_
            refine J.region ?_
            refine JL.ev _ rfl rfl (Ev.move rfl) ?_
            refine JL.ev _ rfl rfl (Ev.add rfl rfl (i64_in (by omega) (by omega))) ?_
            refine JL.ev _ rfl rfl (Ev.assign rfl) ?_
            refine JL.nil ?_
            first
            | exact JE.back (j + 1, true, wantB one (j + 1)) ⟨by dsimp only; omega, fun _ => ⟨h64, fun i hi => by
                rcases Nat.lt_or_ge i j with h | h
                · exact hall i h
                · obtain rfl : i = j := by (have hi' : i < j + 1 := hi); omega
                  exact hok', rfl⟩, (by intro h; dsimp only at h; cases h)⟩ (by dsimp only; omega) ⟨rfl, rfl, rfl, rfl, rfl, rfl, rfl, rfl, rfl, trivial⟩ (fun w s' => by
                dsimp only
                rw [← wantB_step one j hall, ← hdd]
                exact s')
            | exact JE.back (j + 1, false, upd (wantB one j) (j / 2) (UInt8.ofNat ((wantB one j (j / 2)).toNat * 16 + dd))) ⟨by dsimp only; omega, (by intro h; dsimp only at h; cases h), fun _ => parsed_at (k := j) (by omega) hno'⟩ (by dsimp only; omega) ⟨rfl, rfl, rfl, rfl, rfl, rfl, rfl, rfl, rfl, trivial⟩ (fun w s' => by
                dsimp only
                rw [← B8_upd]
                exact s')
          · refine JL.ev _ rfl rfl (Ev.move rfl) ?_
            refine JL.ev _ rfl rfl (Ev.leq (a := ((byteAt one j).toNat : Int)) (b := 102) rfl rfl rfl) ?_
            refine JL.ev _ rfl rfl (Ev.pickT rfl rfl) ?_
            refine JL.ev _ rfl rfl (Ev.assign rfl) ?_
            refine JL.nil ?_
            refine JE.next ?_
            refine J.cond _ rfl (fun ht101 => ?_) (fun ht101 => ?_)
            · try replace ht101 := of_decide_eq_true ht101
              have h97 := of_decide_eq_true hb97
              obtain ⟨hok', hhv, hh16⟩ := hexOk_letter (c := byteAt one j) (by omega) (by omega)
              obtain ⟨dd, hdd⟩ : ∃ dd : Nat, dd = hv (byteAt one j) := ⟨_, rfl⟩
              refine J.region ?_
              refine JL.ev _ rfl rfl (Ev.move rfl) ?_
              refine JL.ev _ rfl rfl (Ev.sub (a := ((byteAt one j).toNat : Int)) (b := 97) rfl rfl (u8_in (by omega) (by omega))) ?_
              refine JL.ev _ rfl rfl (Ev.add rfl rfl (u8_in (by omega) (by omega))) ?_
              refine JL.ev _ rfl rfl (Ev.assign rfl) ?_
              refine JL.nil ?_
              refine JE.blockNormal ?_
              refine JE.next ?_
              refine J.region ?_
              refine JL.ev _ rfl rfl (Ev.move rfl) ?_
              refine JL.ev _ rfl rfl (Ev.quo rfl rfl (by omega) (quo_i64 (by omega) (by omega) (by omega))) ?_
              refine JL.ev _ rfl rfl (Ev.move rfl) ?_
              refine JL.ev _ rfl rfl (Ev.quo rfl rfl (by omega) (quo_i64 (by omega) (by omega) (by omega))) ?_
              refine JL.ev _ rfl rfl (Ev.indexAddrA rfl rfl Try.underlying27 (by kernel_rfl) (by omega) (by omega) (j := j / 2) (by omega)) ?_
              refine JL.ev _ rfl rfl (Ev.loadA rfl Try.underlying5 rfl (by repeat (first | exact At.here | apply At.there)) (by omega)) ?_
              refine JL.ev _ rfl rfl (Ev.mul (a := ((wantB one j (j / 2)).toNat : Int)) (b := 16) (r := (((wantB one j (j / 2)).toNat * 16 % 256 : Nat) : Int)) rfl rfl (by rw [u8_wrap]; omega)) ?_
              refine JL.ev _ rfl rfl (Ev.move rfl) ?_
              refine JL.ev _ rfl rfl (Ev.add (r := ((UInt8.ofNat ((wantB one j (j / 2)).toNat * 16 + dd)).toNat : Int)) rfl rfl (by rw [u8_wrap, UInt8.toNat_ofNat']; omega)) ?_
              refine JL.ev _ rfl rfl (Ev.indexAddrA rfl rfl Try.underlying27 (by kernel_rfl) (by omega) (by omega) (j := j / 2) (by omega)) ?_
              refine JL.eff0 (Eff.storeA rfl rfl rfl (by kernel_rfl) (by repeat (first | exact At.here | apply At.there)) (by omega)) rfl rfl (fun _ _ => ?_)
              refine JL.nil ?_
              refine JE.blockNormal ?_
              refine JE.next ?_
              refine J.region ?_
              refine JL.ev _ rfl rfl (Ev.move rfl) ?_
              refine JL.ev _ rfl rfl (Ev.add rfl rfl (i64_in (by omega) (by omega))) ?_
              refine JL.ev _ rfl rfl (Ev.assign rfl) ?_
              refine JL.nil ?_
              first
              | exact JE.back (j + 1, true, wantB one (j + 1)) ⟨by dsimp only; omega, fun _ => ⟨h64, fun i hi => by
                  rcases Nat.lt_or_ge i j with h | h
                  · exact hall i h
                  · obtain rfl : i = j := by (have hi' : i < j + 1 := hi); omega
                    exact hok', rfl⟩, (by intro h; dsimp only at h; cases h)⟩ (by dsimp only; omega) ⟨rfl, rfl, rfl, rfl, rfl, rfl, rfl, rfl, rfl, trivial⟩ (fun w s' => by
                  dsimp only
                  rw [← wantB_step one j hall, ← hdd]
                  exact s')
              | exact JE.back (j + 1, false, upd (wantB one j) (j / 2) (UInt8.ofNat ((wantB one j (j / 2)).toNat * 16 + dd))) ⟨by dsimp only; omega, (by intro h; dsimp only at h; cases h), fun _ => parsed_at (k := j) (by omega) hno'⟩ (by dsimp only; omega) ⟨rfl, rfl, rfl, rfl, rfl, rfl, rfl, rfl, rfl, trivial⟩ (fun w s' => by
                  dsimp only
                  rw [← B8_upd]
                  exact s')
            · try replace ht101 := of_decide_eq_false ht101
              have hz8 : (0 : UInt8).toNat = 0 := rfl
              obtain ⟨dd, hdd⟩ : ∃ dd : Nat, dd = 0 := ⟨_, rfl⟩
              have hno' : hexOk (byteAt one j) = false := hexOk_none (by rintro ⟨a, b⟩; first | omega | (have q := of_decide_eq_false hb48; omega)) (by rintro ⟨a, b⟩; first | omega | (have q := of_decide_eq_false hb97; omega))
              refine J.region ?_
              refine JL.ev _ rfl rfl (Ev.assign rfl) ?_
              refine JL.nil ?_
              refine JE.blockNormal ?_
              refine JE.next ?_
              refine J.region ?_
              refine JL.ev _ rfl rfl (Ev.move rfl) ?_
              refine JL.ev _ rfl rfl (Ev.quo rfl rfl (by omega) (quo_i64 (by omega) (by omega) (by omega))) ?_
              refine JL.ev _ rfl rfl (Ev.move rfl) ?_
              refine JL.ev _ rfl rfl (Ev.quo rfl rfl (by omega) (quo_i64 (by omega) (by omega) (by omega))) ?_
              refine JL.ev _ rfl rfl (Ev.indexAddrA rfl rfl Try.underlying27 (by kernel_rfl) (by omega) (by omega) (j := j / 2) (by omega)) ?_
              refine JL.ev _ rfl rfl (Ev.loadA rfl Try.underlying5 rfl (by repeat (first | exact At.here | apply At.there)) (by omega)) ?_
              refine JL.ev _ rfl rfl (Ev.mul (a := ((wantB one j (j / 2)).toNat : Int)) (b := 16) (r := (((wantB one j (j / 2)).toNat * 16 % 256 : Nat) : Int)) rfl rfl (by rw [u8_wrap]; omega)) ?_
              refine JL.ev _ rfl rfl (Ev.move rfl) ?_
              refine JL.ev _ rfl rfl (Ev.add (r := ((UInt8.ofNat ((wantB one j (j / 2)).toNat * 16 + dd)).toNat : Int)) rfl rfl (by rw [u8_wrap, UInt8.toNat_ofNat']; omega)) ?_
              refine JL.ev _ rfl rfl (Ev.indexAddrA rfl rfl Try.underlying27 (by kernel_rfl) (by omega) (by omega) (j := j / 2) (by omega)) ?_
              refine JL.eff0 (Eff.storeA rfl rfl rfl (by kernel_rfl) (by repeat (first | exact At.here | apply At.there)) (by omega)) rfl rfl (fun _ _ => ?_)
              refine JL.nil ?_
              refine JE.blockNormal ?_
              refine JE.next ?_
              refine J.region ?_
              refine JL.ev _ rfl rfl (Ev.move rfl) ?_
              refine JL.ev _ rfl rfl (Ev.add rfl rfl (i64_in (by omega) (by omega))) ?_
              refine JL.ev _ rfl rfl (Ev.assign rfl) ?_
              refine JL.nil ?_
              first
              | exact JE.back (j + 1, true, wantB one (j + 1)) ⟨by dsimp only; omega, fun _ => ⟨h64, fun i hi => by
                  rcases Nat.lt_or_ge i j with h | h
                  · exact hall i h
                  · obtain rfl : i = j := by (have hi' : i < j + 1 := hi); omega
                    exact hok', rfl⟩, (by intro h; dsimp only at h; cases h)⟩ (by dsimp only; omega) ⟨rfl, rfl, rfl, rfl, rfl, rfl, rfl, rfl, rfl, trivial⟩ (fun w s' => by
                  dsimp only
                  rw [← wantB_step one j hall, ← hdd]
                  exact s')
              | exact JE.back (j + 1, false, upd (wantB one j) (j / 2) (UInt8.ofNat ((wantB one j (j / 2)).toNat * 16 + dd))) ⟨by dsimp only; omega, (by intro h; dsimp only at h; cases h), fun _ => parsed_at (k := j) (by omega) hno'⟩ (by dsimp only; omega) ⟨rfl, rfl, rfl, rfl, rfl, rfl, rfl, rfl, rfl, trivial⟩ (fun w s' => by
                  dsimp only
                  rw [← B8_upd]
                  exact s')
        · refine JL.ev _ rfl rfl (Ev.move rfl) ?_
          refine JL.ev _ rfl rfl (Ev.leq (a := ((byteAt one j).toNat : Int)) (b := 57) rfl rfl rfl) ?_
          refine JL.ev _ rfl rfl (Ev.pickT rfl rfl) ?_
          refine JL.ev _ rfl rfl (Ev.assign rfl) ?_
          refine JL.nil ?_
          refine JE.next ?_
          refine J.cond _ rfl (fun ht92 => ?_) (fun ht92 => ?_)
          · try replace ht92 := of_decide_eq_true ht92
            have h48 := of_decide_eq_true hb48
            obtain ⟨hok', hhv, hh16⟩ := hexOk_digit (c := byteAt one j) (by omega) (by omega)
            obtain ⟨dd, hdd⟩ : ∃ dd : Nat, dd = hv (byteAt one j) := ⟨_, rfl⟩
            refine J.region ?_
            refine JL.ev _ rfl rfl (Ev.move rfl) ?_
            refine JL.ev _ rfl rfl (Ev.sub (a := ((byteAt one j).toNat : Int)) (b := 48) rfl rfl (u8_in (by omega) (by omega))) ?_
            refine JL.ev _ rfl rfl (Ev.assign rfl) ?_
            refine JL.nil ?_
            refine JE.blockNormal ?_
            refine JE.next ?_
            refine J.region ?_
            refine JL.ev _ rfl rfl (Ev.move rfl) ?_
            refine JL.ev _ rfl rfl (Ev.quo rfl rfl (by omega) (quo_i64 (by omega) (by omega) (by omega))) ?_
            refine JL.ev _ rfl rfl (Ev.move rfl) ?_
            refine JL.ev _ rfl rfl (Ev.quo rfl rfl (by omega) (quo_i64 (by omega) (by omega) (by omega))) ?_
            refine JL.ev _ rfl rfl (Ev.indexAddrA rfl rfl Try.underlying27 (by kernel_rfl) (by omega) (by omega) (j := j / 2) (by omega)) ?_
            refine JL.ev _ rfl rfl (Ev.loadA rfl Try.underlying5 rfl (by repeat (first | exact At.here | apply At.there)) (by omega)) ?_
            refine JL.ev _ rfl rfl (Ev.mul (a := ((wantB one j (j / 2)).toNat : Int)) (b := 16) (r := (((wantB one j (j / 2)).toNat * 16 % 256 : Nat) : Int)) rfl rfl (by rw [u8_wrap]; omega)) ?_
            refine JL.ev _ rfl rfl (Ev.move rfl) ?_
            refine JL.ev _ rfl rfl (Ev.add (r := ((UInt8.ofNat ((wantB one j (j / 2)).toNat * 16 + dd)).toNat : Int)) rfl rfl (by rw [u8_wrap, UInt8.toNat_ofNat']; omega)) ?_
            refine JL.ev _ rfl rfl (Ev.indexAddrA rfl rfl Try.underlying27 (by kernel_rfl) (by omega) (by omega) (j := j / 2) (by omega)) ?_
            refine JL.eff0 (Eff.storeA rfl rfl rfl (by kernel_rfl) (by repeat (first | exact At.here | apply At.there)) (by omega)) rfl rfl (fun _ _ => ?_)
            refine JL.nil ?_
            refine JE.blockNormal ?_
            refine JE.next ?_
            refine J.region ?_
            refine JL.ev _ rfl rfl (Ev.move rfl) ?_
            refine JL.ev _ rfl rfl (Ev.add rfl rfl (i64_in (by omega) (by omega))) ?_
            refine JL.ev _ rfl rfl (Ev.assign rfl) ?_
            refine JL.nil ?_
            first
            | exact JE.back (j + 1, true, wantB one (j + 1)) ⟨by dsimp only; omega, fun _ => ⟨h64, fun i hi => by
                rcases Nat.lt_or_ge i j with h | h
                · exact hall i h
                · obtain rfl : i = j := by (have hi' : i < j + 1 := hi); omega
                  exact hok', rfl⟩, (by intro h; dsimp only at h; cases h)⟩ (by dsimp only; omega) ⟨rfl, rfl, rfl, rfl, rfl, rfl, rfl, rfl, rfl, trivial⟩ (fun w s' => by
                dsimp only
                rw [← wantB_step one j hall, ← hdd]
                exact s')
            | exact JE.back (j + 1, false, upd (wantB one j) (j / 2) (UInt8.ofNat ((wantB one j (j / 2)).toNat * 16 + dd))) ⟨by dsimp only; omega, (by intro h; dsimp only at h; cases h), fun _ => parsed_at (k := j) (by omega) hno'⟩ (by dsimp only; omega) ⟨rfl, rfl, rfl, rfl, rfl, rfl, rfl, rfl, rfl, trivial⟩ (fun w s' => by
                dsimp only
                rw [← B8_upd]
                exact s')
          · try replace ht92 := of_decide_eq_false ht92
            refine J.seq ?_
            refine J.region ?_
            refine JL.ev _ rfl rfl (Ev.move rfl) ?_
            refine JL.ev _ rfl rfl (Ev.geq (a := ((byteAt one j).toNat : Int)) (b := 97) rfl rfl rfl) ?_
            refine JL.ev _ rfl rfl (Ev.move rfl) ?_
            cases hb97 : decide ((97 : Int) ≤ ((byteAt one j).toNat : Int))
            · refine JL.off rfl rfl ?_
              refine JL.off rfl rfl ?_
              refine JL.ev _ rfl rfl (Ev.pickF rfl rfl) ?_
              refine JL.ev _ rfl rfl (Ev.assign rfl) ?_
              refine JL.nil ?_
              have hz8 : (0 : UInt8).toNat = 0 := rfl
              obtain ⟨dd, hdd⟩ : ∃ dd : Nat, dd = 0 := ⟨_, rfl⟩
              have hno' : hexOk (byteAt one j) = false := hexOk_none (by rintro ⟨a, b⟩; first | omega | (have q := of_decide_eq_false hb48; omega)) (by rintro ⟨a, b⟩; first | omega | (have q := of_decide_eq_false hb97; omega))
              refine JE.next ?_
              refine J.condF rfl (rfl) ?_
              refine J.region ?_
              refine JL.ev _ rfl rfl (Ev.assign rfl) ?_
              refine JL.nil ?_
              refine JE.blockNormal ?_
              refine JE.next ?_
              refine J.region ?_
              refine JL.ev _ rfl rfl (Ev.move rfl) ?_
              refine JL.ev _ rfl rfl (Ev.quo rfl rfl (by omega) (quo_i64 (by omega) (by omega) (by omega))) ?_
              refine JL.ev _ rfl rfl (Ev.move rfl) ?_
              refine JL.ev _ rfl rfl (Ev.quo rfl rfl (by omega) (quo_i64 (by omega) (by omega) (by omega))) ?_
              refine JL.ev _ rfl rfl (Ev.indexAddrA rfl rfl Try.underlying27 (by kernel_rfl) (by omega) (by omega) (j := j / 2) (by omega)) ?_
              refine JL.ev _ rfl rfl (Ev.loadA rfl Try.underlying5 rfl (by repeat (first | exact At.here | apply At.there)) (by omega)) ?_
              refine JL.ev _ rfl rfl (Ev.mul (a := ((wantB one j (j / 2)).toNat : Int)) (b := 16) (r := (((wantB one j (j / 2)).toNat * 16 % 256 : Nat) : Int)) rfl rfl (by rw [u8_wrap]; omega)) ?_
              refine JL.ev _ rfl rfl (Ev.move rfl) ?_
              refine JL.ev _ rfl rfl (Ev.add (r := ((UInt8.ofNat ((wantB one j (j / 2)).toNat * 16 + dd)).toNat : Int)) rfl rfl (by rw [u8_wrap, UInt8.toNat_ofNat']; omega)) ?_
              refine JL.ev _ rfl rfl (Ev.indexAddrA rfl rfl Try.underlying27 (by kernel_rfl) (by omega) (by omega) (j := j / 2) (by omega)) ?_
              refine JL.eff0 (Eff.storeA rfl rfl rfl (by kernel_rfl) (by repeat (first | exact At.here | apply At.there)) (by omega)) rfl rfl (fun _ _ => ?_)
              refine JL.nil ?_
              refine JE.blockNormal ?_
              refine JE.next ?_
              refine J.region ?_
              refine JL.ev _ rfl rfl (Ev.move rfl) ?_
              refine JL.ev _ rfl rfl (Ev.add rfl rfl (i64_in (by omega) (by omega))) ?_
              refine JL.ev _ rfl rfl (Ev.assign rfl) ?_
              refine JL.nil ?_
              first
              | exact JE.back (j + 1, true, wantB one (j + 1)) ⟨by dsimp only; omega, fun _ => ⟨h64, fun i hi => by
                  rcases Nat.lt_or_ge i j with h | h
                  · exact hall i h
                  · obtain rfl : i = j := by (have hi' : i < j + 1 := hi); omega
                    exact hok', rfl⟩, (by intro h; dsimp only at h; cases h)⟩ (by dsimp only; omega) ⟨rfl, rfl, rfl, rfl, rfl, rfl, rfl, rfl, rfl, trivial⟩ (fun w s' => by
                  dsimp only
                  rw [← wantB_step one j hall, ← hdd]
                  exact s')
              | exact JE.back (j + 1, false, upd (wantB one j) (j / 2) (UInt8.ofNat ((wantB one j (j / 2)).toNat * 16 + dd))) ⟨by dsimp only; omega, (by intro h; dsimp only at h; cases h), fun _ => parsed_at (k := j) (by omega) hno'⟩ (by dsimp only; omega) ⟨rfl, rfl, rfl, rfl, rfl, rfl, rfl, rfl, rfl, trivial⟩ (fun w s' => by
                  dsimp only
                  rw [← B8_upd]
                  exact s')
            · refine JL.ev _ rfl rfl (Ev.move rfl) ?_
              refine JL.ev _ rfl rfl (Ev.leq (a := ((byteAt one j).toNat : Int)) (b := 102) rfl rfl rfl) ?_
              refine JL.ev _ rfl rfl (Ev.pickT rfl rfl) ?_
              refine JL.ev _ rfl rfl (Ev.assign rfl) ?_
              refine JL.nil ?_
              refine JE.next ?_
              refine J.cond _ rfl (fun ht101 => ?_) (fun ht101 => ?_)
              · try replace ht101 := of_decide_eq_true ht101
                have h97 := of_decide_eq_true hb97
                obtain ⟨hok', hhv, hh16⟩ := hexOk_letter (c := byteAt one j) (by omega) (by omega)
                obtain ⟨dd, hdd⟩ : ∃ dd : Nat, dd = hv (byteAt one j) := ⟨_, rfl⟩
                refine J.region ?_
                refine JL.ev _ rfl rfl (Ev.move rfl) ?_
                refine JL.ev _ rfl rfl (Ev.sub (a := ((byteAt one j).toNat : Int)) (b := 97) rfl rfl (u8_in (by omega) (by omega))) ?_
                refine JL.ev _ rfl rfl (Ev.add rfl rfl (u8_in (by omega) (by omega))) ?_
                refine JL.ev _ rfl rfl (Ev.assign rfl) ?_
                refine JL.nil ?_
                refine JE.blockNormal ?_
                refine JE.next ?_
                refine J.region ?_
                refine JL.ev _ rfl rfl (Ev.move rfl) ?_
                refine JL.ev _ rfl rfl (Ev.quo rfl rfl (by omega) (quo_i64 (by omega) (by omega) (by omega))) ?_
                refine JL.ev _ rfl rfl (Ev.move rfl) ?_
                refine JL.ev _ rfl rfl (Ev.quo rfl rfl (by omega) (quo_i64 (by omega) (by omega) (by omega))) ?_
                refine JL.ev _ rfl rfl (Ev.indexAddrA rfl rfl Try.underlying27 (by kernel_rfl) (by omega) (by omega) (j := j / 2) (by omega)) ?_
                refine JL.ev _ rfl rfl (Ev.loadA rfl Try.underlying5 rfl (by repeat (first | exact At.here | apply At.there)) (by omega)) ?_
                refine JL.ev _ rfl rfl (Ev.mul (a := ((wantB one j (j / 2)).toNat : Int)) (b := 16) (r := (((wantB one j (j / 2)).toNat * 16 % 256 : Nat) : Int)) rfl rfl (by rw [u8_wrap]; omega)) ?_
                refine JL.ev _ rfl rfl (Ev.move rfl) ?_
                refine JL.ev _ rfl rfl (Ev.add (r := ((UInt8.ofNat ((wantB one j (j / 2)).toNat * 16 + dd)).toNat : Int)) rfl rfl (by rw [u8_wrap, UInt8.toNat_ofNat']; omega)) ?_
                refine JL.ev _ rfl rfl (Ev.indexAddrA rfl rfl Try.underlying27 (by kernel_rfl) (by omega) (by omega) (j := j / 2) (by omega)) ?_
                refine JL.eff0 (Eff.storeA rfl rfl rfl (by kernel_rfl) (by repeat (first | exact At.here | apply At.there)) (by omega)) rfl rfl (fun _ _ => ?_)
                refine JL.nil ?_
                refine JE.blockNormal ?_
                refine JE.next ?_
                refine J.region ?_
                refine JL.ev _ rfl rfl (Ev.move rfl) ?_
                refine JL.ev _ rfl rfl (Ev.add rfl rfl (i64_in (by omega) (by omega))) ?_
                refine JL.ev _ rfl rfl (Ev.assign rfl) ?_
                refine JL.nil ?_
                first
                | exact JE.back (j + 1, true, wantB one (j + 1)) ⟨by dsimp only; omega, fun _ => ⟨h64, fun i hi => by
                    rcases Nat.lt_or_ge i j with h | h
                    · exact hall i h
                    · obtain rfl : i = j := by (have hi' : i < j + 1 := hi); omega
                      exact hok', rfl⟩, (by intro h; dsimp only at h; cases h)⟩ (by dsimp only; omega) ⟨rfl, rfl, rfl, rfl, rfl, rfl, rfl, rfl, rfl, trivial⟩ (fun w s' => by
                    dsimp only
                    rw [← wantB_step one j hall, ← hdd]
                    exact s')
                | exact JE.back (j + 1, false, upd (wantB one j) (j / 2) (UInt8.ofNat ((wantB one j (j / 2)).toNat * 16 + dd))) ⟨by dsimp only; omega, (by intro h; dsimp only at h; cases h), fun _ => parsed_at (k := j) (by omega) hno'⟩ (by dsimp only; omega) ⟨rfl, rfl, rfl, rfl, rfl, rfl, rfl, rfl, rfl, trivial⟩ (fun w s' => by
                    dsimp only
                    rw [← B8_upd]
                    exact s')
              · try replace ht101 := of_decide_eq_false ht101
                have hz8 : (0 : UInt8).toNat = 0 := rfl
                obtain ⟨dd, hdd⟩ : ∃ dd : Nat, dd = 0 := ⟨_, rfl⟩
                have hno' : hexOk (byteAt one j) = false := hexOk_none (by rintro ⟨a, b⟩; first | omega | (have q := of_decide_eq_false hb48; omega)) (by rintro ⟨a, b⟩; first | omega | (have q := of_decide_eq_false hb97; omega))
                refine J.region ?_
                refine JL.ev _ rfl rfl (Ev.assign rfl) ?_
                refine JL.nil ?_
                refine JE.blockNormal ?_
                refine JE.next ?_
                refine J.region ?_
                refine JL.ev _ rfl rfl (Ev.move rfl) ?_
                refine JL.ev _ rfl rfl (Ev.quo rfl rfl (by omega) (quo_i64 (by omega) (by omega) (by omega))) ?_
                refine JL.ev _ rfl rfl (Ev.move rfl) ?_
                refine JL.ev _ rfl rfl (Ev.quo rfl rfl (by omega) (quo_i64 (by omega) (by omega) (by omega))) ?_
                refine JL.ev _ rfl rfl (Ev.indexAddrA rfl rfl Try.underlying27 (by kernel_rfl) (by omega) (by omega) (j := j / 2) (by omega)) ?_
                refine JL.ev _ rfl rfl (Ev.loadA rfl Try.underlying5 rfl (by repeat (first | exact At.here | apply At.there)) (by omega)) ?_
                refine JL.ev _ rfl rfl (Ev.mul (a := ((wantB one j (j / 2)).toNat : Int)) (b := 16) (r := (((wantB one j (j / 2)).toNat * 16 % 256 : Nat) : Int)) rfl rfl (by rw [u8_wrap]; omega)) ?_
                refine JL.ev _ rfl rfl (Ev.move rfl) ?_
                refine JL.ev _ rfl rfl (Ev.add (r := ((UInt8.ofNat ((wantB one j (j / 2)).toNat * 16 + dd)).toNat : Int)) rfl rfl (by rw [u8_wrap, UInt8.toNat_ofNat']; omega)) ?_
                refine JL.ev _ rfl rfl (Ev.indexAddrA rfl rfl Try.underlying27 (by kernel_rfl) (by omega) (by omega) (j := j / 2) (by omega)) ?_
                refine JL.eff0 (Eff.storeA rfl rfl rfl (by kernel_rfl) (by repeat (first | exact At.here | apply At.there)) (by omega)) rfl rfl (fun _ _ => ?_)
                refine JL.nil ?_
                refine JE.blockNormal ?_
                refine JE.next ?_
                refine J.region ?_
                refine JL.ev _ rfl rfl (Ev.move rfl) ?_
                refine JL.ev _ rfl rfl (Ev.add rfl rfl (i64_in (by omega) (by omega))) ?_
                refine JL.ev _ rfl rfl (Ev.assign rfl) ?_
                refine JL.nil ?_
                first
                | exact JE.back (j + 1, true, wantB one (j + 1)) ⟨by dsimp only; omega, fun _ => ⟨h64, fun i hi => by
                    rcases Nat.lt_or_ge i j with h | h
                    · exact hall i h
                    · obtain rfl : i = j := by (have hi' : i < j + 1 := hi); omega
                      exact hok', rfl⟩, (by intro h; dsimp only at h; cases h)⟩ (by dsimp only; omega) ⟨rfl, rfl, rfl, rfl, rfl, rfl, rfl, rfl, rfl, trivial⟩ (fun w s' => by
                    dsimp only
                    rw [← wantB_step one j hall, ← hdd]
                    exact s')
                | exact JE.back (j + 1, false, upd (wantB one j) (j / 2) (UInt8.ofNat ((wantB one j (j / 2)).toNat * 16 + dd))) ⟨by dsimp only; omega, (by intro h; dsimp only at h; cases h), fun _ => parsed_at (k := j) (by omega) hno'⟩ (by dsimp only; omega) ⟨rfl, rfl, rfl, rfl, rfl, rfl, rfl, rfl, rfl, trivial⟩ (fun w s' => by
                    dsimp only
                    rw [← B8_upd]
                    exact s')
      · try replace ht86 := of_decide_eq_false ht86
        have hpar : parsed one = ok ∧ (ok = true → (fun i => B8 (F i)) = fun i => B8 (wantB one 64 i)) := by
          cases ok
          · exact ⟨hno rfl, fun h => absurd h (by decide)⟩
          · first
            | exact absurd ht86 (by decide)
            | (obtain ⟨h64, hall, hF⟩ := hok rfl
               have hj64 : j = 64 := by
                 have q := of_decide_eq_false hjl
                 omega
               subst hj64
               exact ⟨parsed_all h64 (fun i hi => hall i hi), fun _ => by rw [hF]⟩)
        refine J.exit ?_
        refine JE.thenExit ?_
        refine JE.thenExit ?_
        refine JE.blockHere ?_
        refine JE.next ?_
        refine J.seq ?_
        refine J.region ?_
        refine JL.ev _ rfl rfl (Ev.move rfl) ?_
        refine JL.eff (Eff.callP rfl (enters Try.func16 (by kernel_rfl) rfl) (parse_ok one ok hpar.1)) rfl rfl (fun _ _ => ?_)
        refine JL.ev _ rfl rfl (Ev.move rfl) ?_
        refine JL.ev _ rfl rfl (Ev.extract rfl rfl) ?_
        refine JL.ev _ rfl rfl (Ev.extract rfl rfl) ?_
        refine JL.eff (Eff.allocA 32 (fun _ => B8 0) (by kernel_rfl)) rfl rfl (fun g23 _ => ?_)
        refine JL.eff0 (Eff.storeAll rfl rfl (by kernel_rfl) (fun _ => rfl) (by repeat (first | exact At.here | apply At.there))) rfl rfl (fun _ _ => ?_)
        refine JL.ev _ rfl rfl (Ev.assign rfl) ?_
        refine JL.nil ?_
        refine JE.next ?_
        refine J.seq ?_
        refine J.region ?_
        refine JL.ev _ rfl rfl (Ev.move rfl) ?_
        cases ok
        · refine JL.ev _ rfl rfl (Ev.move rfl) ?_
          refine JL.off rfl rfl ?_
          refine JL.off rfl rfl ?_
          refine JL.off rfl rfl ?_
          refine JL.off rfl rfl ?_
          refine JL.off rfl rfl ?_
          refine JL.off rfl rfl ?_
          refine JL.off rfl rfl ?_
          refine JL.ev _ rfl rfl (Ev.pickF rfl rfl) ?_
          refine JL.ev _ rfl rfl (Ev.move rfl) ?_
          refine JL.ev _ rfl rfl (Ev.move rfl) ?_
          refine JL.ev _ rfl rfl (Ev.not (c := true) rfl rfl) ?_
          refine JL.ev _ rfl rfl (Ev.move rfl) ?_
          refine JL.ev _ rfl rfl (Ev.move rfl) ?_
          refine JL.ev _ rfl rfl (Ev.neI (a := 130) (b := 130) (c := false) rfl rfl rfl) ?_
          refine JL.ev _ rfl rfl (Ev.move rfl) ?_
          refine JL.ev _ rfl rfl (Ev.loadAll rfl Try.underlying27 rfl (by repeat (first | exact At.here | apply At.there)) (by kernel_rfl)) ?_
          refine JL.ev _ rfl rfl (Ev.closed (v := .agg (arr 32 fun _ => B8 0)) (fun u w => by kernel_rfl)) ?_
          refine JL.ev _ rfl rfl (Ev.neqA (c := false) (k := .u8) (f := fun _ => 0) (g := fun _ => 0) rfl rfl Try.underlying27 Try.underlying5 (by kernel_rfl) (by kernel_rfl) (fun _ => rfl) (fun _ => rfl) (by simp [sameTo_self])) ?_
          refine JL.ev _ rfl rfl (Ev.pickF rfl rfl) ?_
          refine JL.ev _ rfl rfl (Ev.pickT rfl rfl) ?_
          refine JL.ev _ rfl rfl (Ev.pickF rfl rfl) ?_
          refine JL.nil ?_
          refine JE.next ?_
          refine J.condF rfl (rfl) ?_
          refine J.skip ?_
          refine JE.blockNormal ?_
          refine JE.next ?_
          refine J.region ?_
          refine JL.ev _ rfl rfl (Ev.add rfl rfl (i64_in (by omega) (by omega))) ?_
          refine JL.ev _ rfl rfl (Ev.move rfl) ?_
          refine JL.nil ?_
          exact JE.back (k + 1) (by omega) (by omega) ⟨rfl, rfl, rfl, rfl, rfl, trivial⟩ (fun w s' => s'.sub (by repeat (first | exact List.Sublist.refl _ | exact List.nil_sublist _ | apply List.Sublist.cons_cons | apply List.Sublist.cons)))
        · refine JL.ev _ rfl rfl (Ev.move rfl) ?_
          refine JL.ev _ rfl rfl (Ev.move rfl) ?_
          refine JL.ev _ rfl rfl (Ev.neI (a := 0) (b := 0) (c := false) rfl rfl rfl) ?_
          refine JL.ev _ rfl rfl (Ev.move rfl) ?_
          refine JL.ev _ rfl rfl (Ev.loadAll rfl Try.underlying27 rfl (by repeat (first | exact At.here | apply At.there)) (by kernel_rfl)) ?_
          refine JL.ev _ rfl rfl (Ev.loadAll rfl Try.underlying27 rfl (by repeat (first | exact At.here | apply At.there)) (by kernel_rfl)) ?_
          refine JL.ev _ rfl rfl (Ev.neqA (c := false) (k := .u8) (f := fun i => ((wantB one 64 i).toNat : Int)) (g := fun i => ((wantB one 64 i).toNat : Int)) rfl rfl Try.underlying27 Try.underlying5 (by kernel_rfl) (by kernel_rfl) (fun _ => rfl) (fun i => congrFun (hpar.2 rfl) i) (by simp [sameTo_self])) ?_
          refine JL.ev _ rfl rfl (Ev.pickF rfl rfl) ?_
          refine JL.ev _ rfl rfl (Ev.pickT rfl rfl) ?_
          refine JL.ev _ rfl rfl (Ev.move rfl) ?_
          refine JL.ev _ rfl rfl (Ev.move rfl) ?_
          refine JL.ev _ rfl rfl (Ev.not (c := false) rfl rfl) ?_
          refine JL.ev _ rfl rfl (Ev.move rfl) ?_
          refine JL.off rfl rfl ?_
          refine JL.off rfl rfl ?_
          refine JL.off rfl rfl ?_
          refine JL.off rfl rfl ?_
          refine JL.off rfl rfl ?_
          refine JL.off rfl rfl ?_
          refine JL.off rfl rfl ?_
          refine JL.ev _ rfl rfl (Ev.pickF rfl rfl) ?_
          refine JL.ev _ rfl rfl (Ev.pickF rfl rfl) ?_
          refine JL.nil ?_
          refine JE.next ?_
          refine J.condF rfl (rfl) ?_
          refine J.skip ?_
          refine JE.blockNormal ?_
          refine JE.next ?_
          refine J.region ?_
          refine JL.ev _ rfl rfl (Ev.add rfl rfl (i64_in (by omega) (by omega))) ?_
          refine JL.ev _ rfl rfl (Ev.move rfl) ?_
          refine JL.nil ?_
          exact JE.back (k + 1) (by omega) (by omega) ⟨rfl, rfl, rfl, rfl, rfl, trivial⟩ (fun w s' => s'.sub (by repeat (first | exact List.Sublist.refl _ | exact List.nil_sublist _ | apply List.Sublist.cons_cons | apply List.Sublist.cons)))
  · try replace ht74 := of_decide_eq_false ht74
    refine J.exit ?_
    refine JE.thenExit ?_
    refine JE.thenExit ?_
    refine JE.blockHere ?_
    refine JE.next ?_
    refine J.seq ?_
    refine J.draw [(0, true), (2, true), (3, true), (1, false), (4, false), (5, true), (6, true), (7, true), (8, true), (10, true), (11, true), (12, true), (13, true), (14, true), (9, false), (15, true), (16, true), (17, true), (18, true), (19, true), (20, false), (21, true), (22, true)] [23] (by kernel_rfl) (by kernel_rfl) ?_
    refine JD.ev _ rfl rfl rfl (Ev.loadAll rfl Try.underlying27 rfl (by repeat (first | exact At.here | apply At.there)) (by kernel_rfl)) ?_
    refine JD.ev _ rfl rfl rfl (Ev.sliceArr rfl Try.underlying27 (by kernel_rfl)) ?_
    refine JD.ev _ rfl rfl rfl (Ev.strR (a := lx) rfl Try.underlying22 Try.underlying5 Try.underlying9 (fun w s => rdOk_cells s (by repeat (first | exact At.here | apply At.there)) (by rw [List.length_map, hlx]) (bytes_arr _ _ hlx))) ?_
    refine JD.eff (fun _ => _) rfl (Eff.callP rfl (enters Try.func17 (by kernel_rfl) rfl) (text_calls lx hlx)) rfl rfl (fun _ _ _ s => s) (fun _ _ s => s) (fun _ _ => ?_)
    refine JD.eff (fun _ => _) rfl (Eff.callP rfl (enters Try.func7 (by kernel_rfl) rfl) (hex_calls lx (by omega))) rfl rfl (fun _ _ _ s => s) (fun _ _ s => s) (fun _ _ => ?_)
    refine JD.ev _ rfl rfl rfl (Ev.eqlS (a := hexL lx) (b := hexL lx) (c := true) rfl rfl (by simp)) ?_
    refine JD.ev _ rfl rfl rfl (Ev.move rfl) ?_
    refine JD.ev _ rfl rfl rfl (Ev.loadAll rfl Try.underlying27 rfl (by repeat (first | exact At.here | apply At.there)) (by kernel_rfl)) ?_
    refine JD.ev _ rfl rfl rfl (Ev.loadAll rfl Try.underlying27 rfl (by repeat (first | exact At.here | apply At.there)) (by kernel_rfl)) ?_
    refine JD.ev _ rfl rfl rfl (Ev.sliceArr rfl Try.underlying27 (by kernel_rfl)) ?_
    refine JD.ev _ rfl rfl rfl (Ev.strR (a := lx) rfl Try.underlying22 Try.underlying5 Try.underlying9 (fun w s => rdOk_cells s (by repeat (first | exact At.here | apply At.there)) (by rw [List.length_map, hlx]) (bytes_arr _ _ hlx))) ?_
    refine JD.ev _ rfl rfl rfl (Ev.sliceArr rfl Try.underlying27 (by kernel_rfl)) ?_
    refine JD.ev _ rfl rfl rfl (Ev.strR (a := ly) rfl Try.underlying22 Try.underlying5 Try.underlying9 (fun w s => rdOk_cells s (by repeat (first | exact At.here | apply At.there)) (by rw [List.length_map, hly]) (bytes_arr _ _ hly))) ?_
    refine JD.ev _ rfl rfl rfl (Ev.lssS rfl rfl rfl) ?_
    refine JD.eff (fun _ => _) rfl (Eff.callP rfl (enters Try.func18 (by kernel_rfl) rfl) (less_calls lx ly hlx hly)) rfl rfl (fun _ _ _ s => s) (fun _ _ s => s) (fun _ _ => ?_)
    refine JD.ev _ rfl rfl rfl (Ev.eqB (c := true) (d := .bool) rfl rfl Try.underlying4 (by simp)) ?_
    refine JD.ev _ rfl rfl rfl (Ev.pickT rfl rfl) ?_
    refine JD.ev _ rfl rfl rfl (Ev.move rfl) ?_
    refine JD.ev _ rfl rfl rfl (Ev.loadAll rfl Try.underlying27 rfl (by repeat (first | exact At.here | apply At.there)) (by kernel_rfl)) ?_
    refine JD.ev _ rfl rfl rfl (Ev.loadAll rfl Try.underlying27 rfl (by repeat (first | exact At.here | apply At.there)) (by kernel_rfl)) ?_
    refine JD.eff (fun _ => _) rfl (Eff.callP rfl (enters Try.func18 (by kernel_rfl) rfl) (less_calls lx lx hlx hlx)) rfl rfl (fun _ _ _ s => s) (fun _ _ s => s) (fun _ _ => ?_)
    refine JD.ev _ rfl rfl rfl (Ev.not (c := true) rfl (by rw [bytesLess_self]; rfl)) ?_
    refine JD.ev _ rfl rfl rfl (Ev.pickT rfl rfl) ?_
    refine JD.tail ?_
    refine JT.ev _ rfl rfl rfl (Ev.assign rfl) ?_
    refine JT.nil (JE.np ?_)
    refine JE.next ?_
    refine J.ret ?_
    exact JE.ret1 _ rfl rfl fun w' s => ⟨rfl, s.below⟩
end Go.Proofs.Ytimokikpnngikaa
