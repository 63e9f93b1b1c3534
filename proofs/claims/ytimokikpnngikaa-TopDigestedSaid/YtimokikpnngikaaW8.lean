/- The walk of a block, as sha does it. -/
import Derived.Test.YtimokikpnngikaaW7
import Derived.Test.YtimokikpnngikaaD5
namespace Go.Proofs.Ytimokikpnngikaa
open Go Go.RowKit Go.Proofs Go.Fw Go.Dig
def mixV (a b c : Nat) (f : FuncId) : Array Value := #[.int .i64 a, .int .i64 b, .int .i64 c, .func (.func f) #[] #[]]
theorem mixOf_calls (f : FuncId) (a b c : Nat) (x r : BitVec 32) (ha : a ≤ 32) (hb : b ≤ 32) (he : ∀ args w, (callFunc f args).run Try.prog w = .ok (.enter f args) w) (hf : ∀ w, Calls Try.prog f #[U x, .int .i64 c] w (Pure1 w (U r))) (w : World) :
    Calls Try.prog 24 #[.agg (mixV a b c f), U x] w (Pure1 w (U (rotr x a ^^^ rotr x b ^^^ r))) := by
  refine enter (args := [.agg (mixV a b c f), U x]) 21 Try.func24 rfl rfl (by simp) ?_
  refine J.seq ?_
  refine J.region ?_
  refine JL.eff (Eff.boxA rfl) rfl rfl (fun g2 _ => ?_)
  refine JL.ev (U 0) rfl rfl (Ev.assign rfl) ?_
  refine JL.nil ?_
  refine JE.next ?_
  refine J.seq ?_
  refine J.draw [(0, true), (1, true), (2, true), (4, true), (5, true), (6, true), (9, true), (10, true), (11, true), (12, true), (13, true), (3, false), (7, false), (8, true), (14, false), (15, true)] [16] (by kernel_rfl) (by kernel_rfl) ?_
  refine JD.ev _ rfl rfl rfl (Ev.move rfl) ?_
  refine JD.ev _ rfl rfl rfl (Ev.fieldAddr rfl Try.underlying54 rfl (fun w => by kernel_rfl) (j := 0)) ?_
  refine JD.ev _ rfl rfl rfl (Ev.load1 (v := .int .i64 a) rfl Try.underlying3 rfl (by repeat (first | exact At.here | apply At.there)) rfl) ?_
  refine JD.ev _ rfl rfl rfl (Ev.move rfl) ?_
  refine JD.ev _ rfl rfl rfl (Ev.fieldAddr rfl Try.underlying54 rfl (fun w => by kernel_rfl) (j := 1)) ?_
  refine JD.ev _ rfl rfl rfl (Ev.load1 (v := .int .i64 b) rfl Try.underlying3 rfl (by repeat (first | exact At.here | apply At.there)) rfl) ?_
  refine JD.ev _ rfl rfl rfl (Ev.fieldAddr rfl Try.underlying54 rfl (fun w => by kernel_rfl) (j := 3)) ?_
  refine JD.ev _ rfl rfl rfl (Ev.load1 (v := .func (.func f) #[] #[]) rfl Try.underlying52 rfl (by repeat (first | exact At.here | apply At.there)) rfl) ?_
  refine JD.ev _ rfl rfl rfl (Ev.move rfl) ?_
  refine JD.ev _ rfl rfl rfl (Ev.fieldAddr rfl Try.underlying54 rfl (fun w => by kernel_rfl) (j := 2)) ?_
  refine JD.ev _ rfl rfl rfl (Ev.load1 (v := .int .i64 c) rfl Try.underlying3 rfl (by repeat (first | exact At.here | apply At.there)) rfl) ?_
  refine JD.eff (fun _ => _) rfl (Eff.callP rfl (enters Try.func23 (by kernel_rfl) rfl) (turned_calls x a (by omega) (by omega))) rfl rfl (fun _ _ _ s => s) (fun _ _ s => s) (fun _ _ => ?_)
  refine JD.eff (fun _ => _) rfl (Eff.callP rfl (enters Try.func23 (by kernel_rfl) rfl) (turned_calls x b (by omega) (by omega))) rfl rfl (fun _ _ _ s => s) (fun _ _ s => s) (fun _ _ => ?_)
  refine JD.ev _ rfl rfl rfl (Ev.xorU rfl rfl) ?_
  refine JD.eff (fun _ => _) rfl (Eff.callF rfl rfl he hf) rfl rfl (fun _ _ _ s => s) (fun _ _ s => s) (fun _ _ => ?_)
  refine JD.ev _ rfl rfl rfl (Ev.xorU rfl rfl) ?_
  refine JD.tail ?_
  refine JT.ev _ rfl rfl rfl (Ev.assign rfl) ?_
  refine JT.nil (JE.np ?_)
  refine JE.next ?_
  refine J.ret ?_
  exact JE.ret1 _ rfl rfl fun w' s => ⟨rfl, s.below⟩
set_option maxHeartbeats 1000000 in
theorem block_calls (H : Nat → BitVec 32) (l : List UInt8) (w : World) : Calls Try.prog 12 #[.agg (arr 8 fun i => U (H i)), .agg (arr 64 fun i => B8 (byteAt l i))] w (Pure1 w (.agg (arr 8 fun i => U (blk kT H l i)))) := by
  refine enter (args := [.agg (arr 8 fun i => U (H i)), .agg (arr 64 fun i => B8 (byteAt l i))]) 193 Try.func12 rfl rfl (by simp) ?_
  refine J.seq ?_
  refine J.region ?_
  refine JL.eff (Eff.boxA rfl) rfl rfl (fun g2 _ => ?_)
  refine JL.eff (Eff.boxA rfl) rfl rfl (fun g3 _ => ?_)
  refine JL.eff (Eff.allocA 8 (fun _ => U 0) (by kernel_rfl)) rfl rfl (fun g4 _ => ?_)
  refine JL.nil ?_
  refine JE.next ?_
  refine J.seq ?_
  refine J.region ?_
  refine JL.ev _ rfl rfl (Ev.closed (v := .agg (mixV 7 18 3 22)) (fun u w => by kernel_rfl)) ?_
  refine JL.ev _ rfl rfl (Ev.closed (v := .agg (mixV 17 19 10 22)) (fun u w => by kernel_rfl)) ?_
  refine JL.eff (Eff.alloc (z := .agg #[.int .i64 0, .int .i64 0, .int .i64 0, .nilFunc]) (by kernel_rfl) rfl) rfl rfl (fun g5 _ => ?_)
  refine JL.eff (Eff.alloc (z := .agg #[.int .i64 0, .int .i64 0, .int .i64 0, .nilFunc]) (by kernel_rfl) rfl) rfl rfl (fun g6 _ => ?_)
  refine JL.eff0 (Eff.storeRow (c := #[.int .i64 0, .int .i64 0, .int .i64 0, .nilFunc]) rfl rfl (by kernel_rfl) rfl (by decide) (by repeat (first | exact At.here | apply At.there))) rfl rfl (fun _ _ => ?_)
  refine JL.eff0 (Eff.storeRow (c := #[.int .i64 0, .int .i64 0, .int .i64 0, .nilFunc]) rfl rfl (by kernel_rfl) rfl (by decide) (by repeat (first | exact At.here | apply At.there))) rfl rfl (fun _ _ => ?_)
  refine JL.nil ?_
  refine JE.next ?_
  refine J.seq ?_
  refine J.region ?_
  refine JL.ev _ rfl rfl (Ev.closed (v := .agg (mixV 2 13 22 23)) (fun u w => by kernel_rfl)) ?_
  refine JL.ev _ rfl rfl (Ev.closed (v := .agg (mixV 6 11 25 23)) (fun u w => by kernel_rfl)) ?_
  refine JL.eff (Eff.alloc (z := .agg #[.int .i64 0, .int .i64 0, .int .i64 0, .nilFunc]) (by kernel_rfl) rfl) rfl rfl (fun g7 _ => ?_)
  refine JL.eff (Eff.alloc (z := .agg #[.int .i64 0, .int .i64 0, .int .i64 0, .nilFunc]) (by kernel_rfl) rfl) rfl rfl (fun g8 _ => ?_)
  refine JL.eff0 (Eff.storeRow (c := #[.int .i64 0, .int .i64 0, .int .i64 0, .nilFunc]) rfl rfl (by kernel_rfl) rfl (by decide) (by repeat (first | exact At.here | apply At.there))) rfl rfl (fun _ _ => ?_)
  refine JL.eff0 (Eff.storeRow (c := #[.int .i64 0, .int .i64 0, .int .i64 0, .nilFunc]) rfl rfl (by kernel_rfl) rfl (by decide) (by repeat (first | exact At.here | apply At.there))) rfl rfl (fun _ _ => ?_)
  refine JL.nil ?_
  refine JE.next ?_
  refine J.seq ?_
  refine J.region ?_
  refine JL.eff (Eff.allocA 16 (fun _ => U 0) (by kernel_rfl)) rfl rfl (fun g9 _ => ?_)
  refine JL.nil ?_
  refine JE.next ?_
  refine J.seq ?_
  refine J.seq ?_
  refine J.region ?_
  refine JL.ev _ rfl rfl (Ev.move rfl) ?_
  refine JL.nil ?_
  refine JE.next ?_
  refine J.block ?_
  refine J.loop (σ := Nat) (fun k => k ≤ 16) (fun k => [(2, .pointer (some ⟨g2, 0, none⟩)), (3, .pointer (some ⟨g3, 0, none⟩)), (4, .pointer (some ⟨g4, 0, none⟩)), (5, .pointer (some ⟨g5, 0, none⟩)), (6, .pointer (some ⟨g6, 0, none⟩)), (7, .pointer (some ⟨g7, 0, none⟩)), (8, .pointer (some ⟨g8, 0, none⟩)), (9, .pointer (some ⟨g9, 0, none⟩)), (27, .int .i64 k)]) (fun k => [cells g9 (arr 16 (fillTo (fun i => U (w0 l i)) (U 0) k)) 55, cells g8 (mixV 6 11 25 23) 54, cells g7 (mixV 2 13 22 23) 54, cells g6 (mixV 17 19 10 22) 54, cells g5 (mixV 7 18 3 22) 54, cells g4 (arr 8 (fun _ => U 0)) 24, cells g3 (arr 64 (fun i => B8 (byteAt l i))) 25, cells g2 (arr 8 (fun i => U (H i))) 24]) (fun k => 16 - k) 0 (Nat.zero_le _) ⟨rfl, rfl, rfl, rfl, rfl, rfl, rfl, rfl, rfl, trivial⟩ (fun w s => by rw [fillTo_zero]; exact s) ?_
  intro k hk
  refine J.seq ?_
  refine J.region ?_
  refine JL.ev _ rfl rfl (Ev.lss rfl rfl rfl) ?_
  refine JL.nil ?_
  refine JE.next ?_
  refine J.seq ?_
  refine J.cond _ rfl (fun ht28 => ?_) (fun ht28 => ?_)
  · try replace ht28 := of_decide_eq_true ht28
    refine J.skip ?_
    refine JE.next ?_
    refine J.seq ?_
    refine J.block ?_
    refine J.seq ?_
    refine J.region ?_
    refine JL.ev _ rfl rfl (Ev.move rfl) ?_
    refine JL.ev _ rfl rfl (Ev.assign rfl) ?_
    refine JL.nil ?_
    refine JE.next ?_
    refine J.draw [(0, true), (1, true), (2, true), (3, true), (4, true), (5, true), (6, true), (7, true), (8, true), (9, true), (10, true), (11, true), (12, true), (13, true), (14, true), (15, true), (16, true), (17, true), (18, true), (19, true), (20, true), (21, true), (22, true), (23, true), (24, true), (25, true), (26, true), (27, true), (28, true), (29, true)] [30, 31] (by kernel_rfl) (by kernel_rfl) ?_
    refine JD.ev _ rfl rfl rfl (Ev.move rfl) ?_
    refine JD.ev _ rfl rfl rfl (Ev.move rfl) ?_
    refine JD.ev _ rfl rfl rfl (Ev.mul rfl rfl (i64_in (by omega) (by omega))) ?_
    refine JD.ev _ rfl rfl rfl (Ev.indexAddrA rfl rfl Try.underlying25 (by kernel_rfl) (by omega) (by omega) (j := 4 * k) (by omega)) ?_
    refine JD.ev _ rfl rfl rfl (Ev.loadA rfl Try.underlying5 rfl (by repeat (first | exact At.here | apply At.there)) (by omega)) ?_
    refine JD.ev _ rfl rfl rfl (Ev.convBU rfl Try.underlying5 Try.underlying23) ?_
    refine JD.ev _ rfl rfl rfl (Ev.shlU rfl rfl (by omega)) ?_
    refine JD.ev _ rfl rfl rfl (Ev.move rfl) ?_
    refine JD.ev _ rfl rfl rfl (Ev.mul rfl rfl (i64_in (by omega) (by omega))) ?_
    refine JD.ev _ rfl rfl rfl (Ev.add rfl rfl (i64_in (by omega) (by omega))) ?_
    refine JD.ev _ rfl rfl rfl (Ev.indexAddrA rfl rfl Try.underlying25 (by kernel_rfl) (by omega) (by omega) (j := 4 * k + 1) (by omega)) ?_
    refine JD.ev _ rfl rfl rfl (Ev.loadA rfl Try.underlying5 rfl (by repeat (first | exact At.here | apply At.there)) (by omega)) ?_
    refine JD.ev _ rfl rfl rfl (Ev.convBU rfl Try.underlying5 Try.underlying23) ?_
    refine JD.ev _ rfl rfl rfl (Ev.shlU rfl rfl (by omega)) ?_
    refine JD.ev _ rfl rfl rfl (Ev.orU rfl rfl) ?_
    refine JD.ev _ rfl rfl rfl (Ev.move rfl) ?_
    refine JD.ev _ rfl rfl rfl (Ev.mul rfl rfl (i64_in (by omega) (by omega))) ?_
    refine JD.ev _ rfl rfl rfl (Ev.add rfl rfl (i64_in (by omega) (by omega))) ?_
    refine JD.ev _ rfl rfl rfl (Ev.indexAddrA rfl rfl Try.underlying25 (by kernel_rfl) (by omega) (by omega) (j := 4 * k + 2) (by omega)) ?_
    refine JD.ev _ rfl rfl rfl (Ev.loadA rfl Try.underlying5 rfl (by repeat (first | exact At.here | apply At.there)) (by omega)) ?_
    refine JD.ev _ rfl rfl rfl (Ev.convBU rfl Try.underlying5 Try.underlying23) ?_
    refine JD.ev _ rfl rfl rfl (Ev.shlU rfl rfl (by omega)) ?_
    refine JD.ev _ rfl rfl rfl (Ev.orU rfl rfl) ?_
    refine JD.ev _ rfl rfl rfl (Ev.move rfl) ?_
    refine JD.ev _ rfl rfl rfl (Ev.mul rfl rfl (i64_in (by omega) (by omega))) ?_
    refine JD.ev _ rfl rfl rfl (Ev.add rfl rfl (i64_in (by omega) (by omega))) ?_
    refine JD.ev _ rfl rfl rfl (Ev.indexAddrA rfl rfl Try.underlying25 (by kernel_rfl) (by omega) (by omega) (j := 4 * k + 3) (by omega)) ?_
    refine JD.ev _ rfl rfl rfl (Ev.loadA rfl Try.underlying5 rfl (by repeat (first | exact At.here | apply At.there)) (by omega)) ?_
    refine JD.ev _ rfl rfl rfl (Ev.convBU rfl Try.underlying5 Try.underlying23) ?_
    refine JD.ev _ rfl rfl rfl (Ev.orU rfl rfl) ?_
    refine JD.tail ?_
    refine JT.ev _ rfl rfl rfl (Ev.indexAddrA rfl rfl Try.underlying55 (by kernel_rfl) (by omega) (by omega) (by first | exact idx0 _ | exact Nat.zero_add _)) ?_
    refine JT.eff0 rfl (Eff.storeA rfl rfl rfl (by kernel_rfl) (by repeat (first | exact At.here | apply At.there)) (by omega)) rfl rfl (fun _ _ => ?_)
    refine JT.nil (JE.np ?_)
    refine JE.blockNormal ?_
    refine JE.next ?_
    refine J.region ?_
    refine JL.ev _ rfl rfl (Ev.add rfl rfl (i64_in (by omega) (by omega))) ?_
    refine JL.ev _ rfl rfl (Ev.move rfl) ?_
    refine JL.nil ?_
    exact JE.back (k + 1) (by omega) (by omega) ⟨rfl, rfl, rfl, rfl, rfl, rfl, rfl, rfl, rfl, trivial⟩ (fun w s => by
      rw [← fillTo_step (fun i => U (w0 l i)) (U 0) k _ (congrArg U (w0_or l k).symm)]
      exact s)
  · try replace ht28 := of_decide_eq_false ht28
    obtain rfl : k = 16 := by omega
    refine J.exit ?_
    refine JE.thenExit ?_
    refine JE.thenExit ?_
    refine JE.blockHere ?_
    refine JE.next ?_
    refine J.seq ?_
    refine J.region ?_
    refine JL.ev _ rfl rfl (Ev.loadAll rfl Try.underlying24 rfl (by repeat (first | exact At.here | apply At.there)) (by kernel_rfl)) ?_
    refine JL.eff (Eff.allocA 8 (fun _ => U 0) (by kernel_rfl)) rfl rfl (fun g11 _ => ?_)
    refine JL.eff0 (Eff.storeAll rfl rfl (by kernel_rfl) (fun _ => rfl) (by repeat (first | exact At.here | apply At.there))) rfl rfl (fun _ _ => ?_)
    refine JL.nil ?_
    refine JE.next ?_
    refine J.seq ?_
    refine J.seq ?_
    refine J.region ?_
    refine JL.eff (Eff.callP rfl (enters Try.func10 (by kernel_rfl) rfl) (constants_calls)) rfl rfl (fun _ _ => ?_)
    refine JL.ev _ rfl rfl (Ev.move rfl) ?_
    refine JL.nil ?_
    refine JE.next ?_
    refine J.block ?_
    refine J.loop (σ := Nat) (fun t => t ≤ 64) (fun t => [(2, .pointer (some ⟨g2, 0, none⟩)), (3, .pointer (some ⟨g3, 0, none⟩)), (4, .pointer (some ⟨g4, 0, none⟩)), (5, .pointer (some ⟨g5, 0, none⟩)), (6, .pointer (some ⟨g6, 0, none⟩)), (7, .pointer (some ⟨g7, 0, none⟩)), (8, .pointer (some ⟨g8, 0, none⟩)), (9, .pointer (some ⟨g9, 0, none⟩)), (11, .pointer (some ⟨g11, 0, none⟩)), (63, .agg (arr 64 fun i => U (kT i))), (64, .int .i64 t)]) (fun t => [cells g11 (arr 8 (xrow (rounds kT (w0 l) H t) t)) 24, cells g9 (arr 16 (wrow (w0 l) t)) 55, cells g8 (mixV 6 11 25 23) 54, cells g7 (mixV 2 13 22 23) 54, cells g6 (mixV 17 19 10 22) 54, cells g5 (mixV 7 18 3 22) 54, cells g4 (arr 8 (fun _ => U 0)) 24, cells g3 (arr 64 (fun i => B8 (byteAt l i))) 25, cells g2 (arr 8 (fun i => U (H i))) 24]) (fun t => 64 - t) 0 (Nat.zero_le _) ⟨rfl, rfl, rfl, rfl, rfl, rfl, rfl, rfl, rfl, rfl, rfl, trivial⟩ (fun w s => by rw [← wrow_16 (w0 l) 0 (by decide), ← xrow_zero]; exact s) ?_
    clear hk
    intro t ht
    obtain ⟨X, hX⟩ : ∃ X, rounds kT (w0 l) H t = X := ⟨_, rfl⟩
    have hX1 : rounds kT (w0 l) H (t + 1) = rnd (kT t) (W (w0 l) t) X := by rw [← hX]; rfl
    rw [hX]
    refine J.seq ?_
    refine J.region ?_
    refine JL.ev _ rfl rfl (Ev.lss rfl rfl rfl) ?_
    refine JL.nil ?_
    refine JE.next ?_
    refine J.seq ?_
    refine J.cond _ rfl (fun ht65 => ?_) (fun ht65 => ?_)
    · try replace ht65 := of_decide_eq_true ht65
      refine J.skip ?_
      refine JE.next ?_
      refine J.seq ?_
      refine J.block ?_
      refine J.seq ?_
      refine J.region ?_
      refine JL.ev _ rfl rfl (Ev.move rfl) ?_
      refine JL.ev _ rfl rfl (Ev.indexArr rfl rfl Try.underlying30 (by kernel_rfl) Try.underlying23 rfl (by omega) (by omega) (by first | exact idxN _ | rfl)) ?_
      refine JL.ev _ rfl rfl (Ev.assign rfl) ?_
      refine JL.ev _ rfl rfl (Ev.assign rfl) ?_
      refine JL.nil ?_
      refine JE.next ?_
      refine J.seq ?_
      refine J.region ?_
      refine JL.ev _ rfl rfl (Ev.move rfl) ?_
      refine JL.ev _ rfl rfl (Ev.rem rfl rfl (by omega) (tmod_nn (by omega))) ?_
      refine JL.ev _ rfl rfl (Ev.indexAddrA rfl rfl Try.underlying55 (by kernel_rfl) (by omega) (by omega) (j := t % 16) (by omega)) ?_
      refine JL.ev _ rfl rfl (Ev.assign rfl) ?_
      refine JL.nil ?_
      refine JE.next ?_
      refine J.seq ?_
      refine J.seq ?_
      refine J.region ?_
      refine JL.ev _ rfl rfl (Ev.move rfl) ?_
      refine JL.ev _ rfl rfl (Ev.geq rfl rfl rfl) ?_
      refine JL.nil ?_
      refine JE.next ?_
      refine J.cond _ rfl (fun ht72 => ?_) (fun ht72 => ?_)
      · try replace ht72 := of_decide_eq_true ht72
        refine J.draw [(0, true), (1, true), (2, true), (3, true), (4, true), (5, true), (6, true), (7, true), (8, true), (10, true), (11, true), (12, true), (13, true), (14, true), (16, true), (17, true), (18, true), (19, true), (20, true), (21, true), (9, false), (15, true), (22, false), (23, true), (24, true)] [25, 26] (by kernel_rfl) (by kernel_rfl) ?_
        refine JD.ev _ rfl rfl rfl (Ev.move rfl) ?_
        refine JD.ev _ rfl rfl rfl (Ev.nilCheck rfl) ?_
        refine JD.ev _ rfl rfl rfl (Ev.load1 (v := U (W (w0 l) (t - 16))) rfl Try.underlying23 rfl (by repeat (first | exact At.here | apply At.there)) (by rw [arr_get _ (by omega), wrow_16old _ _ (by omega)])) ?_
        refine JD.ev _ rfl rfl rfl (Ev.loadRow rfl Try.underlying54 rfl (by repeat (first | exact At.here | apply At.there)) (by kernel_rfl)) ?_
        refine JD.ev _ rfl rfl rfl (Ev.move rfl) ?_
        refine JD.ev _ rfl rfl rfl (Ev.sub rfl rfl (i64_in (by omega) (by omega))) ?_
        refine JD.ev _ rfl rfl rfl (Ev.rem rfl rfl (by omega) (tmod_nn (by omega))) ?_
        refine JD.ev _ rfl rfl rfl (Ev.indexAddrA rfl rfl Try.underlying55 (by kernel_rfl) (by omega) (by omega) (j := (t - 2) % 16) (by omega)) ?_
        refine JD.ev _ rfl rfl rfl (Ev.load1 (v := U (W (w0 l) (t - 2))) rfl Try.underlying23 rfl (by repeat (first | exact At.here | apply At.there)) (by rw [arr_get _ (by omega), wrow_old _ _ 2 (by omega) (by decide) (by decide)])) ?_
        refine JD.ev _ rfl rfl rfl (Ev.move rfl) ?_
        refine JD.ev _ rfl rfl rfl (Ev.sub rfl rfl (i64_in (by omega) (by omega))) ?_
        refine JD.ev _ rfl rfl rfl (Ev.rem rfl rfl (by omega) (tmod_nn (by omega))) ?_
        refine JD.ev _ rfl rfl rfl (Ev.indexAddrA rfl rfl Try.underlying55 (by kernel_rfl) (by omega) (by omega) (j := (t - 7) % 16) (by omega)) ?_
        refine JD.ev _ rfl rfl rfl (Ev.load1 (v := U (W (w0 l) (t - 7))) rfl Try.underlying23 rfl (by repeat (first | exact At.here | apply At.there)) (by rw [arr_get _ (by omega), wrow_old _ _ 7 (by omega) (by decide) (by decide)])) ?_
        refine JD.ev _ rfl rfl rfl (Ev.loadRow rfl Try.underlying54 rfl (by repeat (first | exact At.here | apply At.there)) (by kernel_rfl)) ?_
        refine JD.ev _ rfl rfl rfl (Ev.move rfl) ?_
        refine JD.ev _ rfl rfl rfl (Ev.sub rfl rfl (i64_in (by omega) (by omega))) ?_
        refine JD.ev _ rfl rfl rfl (Ev.rem rfl rfl (by omega) (tmod_nn (by omega))) ?_
        refine JD.ev _ rfl rfl rfl (Ev.indexAddrA rfl rfl Try.underlying55 (by kernel_rfl) (by omega) (by omega) (j := (t - 15) % 16) (by omega)) ?_
        refine JD.ev _ rfl rfl rfl (Ev.load1 (v := U (W (w0 l) (t - 15))) rfl Try.underlying23 rfl (by repeat (first | exact At.here | apply At.there)) (by rw [arr_get _ (by omega), wrow_old _ _ 15 (by omega) (by decide) (by decide)])) ?_
        refine JD.eff (fun _ => _) rfl (Eff.callP rfl (enters Try.func24 (by kernel_rfl) rfl) (mixOf_calls 22 17 19 10 (W (w0 l) (t - 2)) _ (by decide) (by decide) (enters Try.func22 (by kernel_rfl) rfl) (pushed_calls _ 10 (by decide)))) rfl rfl (fun _ _ _ s => s) (fun _ _ s => s) (fun _ _ => ?_)
        refine JD.ev _ rfl rfl rfl (Ev.addU rfl rfl) ?_
        refine JD.eff (fun _ => _) rfl (Eff.callP rfl (enters Try.func24 (by kernel_rfl) rfl) (mixOf_calls 22 7 18 3 (W (w0 l) (t - 15)) _ (by decide) (by decide) (enters Try.func22 (by kernel_rfl) rfl) (pushed_calls _ 3 (by decide)))) rfl rfl (fun _ _ _ s => s) (fun _ _ s => s) (fun _ _ => ?_)
        refine JD.ev _ rfl rfl rfl (Ev.addU rfl rfl) ?_
        refine JD.ev _ rfl rfl rfl (Ev.addU rfl rfl) ?_
        refine JD.tail ?_
        refine JT.ev _ rfl rfl rfl (Ev.nilCheck rfl) ?_
        refine JT.eff0 rfl (Eff.storeA rfl rfl rfl (by kernel_rfl) (by repeat (first | exact At.here | apply At.there)) (by omega)) rfl rfl (fun _ _ => ?_)
        refine JT.nil (JE.np ?_)
        refine JE.next ?_
        refine J.seq ?_
        refine J.draw [(0, true), (1, true), (2, true), (3, true), (4, true), (5, true), (6, true), (7, true), (8, true), (9, true), (10, true), (11, true), (12, true), (13, true), (14, true), (15, true), (16, true), (17, true), (18, true), (19, true), (20, true), (21, true), (22, true), (23, true), (24, true), (25, true), (26, true), (27, true), (28, true), (29, true), (30, true), (31, true), (32, true), (33, true), (34, true)] [35] (by kernel_rfl) (by kernel_rfl) ?_
        refine JD.ev _ rfl rfl rfl (Ev.move rfl) ?_
        refine JD.ev _ rfl rfl rfl (Ev.neg rfl (i64_in (by omega) (by omega))) ?_
        refine JD.ev _ rfl rfl rfl (Ev.and rfl rfl (and7 _)) ?_
        refine JD.ev _ rfl rfl rfl (Ev.indexAddrA rfl rfl Try.underlying24 (by kernel_rfl) (by omega) (by omega) (j := px 0 t) (px_neg t)) ?_
        refine JD.ev _ rfl rfl rfl (Ev.load1 (v := U (X 0)) rfl Try.underlying23 rfl (by repeat (first | exact At.here | apply At.there)) (by rw [arr_get _ (px_lt _ _), xrow_at _ _ _ (by decide)])) ?_
        refine JD.ev _ rfl rfl rfl (Ev.move rfl) ?_
        refine JD.ev _ rfl rfl rfl (Ev.sub rfl rfl (i64_in (by omega) (by omega))) ?_
        refine JD.ev _ rfl rfl rfl (Ev.and rfl rfl (and7 _)) ?_
        refine JD.ev _ rfl rfl rfl (Ev.indexAddrA rfl rfl Try.underlying24 (by kernel_rfl) (by omega) (by omega) (j := px 1 t) (px_int 1 t)) ?_
        refine JD.ev _ rfl rfl rfl (Ev.load1 (v := U (X 1)) rfl Try.underlying23 rfl (by repeat (first | exact At.here | apply At.there)) (by rw [arr_get _ (px_lt _ _), xrow_at _ _ _ (by decide)])) ?_
        refine JD.ev _ rfl rfl rfl (Ev.move rfl) ?_
        refine JD.ev _ rfl rfl rfl (Ev.sub rfl rfl (i64_in (by omega) (by omega))) ?_
        refine JD.ev _ rfl rfl rfl (Ev.and rfl rfl (and7 _)) ?_
        refine JD.ev _ rfl rfl rfl (Ev.indexAddrA rfl rfl Try.underlying24 (by kernel_rfl) (by omega) (by omega) (j := px 2 t) (px_int 2 t)) ?_
        refine JD.ev _ rfl rfl rfl (Ev.load1 (v := U (X 2)) rfl Try.underlying23 rfl (by repeat (first | exact At.here | apply At.there)) (by rw [arr_get _ (px_lt _ _), xrow_at _ _ _ (by decide)])) ?_
        refine JD.ev _ rfl rfl rfl (Ev.move rfl) ?_
        refine JD.ev _ rfl rfl rfl (Ev.sub rfl rfl (i64_in (by omega) (by omega))) ?_
        refine JD.ev _ rfl rfl rfl (Ev.and rfl rfl (and7 _)) ?_
        refine JD.ev _ rfl rfl rfl (Ev.indexAddrA rfl rfl Try.underlying24 (by kernel_rfl) (by omega) (by omega) (j := px 4 t) (px_int 4 t)) ?_
        refine JD.ev _ rfl rfl rfl (Ev.load1 (v := U (X 4)) rfl Try.underlying23 rfl (by repeat (first | exact At.here | apply At.there)) (by rw [arr_get _ (px_lt _ _), xrow_at _ _ _ (by decide)])) ?_
        refine JD.ev _ rfl rfl rfl (Ev.move rfl) ?_
        refine JD.ev _ rfl rfl rfl (Ev.sub rfl rfl (i64_in (by omega) (by omega))) ?_
        refine JD.ev _ rfl rfl rfl (Ev.and rfl rfl (and7 _)) ?_
        refine JD.ev _ rfl rfl rfl (Ev.indexAddrA rfl rfl Try.underlying24 (by kernel_rfl) (by omega) (by omega) (j := px 5 t) (px_int 5 t)) ?_
        refine JD.ev _ rfl rfl rfl (Ev.load1 (v := U (X 5)) rfl Try.underlying23 rfl (by repeat (first | exact At.here | apply At.there)) (by rw [arr_get _ (px_lt _ _), xrow_at _ _ _ (by decide)])) ?_
        refine JD.ev _ rfl rfl rfl (Ev.move rfl) ?_
        refine JD.ev _ rfl rfl rfl (Ev.sub rfl rfl (i64_in (by omega) (by omega))) ?_
        refine JD.ev _ rfl rfl rfl (Ev.and rfl rfl (and7 _)) ?_
        refine JD.ev _ rfl rfl rfl (Ev.indexAddrA rfl rfl Try.underlying24 (by kernel_rfl) (by omega) (by omega) (j := px 6 t) (px_int 6 t)) ?_
        refine JD.ev _ rfl rfl rfl (Ev.load1 (v := U (X 6)) rfl Try.underlying23 rfl (by repeat (first | exact At.here | apply At.there)) (by rw [arr_get _ (px_lt _ _), xrow_at _ _ _ (by decide)])) ?_
        refine JD.ev _ rfl rfl rfl (Ev.assign rfl) ?_
        refine JD.ev _ rfl rfl rfl (Ev.assign rfl) ?_
        refine JD.ev _ rfl rfl rfl (Ev.assign rfl) ?_
        refine JD.ev _ rfl rfl rfl (Ev.assign rfl) ?_
        refine JD.ev _ rfl rfl rfl (Ev.assign rfl) ?_
        refine JD.tail ?_
        refine JT.ev _ rfl rfl rfl (Ev.assign rfl) ?_
        refine JT.nil (JE.np ?_)
        refine JE.next ?_
        refine J.seq ?_
        refine J.draw [(0, true), (1, true), (2, true), (3, true), (4, true), (5, true), (6, true), (9, true), (10, true), (11, true), (12, true), (13, true), (14, true), (15, true), (17, true), (19, true), (20, true), (21, true), (7, false), (8, true), (16, true), (18, true), (22, true)] [23] (by kernel_rfl) (by kernel_rfl) ?_
        refine JD.ev _ rfl rfl rfl (Ev.move rfl) ?_
        refine JD.ev _ rfl rfl rfl (Ev.sub rfl rfl (i64_in (by omega) (by omega))) ?_
        refine JD.ev _ rfl rfl rfl (Ev.and rfl rfl (and7 _)) ?_
        refine JD.ev _ rfl rfl rfl (Ev.indexAddrA rfl rfl Try.underlying24 (by kernel_rfl) (by omega) (by omega) (j := px 7 t) (px_int 7 t)) ?_
        refine JD.ev _ rfl rfl rfl (Ev.load1 (v := U (X 7)) rfl Try.underlying23 rfl (by repeat (first | exact At.here | apply At.there)) (by rw [arr_get _ (px_lt _ _), xrow_at _ _ _ (by decide)])) ?_
        refine JD.ev _ rfl rfl rfl (Ev.loadRow rfl Try.underlying54 rfl (by repeat (first | exact At.here | apply At.there)) (by kernel_rfl)) ?_
        refine JD.ev _ rfl rfl rfl (Ev.move rfl) ?_
        refine JD.ev _ rfl rfl rfl (Ev.move rfl) ?_
        refine JD.ev _ rfl rfl rfl (Ev.move rfl) ?_
        refine JD.ev _ rfl rfl rfl (Ev.move rfl) ?_
        refine JD.ev _ rfl rfl rfl (Ev.move rfl) ?_
        refine JD.ev _ rfl rfl rfl (Ev.xorU rfl rfl) ?_
        refine JD.ev _ rfl rfl rfl (Ev.andU rfl rfl) ?_
        refine JD.ev _ rfl rfl rfl (Ev.xorU rfl rfl) ?_
        refine JD.ev _ rfl rfl rfl (Ev.move rfl) ?_
        refine JD.ev _ rfl rfl rfl (Ev.move rfl) ?_
        refine JD.ev _ rfl rfl rfl (Ev.nilCheck rfl) ?_
        refine JD.ev _ rfl rfl rfl (Ev.load1 (v := U (W (w0 l) t)) rfl Try.underlying23 rfl (by repeat (first | exact At.here | apply At.there)) (by rw [arr_get _ (by omega)]; first | rw [wrow_new _ _ (by omega)] | (rw [upd_same]; exact congrArg (fun z => some (U z)) (W_rec' (w0 l) t (by omega))))) ?_
        refine JD.eff (fun _ => _) rfl (Eff.callP rfl (enters Try.func24 (by kernel_rfl) rfl) (mixOf_calls 23 6 11 25 (X 4) _ (by decide) (by decide) (enters Try.func23 (by kernel_rfl) rfl) (turned_calls _ 25 (by decide) (by decide)))) rfl rfl (fun _ _ _ s => s) (fun _ _ s => s) (fun _ _ => ?_)
        refine JD.ev _ rfl rfl rfl (Ev.addU rfl rfl) ?_
        refine JD.ev _ rfl rfl rfl (Ev.addU rfl rfl) ?_
        refine JD.ev _ rfl rfl rfl (Ev.addU rfl rfl) ?_
        refine JD.ev _ rfl rfl rfl (Ev.addU rfl rfl) ?_
        refine JD.tail ?_
        refine JT.ev _ rfl rfl rfl (Ev.assign rfl) ?_
        refine JT.nil (JE.np ?_)
        refine JE.next ?_
        refine J.seq ?_
        refine J.region ?_
        refine JL.ev _ rfl rfl (Ev.move rfl) ?_
        refine JL.ev _ rfl rfl (Ev.sub rfl rfl (i64_in (by omega) (by omega))) ?_
        refine JL.ev _ rfl rfl (Ev.and rfl rfl (and7 _)) ?_
        refine JL.ev _ rfl rfl (Ev.indexAddrA rfl rfl Try.underlying24 (by kernel_rfl) (by omega) (by omega) (j := px 3 t) (px_int 3 t)) ?_
        refine JL.ev _ rfl rfl (Ev.load1 (v := U (X 3)) rfl Try.underlying23 rfl (by repeat (first | exact At.here | apply At.there)) (by rw [arr_get _ (px_lt _ _), xrow_at _ _ _ (by decide)])) ?_
        refine JL.ev _ rfl rfl (Ev.move rfl) ?_
        refine JL.ev _ rfl rfl (Ev.addU rfl rfl) ?_
        refine JL.ev _ rfl rfl (Ev.indexAddrA rfl rfl Try.underlying24 (by kernel_rfl) (by omega) (by omega) (j := px 3 t) (px_int 3 t)) ?_
        refine JL.eff0 (Eff.storeA rfl rfl rfl (by kernel_rfl) (by repeat (first | exact At.here | apply At.there)) (px_lt _ _)) rfl rfl (fun _ _ => ?_)
        refine JL.nil ?_
        refine JE.next ?_
        refine J.region ?_
        refine JL.ev _ rfl rfl (Ev.move rfl) ?_
        refine JL.ev _ rfl rfl (Ev.sub rfl rfl (i64_in (by omega) (by omega))) ?_
        refine JL.ev _ rfl rfl (Ev.and rfl rfl (and7 _)) ?_
        refine JL.ev _ rfl rfl (Ev.move rfl) ?_
        refine JL.ev _ rfl rfl (Ev.loadRow rfl Try.underlying54 rfl (by repeat (first | exact At.here | apply At.there)) (by kernel_rfl)) ?_
        refine JL.ev _ rfl rfl (Ev.move rfl) ?_
        refine JL.eff (Eff.callP rfl (enters Try.func24 (by kernel_rfl) rfl) (mixOf_calls 23 2 13 22 (X 0) _ (by decide) (by decide) (enters Try.func23 (by kernel_rfl) rfl) (turned_calls _ 22 (by decide) (by decide)))) rfl rfl (fun _ _ => ?_)
        refine JL.ev _ rfl rfl (Ev.addU rfl rfl) ?_
        refine JL.ev _ rfl rfl (Ev.move rfl) ?_
        refine JL.ev _ rfl rfl (Ev.move rfl) ?_
        refine JL.ev _ rfl rfl (Ev.andU rfl rfl) ?_
        refine JL.ev _ rfl rfl (Ev.move rfl) ?_
        refine JL.ev _ rfl rfl (Ev.move rfl) ?_
        refine JL.ev _ rfl rfl (Ev.move rfl) ?_
        refine JL.ev _ rfl rfl (Ev.orU rfl rfl) ?_
        refine JL.ev _ rfl rfl (Ev.andU rfl rfl) ?_
        refine JL.ev _ rfl rfl (Ev.orU rfl rfl) ?_
        refine JL.ev _ rfl rfl (Ev.addU rfl rfl) ?_
        refine JL.ev _ rfl rfl (Ev.indexAddrA rfl rfl Try.underlying24 (by kernel_rfl) (by omega) (by omega) (j := px 7 t) (px_int 7 t)) ?_
        refine JL.eff0 (Eff.storeA rfl rfl rfl (by kernel_rfl) (by repeat (first | exact At.here | apply At.there)) (px_lt _ _)) rfl rfl (fun _ _ => ?_)
        refine JL.nil ?_
        refine JE.blockNormal ?_
        refine JE.next ?_
        refine J.region ?_
        refine JL.ev _ rfl rfl (Ev.add rfl rfl (i64_in (by omega) (by omega))) ?_
        refine JL.ev _ rfl rfl (Ev.move rfl) ?_
        refine JL.nil ?_
        first
        | exact JE.back (t + 1) (by omega) (by omega) ⟨rfl, rfl, rfl, rfl, rfl, rfl, rfl, rfl, rfl, rfl, rfl, trivial⟩ (fun w s => by
            rw [hX1, ← xrow_step, ← wrow_lo (w0 l) t (by omega)]
            exact s)
        | exact JE.back (t + 1) (by omega) (by omega) ⟨rfl, rfl, rfl, rfl, rfl, rfl, rfl, rfl, rfl, rfl, rfl, trivial⟩ (fun w s => by
            rw [hX1, ← xrow_step, ← wrow_step (w0 l) t (by omega) _ (W_rec' (w0 l) t (by omega))]
            exact s)
      · try replace ht72 := of_decide_eq_false ht72
        refine J.skip ?_
        refine JE.next ?_
        refine J.seq ?_
        refine J.draw [(0, true), (1, true), (2, true), (3, true), (4, true), (5, true), (6, true), (7, true), (8, true), (9, true), (10, true), (11, true), (12, true), (13, true), (14, true), (15, true), (16, true), (17, true), (18, true), (19, true), (20, true), (21, true), (22, true), (23, true), (24, true), (25, true), (26, true), (27, true), (28, true), (29, true), (30, true), (31, true), (32, true), (33, true), (34, true)] [35] (by kernel_rfl) (by kernel_rfl) ?_
        refine JD.ev _ rfl rfl rfl (Ev.move rfl) ?_
        refine JD.ev _ rfl rfl rfl (Ev.neg rfl (i64_in (by omega) (by omega))) ?_
        refine JD.ev _ rfl rfl rfl (Ev.and rfl rfl (and7 _)) ?_
        refine JD.ev _ rfl rfl rfl (Ev.indexAddrA rfl rfl Try.underlying24 (by kernel_rfl) (by omega) (by omega) (j := px 0 t) (px_neg t)) ?_
        refine JD.ev _ rfl rfl rfl (Ev.load1 (v := U (X 0)) rfl Try.underlying23 rfl (by repeat (first | exact At.here | apply At.there)) (by rw [arr_get _ (px_lt _ _), xrow_at _ _ _ (by decide)])) ?_
        refine JD.ev _ rfl rfl rfl (Ev.move rfl) ?_
        refine JD.ev _ rfl rfl rfl (Ev.sub rfl rfl (i64_in (by omega) (by omega))) ?_
        refine JD.ev _ rfl rfl rfl (Ev.and rfl rfl (and7 _)) ?_
        refine JD.ev _ rfl rfl rfl (Ev.indexAddrA rfl rfl Try.underlying24 (by kernel_rfl) (by omega) (by omega) (j := px 1 t) (px_int 1 t)) ?_
        refine JD.ev _ rfl rfl rfl (Ev.load1 (v := U (X 1)) rfl Try.underlying23 rfl (by repeat (first | exact At.here | apply At.there)) (by rw [arr_get _ (px_lt _ _), xrow_at _ _ _ (by decide)])) ?_
        refine JD.ev _ rfl rfl rfl (Ev.move rfl) ?_
        refine JD.ev _ rfl rfl rfl (Ev.sub rfl rfl (i64_in (by omega) (by omega))) ?_
        refine JD.ev _ rfl rfl rfl (Ev.and rfl rfl (and7 _)) ?_
        refine JD.ev _ rfl rfl rfl (Ev.indexAddrA rfl rfl Try.underlying24 (by kernel_rfl) (by omega) (by omega) (j := px 2 t) (px_int 2 t)) ?_
        refine JD.ev _ rfl rfl rfl (Ev.load1 (v := U (X 2)) rfl Try.underlying23 rfl (by repeat (first | exact At.here | apply At.there)) (by rw [arr_get _ (px_lt _ _), xrow_at _ _ _ (by decide)])) ?_
        refine JD.ev _ rfl rfl rfl (Ev.move rfl) ?_
        refine JD.ev _ rfl rfl rfl (Ev.sub rfl rfl (i64_in (by omega) (by omega))) ?_
        refine JD.ev _ rfl rfl rfl (Ev.and rfl rfl (and7 _)) ?_
        refine JD.ev _ rfl rfl rfl (Ev.indexAddrA rfl rfl Try.underlying24 (by kernel_rfl) (by omega) (by omega) (j := px 4 t) (px_int 4 t)) ?_
        refine JD.ev _ rfl rfl rfl (Ev.load1 (v := U (X 4)) rfl Try.underlying23 rfl (by repeat (first | exact At.here | apply At.there)) (by rw [arr_get _ (px_lt _ _), xrow_at _ _ _ (by decide)])) ?_
        refine JD.ev _ rfl rfl rfl (Ev.move rfl) ?_
        refine JD.ev _ rfl rfl rfl (Ev.sub rfl rfl (i64_in (by omega) (by omega))) ?_
        refine JD.ev _ rfl rfl rfl (Ev.and rfl rfl (and7 _)) ?_
        refine JD.ev _ rfl rfl rfl (Ev.indexAddrA rfl rfl Try.underlying24 (by kernel_rfl) (by omega) (by omega) (j := px 5 t) (px_int 5 t)) ?_
        refine JD.ev _ rfl rfl rfl (Ev.load1 (v := U (X 5)) rfl Try.underlying23 rfl (by repeat (first | exact At.here | apply At.there)) (by rw [arr_get _ (px_lt _ _), xrow_at _ _ _ (by decide)])) ?_
        refine JD.ev _ rfl rfl rfl (Ev.move rfl) ?_
        refine JD.ev _ rfl rfl rfl (Ev.sub rfl rfl (i64_in (by omega) (by omega))) ?_
        refine JD.ev _ rfl rfl rfl (Ev.and rfl rfl (and7 _)) ?_
        refine JD.ev _ rfl rfl rfl (Ev.indexAddrA rfl rfl Try.underlying24 (by kernel_rfl) (by omega) (by omega) (j := px 6 t) (px_int 6 t)) ?_
        refine JD.ev _ rfl rfl rfl (Ev.load1 (v := U (X 6)) rfl Try.underlying23 rfl (by repeat (first | exact At.here | apply At.there)) (by rw [arr_get _ (px_lt _ _), xrow_at _ _ _ (by decide)])) ?_
        refine JD.ev _ rfl rfl rfl (Ev.assign rfl) ?_
        refine JD.ev _ rfl rfl rfl (Ev.assign rfl) ?_
        refine JD.ev _ rfl rfl rfl (Ev.assign rfl) ?_
        refine JD.ev _ rfl rfl rfl (Ev.assign rfl) ?_
        refine JD.ev _ rfl rfl rfl (Ev.assign rfl) ?_
        refine JD.tail ?_
        refine JT.ev _ rfl rfl rfl (Ev.assign rfl) ?_
        refine JT.nil (JE.np ?_)
        refine JE.next ?_
        refine J.seq ?_
        refine J.draw [(0, true), (1, true), (2, true), (3, true), (4, true), (5, true), (6, true), (9, true), (10, true), (11, true), (12, true), (13, true), (14, true), (15, true), (17, true), (19, true), (20, true), (21, true), (7, false), (8, true), (16, true), (18, true), (22, true)] [23] (by kernel_rfl) (by kernel_rfl) ?_
        refine JD.ev _ rfl rfl rfl (Ev.move rfl) ?_
        refine JD.ev _ rfl rfl rfl (Ev.sub rfl rfl (i64_in (by omega) (by omega))) ?_
        refine JD.ev _ rfl rfl rfl (Ev.and rfl rfl (and7 _)) ?_
        refine JD.ev _ rfl rfl rfl (Ev.indexAddrA rfl rfl Try.underlying24 (by kernel_rfl) (by omega) (by omega) (j := px 7 t) (px_int 7 t)) ?_
        refine JD.ev _ rfl rfl rfl (Ev.load1 (v := U (X 7)) rfl Try.underlying23 rfl (by repeat (first | exact At.here | apply At.there)) (by rw [arr_get _ (px_lt _ _), xrow_at _ _ _ (by decide)])) ?_
        refine JD.ev _ rfl rfl rfl (Ev.loadRow rfl Try.underlying54 rfl (by repeat (first | exact At.here | apply At.there)) (by kernel_rfl)) ?_
        refine JD.ev _ rfl rfl rfl (Ev.move rfl) ?_
        refine JD.ev _ rfl rfl rfl (Ev.move rfl) ?_
        refine JD.ev _ rfl rfl rfl (Ev.move rfl) ?_
        refine JD.ev _ rfl rfl rfl (Ev.move rfl) ?_
        refine JD.ev _ rfl rfl rfl (Ev.move rfl) ?_
        refine JD.ev _ rfl rfl rfl (Ev.xorU rfl rfl) ?_
        refine JD.ev _ rfl rfl rfl (Ev.andU rfl rfl) ?_
        refine JD.ev _ rfl rfl rfl (Ev.xorU rfl rfl) ?_
        refine JD.ev _ rfl rfl rfl (Ev.move rfl) ?_
        refine JD.ev _ rfl rfl rfl (Ev.move rfl) ?_
        refine JD.ev _ rfl rfl rfl (Ev.nilCheck rfl) ?_
        refine JD.ev _ rfl rfl rfl (Ev.load1 (v := U (W (w0 l) t)) rfl Try.underlying23 rfl (by repeat (first | exact At.here | apply At.there)) (by rw [arr_get _ (by omega)]; first | rw [wrow_new _ _ (by omega)] | (rw [upd_same]; exact congrArg (fun z => some (U z)) (W_rec' (w0 l) t (by omega))))) ?_
        refine JD.eff (fun _ => _) rfl (Eff.callP rfl (enters Try.func24 (by kernel_rfl) rfl) (mixOf_calls 23 6 11 25 (X 4) _ (by decide) (by decide) (enters Try.func23 (by kernel_rfl) rfl) (turned_calls _ 25 (by decide) (by decide)))) rfl rfl (fun _ _ _ s => s) (fun _ _ s => s) (fun _ _ => ?_)
        refine JD.ev _ rfl rfl rfl (Ev.addU rfl rfl) ?_
        refine JD.ev _ rfl rfl rfl (Ev.addU rfl rfl) ?_
        refine JD.ev _ rfl rfl rfl (Ev.addU rfl rfl) ?_
        refine JD.ev _ rfl rfl rfl (Ev.addU rfl rfl) ?_
        refine JD.tail ?_
        refine JT.ev _ rfl rfl rfl (Ev.assign rfl) ?_
        refine JT.nil (JE.np ?_)
        refine JE.next ?_
        refine J.seq ?_
        refine J.region ?_
        refine JL.ev _ rfl rfl (Ev.move rfl) ?_
        refine JL.ev _ rfl rfl (Ev.sub rfl rfl (i64_in (by omega) (by omega))) ?_
        refine JL.ev _ rfl rfl (Ev.and rfl rfl (and7 _)) ?_
        refine JL.ev _ rfl rfl (Ev.indexAddrA rfl rfl Try.underlying24 (by kernel_rfl) (by omega) (by omega) (j := px 3 t) (px_int 3 t)) ?_
        refine JL.ev _ rfl rfl (Ev.load1 (v := U (X 3)) rfl Try.underlying23 rfl (by repeat (first | exact At.here | apply At.there)) (by rw [arr_get _ (px_lt _ _), xrow_at _ _ _ (by decide)])) ?_
        refine JL.ev _ rfl rfl (Ev.move rfl) ?_
        refine JL.ev _ rfl rfl (Ev.addU rfl rfl) ?_
        refine JL.ev _ rfl rfl (Ev.indexAddrA rfl rfl Try.underlying24 (by kernel_rfl) (by omega) (by omega) (j := px 3 t) (px_int 3 t)) ?_
        refine JL.eff0 (Eff.storeA rfl rfl rfl (by kernel_rfl) (by repeat (first | exact At.here | apply At.there)) (px_lt _ _)) rfl rfl (fun _ _ => ?_)
        refine JL.nil ?_
        refine JE.next ?_
        refine J.region ?_
        refine JL.ev _ rfl rfl (Ev.move rfl) ?_
        refine JL.ev _ rfl rfl (Ev.sub rfl rfl (i64_in (by omega) (by omega))) ?_
        refine JL.ev _ rfl rfl (Ev.and rfl rfl (and7 _)) ?_
        refine JL.ev _ rfl rfl (Ev.move rfl) ?_
        refine JL.ev _ rfl rfl (Ev.loadRow rfl Try.underlying54 rfl (by repeat (first | exact At.here | apply At.there)) (by kernel_rfl)) ?_
        refine JL.ev _ rfl rfl (Ev.move rfl) ?_
        refine JL.eff (Eff.callP rfl (enters Try.func24 (by kernel_rfl) rfl) (mixOf_calls 23 2 13 22 (X 0) _ (by decide) (by decide) (enters Try.func23 (by kernel_rfl) rfl) (turned_calls _ 22 (by decide) (by decide)))) rfl rfl (fun _ _ => ?_)
        refine JL.ev _ rfl rfl (Ev.addU rfl rfl) ?_
        refine JL.ev _ rfl rfl (Ev.move rfl) ?_
        refine JL.ev _ rfl rfl (Ev.move rfl) ?_
        refine JL.ev _ rfl rfl (Ev.andU rfl rfl) ?_
        refine JL.ev _ rfl rfl (Ev.move rfl) ?_
        refine JL.ev _ rfl rfl (Ev.move rfl) ?_
        refine JL.ev _ rfl rfl (Ev.move rfl) ?_
        refine JL.ev _ rfl rfl (Ev.orU rfl rfl) ?_
        refine JL.ev _ rfl rfl (Ev.andU rfl rfl) ?_
        refine JL.ev _ rfl rfl (Ev.orU rfl rfl) ?_
        refine JL.ev _ rfl rfl (Ev.addU rfl rfl) ?_
        refine JL.ev _ rfl rfl (Ev.indexAddrA rfl rfl Try.underlying24 (by kernel_rfl) (by omega) (by omega) (j := px 7 t) (px_int 7 t)) ?_
        refine JL.eff0 (Eff.storeA rfl rfl rfl (by kernel_rfl) (by repeat (first | exact At.here | apply At.there)) (px_lt _ _)) rfl rfl (fun _ _ => ?_)
        refine JL.nil ?_
        refine JE.blockNormal ?_
        refine JE.next ?_
        refine J.region ?_
        refine JL.ev _ rfl rfl (Ev.add rfl rfl (i64_in (by omega) (by omega))) ?_
        refine JL.ev _ rfl rfl (Ev.move rfl) ?_
        refine JL.nil ?_
        first
        | exact JE.back (t + 1) (by omega) (by omega) ⟨rfl, rfl, rfl, rfl, rfl, rfl, rfl, rfl, rfl, rfl, rfl, trivial⟩ (fun w s => by
            rw [hX1, ← xrow_step, ← wrow_lo (w0 l) t (by omega)]
            exact s)
        | exact JE.back (t + 1) (by omega) (by omega) ⟨rfl, rfl, rfl, rfl, rfl, rfl, rfl, rfl, rfl, rfl, rfl, trivial⟩ (fun w s => by
            rw [hX1, ← xrow_step, ← wrow_step (w0 l) t (by omega) _ (W_rec' (w0 l) t (by omega))]
            exact s)
    · try replace ht65 := of_decide_eq_false ht65
      obtain rfl : t = 64 := by omega
      rw [xrow_64, ← hX]
      refine J.exit ?_
      refine JE.thenExit ?_
      refine JE.thenExit ?_
      refine JE.blockHere ?_
      refine JE.next ?_
      refine J.seq ?_
      refine J.seq ?_
      refine J.region ?_
      refine JL.ev _ rfl rfl (Ev.move rfl) ?_
      refine JL.nil ?_
      refine JE.next ?_
      refine J.block ?_
      refine J.loop (σ := Nat) (fun k => k ≤ 8) (fun k => [(2, .pointer (some ⟨g2, 0, none⟩)), (4, .pointer (some ⟨g4, 0, none⟩)), (11, .pointer (some ⟨g11, 0, none⟩)), (180, .int .i64 k)]) (fun k => [cells g11 (arr 8 (fun i => U (rounds kT (w0 l) H 64 i))) 24, cells g4 (arr 8 (fun _ => U 0)) 24, cells g2 (arr 8 (addTo H (rounds kT (w0 l) H 64) k)) 24]) (fun k => 8 - k) 0 (Nat.zero_le _) ⟨rfl, rfl, rfl, rfl, trivial⟩ (fun w s => by rw [addTo_zero]; exact s.sub (by repeat (first | exact List.Sublist.refl _ | exact List.nil_sublist _ | apply List.Sublist.cons_cons | apply List.Sublist.cons))) ?_
      clear ht hX hX1
      intro k hk
      refine J.seq ?_
      refine J.region ?_
      refine JL.ev _ rfl rfl (Ev.lss rfl rfl rfl) ?_
      refine JL.nil ?_
      refine JE.next ?_
      refine J.seq ?_
      refine J.cond _ rfl (fun ht181 => ?_) (fun ht181 => ?_)
      · try replace ht181 := of_decide_eq_true ht181
        refine J.skip ?_
        refine JE.next ?_
        refine J.seq ?_
        refine J.block ?_
        refine J.seq ?_
        refine J.region ?_
        refine JL.ev _ rfl rfl (Ev.move rfl) ?_
        refine JL.ev _ rfl rfl (Ev.assign rfl) ?_
        refine JL.nil ?_
        refine JE.next ?_
        refine J.draw [(0, true), (1, true), (2, true), (3, true), (4, true), (5, true), (6, true)] [7, 8] (by kernel_rfl) (by kernel_rfl) ?_
        refine JD.ev _ rfl rfl rfl (Ev.move rfl) ?_
        refine JD.ev _ rfl rfl rfl (Ev.indexAddrA rfl rfl Try.underlying24 (by kernel_rfl) (by omega) (by omega) (by first | exact idx0 _ | exact Nat.zero_add _)) ?_
        refine JD.ev _ rfl rfl rfl (Ev.load1 (v := U (H k)) rfl Try.underlying23 rfl (by repeat (first | exact At.here | apply At.there)) (by rw [arr_get _ (by omega), addTo_at])) ?_
        refine JD.ev _ rfl rfl rfl (Ev.move rfl) ?_
        refine JD.ev _ rfl rfl rfl (Ev.indexAddrA rfl rfl Try.underlying24 (by kernel_rfl) (by omega) (by omega) (by first | exact idx0 _ | exact Nat.zero_add _)) ?_
        refine JD.ev _ rfl rfl rfl (Ev.loadA rfl Try.underlying23 rfl (by repeat (first | exact At.here | apply At.there)) (by omega)) ?_
        refine JD.ev _ rfl rfl rfl (Ev.addU rfl rfl) ?_
        refine JD.tail ?_
        refine JT.ev _ rfl rfl rfl (Ev.indexAddrA rfl rfl Try.underlying24 (by kernel_rfl) (by omega) (by omega) (by first | exact idx0 _ | exact Nat.zero_add _)) ?_
        refine JT.eff0 rfl (Eff.storeA rfl rfl rfl (by kernel_rfl) (by repeat (first | exact At.here | apply At.there)) (by omega)) rfl rfl (fun _ _ => ?_)
        refine JT.nil (JE.np ?_)
        refine JE.blockNormal ?_
        refine JE.next ?_
        refine J.region ?_
        refine JL.ev _ rfl rfl (Ev.add rfl rfl (i64_in (by omega) (by omega))) ?_
        refine JL.ev _ rfl rfl (Ev.move rfl) ?_
        refine JL.nil ?_
        exact JE.back (k + 1) (by omega) (by omega) ⟨rfl, rfl, rfl, rfl, trivial⟩ (fun w s => by rw [← addTo_step]; exact s)
      · try replace ht181 := of_decide_eq_false ht181
        obtain rfl : k = 8 := by omega
        rw [addTo_all']
        refine J.exit ?_
        refine JE.thenExit ?_
        refine JE.thenExit ?_
        refine JE.blockHere ?_
        refine JE.next ?_
        refine J.seq ?_
        refine J.region ?_
        refine JL.ev _ rfl rfl (Ev.loadAll rfl Try.underlying24 rfl (by repeat (first | exact At.here | apply At.there)) (by kernel_rfl)) ?_
        refine JL.eff0 (Eff.storeAll rfl rfl (by kernel_rfl) (fun _ => rfl) (by repeat (first | exact At.here | apply At.there))) rfl rfl (fun _ _ => ?_)
        refine JL.nil ?_
        refine JE.next ?_
        refine J.ret ?_
        exact JE.retCell rfl rfl (by repeat (first | exact At.here | apply At.there)) Try.underlying24 rfl (by kernel_rfl) fun w' s => ⟨rfl, s.below⟩
end Go.Proofs.Ytimokikpnngikaa
