/- The walk of a block, as it is written bit by bit. -/
import Derived.Test.YtimokikpnngikaaW1
import Derived.Test.YtimokikpnngikaaW4
namespace Go.Proofs.Ytimokikpnngikaa
open Go Go.RowKit Go.Proofs Go.Fw Go.Dig
set_option maxHeartbeats 1000000 in
theorem block03_calls (K H : Nat → BitVec 32) (b : List UInt8) (hb : 64 ≤ b.length) (w : World) : Calls Try.prog 13 #[.agg (arr 64 fun i => U (K i)), .agg (arr 8 fun i => U (H i)), S b] w (Pure1 w (.agg (arr 8 fun i => U (blk K H b i)))) := by
  refine enter (args := [.agg (arr 64 fun i => U (K i)), .agg (arr 8 fun i => U (H i)), S b]) 131 Try.func13 rfl rfl (by simp) ?_
  refine J.seq ?_
  refine J.region ?_
  refine JL.eff (Eff.boxA rfl) rfl rfl (fun g3 _ => ?_)
  refine JL.eff (Eff.boxA rfl) rfl rfl (fun g4 _ => ?_)
  refine JL.eff (Eff.allocA 8 (fun _ => U 0) (by kernel_rfl)) rfl rfl (fun g6 _ => ?_)
  refine JL.nil ?_
  refine JE.next ?_
  refine J.seq ?_
  refine J.region ?_
  refine JL.eff (Eff.allocA 64 (fun _ => U 0) (by kernel_rfl)) rfl rfl (fun g7 _ => ?_)
  refine JL.nil ?_
  refine JE.next ?_
  refine J.seq ?_
  refine J.seq ?_
  refine J.region ?_
  refine JL.ev _ rfl rfl (Ev.move rfl) ?_
  refine JL.nil ?_
  refine JE.next ?_
  refine J.block ?_
  refine J.loop (σ := Nat) (fun k => k ≤ 64) (fun k => [(2, S b), (3, .pointer (some ⟨g3, 0, none⟩)), (4, .pointer (some ⟨g4, 0, none⟩)), (6, .pointer (some ⟨g6, 0, none⟩)), (7, .pointer (some ⟨g7, 0, none⟩)), (14, .int .i64 k)]) (fun k => [cells g7 (arr 64 (fillTo (fun t => U (W (w0 b) t)) (U 0) k)) 30, cells g6 (arr 8 (fun _ => U 0)) 24, cells g4 (arr 8 (fun i => U (H i))) 24, cells g3 (arr 64 (fun i => U (K i))) 30]) (fun k => 64 - k) 0 (Nat.zero_le _) ⟨rfl, rfl, rfl, rfl, rfl, rfl, trivial⟩ (fun w s => by rw [fillTo_zero]; exact s) ?_
  intro k hk
  refine J.seq ?_
  refine J.region ?_
  refine JL.ev _ rfl rfl (Ev.lss rfl rfl rfl) ?_
  refine JL.nil ?_
  refine JE.next ?_
  refine J.seq ?_
  refine J.cond _ rfl (fun ht15 => ?_) (fun ht15 => ?_)
  · try replace ht15 := of_decide_eq_true ht15
    refine J.skip ?_
    refine JE.next ?_
    refine J.seq ?_
    refine J.block ?_
    refine J.seq ?_
    refine J.region ?_
    refine JL.ev _ rfl rfl (Ev.move rfl) ?_
    refine JL.ev _ rfl rfl (Ev.assign rfl) ?_
    refine JL.nil ?_
    refine JE.next ?_
    refine J.seq ?_
    refine J.seq ?_
    refine J.region ?_
    refine JL.ev _ rfl rfl (Ev.move rfl) ?_
    refine JL.ev _ rfl rfl (Ev.lss rfl rfl rfl) ?_
    refine JL.nil ?_
    refine JE.next ?_
    refine J.cond _ rfl (fun ht18 => ?_) (fun ht18 => ?_)
    · try replace ht18 := of_decide_eq_true ht18
      refine J.seq ?_
      refine J.seq ?_
      refine J.region ?_
      refine JL.ev _ rfl rfl (Ev.move rfl) ?_
      refine JL.nil ?_
      refine JE.next ?_
      refine J.block ?_
      refine J.loop (σ := Nat) (fun j => j ≤ 4) (fun j => [(2, S b), (3, .pointer (some ⟨g3, 0, none⟩)), (4, .pointer (some ⟨g4, 0, none⟩)), (6, .pointer (some ⟨g6, 0, none⟩)), (7, .pointer (some ⟨g7, 0, none⟩)), (14, .int .i64 k), (8, .int .i64 k), (19, .int .i64 j)]) (fun j => [cells g7 (arr 64 (upd (fillTo (fun t => U (W (w0 b) t)) (U 0) k) k (U (wp b k j)))) 30, cells g6 (arr 8 (fun _ => U 0)) 24, cells g4 (arr 8 (fun i => U (H i))) 24, cells g3 (arr 64 (fun i => U (K i))) 30]) (fun j => 4 - j) 0 (Nat.zero_le _) ⟨rfl, rfl, rfl, rfl, rfl, rfl, rfl, rfl, trivial⟩ (fun w s => by rw [show U (wp b k 0) = U 0 from rfl, upd_id _ _ _ (fillTo_ge _ _ (Nat.le_refl _))]; exact s) ?_
      intro j hj
      refine J.seq ?_
      refine J.region ?_
      refine JL.ev _ rfl rfl (Ev.lss rfl rfl rfl) ?_
      refine JL.nil ?_
      refine JE.next ?_
      refine J.seq ?_
      refine J.cond _ rfl (fun ht20 => ?_) (fun ht20 => ?_)
      · try replace ht20 := of_decide_eq_true ht20
        refine J.skip ?_
        refine JE.next ?_
        refine J.seq ?_
        refine J.block ?_
        refine J.seq ?_
        refine J.region ?_
        refine JL.ev _ rfl rfl (Ev.move rfl) ?_
        refine JL.ev _ rfl rfl (Ev.assign rfl) ?_
        refine JL.nil ?_
        refine JE.next ?_
        refine J.draw [(0, true), (1, true), (2, true), (3, true), (4, true), (5, true), (6, true), (7, true), (8, true), (9, true), (10, true), (11, true), (12, true)] [13, 14] (by kernel_rfl) (by kernel_rfl) ?_
        refine JD.ev _ rfl rfl rfl (Ev.move rfl) ?_
        refine JD.ev _ rfl rfl rfl (Ev.move rfl) ?_
        refine JD.ev _ rfl rfl rfl (Ev.indexAddrA rfl rfl Try.underlying30 (by kernel_rfl) (by omega) (by omega) (by first | exact idx0 _ | exact Nat.zero_add _)) ?_
        refine JD.ev _ rfl rfl rfl (Ev.load1 (v := U (wp b k j)) rfl Try.underlying23 rfl (by repeat (first | exact At.here | apply At.there)) (by rw [arr_get _ (by omega), upd_same])) ?_
        refine JD.ev _ rfl rfl rfl (Ev.mulU (b := 256) rfl rfl) ?_
        refine JD.ev _ rfl rfl rfl (Ev.move rfl) ?_
        refine JD.ev _ rfl rfl rfl (Ev.move rfl) ?_
        refine JD.ev _ rfl rfl rfl (Ev.mul rfl rfl (i64_in (by omega) (by omega))) ?_
        refine JD.ev _ rfl rfl rfl (Ev.move rfl) ?_
        refine JD.ev _ rfl rfl rfl (Ev.add rfl rfl (i64_in (by omega) (by omega))) ?_
        refine JD.ev _ rfl rfl rfl (Ev.indexS rfl rfl Try.underlying9 (by omega) (z := byteAt b (4 * k + j)) (by rw [show (4 * (k : Int) + (j : Int)).toNat = 4 * k + j by omega]; exact byteAt_get (by omega))) ?_
        refine JD.ev _ rfl rfl rfl (Ev.convBU rfl Try.underlying5 Try.underlying23) ?_
        refine JD.ev _ rfl rfl rfl (Ev.addU rfl rfl) ?_
        refine JD.tail ?_
        refine JT.ev _ rfl rfl rfl (Ev.indexAddrA rfl rfl Try.underlying30 (by kernel_rfl) (by omega) (by omega) (by first | exact idx0 _ | exact Nat.zero_add _)) ?_
        refine JT.eff0 rfl (Eff.storeA rfl rfl rfl (by kernel_rfl) (by repeat (first | exact At.here | apply At.there)) (by omega)) rfl rfl (fun _ _ => ?_)
        refine JT.nil (JE.np ?_)
        refine JE.blockNormal ?_
        refine JE.next ?_
        refine J.region ?_
        refine JL.ev _ rfl rfl (Ev.add rfl rfl (i64_in (by omega) (by omega))) ?_
        refine JL.ev _ rfl rfl (Ev.move rfl) ?_
        refine JL.nil ?_
        exact JE.back (j + 1) (by omega) (by omega) ⟨rfl, rfl, rfl, rfl, rfl, rfl, rfl, rfl, trivial⟩ (fun w s => by rw [upd_upd] at s; exact s)
      · try replace ht20 := of_decide_eq_false ht20
        obtain rfl : j = 4 := by omega
        refine J.exit ?_
        refine JE.thenExit ?_
        refine JE.thenExit ?_
        refine JE.blockHere ?_
        refine JE.next ?_
        refine J.exit ?_
        refine JE.thenExit ?_
        refine JE.blockHere ?_
        refine JE.next ?_
        refine J.region ?_
        refine JL.ev _ rfl rfl (Ev.add rfl rfl (i64_in (by omega) (by omega))) ?_
        refine JL.ev _ rfl rfl (Ev.move rfl) ?_
        refine JL.nil ?_
        first
        | exact JE.back (k + 1) (by omega) (by omega) ⟨rfl, rfl, rfl, rfl, rfl, rfl, trivial⟩ (fun w s => by
            rw [← fillTo_step (fun t => U (W (w0 b) t)) (U 0) k (U (wp b k 4)) (by rw [W_low _ _ (by omega)]; rfl)]
            exact s)
        | exact JE.back (k + 1) (by omega) (by omega) ⟨rfl, rfl, rfl, rfl, rfl, rfl, trivial⟩ (fun w s => by
            rw [← fillTo_step (fun t => U (W (w0 b) t)) (U 0) k _ (congrArg U (W_rec (w0 b) k (by omega)).symm)]
            exact s)
    · try replace ht18 := of_decide_eq_false ht18
      refine J.skip ?_
      refine JE.next ?_
      refine J.draw [(0, true), (1, true), (2, true), (3, true), (4, true), (6, true), (7, true), (8, true), (9, true), (11, true), (12, true), (13, true), (14, true), (17, true), (18, true), (19, true), (20, true), (5, false), (10, true), (15, false), (16, true), (21, true)] [22, 23] (by kernel_rfl) (by kernel_rfl) ?_
      refine JD.ev _ rfl rfl rfl (Ev.move rfl) ?_
      refine JD.ev _ rfl rfl rfl (Ev.move rfl) ?_
      refine JD.ev _ rfl rfl rfl (Ev.sub rfl rfl (i64_in (by omega) (by omega))) ?_
      refine JD.ev _ rfl rfl rfl (Ev.indexAddrA rfl rfl Try.underlying30 (by kernel_rfl) (by omega) (by omega) (j := k - 2) (by omega)) ?_
      refine JD.ev _ rfl rfl rfl (Ev.load1 (v := U (W (w0 b) (k - 2))) rfl Try.underlying23 rfl (by repeat (first | exact At.here | apply At.there)) (by rw [arr_get _ (by omega), fillTo_lt _ _ (by omega)])) ?_
      refine JD.ev _ rfl rfl rfl (Ev.move rfl) ?_
      refine JD.ev _ rfl rfl rfl (Ev.sub rfl rfl (i64_in (by omega) (by omega))) ?_
      refine JD.ev _ rfl rfl rfl (Ev.indexAddrA rfl rfl Try.underlying30 (by kernel_rfl) (by omega) (by omega) (j := k - 7) (by omega)) ?_
      refine JD.ev _ rfl rfl rfl (Ev.load1 (v := U (W (w0 b) (k - 7))) rfl Try.underlying23 rfl (by repeat (first | exact At.here | apply At.there)) (by rw [arr_get _ (by omega), fillTo_lt _ _ (by omega)])) ?_
      refine JD.ev _ rfl rfl rfl (Ev.move rfl) ?_
      refine JD.ev _ rfl rfl rfl (Ev.sub rfl rfl (i64_in (by omega) (by omega))) ?_
      refine JD.ev _ rfl rfl rfl (Ev.indexAddrA rfl rfl Try.underlying30 (by kernel_rfl) (by omega) (by omega) (j := k - 15) (by omega)) ?_
      refine JD.ev _ rfl rfl rfl (Ev.load1 (v := U (W (w0 b) (k - 15))) rfl Try.underlying23 rfl (by repeat (first | exact At.here | apply At.there)) (by rw [arr_get _ (by omega), fillTo_lt _ _ (by omega)])) ?_
      refine JD.ev _ rfl rfl rfl (Ev.move rfl) ?_
      refine JD.ev _ rfl rfl rfl (Ev.sub rfl rfl (i64_in (by omega) (by omega))) ?_
      refine JD.ev _ rfl rfl rfl (Ev.indexAddrA rfl rfl Try.underlying30 (by kernel_rfl) (by omega) (by omega) (j := k - 16) (by omega)) ?_
      refine JD.ev _ rfl rfl rfl (Ev.load1 (v := U (W (w0 b) (k - 16))) rfl Try.underlying23 rfl (by repeat (first | exact At.here | apply At.there)) (by rw [arr_get _ (by omega), fillTo_lt _ _ (by omega)])) ?_
      refine JD.eff (fun _ => _) rfl (Eff.callP rfl (enters Try.func25 (by kernel_rfl) rfl) (mixP_calls _ 17 19 10 (by decide) (by decide) (by decide))) rfl rfl (fun _ _ _ s => s) (fun _ _ s => s) (fun _ _ => ?_)
      refine JD.ev _ rfl rfl rfl (Ev.addU rfl rfl) ?_
      refine JD.eff (fun _ => _) rfl (Eff.callP rfl (enters Try.func25 (by kernel_rfl) rfl) (mixP_calls _ 7 18 3 (by decide) (by decide) (by decide))) rfl rfl (fun _ _ _ s => s) (fun _ _ s => s) (fun _ _ => ?_)
      refine JD.ev _ rfl rfl rfl (Ev.addU rfl rfl) ?_
      refine JD.ev _ rfl rfl rfl (Ev.addU rfl rfl) ?_
      refine JD.tail ?_
      refine JT.ev _ rfl rfl rfl (Ev.indexAddrA rfl rfl Try.underlying30 (by kernel_rfl) (by omega) (by omega) (by first | exact idx0 _ | exact Nat.zero_add _)) ?_
      refine JT.eff0 rfl (Eff.storeA rfl rfl rfl (by kernel_rfl) (by repeat (first | exact At.here | apply At.there)) (by omega)) rfl rfl (fun _ _ => ?_)
      refine JT.nil (JE.np ?_)
      refine JE.blockNormal ?_
      refine JE.next ?_
      refine J.region ?_
      refine JL.ev _ rfl rfl (Ev.add rfl rfl (i64_in (by omega) (by omega))) ?_
      refine JL.ev _ rfl rfl (Ev.move rfl) ?_
      refine JL.nil ?_
      first
      | exact JE.back (k + 1) (by omega) (by omega) ⟨rfl, rfl, rfl, rfl, rfl, rfl, trivial⟩ (fun w s => by
          rw [← fillTo_step (fun t => U (W (w0 b) t)) (U 0) k (U (wp b k 4)) (by rw [W_low _ _ (by omega)]; rfl)]
          exact s)
      | exact JE.back (k + 1) (by omega) (by omega) ⟨rfl, rfl, rfl, rfl, rfl, rfl, trivial⟩ (fun w s => by
          rw [← fillTo_step (fun t => U (W (w0 b) t)) (U 0) k _ (congrArg U (W_rec (w0 b) k (by omega)).symm)]
          exact s)
  · try replace ht15 := of_decide_eq_false ht15
    obtain rfl : k = 64 := by omega
    rw [fillTo_all]
    refine J.exit ?_
    refine JE.thenExit ?_
    refine JE.thenExit ?_
    refine JE.blockHere ?_
    refine JE.next ?_
    refine J.seq ?_
    refine J.region ?_
    refine JL.ev _ rfl rfl (Ev.loadAll rfl Try.underlying24 rfl (by repeat (first | exact At.here | apply At.there)) (by kernel_rfl)) ?_
    refine JL.eff (Eff.allocA 8 (fun _ => U 0) (by kernel_rfl)) rfl rfl (fun g10 _ => ?_)
    refine JL.eff0 (Eff.storeAll rfl rfl (by kernel_rfl) (fun _ => rfl) (by repeat (first | exact At.here | apply At.there))) rfl rfl (fun _ _ => ?_)
    refine JL.nil ?_
    refine JE.next ?_
    refine J.seq ?_
    refine J.seq ?_
    refine J.region ?_
    refine JL.ev _ rfl rfl (Ev.move rfl) ?_
    refine JL.nil ?_
    refine JE.next ?_
    refine J.block ?_
    refine J.loop (σ := Nat) (fun t => t ≤ 64) (fun t => [(3, .pointer (some ⟨g3, 0, none⟩)), (4, .pointer (some ⟨g4, 0, none⟩)), (6, .pointer (some ⟨g6, 0, none⟩)), (7, .pointer (some ⟨g7, 0, none⟩)), (10, .pointer (some ⟨g10, 0, none⟩)), (62, .int .i64 t)]) (fun t => [cells g10 (arr 8 (fun i => U (rounds K (w0 b) H t i))) 24, cells g7 (arr 64 (fun t => U (W (w0 b) t))) 30, cells g6 (arr 8 (fun _ => U 0)) 24, cells g4 (arr 8 (fun i => U (H i))) 24, cells g3 (arr 64 (fun i => U (K i))) 30]) (fun t => 64 - t) 0 (Nat.zero_le _) ⟨rfl, rfl, rfl, rfl, rfl, rfl, trivial⟩ (fun w s => s) ?_
    clear hk
    intro t ht
    obtain ⟨X, hX⟩ : ∃ X, rounds K (w0 b) H t = X := ⟨_, rfl⟩
    have hX1 : rounds K (w0 b) H (t + 1) = rnd (K t) (W (w0 b) t) X := by rw [← hX]; rfl
    rw [hX]
    refine J.seq ?_
    refine J.region ?_
    refine JL.ev _ rfl rfl (Ev.lss rfl rfl rfl) ?_
    refine JL.nil ?_
    refine JE.next ?_
    refine J.seq ?_
    refine J.cond _ rfl (fun ht63 => ?_) (fun ht63 => ?_)
    · try replace ht63 := of_decide_eq_true ht63
      refine J.skip ?_
      refine JE.next ?_
      refine J.seq ?_
      refine J.block ?_
      refine J.seq ?_
      refine J.region ?_
      refine JL.ev _ rfl rfl (Ev.move rfl) ?_
      refine JL.ev _ rfl rfl (Ev.assign rfl) ?_
      refine JL.nil ?_
      refine JE.next ?_
      refine J.seq ?_
      refine J.draw [(0, true), (1, true), (2, true), (3, true), (6, true), (7, true), (8, true), (9, true), (10, true), (11, true), (14, true), (15, true), (16, true), (18, true), (19, true), (20, true), (4, false), (5, true), (12, false), (13, true), (17, true), (21, true)] [22] (by kernel_rfl) (by kernel_rfl) ?_
      refine JD.ev _ rfl rfl rfl (Ev.indexAddrA rfl rfl Try.underlying24 (by kernel_rfl) (by omega) (by omega) (j := 7) rfl) ?_
      refine JD.ev _ rfl rfl rfl (Ev.loadA rfl Try.underlying23 rfl (by repeat (first | exact At.here | apply At.there)) (by omega)) ?_
      refine JD.ev _ rfl rfl rfl (Ev.indexAddrA rfl rfl Try.underlying24 (by kernel_rfl) (by omega) (by omega) (j := 4) rfl) ?_
      refine JD.ev _ rfl rfl rfl (Ev.loadA rfl Try.underlying23 rfl (by repeat (first | exact At.here | apply At.there)) (by omega)) ?_
      refine JD.ev _ rfl rfl rfl (Ev.indexAddrA rfl rfl Try.underlying24 (by kernel_rfl) (by omega) (by omega) (j := 4) rfl) ?_
      refine JD.ev _ rfl rfl rfl (Ev.loadA rfl Try.underlying23 rfl (by repeat (first | exact At.here | apply At.there)) (by omega)) ?_
      refine JD.ev _ rfl rfl rfl (Ev.indexAddrA rfl rfl Try.underlying24 (by kernel_rfl) (by omega) (by omega) (j := 5) rfl) ?_
      refine JD.ev _ rfl rfl rfl (Ev.loadA rfl Try.underlying23 rfl (by repeat (first | exact At.here | apply At.there)) (by omega)) ?_
      refine JD.ev _ rfl rfl rfl (Ev.indexAddrA rfl rfl Try.underlying24 (by kernel_rfl) (by omega) (by omega) (j := 6) rfl) ?_
      refine JD.ev _ rfl rfl rfl (Ev.loadA rfl Try.underlying23 rfl (by repeat (first | exact At.here | apply At.there)) (by omega)) ?_
      refine JD.ev _ rfl rfl rfl (Ev.move rfl) ?_
      refine JD.ev _ rfl rfl rfl (Ev.indexAddrA rfl rfl Try.underlying30 (by kernel_rfl) (by omega) (by omega) (by first | exact idx0 _ | exact Nat.zero_add _)) ?_
      refine JD.ev _ rfl rfl rfl (Ev.loadA rfl Try.underlying23 rfl (by repeat (first | exact At.here | apply At.there)) (by omega)) ?_
      refine JD.ev _ rfl rfl rfl (Ev.move rfl) ?_
      refine JD.ev _ rfl rfl rfl (Ev.indexAddrA rfl rfl Try.underlying30 (by kernel_rfl) (by omega) (by omega) (by first | exact idx0 _ | exact Nat.zero_add _)) ?_
      refine JD.ev _ rfl rfl rfl (Ev.loadA rfl Try.underlying23 rfl (by repeat (first | exact At.here | apply At.there)) (by omega)) ?_
      refine JD.eff (fun _ => _) rfl (Eff.callP rfl (enters Try.func25 (by kernel_rfl) rfl) (mixT_calls _ 6 11 25 (by decide) (by decide) (by decide))) rfl rfl (fun _ _ _ s => s) (fun _ _ s => s) (fun _ _ => ?_)
      refine JD.ev _ rfl rfl rfl (Ev.addU rfl rfl) ?_
      refine JD.eff (fun _ => _) rfl (Eff.callP rfl (enters Try.func26 (by kernel_rfl) rfl) (ch_calls _ _ _)) rfl rfl (fun _ _ _ s => s) (fun _ _ s => s) (fun _ _ => ?_)
      refine JD.ev _ rfl rfl rfl (Ev.addU rfl rfl) ?_
      refine JD.ev _ rfl rfl rfl (Ev.addU rfl rfl) ?_
      refine JD.ev _ rfl rfl rfl (Ev.addU rfl rfl) ?_
      refine JD.tail ?_
      refine JT.ev _ rfl rfl rfl (Ev.assign rfl) ?_
      refine JT.nil (JE.np ?_)
      refine JE.next ?_
      refine J.draw [(0, true), (1, true), (2, true), (5, true), (6, true), (7, true), (8, true), (9, true), (10, true), (13, true), (14, true), (15, true), (16, true), (17, true), (18, true), (19, true), (20, true), (21, true), (22, true), (23, true), (24, true), (25, true), (26, true), (27, true), (28, true), (3, false), (4, true), (11, false), (12, true), (29, true)] [30] (by kernel_rfl) (by kernel_rfl) ?_
      refine JD.ev _ rfl rfl rfl (Ev.move rfl) ?_
      refine JD.ev _ rfl rfl rfl (Ev.indexAddrA rfl rfl Try.underlying24 (by kernel_rfl) (by omega) (by omega) (j := 0) rfl) ?_
      refine JD.ev _ rfl rfl rfl (Ev.loadA rfl Try.underlying23 rfl (by repeat (first | exact At.here | apply At.there)) (by omega)) ?_
      refine JD.ev _ rfl rfl rfl (Ev.indexAddrA rfl rfl Try.underlying24 (by kernel_rfl) (by omega) (by omega) (j := 0) rfl) ?_
      refine JD.ev _ rfl rfl rfl (Ev.loadA rfl Try.underlying23 rfl (by repeat (first | exact At.here | apply At.there)) (by omega)) ?_
      refine JD.ev _ rfl rfl rfl (Ev.indexAddrA rfl rfl Try.underlying24 (by kernel_rfl) (by omega) (by omega) (j := 1) rfl) ?_
      refine JD.ev _ rfl rfl rfl (Ev.loadA rfl Try.underlying23 rfl (by repeat (first | exact At.here | apply At.there)) (by omega)) ?_
      refine JD.ev _ rfl rfl rfl (Ev.indexAddrA rfl rfl Try.underlying24 (by kernel_rfl) (by omega) (by omega) (j := 2) rfl) ?_
      refine JD.ev _ rfl rfl rfl (Ev.loadA rfl Try.underlying23 rfl (by repeat (first | exact At.here | apply At.there)) (by omega)) ?_
      refine JD.ev _ rfl rfl rfl (Ev.indexAddrA rfl rfl Try.underlying24 (by kernel_rfl) (by omega) (by omega) (j := 0) rfl) ?_
      refine JD.ev _ rfl rfl rfl (Ev.loadA rfl Try.underlying23 rfl (by repeat (first | exact At.here | apply At.there)) (by omega)) ?_
      refine JD.ev _ rfl rfl rfl (Ev.indexAddrA rfl rfl Try.underlying24 (by kernel_rfl) (by omega) (by omega) (j := 1) rfl) ?_
      refine JD.ev _ rfl rfl rfl (Ev.loadA rfl Try.underlying23 rfl (by repeat (first | exact At.here | apply At.there)) (by omega)) ?_
      refine JD.ev _ rfl rfl rfl (Ev.indexAddrA rfl rfl Try.underlying24 (by kernel_rfl) (by omega) (by omega) (j := 2) rfl) ?_
      refine JD.ev _ rfl rfl rfl (Ev.loadA rfl Try.underlying23 rfl (by repeat (first | exact At.here | apply At.there)) (by omega)) ?_
      refine JD.ev _ rfl rfl rfl (Ev.indexAddrA rfl rfl Try.underlying24 (by kernel_rfl) (by omega) (by omega) (j := 3) rfl) ?_
      refine JD.ev _ rfl rfl rfl (Ev.loadA rfl Try.underlying23 rfl (by repeat (first | exact At.here | apply At.there)) (by omega)) ?_
      refine JD.ev _ rfl rfl rfl (Ev.move rfl) ?_
      refine JD.ev _ rfl rfl rfl (Ev.addU rfl rfl) ?_
      refine JD.ev _ rfl rfl rfl (Ev.indexAddrA rfl rfl Try.underlying24 (by kernel_rfl) (by omega) (by omega) (j := 4) rfl) ?_
      refine JD.ev _ rfl rfl rfl (Ev.loadA rfl Try.underlying23 rfl (by repeat (first | exact At.here | apply At.there)) (by omega)) ?_
      refine JD.ev _ rfl rfl rfl (Ev.indexAddrA rfl rfl Try.underlying24 (by kernel_rfl) (by omega) (by omega) (j := 5) rfl) ?_
      refine JD.ev _ rfl rfl rfl (Ev.loadA rfl Try.underlying23 rfl (by repeat (first | exact At.here | apply At.there)) (by omega)) ?_
      refine JD.ev _ rfl rfl rfl (Ev.indexAddrA rfl rfl Try.underlying24 (by kernel_rfl) (by omega) (by omega) (j := 6) rfl) ?_
      refine JD.ev _ rfl rfl rfl (Ev.loadA rfl Try.underlying23 rfl (by repeat (first | exact At.here | apply At.there)) (by omega)) ?_
      refine JD.eff (fun _ => _) rfl (Eff.callP rfl (enters Try.func25 (by kernel_rfl) rfl) (mixT_calls _ 2 13 22 (by decide) (by decide) (by decide))) rfl rfl (fun _ _ _ s => s) (fun _ _ s => s) (fun _ _ => ?_)
      refine JD.ev _ rfl rfl rfl (Ev.addU rfl rfl) ?_
      refine JD.eff (fun _ => _) rfl (Eff.callP rfl (enters Try.func26 (by kernel_rfl) rfl) (mj_calls _ _ _)) rfl rfl (fun _ _ _ s => s) (fun _ _ s => s) (fun _ _ => ?_)
      refine JD.ev _ rfl rfl rfl (Ev.addU rfl rfl) ?_
      refine JD.ev _ rfl rfl rfl (Ev.closed (v := .agg (arr 8 fun i => U (rnd (K t) (W (w0 b) t) X i))) (fun u w => by kernel_rfl)) ?_
      refine JD.tail ?_
      refine JT.eff0 rfl (Eff.storeAll rfl rfl (by kernel_rfl) (fun _ => rfl) (by repeat (first | exact At.here | apply At.there))) rfl rfl (fun _ _ => ?_)
      refine JT.nil (JE.np ?_)
      refine JE.blockNormal ?_
      refine JE.next ?_
      refine J.region ?_
      refine JL.ev _ rfl rfl (Ev.add rfl rfl (i64_in (by omega) (by omega))) ?_
      refine JL.ev _ rfl rfl (Ev.move rfl) ?_
      refine JL.nil ?_
      exact JE.back (t + 1) (by omega) (by omega) ⟨rfl, rfl, rfl, rfl, rfl, rfl, trivial⟩ (fun w s => by rw [hX1]; exact s)
    · try replace ht63 := of_decide_eq_false ht63
      obtain rfl : t = 64 := by omega
      rw [← hX]
      refine J.exit ?_
      refine JE.thenExit ?_
      refine JE.thenExit ?_
      refine JE.blockHere ?_
      refine JE.next ?_
      refine J.seq ?_
      refine J.seq ?_
      refine J.region ?_
      refine JL.ev _ rfl rfl (Ev.move rfl) ?_
      refine JL.nil ?_
      refine JE.next ?_
      refine J.block ?_
      refine J.loop (σ := Nat) (fun k => k ≤ 8) (fun k => [(4, .pointer (some ⟨g4, 0, none⟩)), (6, .pointer (some ⟨g6, 0, none⟩)), (10, .pointer (some ⟨g10, 0, none⟩)), (118, .int .i64 k)]) (fun k => [cells g10 (arr 8 (addTo (rounds K (w0 b) H 64) H k)) 24, cells g6 (arr 8 (fun _ => U 0)) 24, cells g4 (arr 8 (fun i => U (H i))) 24]) (fun k => 8 - k) 0 (Nat.zero_le _) ⟨rfl, rfl, rfl, rfl, trivial⟩ (fun w s => by rw [addTo_zero]; exact s.sub (by repeat (first | exact List.Sublist.refl _ | exact List.nil_sublist _ | apply List.Sublist.cons_cons | apply List.Sublist.cons))) ?_
      clear ht hX hX1
      intro k hk
      refine J.seq ?_
      refine J.region ?_
      refine JL.ev _ rfl rfl (Ev.lss rfl rfl rfl) ?_
      refine JL.nil ?_
      refine JE.next ?_
      refine J.seq ?_
      refine J.cond _ rfl (fun ht119 => ?_) (fun ht119 => ?_)
      · try replace ht119 := of_decide_eq_true ht119
        refine J.skip ?_
        refine JE.next ?_
        refine J.seq ?_
        refine J.block ?_
        refine J.seq ?_
        refine J.region ?_
        refine JL.ev _ rfl rfl (Ev.move rfl) ?_
        refine JL.ev _ rfl rfl (Ev.assign rfl) ?_
        refine JL.nil ?_
        refine JE.next ?_
        refine J.draw [(0, true), (1, true), (2, true), (3, true), (4, true), (5, true), (6, true)] [7, 8] (by kernel_rfl) (by kernel_rfl) ?_
        refine JD.ev _ rfl rfl rfl (Ev.move rfl) ?_
        refine JD.ev _ rfl rfl rfl (Ev.indexAddrA rfl rfl Try.underlying24 (by kernel_rfl) (by omega) (by omega) (by first | exact idx0 _ | exact Nat.zero_add _)) ?_
        refine JD.ev _ rfl rfl rfl (Ev.load1 (v := U (rounds K (w0 b) H 64 k)) rfl Try.underlying23 rfl (by repeat (first | exact At.here | apply At.there)) (by rw [arr_get _ (by omega), addTo_at])) ?_
        refine JD.ev _ rfl rfl rfl (Ev.move rfl) ?_
        refine JD.ev _ rfl rfl rfl (Ev.indexAddrA rfl rfl Try.underlying24 (by kernel_rfl) (by omega) (by omega) (by first | exact idx0 _ | exact Nat.zero_add _)) ?_
        refine JD.ev _ rfl rfl rfl (Ev.loadA rfl Try.underlying23 rfl (by repeat (first | exact At.here | apply At.there)) (by omega)) ?_
        refine JD.ev _ rfl rfl rfl (Ev.addU rfl rfl) ?_
        refine JD.tail ?_
        refine JT.ev _ rfl rfl rfl (Ev.indexAddrA rfl rfl Try.underlying24 (by kernel_rfl) (by omega) (by omega) (by first | exact idx0 _ | exact Nat.zero_add _)) ?_
        refine JT.eff0 rfl (Eff.storeA rfl rfl rfl (by kernel_rfl) (by repeat (first | exact At.here | apply At.there)) (by omega)) rfl rfl (fun _ _ => ?_)
        refine JT.nil (JE.np ?_)
        refine JE.blockNormal ?_
        refine JE.next ?_
        refine J.region ?_
        refine JL.ev _ rfl rfl (Ev.add rfl rfl (i64_in (by omega) (by omega))) ?_
        refine JL.ev _ rfl rfl (Ev.move rfl) ?_
        refine JL.nil ?_
        exact JE.back (k + 1) (by omega) (by omega) ⟨rfl, rfl, rfl, rfl, trivial⟩ (fun w s => by rw [← addTo_step]; exact s)
      · try replace ht119 := of_decide_eq_false ht119
        obtain rfl : k = 8 := by omega
        rw [addTo_all]
        refine J.exit ?_
        refine JE.thenExit ?_
        refine JE.thenExit ?_
        refine JE.blockHere ?_
        refine JE.next ?_
        refine J.seq ?_
        refine J.region ?_
        refine JL.ev _ rfl rfl (Ev.loadAll rfl Try.underlying24 rfl (by repeat (first | exact At.here | apply At.there)) (by kernel_rfl)) ?_
        refine JL.eff0 (Eff.storeAll rfl rfl (by kernel_rfl) (fun _ => rfl) (by repeat (first | exact At.here | apply At.there))) rfl rfl (fun _ _ => ?_)
        refine JL.nil ?_
        refine JE.next ?_
        refine J.ret ?_
        exact JE.retCell rfl rfl (by repeat (first | exact At.here | apply At.there)) Try.underlying24 rfl (by kernel_rfl) fun w' s => ⟨rfl, s.below⟩
end Go.Proofs.Ytimokikpnngikaa
