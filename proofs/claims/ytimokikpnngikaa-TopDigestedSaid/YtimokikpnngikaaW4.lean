/- The walks of bytes, digits, filling up, constants. -/
import Derived.Test.YtimokikpnngikaaProg
import Derived.Test.YtimokikpnngikaaD3
namespace Go.Proofs.Ytimokikpnngikaa
open Go Go.RowKit Go.Proofs Go.Fw Go.Dig
theorem laid_calls (m : Nat) (k : Nat) (hk : k ≤ 8) (hm : m < 18446744073709551616) (w : World) : Calls Try.prog 21 #[D64 m, .int .i64 k] w (Pure1 w (S (laidL m k))) := by
  refine enter (args := [D64 m, .int .i64 k]) 24 Try.func21 rfl rfl (by simp) ?_
  refine J.seq ?_
  refine J.region ?_
  refine JL.ev (S []) rfl rfl (Ev.assign rfl) ?_
  refine JL.nil ?_
  refine JE.next ?_
  refine J.seq ?_
  refine J.region ?_
  refine JL.ev _ rfl rfl (Ev.move rfl) ?_
  refine JL.eff (Eff.makeV (m := k) (z := B8 0) (bytes := 1) rfl rfl Try.underlying22 (by kernel_rfl) rfl (by omega) (by omega)) rfl rfl (fun g _ => ?_)
  refine JL.ev _ rfl rfl (Ev.assign rfl) ?_
  refine JL.nil ?_
  refine JE.next ?_
  refine J.seq ?_
  refine J.seq ?_
  refine J.region ?_
  refine JL.ev _ rfl rfl (Ev.move rfl) ?_
  refine JL.ev _ rfl rfl (Ev.sub rfl rfl (i64_in (by omega) (by omega))) ?_
  refine JL.ev _ rfl rfl (Ev.assign rfl) ?_
  refine JL.nil ?_
  refine JE.next ?_
  refine J.block ?_
  refine J.loop (σ := Nat) (fun j => j ≤ k) (fun j => [(0, D64 (m / 256 ^ (k - j))), (5, .slice (some ⟨g, 0, none⟩) k k), (6, .int .i64 ((j : Int) - 1))]) (fun j => [rowE (.slice (some ⟨g, 0, none⟩) k k) 5 (rng k (laidTo m k j))]) (fun j => j) k (Nat.le_refl _) ⟨by simp only [lk, argsEnv]; rw [Nat.sub_self, Nat.pow_zero, Nat.div_one]; rfl, rfl, rfl, trivial⟩ (fun w s => by rw [← laidTo_start, ← rng_rep]; exact s) ?_
  intro j hj
  refine J.seq ?_
  refine J.seq ?_
  refine J.region ?_
  refine JL.ev _ rfl rfl (Ev.move rfl) ?_
  refine JL.ev _ rfl rfl (Ev.geq rfl rfl rfl) ?_
  refine JL.nil ?_
  refine JE.next ?_
  refine J.cond _ rfl (fun ht12 => ?_) (fun ht12 => ?_)
  · try replace ht12 := of_decide_eq_true ht12
    obtain ⟨i, rfl⟩ : ∃ i, j = i + 1 := ⟨j - 1, by omega⟩
    rw [show ((i + 1 : Nat) : Int) - 1 = (i : Int) by omega]
    have hpos : 0 < 256 ^ (k - (i + 1)) := Nat.pow_pos (by omega)
    have hle : m / 256 ^ (k - (i + 1)) ≤ m := Nat.div_le_self _ _
    refine J.skip ?_
    refine JE.next ?_
    refine J.seq ?_
    refine J.block ?_
    refine J.seq ?_
    refine J.region ?_
    refine JL.ev _ rfl rfl (Ev.move rfl) ?_
    refine JL.ev _ rfl rfl (Ev.move rfl) ?_
    refine JL.ev _ rfl rfl (Ev.move rfl) ?_
    refine JL.ev _ rfl rfl (Ev.convNB rfl Try.underlying49 Try.underlying5) ?_
    refine JL.ev _ rfl rfl (Ev.indexAddrV (xs := rng k (laidTo m k (i + 1))) (e := 5) rfl rfl (by repeat (first | exact At.here | apply At.there)) Try.underlying22 (by kernel_rfl) (by omega) (by rw [rng_len]; omega) (idxN _)) ?_
    refine JL.eff0 (Eff.storeV (e := 5) (xs := rng k (laidTo m k (i + 1))) rfl rfl rfl (by kernel_rfl) (by rw [rng_len]; omega) (by repeat (first | exact At.here | apply At.there))) rfl rfl (fun _ _ => ?_)
    refine JL.nil ?_
    refine JE.next ?_
    refine J.region ?_
    refine JL.ev _ rfl rfl (Ev.move rfl) ?_
    refine JL.ev _ rfl rfl (Ev.quoN (b := 256) rfl rfl (by omega) (by omega)) ?_
    refine JL.ev _ rfl rfl (Ev.assign rfl) ?_
    refine JL.nil ?_
    refine JE.blockNormal ?_
    refine JE.next ?_
    refine J.region ?_
    refine JL.ev _ rfl rfl (Ev.move rfl) ?_
    refine JL.ev _ rfl rfl (Ev.sub rfl rfl (i64_in (by omega) (by omega))) ?_
    refine JL.ev _ rfl rfl (Ev.assign rfl) ?_
    refine JL.nil ?_
    exact JE.back i (by omega) (by omega) ⟨by simp only [lk]; rw [div_step m k i (by omega)]; rfl, rfl, rfl, trivial⟩ (fun w s => by
      rw [rng_set, show k - (i + 1) = k - 1 - i by omega, laidTo_step m k i (by omega)] at s
      exact s)
  · try replace ht12 := of_decide_eq_false ht12
    obtain rfl : j = 0 := by omega
    rw [laidTo_all]
    refine J.exit ?_
    refine JE.thenExit ?_
    refine JE.thenExit ?_
    refine JE.blockHere ?_
    refine JE.next ?_
    refine J.seq ?_
    refine J.region ?_
    refine JL.ev _ rfl rfl (Ev.move rfl) ?_
    refine JL.ev _ rfl rfl (Ev.strV rfl Try.underlying22 Try.underlying5 Try.underlying9 (by repeat (first | exact At.here | apply At.there))) ?_
    refine JL.ev _ rfl rfl (Ev.assign rfl) ?_
    refine JL.nil ?_
    refine JE.next ?_
    refine J.ret ?_
    exact JE.ret1 _ rfl rfl fun w' s => ⟨rfl, s.below⟩
theorem hex_calls (s : List UInt8) (hs : s.length ≤ 1000000) (w : World) : Calls Try.prog 7 #[S s] w (Pure1 w (S (hexL s))) := by
  refine enter (args := [S s]) 27 Try.func7 rfl rfl (by simp) ?_
  refine J.seq ?_
  refine J.region ?_
  refine JL.ev (S []) rfl rfl (Ev.assign rfl) ?_
  refine JL.nil ?_
  refine JE.next ?_
  refine J.seq ?_
  refine J.region ?_
  refine JL.ev (S []) rfl rfl (Ev.assign rfl) ?_
  refine JL.nil ?_
  refine JE.next ?_
  refine J.seq ?_
  refine J.seq ?_
  refine J.region ?_
  refine JL.ev _ rfl rfl (Ev.move rfl) ?_
  refine JL.ev _ rfl rfl (Ev.lenS rfl Try.underlying9) ?_
  refine JL.ev _ rfl rfl (Ev.move rfl) ?_
  refine JL.nil ?_
  refine JE.next ?_
  refine J.block ?_
  refine J.loop (σ := Nat) (fun k => k ≤ s.length) (fun k => [(0, S s), (3, S (hexL (s.take k))), (6, .int .i64 s.length), (7, .int .i64 k)]) (fun _ => []) (fun k => s.length - k) 0 (Nat.zero_le _) ⟨rfl, rfl, rfl, rfl, trivial⟩ (fun w s => s) ?_
  intro k hk
  refine J.seq ?_
  refine J.region ?_
  refine JL.ev _ rfl rfl (Ev.lss rfl rfl rfl) ?_
  refine JL.nil ?_
  refine JE.next ?_
  refine J.seq ?_
  refine J.cond _ rfl (fun ht8 => ?_) (fun ht8 => ?_)
  · try replace ht8 := of_decide_eq_true ht8
    have hkl : k < s.length := by omega
    have hst := hexL_take s k hkl
    have hln : (hexL (s.take k)).length = 2 * (s.take k).length := hexL_len _
    have hl2 : (s.take k).length ≤ 1000000 := Nat.le_trans (List.length_take_le _ _) (by omega)
    have hc := s[k].toNat_lt
    have h1 := hx_len (s[k].toNat / 16) (by omega)
    have h2 := hx_len (s[k].toNat % 16) (by omega)
    refine J.skip ?_
    refine JE.next ?_
    refine J.seq ?_
    refine J.block ?_
    refine J.seq ?_
    refine J.region ?_
    refine JL.ev _ rfl rfl (Ev.move rfl) ?_
    refine JL.ev _ rfl rfl (Ev.assign rfl) ?_
    refine JL.nil ?_
    refine JE.next ?_
    refine J.draw [(0, true), (1, true), (2, true), (3, true), (4, true), (5, true), (6, true), (7, true), (8, true), (9, true), (10, true), (11, true), (12, true), (13, true), (14, true)] [15] (by kernel_rfl) (by kernel_rfl) ?_
    refine JD.ev _ rfl rfl rfl (Ev.move rfl) ?_
    refine JD.ev _ rfl rfl rfl (Ev.move rfl) ?_
    refine JD.ev _ rfl rfl rfl (Ev.move rfl) ?_
    refine JD.ev _ rfl rfl rfl (Ev.indexS rfl rfl Try.underlying9 (by omega) (z := s[k]) (by rw [idxN]; simp [hkl])) ?_
    refine JD.ev _ rfl rfl rfl (Ev.quoB (b := 16) rfl rfl (by decide)) ?_
    refine JD.ev _ rfl rfl rfl (Ev.sliceFrom (a := hexDigits) (i := s[k].toNat / 16) rfl Try.underlying9 rfl (by show _ ≤ 16; omega)) ?_
    refine JD.ev _ rfl rfl rfl (Ev.sliceTo (a := hexDigits.drop (s[k].toNat / 16)) (j := 1) rfl Try.underlying9 rfl (by rw [List.length_drop]; show 1 ≤ 16 - _; omega)) ?_
    refine JD.ev _ rfl rfl rfl (Ev.move rfl) ?_
    refine JD.ev _ rfl rfl rfl (Ev.move rfl) ?_
    refine JD.ev _ rfl rfl rfl (Ev.indexS rfl rfl Try.underlying9 (by omega) (z := s[k]) (by rw [idxN]; simp [hkl])) ?_
    refine JD.ev _ rfl rfl rfl (Ev.remB (b := 16) rfl rfl (by decide)) ?_
    refine JD.ev _ rfl rfl rfl (Ev.sliceFrom (a := hexDigits) (i := s[k].toNat % 16) rfl Try.underlying9 rfl (by show _ ≤ 16; omega)) ?_
    refine JD.ev _ rfl rfl rfl (Ev.sliceTo (a := hexDigits.drop (s[k].toNat % 16)) (j := 1) rfl Try.underlying9 rfl (by rw [List.length_drop]; show 1 ≤ 16 - _; omega)) ?_
    refine JD.ev _ rfl rfl rfl (Ev.addS (a := hx (s[k].toNat / 16)) (b := hx (s[k].toNat % 16)) rfl rfl (by omega)) ?_
    refine JD.ev _ rfl rfl rfl (Ev.addS rfl rfl (by rw [List.length_append]; omega)) ?_
    refine JD.tail ?_
    refine JT.ev _ rfl rfl rfl (Ev.assign rfl) ?_
    refine JT.nil (JE.np ?_)
    refine JE.blockNormal ?_
    refine JE.next ?_
    refine J.region ?_
    refine JL.ev _ rfl rfl (Ev.add rfl rfl (i64_in (by omega) (by omega))) ?_
    refine JL.ev _ rfl rfl (Ev.move rfl) ?_
    refine JL.nil ?_
    exact JE.back (k + 1) (by omega) (by omega) ⟨rfl, by simp only [lk]; rw [hst]; rfl, rfl, rfl, trivial⟩ (fun w s => s)
  · try replace ht8 := of_decide_eq_false ht8
    obtain rfl : k = s.length := by omega
    rw [List.take_length]
    refine J.exit ?_
    refine JE.thenExit ?_
    refine JE.thenExit ?_
    refine JE.blockHere ?_
    refine JE.next ?_
    refine J.seq ?_
    refine J.region ?_
    refine JL.ev _ rfl rfl (Ev.move rfl) ?_
    refine JL.ev _ rfl rfl (Ev.assign rfl) ?_
    refine JL.nil ?_
    refine JE.next ?_
    refine J.ret ?_
    exact JE.ret1 _ rfl rfl fun w' s => ⟨rfl, s.below⟩
theorem filled_calls (s : List UInt8) (hs : s.length ≤ 140737488355328) (w : World) : Calls Try.prog 9 #[S s] w (Pure1 w (S (padL s))) := by
  refine enter (args := [S s]) 20 Try.func9 rfl rfl (by simp) ?_
  refine J.seq ?_
  refine J.region ?_
  refine JL.ev (S []) rfl rfl (Ev.assign rfl) ?_
  refine JL.nil ?_
  refine JE.next ?_
  refine J.seq ?_
  refine J.region ?_
  refine JL.ev _ rfl rfl (Ev.move rfl) ?_
  refine JL.ev _ rfl rfl (Ev.lenS rfl Try.underlying9) ?_
  refine JL.ev _ rfl rfl (Ev.convN rfl Try.underlying3 Try.underlying49 rfl (by omega)) ?_
  refine JL.ev _ rfl rfl (Ev.mulN (b := 8) rfl rfl (by omega)) ?_
  refine JL.ev _ rfl rfl (Ev.assign rfl) ?_
  refine JL.nil ?_
  refine JE.next ?_
  refine J.seq ?_
  refine J.region ?_
  refine JL.ev _ rfl rfl (Ev.move rfl) ?_
  refine JL.ev _ rfl rfl (Ev.addS (b := [128]) rfl rfl (by simp only [List.length_cons, List.length_nil]; omega)) ?_
  refine JL.ev _ rfl rfl (Ev.assign rfl) ?_
  refine JL.nil ?_
  refine JE.next ?_
  refine J.seq ?_
  refine J.block ?_
  refine J.loop (σ := Nat) (fun k => k ≤ zc s.length) (fun k => [(0, S (s ++ [128] ++ List.replicate k 0)), (3, D64 (s.length * 8))]) (fun _ => []) (fun k => zc s.length - k) 0 (Nat.zero_le _) ⟨by simp only [lk]; rw [List.replicate_zero, List.append_nil]; rfl, rfl, trivial⟩ (fun w s => s) ?_
  intro k hk
  have hln : (s ++ [128] ++ List.replicate k 0 : List UInt8).length = s.length + 1 + k := by simp; omega
  have hzc : zc s.length < 64 := Nat.mod_lt _ (by decide)
  refine J.seq ?_
  refine J.seq ?_
  refine J.region ?_
  refine JL.ev _ rfl rfl (Ev.move rfl) ?_
  refine JL.ev _ rfl rfl (Ev.lenS rfl Try.underlying9) ?_
  rw [hln]
  refine JL.ev _ rfl rfl (Ev.rem rfl rfl (by omega) (tmod_nn (by omega))) ?_
  refine JL.ev _ rfl rfl (Ev.neI rfl rfl rfl) ?_
  refine JL.nil ?_
  refine JE.next ?_
  refine J.cond _ rfl (fun ht13 => ?_) (fun ht13 => ?_)
  · try replace ht13 := of_decide_eq_true ht13
    have hk2 : k < zc s.length := by unfold zc at hk ⊢; omega
    refine J.skip ?_
    refine JE.next ?_
    refine J.block ?_
    refine J.region ?_
    refine JL.ev _ rfl rfl (Ev.move rfl) ?_
    refine JL.ev _ rfl rfl (Ev.addS (b := [0]) rfl rfl (by rw [hln]; simp only [List.length_cons, List.length_nil]; omega)) ?_
    refine JL.ev _ rfl rfl (Ev.assign rfl) ?_
    refine JL.nil ?_
    refine JE.blockNormal ?_
    exact JE.back (k + 1) (by omega) (by omega) ⟨by simp only [lk]; rw [List.replicate_succ']; simp [Nat.beq, S], rfl, trivial⟩ (fun w s => s)
  · try replace ht13 := of_decide_eq_false ht13
    obtain rfl : k = zc s.length := by unfold zc at hk ⊢; omega
    refine J.exit ?_
    refine JE.thenExit ?_
    refine JE.thenExit ?_
    refine JE.blockHere ?_
    refine JE.next ?_
    refine J.seq ?_
    refine J.region ?_
    refine JL.ev _ rfl rfl (Ev.move rfl) ?_
    refine JL.ev _ rfl rfl (Ev.move rfl) ?_
    refine JL.eff (Eff.callP rfl (enters Try.func21 (by kernel_rfl) rfl) (laid_calls (s.length * 8) 8 (by decide) (by omega))) rfl rfl (fun _ _ => ?_)
    refine JL.ev _ rfl rfl (Ev.addS rfl rfl (by rw [hln, laidL_len]; omega)) ?_
    refine JL.ev _ rfl rfl (Ev.assign rfl) ?_
    refine JL.nil ?_
    refine JE.next ?_
    refine J.ret ?_
    exact JE.ret1 _ rfl rfl fun w' s => ⟨rfl, s.below⟩
theorem constants_calls (w : World) : Calls Try.prog 10 #[] w (Pure1 w (.agg (arr 64 fun i => U (kT i)))) := by
  rw [show arr 64 (fun i => U (kT i)) = arr 64 (fun i => U (kC i)) from arr_congr fun i hi => by rw [kT_eq i hi]]
  refine enter (args := []) 2 Try.func10 rfl rfl (by simp) ?_
  refine J.seq ?_
  refine J.region ?_
  refine JL.eff (Eff.allocA 64 (fun _ => U 0) (by kernel_rfl)) rfl rfl (fun g0 _ => ?_)
  refine JL.nil ?_
  refine JE.next ?_
  refine J.seq ?_
  refine J.region ?_
  refine JL.ev _ rfl rfl (Ev.closed (v := .agg (arr 64 fun i => U (kC i))) (fun u w => by kernel_rfl)) ?_
  refine JL.eff0 (Eff.storeAll rfl rfl (by kernel_rfl) (fun _ => rfl) (by repeat (first | exact At.here | apply At.there))) rfl rfl (fun _ _ => ?_)
  refine JL.nil ?_
  refine JE.next ?_
  refine J.ret ?_
  exact JE.retCell rfl rfl (by repeat (first | exact At.here | apply At.there)) Try.underlying30 rfl (by kernel_rfl) fun w' s => ⟨rfl, s.below⟩
theorem start_calls (w : World) : Calls Try.prog 11 #[] w (Pure1 w (.agg (arr 8 fun i => U (hT i)))) := by
  rw [show arr 8 (fun i => U (hT i)) = arr 8 (fun i => U (hC i)) from arr_congr fun i hi => by rw [hT_eq i hi]]
  refine enter (args := []) 2 Try.func11 rfl rfl (by simp) ?_
  refine J.seq ?_
  refine J.region ?_
  refine JL.eff (Eff.allocA 8 (fun _ => U 0) (by kernel_rfl)) rfl rfl (fun g0 _ => ?_)
  refine JL.nil ?_
  refine JE.next ?_
  refine J.seq ?_
  refine J.region ?_
  refine JL.ev _ rfl rfl (Ev.closed (v := .agg (arr 8 fun i => U (hC i))) (fun u w => by kernel_rfl)) ?_
  refine JL.eff0 (Eff.storeAll rfl rfl (by kernel_rfl) (fun _ => rfl) (by repeat (first | exact At.here | apply At.there))) rfl rfl (fun _ _ => ?_)
  refine JL.nil ?_
  refine JE.next ?_
  refine J.ret ?_
  exact JE.retCell rfl rfl (by repeat (first | exact At.here | apply At.there)) Try.underlying24 rfl (by kernel_rfl) fun w' s => ⟨rfl, s.below⟩
end Go.Proofs.Ytimokikpnngikaa
