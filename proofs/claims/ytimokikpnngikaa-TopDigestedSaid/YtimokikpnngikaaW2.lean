/- The walks of the great numbers: products, comparisons, roots, primes, tables. -/
import Derived.Test.YtimokikpnngikaaProg
import Derived.Test.YtimokikpnngikaaD1
import Derived.Test.YtimokikpnngikaaD2
import Derived.Test.YtimokikpnngikaaFr
namespace Go.Proofs.Ytimokikpnngikaa
open Go Go.RowKit Go.Proofs Go.Fw Go.Dig
/-- A new row of digits that is answered. -/
def NewDigs (w : World) (M : Nat) (φ : (Nat → Nat) → Prop) (e : Ending) (w' : World) : Prop :=
  ∃ g D, e = .returned (.slice (some ⟨g, 0, none⟩) M M) ∧ Below w.heap.size w w' ∧ w.heap.size ≤ g ∧ (rowE (.slice (some ⟨g, 0, none⟩) M M) 49 (digs M D)).ok w' ∧ (∀ i, D i < 65536) ∧ φ D
theorem times_calls (A B : Nat → Nat) (na nb ga gb ca cb : Nat) (hA : ∀ i, A i < 65536) (hB : ∀ i, B i < 65536) (hna : na ≤ 10) (hnb : nb ≤ 10) (w : World) (hca : ∀ i, i < na → w.cell? ⟨ga, i, none⟩ = some (D64 (A i))) (hcb : ∀ i, i < nb → w.cell? ⟨gb, i, none⟩ = some (D64 (B i))) :
    Calls Try.prog 28 #[.slice (some ⟨ga, 0, none⟩) na ca, .slice (some ⟨gb, 0, none⟩) nb cb] w (NewDigs w (na + nb) fun D => gv D (na + nb) = gv A na * gv B nb) := by
  refine enter (args := [.slice (some ⟨ga, 0, none⟩) na ca, .slice (some ⟨gb, 0, none⟩) nb cb]) 58 Try.func28 rfl rfl (by simp) ?_
  refine J.seq ?_
  refine J.region ?_
  refine JL.ev _ rfl rfl (Ev.assign rfl) ?_
  refine JL.nil ?_
  refine JE.next ?_
  refine J.seq ?_
  refine J.region ?_
  refine JL.ev _ rfl rfl (Ev.move rfl) ?_
  refine JL.ev _ rfl rfl (Ev.lenL rfl Try.underlying62) ?_
  refine JL.ev _ rfl rfl (Ev.move rfl) ?_
  refine JL.ev _ rfl rfl (Ev.lenL rfl Try.underlying62) ?_
  refine JL.ev _ rfl rfl (Ev.add rfl rfl (i64_in (by omega) (by omega))) ?_
  refine JL.eff (Eff.makeV (m := na + nb) (z := D64 0) (bytes := 8) rfl rfl Try.underlying62 (by kernel_rfl) rfl (by omega) (by omega)) rfl rfl (fun g _ => ?_)
  refine JL.ev _ rfl rfl (Ev.assign rfl) ?_
  refine JL.nil ?_
  refine JE.next ?_
  refine J.seq ?_
  refine J.seq ?_
  refine J.region ?_
  refine JL.ev _ rfl rfl (Ev.move rfl) ?_
  refine JL.ev _ rfl rfl (Ev.lenL rfl Try.underlying62) ?_
  refine JL.ev _ rfl rfl (Ev.move rfl) ?_
  refine JL.nil ?_
  refine JE.next ?_
  refine J.block ?_
  refine J.loop (σ := Nat × (Nat → Nat)) (fun p => p.1 ≤ na ∧ (∀ i, p.2 i < 65536) ∧ gv p.2 (na + nb) = gv A p.1 * gv B nb) (fun p => [(1, .slice (some ⟨gb, 0, none⟩) nb cb), (5, .slice (some ⟨g, 0, none⟩) (na + nb) (na + nb)), (18, .slice (some ⟨ga, 0, none⟩) na ca), (19, .int .i64 na), (20, .int .i64 p.1)]) (fun p => [rowE (.slice (some ⟨g, 0, none⟩) (na + nb) (na + nb)) 49 (digs (na + nb) p.2)]) (fun p => na - p.1) (0, fun _ => 0) ⟨by simp, by simp, by simp [gv, gv_zero]⟩ ⟨rfl, rfl, rfl, rfl, rfl, trivial⟩ (fun w s => by rw [← digs_zero]; exact s) ?_
  rintro ⟨i, D⟩ ⟨hi, hD, hv⟩
  dsimp only at hi hD hv ⊢
  refine J.seq ?_
  refine J.region ?_
  refine JL.ev _ rfl rfl (Ev.lss rfl rfl rfl) ?_
  refine JL.nil ?_
  refine JE.next ?_
  refine J.seq ?_
  refine J.cond _ rfl (fun ht21 => ?_) (fun ht21 => ?_)
  · try replace ht21 := of_decide_eq_true ht21
    refine J.skip ?_
    refine JE.next ?_
    refine J.seq ?_
    refine J.block ?_
    refine J.seq ?_
    refine J.region ?_
    refine JL.ev _ rfl rfl (Ev.move rfl) ?_
    refine JL.ev _ rfl rfl (Ev.indexAddrS rfl rfl Try.underlying62 (by kernel_rfl) (by omega) (by omega) (by first | exact idx0 _ | exact Nat.zero_add _)) ?_
    refine JL.ev _ rfl rfl (Ev.loadOld rfl Try.underlying49 rfl (hca i (by omega))) ?_
    refine JL.ev _ rfl rfl (Ev.assign rfl) ?_
    refine JL.ev _ rfl rfl (Ev.assign rfl) ?_
    refine JL.nil ?_
    refine JE.next ?_
    refine J.seq ?_
    refine J.region ?_
    refine JL.ev _ rfl rfl (Ev.move rfl) ?_
    refine JL.ev _ rfl rfl (Ev.lenL rfl Try.underlying62) ?_
    refine JL.ev _ rfl rfl (Ev.move rfl) ?_
    refine JL.nil ?_
    refine JE.next ?_
    refine J.block ?_
    refine J.loop (σ := Nat × (Nat → Nat)) (fun p => p.1 ≤ nb ∧ (∀ i, p.2 i < 65536) ∧ gv p.2 (na + nb) = gv A i * gv B nb + A i * 65536 ^ i * gv B p.1) (fun p => [(1, .slice (some ⟨gb, 0, none⟩) nb cb), (5, .slice (some ⟨g, 0, none⟩) (na + nb) (na + nb)), (18, .slice (some ⟨ga, 0, none⟩) na ca), (19, .int .i64 na), (20, .int .i64 i), (6, .int .i64 i), (7, D64 (A i)), (25, .slice (some ⟨gb, 0, none⟩) nb cb), (26, .int .i64 nb), (27, .int .i64 p.1)]) (fun p => [rowE (.slice (some ⟨g, 0, none⟩) (na + nb) (na + nb)) 49 (digs (na + nb) p.2)]) (fun p => nb - p.1) (0, D) ⟨by simp, hD, by simp [gv, hv]⟩ ⟨rfl, rfl, rfl, rfl, rfl, rfl, rfl, rfl, rfl, rfl, trivial⟩ (fun w s => s) ?_
    clear hD hv
    rintro ⟨j, E⟩ ⟨hj, hE, hv⟩
    dsimp only at hj hE hv ⊢
    have hmul : A i * B j ≤ 65535 * 65535 := Nat.mul_le_mul (by have := hA i; omega) (by have := hB j; omega)
    refine J.seq ?_
    refine J.region ?_
    refine JL.ev _ rfl rfl (Ev.lss rfl rfl rfl) ?_
    refine JL.nil ?_
    refine JE.next ?_
    refine J.seq ?_
    refine J.cond _ rfl (fun ht28 => ?_) (fun ht28 => ?_)
    · try replace ht28 := of_decide_eq_true ht28
      refine J.skip ?_
      refine JE.next ?_
      refine J.seq ?_
      refine J.block ?_
      refine J.seq ?_
      refine J.region ?_
      refine JL.ev _ rfl rfl (Ev.move rfl) ?_
      refine JL.ev _ rfl rfl (Ev.indexAddrS rfl rfl Try.underlying62 (by kernel_rfl) (by omega) (by omega) (by first | exact idx0 _ | exact Nat.zero_add _)) ?_
      refine JL.ev _ rfl rfl (Ev.loadOld rfl Try.underlying49 rfl (hcb j (by omega))) ?_
      refine JL.ev _ rfl rfl (Ev.assign rfl) ?_
      refine JL.ev _ rfl rfl (Ev.assign rfl) ?_
      refine JL.nil ?_
      refine JE.next ?_
      refine J.seq ?_
      refine J.region ?_
      refine JL.ev _ rfl rfl (Ev.move rfl) ?_
      refine JL.ev _ rfl rfl (Ev.move rfl) ?_
      refine JL.ev _ rfl rfl (Ev.mulN rfl rfl (by omega)) ?_
      refine JL.ev _ rfl rfl (Ev.assign rfl) ?_
      refine JL.nil ?_
      refine JE.next ?_
      refine J.seq ?_
      refine J.region ?_
      refine JL.ev _ rfl rfl (Ev.move rfl) ?_
      refine JL.ev _ rfl rfl (Ev.move rfl) ?_
      refine JL.ev _ rfl rfl (Ev.add rfl rfl (i64_in (by omega) (by omega))) ?_
      refine JL.ev _ rfl rfl (Ev.assign rfl) ?_
      refine JL.nil ?_
      refine JE.next ?_
      refine J.block ?_
      have hT := part_lt A B na nb i j hA hB (by omega) (by omega)
      refine J.loop (σ := Nat × Nat × (Nat → Nat)) (fun p => i + j ≤ p.1 ∧ p.1 ≤ na + nb ∧ p.2.1 < 4294967296 ∧ (∀ i, p.2.2 i < 65536) ∧ gv p.2.2 (na + nb) + p.2.1 * 65536 ^ p.1 = gv A i * gv B nb + A i * 65536 ^ i * gv B (j + 1)) (fun p => [(1, .slice (some ⟨gb, 0, none⟩) nb cb), (5, .slice (some ⟨g, 0, none⟩) (na + nb) (na + nb)), (18, .slice (some ⟨ga, 0, none⟩) na ca), (19, .int .i64 na), (20, .int .i64 i), (6, .int .i64 i), (7, D64 (A i)), (25, .slice (some ⟨gb, 0, none⟩) nb cb), (26, .int .i64 nb), (27, .int .i64 j), (10, D64 p.2.1), (11, .int .i64 p.1)]) (fun p => [rowE (.slice (some ⟨g, 0, none⟩) (na + nb) (na + nb)) 49 (digs (na + nb) p.2.2)]) (fun p => na + nb - p.1) (i + j, A i * B j, E) ⟨by simp, by dsimp only; omega, by dsimp only; omega, hE, by dsimp only; rw [hv, gv, Nat.mul_add, Nat.pow_add, Nat.add_assoc]; congr 2; rw [Nat.mul_assoc, Nat.mul_assoc]; congr 1; rw [Nat.mul_left_comm]⟩ ⟨rfl, rfl, rfl, rfl, rfl, rfl, rfl, rfl, rfl, rfl, rfl, rfl, trivial⟩ (fun w s => s) ?_
      clear hE hv
      rintro ⟨k, c, D⟩ ⟨hk1, hk2, hc, hD, hv⟩
      dsimp only at hk1 hk2 hc hD hv ⊢
      refine J.seq ?_
      refine J.seq ?_
      refine J.region ?_
      refine JL.ev _ rfl rfl (Ev.move rfl) ?_
      refine JL.ev _ rfl rfl (Ev.gtr rfl rfl rfl) ?_
      refine JL.nil ?_
      refine JE.next ?_
      refine J.cond _ rfl (fun ht39 => ?_) (fun ht39 => ?_)
      · try replace ht39 := of_decide_eq_true ht39
        have hkM := in_row D k (na + nb) c _ hv hT (by omega)
        have hDk := hD k
        refine J.skip ?_
        refine JE.next ?_
        refine J.seq ?_
        refine J.block ?_
        refine J.seq ?_
        refine J.region ?_
        refine JL.ev _ rfl rfl (Ev.move rfl) ?_
        refine JL.ev _ rfl rfl (Ev.move rfl) ?_
        refine JL.ev _ rfl rfl (Ev.move rfl) ?_
        refine JL.ev _ rfl rfl (Ev.indexAddrV (xs := digs (na + nb) D) (e := 49) rfl rfl (by repeat (first | exact At.here | apply At.there)) Try.underlying62 (by kernel_rfl) (by omega) (by rw [digs_len]; omega) (idxN _)) ?_
        refine JL.ev _ rfl rfl (Ev.loadV rfl Try.underlying49 rfl (by repeat (first | exact At.here | apply At.there)) (digs_get D hkM)) ?_
        refine JL.ev _ rfl rfl (Ev.addN rfl rfl (by omega)) ?_
        refine JL.ev _ rfl rfl (Ev.assign rfl) ?_
        refine JL.nil ?_
        refine JE.next ?_
        refine J.region ?_
        refine JL.ev _ rfl rfl (Ev.move rfl) ?_
        refine JL.ev _ rfl rfl (Ev.move rfl) ?_
        refine JL.ev _ rfl rfl (Ev.move rfl) ?_
        refine JL.ev _ rfl rfl (Ev.remN (b := 65536) rfl rfl (by omega)) ?_
        refine JL.ev _ rfl rfl (Ev.move rfl) ?_
        refine JL.ev _ rfl rfl (Ev.quoN (b := 65536) rfl rfl (by omega) (by omega)) ?_
        refine JL.ev _ rfl rfl (Ev.indexAddrV (xs := digs (na + nb) D) (e := 49) rfl rfl (by repeat (first | exact At.here | apply At.there)) Try.underlying62 (by kernel_rfl) (by omega) (by rw [digs_len]; omega) (idxN _)) ?_
        refine JL.eff0 (Eff.storeV (e := 49) (xs := digs (na + nb) D) rfl rfl rfl (by kernel_rfl) (by rw [digs_len]; omega) (by repeat (first | exact At.here | apply At.there))) rfl rfl (fun _ _ => ?_)
        refine JL.ev _ rfl rfl (Ev.assign rfl) ?_
        refine JL.nil ?_
        refine JE.blockNormal ?_
        refine JE.next ?_
        refine J.region ?_
        refine JL.ev _ rfl rfl (Ev.move rfl) ?_
        refine JL.ev _ rfl rfl (Ev.add rfl rfl (i64_in (by omega) (by omega))) ?_
        refine JL.ev _ rfl rfl (Ev.assign rfl) ?_
        refine JL.nil ?_
        exact JE.back (k + 1, (c + D k) / 65536, updN D k ((c + D k) % 65536)) ⟨by dsimp only; omega, by dsimp only; omega, by dsimp only; omega, updN_lt hD k _ (by omega), by dsimp only; rw [carry D k _ c hkM]; exact hv⟩ (by dsimp only; omega) ⟨rfl, rfl, rfl, rfl, rfl, rfl, rfl, rfl, rfl, rfl, rfl, rfl, trivial⟩ (fun w s => by rw [digs_set] at s; exact s)
      · try replace ht39 := of_decide_eq_false ht39
        have hc0 : c = 0 := by omega
        refine J.exit ?_
        refine JE.thenExit ?_
        refine JE.thenExit ?_
        refine JE.blockHere ?_
        refine JE.blockNormal ?_
        refine JE.next ?_
        refine J.region ?_
        refine JL.ev _ rfl rfl (Ev.add rfl rfl (i64_in (by omega) (by omega))) ?_
        refine JL.ev _ rfl rfl (Ev.move rfl) ?_
        refine JL.nil ?_
        exact JE.back (j + 1, D) ⟨by dsimp only; omega, hD, by dsimp only; rw [hc0] at hv; omega⟩ (by dsimp only; omega) ⟨rfl, rfl, rfl, rfl, rfl, rfl, rfl, rfl, rfl, rfl, trivial⟩ (fun w s => s)
    · try replace ht28 := of_decide_eq_false ht28
      refine J.exit ?_
      refine JE.thenExit ?_
      refine JE.thenExit ?_
      refine JE.blockHere ?_
      refine JE.blockNormal ?_
      refine JE.next ?_
      refine J.region ?_
      refine JL.ev _ rfl rfl (Ev.add rfl rfl (i64_in (by omega) (by omega))) ?_
      refine JL.ev _ rfl rfl (Ev.move rfl) ?_
      refine JL.nil ?_
      obtain rfl : j = nb := by omega
      exact JE.back (i + 1, E) ⟨by dsimp only; omega, hE, by dsimp only; rw [hv, gv, Nat.add_mul]⟩ (by dsimp only; omega) ⟨rfl, rfl, rfl, rfl, rfl, trivial⟩ (fun w s => s)
  · try replace ht21 := of_decide_eq_false ht21
    refine J.exit ?_
    refine JE.thenExit ?_
    refine JE.thenExit ?_
    refine JE.blockHere ?_
    refine JE.next ?_
    refine J.seq ?_
    refine J.region ?_
    refine JL.ev _ rfl rfl (Ev.move rfl) ?_
    refine JL.ev _ rfl rfl (Ev.assign rfl) ?_
    refine JL.nil ?_
    refine JE.next ?_
    refine J.ret ?_
    obtain rfl : i = na := by omega
    exact JE.ret1 _ rfl rfl fun w' s => ⟨g, D, rfl, s.below, rowE_own s (List.mem_cons_self ..), s.ok _ (List.mem_cons_self ..), hD, hv⟩
theorem above_calls (A B : Nat → Nat) (na nb ga gb ca cb : Nat) (hA : ∀ i, A i < 65536) (hB : ∀ i, B i < 65536) (hna : na ≤ 20) (hnb : nb ≤ 20) (w : World) (hca : ∀ i, i < na → w.cell? ⟨ga, i, none⟩ = some (D64 (A i))) (hcb : ∀ i, i < nb → w.cell? ⟨gb, i, none⟩ = some (D64 (B i))) :
    Calls Try.prog 29 #[.slice (some ⟨ga, 0, none⟩) na ca, .slice (some ⟨gb, 0, none⟩) nb cb] w (Pure1 w (.bool (decide (gv B nb < gv A na)))) := by
  obtain ⟨m, hm⟩ : ∃ m : Nat, (if (nb : Int) > (na : Int) then (nb : Int) else (na : Int)) = m := by
    by_cases h : (nb : Int) > na
    · exact ⟨nb, by rw [if_pos h]⟩
    · exact ⟨na, by rw [if_neg h]⟩
  have hm1 : na ≤ m := by split at hm <;> omega
  have hm2 : nb ≤ m := by split at hm <;> omega
  have hm3 : m ≤ 20 := by split at hm <;> omega
  refine enter (args := [.slice (some ⟨ga, 0, none⟩) na ca, .slice (some ⟨gb, 0, none⟩) nb cb]) 40 Try.func29 rfl rfl (by simp) ?_
  refine J.seq ?_
  refine J.region ?_
  refine JL.ev _ rfl rfl (Ev.assign rfl) ?_
  refine JL.nil ?_
  refine JE.next ?_
  refine J.seq ?_
  refine J.seq ?_
  refine J.region ?_
  refine JL.ev _ rfl rfl (Ev.move rfl) ?_
  refine JL.ev _ rfl rfl (Ev.lenL rfl Try.underlying62) ?_
  refine JL.ev _ rfl rfl (Ev.move rfl) ?_
  refine JL.ev _ rfl rfl (Ev.lenL rfl Try.underlying62) ?_
  refine JL.ev _ rfl rfl (Ev.maxI rfl rfl) ?_
  rw [hm]
  refine JL.ev _ rfl rfl (Ev.sub rfl rfl (i64_in (by omega) (by omega))) ?_
  refine JL.ev _ rfl rfl (Ev.assign rfl) ?_
  refine JL.nil ?_
  refine JE.next ?_
  refine J.block ?_
  refine J.loop (σ := Nat) (fun k => k ≤ m ∧ ∀ q, k ≤ q → q < m → ex A na q = ex B nb q) (fun k => [(0, .slice (some ⟨ga, 0, none⟩) na ca), (1, .slice (some ⟨gb, 0, none⟩) nb cb), (5, .int .i64 ((k : Int) - 1))]) (fun k => []) (fun k => k) m ⟨Nat.le_refl _, fun q a b => by omega⟩ ⟨rfl, rfl, rfl, trivial⟩ (fun w s => s) ?_
  rintro k ⟨hk, he⟩
  refine J.seq ?_
  refine J.seq ?_
  refine J.region ?_
  refine JL.ev _ rfl rfl (Ev.move rfl) ?_
  refine JL.ev _ rfl rfl (Ev.geq rfl rfl rfl) ?_
  refine JL.nil ?_
  refine JE.next ?_
  refine J.cond _ rfl (fun ht15 => ?_) (fun ht15 => ?_)
  · try replace ht15 := of_decide_eq_true ht15
    refine J.skip ?_
    refine JE.next ?_
    refine J.seq ?_
    refine J.block ?_
    refine J.seq ?_
    refine J.region ?_
    refine JL.ev (D64 0) rfl rfl (Ev.assign rfl) ?_
    refine JL.ev (D64 0) rfl rfl (Ev.assign rfl) ?_
    refine JL.nil ?_
    refine JE.next ?_
    refine J.seq ?_
    refine J.seq ?_
    refine J.region ?_
    refine JL.ev _ rfl rfl (Ev.move rfl) ?_
    refine JL.ev _ rfl rfl (Ev.move rfl) ?_
    refine JL.ev _ rfl rfl (Ev.lenL rfl Try.underlying62) ?_
    refine JL.ev _ rfl rfl (Ev.lss rfl rfl rfl) ?_
    refine JL.nil ?_
    refine JE.next ?_
    refine J.cond _ rfl (fun ht21 => ?_) (fun ht21 => ?_)
    · try replace ht21 := of_decide_eq_true ht21
      refine J.region ?_
      refine JL.ev _ rfl rfl (Ev.move rfl) ?_
      refine JL.ev _ rfl rfl (Ev.move rfl) ?_
      refine JL.ev _ rfl rfl (Ev.indexAddrS rfl rfl Try.underlying62 (by kernel_rfl) (by omega) (by omega) (j := k - 1) (by omega)) ?_
      refine JL.ev _ rfl rfl (Ev.loadOld rfl Try.underlying49 rfl (hca (k - 1) (by omega))) ?_
      refine JL.ev _ rfl rfl (Ev.assign rfl) ?_
      refine JL.nil ?_
      refine JE.next ?_
      refine J.seq ?_
      refine J.seq ?_
      refine J.region ?_
      refine JL.ev _ rfl rfl (Ev.move rfl) ?_
      refine JL.ev _ rfl rfl (Ev.move rfl) ?_
      refine JL.ev _ rfl rfl (Ev.lenL rfl Try.underlying62) ?_
      refine JL.ev _ rfl rfl (Ev.lss rfl rfl rfl) ?_
      refine JL.nil ?_
      refine JE.next ?_
      refine J.cond _ rfl (fun ht29 => ?_) (fun ht29 => ?_)
      · try replace ht29 := of_decide_eq_true ht29
        refine J.region ?_
        refine JL.ev _ rfl rfl (Ev.move rfl) ?_
        refine JL.ev _ rfl rfl (Ev.move rfl) ?_
        refine JL.ev _ rfl rfl (Ev.indexAddrS rfl rfl Try.underlying62 (by kernel_rfl) (by omega) (by omega) (j := k - 1) (by omega)) ?_
        refine JL.ev _ rfl rfl (Ev.loadOld rfl Try.underlying49 rfl (hcb (k - 1) (by omega))) ?_
        refine JL.ev _ rfl rfl (Ev.assign rfl) ?_
        refine JL.nil ?_
        refine JE.next ?_
        refine J.seq ?_
        refine J.region ?_
        refine JL.ev _ rfl rfl (Ev.move rfl) ?_
        refine JL.ev _ rfl rfl (Ev.move rfl) ?_
        refine JL.ev _ rfl rfl (Ev.neI rfl rfl rfl) ?_
        refine JL.nil ?_
        refine JE.next ?_
        refine J.cond _ rfl (fun ht36 => ?_) (fun ht36 => ?_)
        · try replace ht36 := of_decide_eq_true ht36
          have hd := top_decides A B hA hB na nb m (k - 1) hm1 hm2 (by omega) (fun q a b => he q (by omega) b) (by unfold ex; split <;> split <;> omega)
          refine J.seq ?_
          refine J.region ?_
          refine JL.ev _ rfl rfl (Ev.move rfl) ?_
          refine JL.ev _ rfl rfl (Ev.move rfl) ?_
          refine JL.ev _ rfl rfl (Ev.gtr rfl rfl rfl) ?_
          refine JL.ev _ rfl rfl (Ev.assign rfl) ?_
          refine JL.nil ?_
          refine JE.next ?_
          refine J.ret ?_
          refine JE.blockRet ?_
          refine JE.thenRet ?_
          refine JE.thenRet ?_
          refine JE.blockRet ?_
          refine JE.thenRet ?_
          refine JE.ret1 _ rfl rfl fun w' s => ⟨congrArg (fun b => Ending.returned (.bool b)) ?_, s.below⟩
          first
          | (rw [decide_eq_decide, hd]; unfold ex; split <;> split <;> omega)
          | (symm; rw [decide_eq_false_iff_not]; omega)
        · try replace ht36 := of_decide_eq_false ht36
          refine J.skip ?_
          refine JE.blockNormal ?_
          refine JE.next ?_
          refine J.region ?_
          refine JL.ev _ rfl rfl (Ev.move rfl) ?_
          refine JL.ev _ rfl rfl (Ev.sub rfl rfl (i64_in (by omega) (by omega))) ?_
          refine JL.ev _ rfl rfl (Ev.assign rfl) ?_
          refine JL.nil ?_
          exact JE.back (k - 1) ⟨by omega, fun q a b => by
            rcases Nat.lt_or_ge q k with h | h
            · obtain rfl : q = k - 1 := by omega
              unfold ex; split <;> split <;> omega
            · exact he q h b⟩ (by omega) ⟨rfl, rfl, by simp only [lk]; exact congrArg (fun z => some (Value.int .i64 z)) (by omega), trivial⟩ (fun w s => s)
      · try replace ht29 := of_decide_eq_false ht29
        refine J.skip ?_
        refine JE.next ?_
        refine J.seq ?_
        refine J.region ?_
        refine JL.ev _ rfl rfl (Ev.move rfl) ?_
        refine JL.ev _ rfl rfl (Ev.move rfl) ?_
        refine JL.ev _ rfl rfl (Ev.neI rfl rfl rfl) ?_
        refine JL.nil ?_
        refine JE.next ?_
        refine J.cond _ rfl (fun ht36 => ?_) (fun ht36 => ?_)
        · try replace ht36 := of_decide_eq_true ht36
          have hd := top_decides A B hA hB na nb m (k - 1) hm1 hm2 (by omega) (fun q a b => he q (by omega) b) (by unfold ex; split <;> split <;> omega)
          refine J.seq ?_
          refine J.region ?_
          refine JL.ev _ rfl rfl (Ev.move rfl) ?_
          refine JL.ev _ rfl rfl (Ev.move rfl) ?_
          refine JL.ev _ rfl rfl (Ev.gtr rfl rfl rfl) ?_
          refine JL.ev _ rfl rfl (Ev.assign rfl) ?_
          refine JL.nil ?_
          refine JE.next ?_
          refine J.ret ?_
          refine JE.blockRet ?_
          refine JE.thenRet ?_
          refine JE.thenRet ?_
          refine JE.blockRet ?_
          refine JE.thenRet ?_
          refine JE.ret1 _ rfl rfl fun w' s => ⟨congrArg (fun b => Ending.returned (.bool b)) ?_, s.below⟩
          first
          | (rw [decide_eq_decide, hd]; unfold ex; split <;> split <;> omega)
          | (symm; rw [decide_eq_false_iff_not]; omega)
        · try replace ht36 := of_decide_eq_false ht36
          refine J.skip ?_
          refine JE.blockNormal ?_
          refine JE.next ?_
          refine J.region ?_
          refine JL.ev _ rfl rfl (Ev.move rfl) ?_
          refine JL.ev _ rfl rfl (Ev.sub rfl rfl (i64_in (by omega) (by omega))) ?_
          refine JL.ev _ rfl rfl (Ev.assign rfl) ?_
          refine JL.nil ?_
          exact JE.back (k - 1) ⟨by omega, fun q a b => by
            rcases Nat.lt_or_ge q k with h | h
            · obtain rfl : q = k - 1 := by omega
              unfold ex; split <;> split <;> omega
            · exact he q h b⟩ (by omega) ⟨rfl, rfl, by simp only [lk]; exact congrArg (fun z => some (Value.int .i64 z)) (by omega), trivial⟩ (fun w s => s)
    · try replace ht21 := of_decide_eq_false ht21
      refine J.skip ?_
      refine JE.next ?_
      refine J.seq ?_
      refine J.seq ?_
      refine J.region ?_
      refine JL.ev _ rfl rfl (Ev.move rfl) ?_
      refine JL.ev _ rfl rfl (Ev.move rfl) ?_
      refine JL.ev _ rfl rfl (Ev.lenL rfl Try.underlying62) ?_
      refine JL.ev _ rfl rfl (Ev.lss rfl rfl rfl) ?_
      refine JL.nil ?_
      refine JE.next ?_
      refine J.cond _ rfl (fun ht29 => ?_) (fun ht29 => ?_)
      · try replace ht29 := of_decide_eq_true ht29
        refine J.region ?_
        refine JL.ev _ rfl rfl (Ev.move rfl) ?_
        refine JL.ev _ rfl rfl (Ev.move rfl) ?_
        refine JL.ev _ rfl rfl (Ev.indexAddrS rfl rfl Try.underlying62 (by kernel_rfl) (by omega) (by omega) (j := k - 1) (by omega)) ?_
        refine JL.ev _ rfl rfl (Ev.loadOld rfl Try.underlying49 rfl (hcb (k - 1) (by omega))) ?_
        refine JL.ev _ rfl rfl (Ev.assign rfl) ?_
        refine JL.nil ?_
        refine JE.next ?_
        refine J.seq ?_
        refine J.region ?_
        refine JL.ev _ rfl rfl (Ev.move rfl) ?_
        refine JL.ev _ rfl rfl (Ev.move rfl) ?_
        refine JL.ev _ rfl rfl (Ev.neI rfl rfl rfl) ?_
        refine JL.nil ?_
        refine JE.next ?_
        refine J.cond _ rfl (fun ht36 => ?_) (fun ht36 => ?_)
        · try replace ht36 := of_decide_eq_true ht36
          have hd := top_decides A B hA hB na nb m (k - 1) hm1 hm2 (by omega) (fun q a b => he q (by omega) b) (by unfold ex; split <;> split <;> omega)
          refine J.seq ?_
          refine J.region ?_
          refine JL.ev _ rfl rfl (Ev.move rfl) ?_
          refine JL.ev _ rfl rfl (Ev.move rfl) ?_
          refine JL.ev _ rfl rfl (Ev.gtr rfl rfl rfl) ?_
          refine JL.ev _ rfl rfl (Ev.assign rfl) ?_
          refine JL.nil ?_
          refine JE.next ?_
          refine J.ret ?_
          refine JE.blockRet ?_
          refine JE.thenRet ?_
          refine JE.thenRet ?_
          refine JE.blockRet ?_
          refine JE.thenRet ?_
          refine JE.ret1 _ rfl rfl fun w' s => ⟨congrArg (fun b => Ending.returned (.bool b)) ?_, s.below⟩
          first
          | (rw [decide_eq_decide, hd]; unfold ex; split <;> split <;> omega)
          | (symm; rw [decide_eq_false_iff_not]; omega)
        · try replace ht36 := of_decide_eq_false ht36
          refine J.skip ?_
          refine JE.blockNormal ?_
          refine JE.next ?_
          refine J.region ?_
          refine JL.ev _ rfl rfl (Ev.move rfl) ?_
          refine JL.ev _ rfl rfl (Ev.sub rfl rfl (i64_in (by omega) (by omega))) ?_
          refine JL.ev _ rfl rfl (Ev.assign rfl) ?_
          refine JL.nil ?_
          exact JE.back (k - 1) ⟨by omega, fun q a b => by
            rcases Nat.lt_or_ge q k with h | h
            · obtain rfl : q = k - 1 := by omega
              unfold ex; split <;> split <;> omega
            · exact he q h b⟩ (by omega) ⟨rfl, rfl, by simp only [lk]; exact congrArg (fun z => some (Value.int .i64 z)) (by omega), trivial⟩ (fun w s => s)
      · try replace ht29 := of_decide_eq_false ht29
        refine J.skip ?_
        refine JE.next ?_
        refine J.seq ?_
        refine J.region ?_
        refine JL.ev _ rfl rfl (Ev.move rfl) ?_
        refine JL.ev _ rfl rfl (Ev.move rfl) ?_
        refine JL.ev _ rfl rfl (Ev.neI rfl rfl rfl) ?_
        refine JL.nil ?_
        refine JE.next ?_
        refine J.cond _ rfl (fun ht36 => ?_) (fun ht36 => ?_)
        · try replace ht36 := of_decide_eq_true ht36
          have hd := top_decides A B hA hB na nb m (k - 1) hm1 hm2 (by omega) (fun q a b => he q (by omega) b) (by unfold ex; split <;> split <;> omega)
          refine J.seq ?_
          refine J.region ?_
          refine JL.ev _ rfl rfl (Ev.move rfl) ?_
          refine JL.ev _ rfl rfl (Ev.move rfl) ?_
          refine JL.ev _ rfl rfl (Ev.gtr rfl rfl rfl) ?_
          refine JL.ev _ rfl rfl (Ev.assign rfl) ?_
          refine JL.nil ?_
          refine JE.next ?_
          refine J.ret ?_
          refine JE.blockRet ?_
          refine JE.thenRet ?_
          refine JE.thenRet ?_
          refine JE.blockRet ?_
          refine JE.thenRet ?_
          refine JE.ret1 _ rfl rfl fun w' s => ⟨congrArg (fun b => Ending.returned (.bool b)) ?_, s.below⟩
          first
          | (rw [decide_eq_decide, hd]; unfold ex; split <;> split <;> omega)
          | (symm; rw [decide_eq_false_iff_not]; omega)
        · try replace ht36 := of_decide_eq_false ht36
          refine J.skip ?_
          refine JE.blockNormal ?_
          refine JE.next ?_
          refine J.region ?_
          refine JL.ev _ rfl rfl (Ev.move rfl) ?_
          refine JL.ev _ rfl rfl (Ev.sub rfl rfl (i64_in (by omega) (by omega))) ?_
          refine JL.ev _ rfl rfl (Ev.assign rfl) ?_
          refine JL.nil ?_
          exact JE.back (k - 1) ⟨by omega, fun q a b => by
            rcases Nat.lt_or_ge q k with h | h
            · obtain rfl : q = k - 1 := by omega
              unfold ex; split <;> split <;> omega
            · exact he q h b⟩ (by omega) ⟨rfl, rfl, by simp only [lk]; exact congrArg (fun z => some (Value.int .i64 z)) (by omega), trivial⟩ (fun w s => s)
  · try replace ht15 := of_decide_eq_false ht15
    obtain rfl : k = 0 := by omega
    have hall := all_same A B na nb m hm1 hm2 (fun q hq => he q (by omega) hq)
    refine J.exit ?_
    refine JE.thenExit ?_
    refine JE.thenExit ?_
    refine JE.blockHere ?_
    refine JE.next ?_
    refine J.seq ?_
    refine J.region ?_
    refine JL.ev _ rfl rfl (Ev.assign rfl) ?_
    refine JL.nil ?_
    refine JE.next ?_
    refine J.ret ?_
    refine JE.ret1 _ rfl rfl fun w' s => ⟨congrArg (fun b => Ending.returned (.bool b)) ?_, s.below⟩
    first
    | (rw [decide_eq_decide, hd]; unfold ex; split <;> split <;> omega)
    | (symm; rw [decide_eq_false_iff_not]; omega)
section
variable {w0 : World} {n : Nat} {l : Env} {h : Hp} {dst : Option Tmp} {ty : TypeId} {pos : String} {aft : Array Edge} {gd : Option (Nat × Bool)} {x y : Operand} {tys : Array TypeId}
theorem row_read {w0 w : World} {h : Hp} {g m c : Nat} {D : Nat → Nat} (s : St w0 h w) (ha : At (rowE (.slice (some ⟨g, 0, none⟩) m c) 49 (digs m D)) (rowE (.slice (some ⟨g, 0, none⟩) m c) 49 (digs m D)) h h) : ∀ i, i < m → w.cell? ⟨g, i, none⟩ = some (D64 (D i)) := by
  intro i hi
  have ho := rowE_ok s ha
  have := row_cell (w := w) (g := g) (cap := c) (e := 49) (xs := digs m D) (by rw [digs_len] at ho ⊢; exact ho) i (by rw [digs_len]; exact hi)
  rw [this, digs_get _ hi]
theorem times_eff (A B : Nat → Nat) (na nb ga gb ca cb : Nat) (hx : ev n l x = some (.slice (some ⟨ga, 0, none⟩) na ca)) (hy : ev n l y = some (.slice (some ⟨gb, 0, none⟩) nb cb)) (hA : ∀ i, A i < 65536) (hB : ∀ i, B i < 65536) (hna : na ≤ 10) (hnb : nb ≤ 10)
    (aA : At (rowE (.slice (some ⟨ga, 0, none⟩) na ca) 49 (digs na A)) (rowE (.slice (some ⟨ga, 0, none⟩) na ca) 49 (digs na A)) h h) (aB : At (rowE (.slice (some ⟨gb, 0, none⟩) nb cb) 49 (digs nb B)) (rowE (.slice (some ⟨gb, 0, none⟩) nb cb) 49 (digs nb B)) h h) :
    Eff Try.prog w0 n l h ⟨dst, .call { callee := .value (.func 28), args := #[x, y], argTypes := tys }, ty, pos, aft, gd⟩ (α := Nat × (Nat → Nat)) (fun p => (∀ i, p.2 i < 65536) ∧ gv p.2 (na + nb) = gv A na * gv B nb) (fun p => .slice (some ⟨p.1, 0, none⟩) (na + nb) (na + nb)) (fun p => rowE (.slice (some ⟨p.1, 0, none⟩) (na + nb) (na + nb)) 49 (digs (na + nb) p.2) :: h) :=
  Eff.call (xs := [x, y]) (fi := #[]) (ca := #[]) (args := [.slice (some ⟨ga, 0, none⟩) na ca, .slice (some ⟨gb, 0, none⟩) nb cb]) rfl (by simp [evs, hx, hy]) (enters Try.func28 (by kernel_rfl) rfl) fun w s => by
    simp only [Array.append_empty, Array.empty_append]
    refine (times_calls A B na nb ga gb ca cb hA hB hna hnb w (row_read s aA) (row_read s aB)).mono ?_
    rintro e w' ⟨g, D, rfl, hb, hg, hok, hD, hv⟩
    exact ⟨(g, D), ⟨hD, hv⟩, rfl, s.addNew hb _ hok (fun b hb => by have := rowE_fp hb; omega)⟩
theorem above_eff (A B : Nat → Nat) (na nb ga gb ca cb : Nat) (hx : ev n l x = some (.slice (some ⟨ga, 0, none⟩) na ca)) (hy : ev n l y = some (.slice (some ⟨gb, 0, none⟩) nb cb)) (hA : ∀ i, A i < 65536) (hB : ∀ i, B i < 65536) (hna : na ≤ 20) (hnb : nb ≤ 20)
    (aA : At (rowE (.slice (some ⟨ga, 0, none⟩) na ca) 49 (digs na A)) (rowE (.slice (some ⟨ga, 0, none⟩) na ca) 49 (digs na A)) h h) (aB : At (rowE (.slice (some ⟨gb, 0, none⟩) nb cb) 49 (digs nb B)) (rowE (.slice (some ⟨gb, 0, none⟩) nb cb) 49 (digs nb B)) h h) :
    Eff Try.prog w0 n l h ⟨dst, .call { callee := .value (.func 29), args := #[x, y], argTypes := tys }, ty, pos, aft, gd⟩ (α := Unit) (fun _ => True) (fun _ => .bool (decide (gv B nb < gv A na))) (fun _ => h) :=
  Eff.call (xs := [x, y]) (fi := #[]) (ca := #[]) (args := [.slice (some ⟨ga, 0, none⟩) na ca, .slice (some ⟨gb, 0, none⟩) nb cb]) rfl (by simp [evs, hx, hy]) (enters Try.func29 (by kernel_rfl) rfl) fun w s => by
    simp only [Array.append_empty, Array.empty_append]
    refine (above_calls A B na nb ga gb ca cb hA hB hna hnb w (row_read s aA) (row_read s aB)).mono ?_
    rintro e w' ⟨rfl, hb⟩
    exact ⟨(), trivial, rfl, s.keep hb⟩
end
theorem root2_calls (p : Nat) (hp : p < 65536) (w : World) : Calls Try.prog 20 #[D64 p, .bool false] w (Pure1 w (U (BitVec.ofNat 32 (rootN false p)))) := by
  refine enter (args := [D64 p, .bool false]) 46 Try.func20 rfl rfl (by simp) ?_
  refine J.seq ?_
  refine J.region ?_
  refine JL.ev (U 0) rfl rfl (Ev.assign rfl) ?_
  refine JL.nil ?_
  refine JE.next ?_
  refine J.seq ?_
  refine J.region ?_
  refine JL.ev _ rfl rfl (Ev.move rfl) ?_
  refine JL.eff (Eff.litV (e := 49) (z := D64 0) (xs := digs 5 (wd 4 p)) Try.underlying62 (by kernel_rfl) rfl (by decide) rfl (fun u => by kernel_rfl) (by decide)) rfl rfl (fun gw _ => ?_)
  refine JL.ev _ rfl rfl (Ev.assign rfl) ?_
  refine JL.nil ?_
  refine JE.next ?_
  refine J.seq ?_
  refine J.seq ?_
  refine J.region ?_
  refine JL.ev _ rfl rfl (Ev.move rfl) ?_
  refine JL.nil ?_
  refine JE.next ?_
  refine J.condF rfl (rfl) ?_
  refine J.skip ?_
  refine JE.next ?_
  refine J.seq ?_
  refine J.region ?_
  refine JL.ev (D64 0) rfl rfl (Ev.assign rfl) ?_
  refine JL.nil ?_
  refine JE.next ?_
  refine J.seq ?_
  refine J.seq ?_
  refine J.region ?_
  refine JL.ev _ rfl rfl (Ev.assign rfl) ?_
  refine JL.nil ?_
  refine JE.next ?_
  refine J.block ?_
  refine J.loop (σ := Nat × Nat) (fun q => q.1 ≤ 38 ∧ q.2 % 2 ^ q.1 = 0 ∧ q.2 < 2 ^ 38 ∧ rt (fits false p) q.1 q.2 = rootN false p) (fun q => [(1, .bool false), (5, .slice (some ⟨gw, 0, none⟩) 5 5), (6, D64 q.2), (7, .int .i64 ((q.1 : Int) - 1))]) (fun q => [rowE (.slice (some ⟨gw, 0, none⟩) 5 5) 49 (digs 5 (wd 4 p))]) (fun q => q.1) (38, 0) ⟨by decide, by decide, by decide, rfl⟩ ⟨rfl, rfl, rfl, rfl, trivial⟩ (fun w s => s.sub (by repeat (first | exact List.Sublist.refl _ | exact List.nil_sublist _ | apply List.Sublist.cons_cons | apply List.Sublist.cons))) ?_
  rintro ⟨k, m⟩ ⟨hk, hm, hlt, hrt⟩
  dsimp only at hk hm hlt hrt ⊢
  refine J.seq ?_
  refine J.seq ?_
  refine J.region ?_
  refine JL.ev _ rfl rfl (Ev.move rfl) ?_
  refine JL.ev _ rfl rfl (Ev.geq rfl rfl rfl) ?_
  refine JL.nil ?_
  refine JE.next ?_
  refine J.cond _ rfl (fun ht17 => ?_) (fun ht17 => ?_)
  · try replace ht17 := of_decide_eq_true ht17
    obtain ⟨i, rfl⟩ : ∃ i, k = i + 1 := ⟨k - 1, by omega⟩
    rw [show ((i + 1 : Nat) : Int) - 1 = (i : Int) by omega]
    have hM := more_lt m i hm (by omega) hlt
    have hor := or_pow m i hm
    have hmod := mod_half m i hm
    have hpow : 2 ^ i ≤ 2 ^ 37 := Nat.pow_le_pow_right (by omega) (by omega)
    refine J.skip ?_
    refine JE.next ?_
    refine J.seq ?_
    refine J.block ?_
    refine J.seq ?_
    refine J.region ?_
    refine JL.ev _ rfl rfl (Ev.move rfl) ?_
    refine JL.ev _ rfl rfl (Ev.move rfl) ?_
    refine JL.ev _ rfl rfl (Ev.shlN (a := 1) (m := i) rfl rfl (by omega) (by omega)) ?_
    refine JL.ev _ rfl rfl (Ev.orN rfl rfl (by omega) (by omega)) ?_
    rw [Nat.one_mul, hor]
    obtain ⟨M, hMe⟩ : ∃ M, m + 2 ^ i = M := ⟨_, rfl⟩
    rw [hMe] at hM hmod ⊢
    refine JL.ev _ rfl rfl (Ev.assign rfl) ?_
    refine JL.nil ?_
    refine JE.next ?_
    refine J.seq ?_
    refine J.region ?_
    refine JL.ev _ rfl rfl (Ev.move rfl) ?_
    refine JL.ev _ rfl rfl (Ev.remN (b := 65536) rfl rfl (by omega)) ?_
    refine JL.ev _ rfl rfl (Ev.move rfl) ?_
    refine JL.ev _ rfl rfl (Ev.quoN (b := 65536) rfl rfl (by omega) (by omega)) ?_
    refine JL.ev _ rfl rfl (Ev.remN (b := 65536) rfl rfl (by omega)) ?_
    refine JL.ev _ rfl rfl (Ev.move rfl) ?_
    refine JL.ev _ rfl rfl (Ev.shrN (m := 32) rfl rfl (by omega)) ?_
    refine JL.eff (Eff.litV (e := 49) (z := D64 0) (xs := digs 3 (xd M)) Try.underlying62 (by kernel_rfl) rfl (by decide) rfl (fun u => by kernel_rfl) (by decide)) rfl rfl (fun g9 _ => ?_)
    refine JL.ev _ rfl rfl (Ev.assign rfl) ?_
    refine JL.nil ?_
    refine JE.next ?_
    refine J.seq ?_
    refine J.region ?_
    refine JL.ev _ rfl rfl (Ev.move rfl) ?_
    refine JL.ev _ rfl rfl (Ev.move rfl) ?_
    refine JL.eff (times_eff (xd M) (xd M) 3 3 g9 g9 3 3 rfl rfl (xd_lt M hM) (xd_lt M hM) (by decide) (by decide) (by repeat (first | exact At.here | apply At.there)) (by repeat (first | exact At.here | apply At.there))) rfl rfl ?_
    rintro ⟨g10, Y⟩ ⟨hY, hYv⟩
    dsimp only at hY hYv ⊢
    rw [gv_xd M] at hYv
    refine JL.ev _ rfl rfl (Ev.assign rfl) ?_
    refine JL.nil ?_
    refine JE.next ?_
    refine J.seq ?_
    refine J.seq ?_
    refine J.region ?_
    refine JL.ev _ rfl rfl (Ev.move rfl) ?_
    refine JL.nil ?_
    refine JE.next ?_
    refine J.condF rfl (rfl) ?_
    refine J.skip ?_
    refine JE.next ?_
    refine J.seq ?_
    refine J.region ?_
    refine JL.ev _ rfl rfl (Ev.move rfl) ?_
    refine JL.ev _ rfl rfl (Ev.move rfl) ?_
    refine JL.eff (above_eff Y (wd 4 p) 6 5 g10 gw 6 5 rfl rfl hY (wd_lt 4 p hp) (by decide) (by decide) (by repeat (first | exact At.here | apply At.there)) (by repeat (first | exact At.here | apply At.there))) rfl rfl (fun _ _ => ?_)
    rw [gv_wd, hYv]
    refine JL.ev _ rfl rfl (Ev.not rfl rfl) ?_
    refine JL.nil ?_
    refine JE.next ?_
    refine J.cond _ rfl (fun ht42 => ?_) (fun ht42 => ?_)
    · have hfit : fits false p M = true := by
        simp only [Bool.not_eq_true', decide_eq_false_iff_not, Nat.not_lt] at ht42
        simp only [fits, Bool.false_eq_true, if_false, decide_eq_true_eq]
        exact ht42
      refine J.region ?_
      refine JL.ev _ rfl rfl (Ev.move rfl) ?_
      refine JL.ev _ rfl rfl (Ev.assign rfl) ?_
      refine JL.nil ?_
      refine JE.blockNormal ?_
      refine JE.next ?_
      refine J.region ?_
      refine JL.ev _ rfl rfl (Ev.move rfl) ?_
      refine JL.ev _ rfl rfl (Ev.sub rfl rfl (i64_in (by omega) (by omega))) ?_
      refine JL.ev _ rfl rfl (Ev.assign rfl) ?_
      refine JL.nil ?_
      first
      | exact JE.back (i, M) ⟨by dsimp only; omega, hmod.2, hM, by dsimp only; rw [← hrt, rt, hMe, hfit]; rfl⟩ (by dsimp only; omega) ⟨rfl, rfl, rfl, rfl, trivial⟩ (fun w s => s.sub (by repeat (first | exact List.Sublist.refl _ | exact List.nil_sublist _ | apply List.Sublist.cons_cons | apply List.Sublist.cons)))
      | exact JE.back (i, m) ⟨by dsimp only; omega, hmod.1, hlt, by dsimp only; rw [← hrt, rt, hMe, hfit]; rfl⟩ (by dsimp only; omega) ⟨rfl, rfl, rfl, rfl, trivial⟩ (fun w s => s.sub (by repeat (first | exact List.Sublist.refl _ | exact List.nil_sublist _ | apply List.Sublist.cons_cons | apply List.Sublist.cons)))
    · have hfit : fits false p M = false := by
        simp only [Bool.not_eq_false', decide_eq_true_eq] at ht42
        simp only [fits, Bool.false_eq_true, if_false, decide_eq_false_iff_not, Nat.not_le]
        exact ht42
      refine J.skip ?_
      refine JE.blockNormal ?_
      refine JE.next ?_
      refine J.region ?_
      refine JL.ev _ rfl rfl (Ev.move rfl) ?_
      refine JL.ev _ rfl rfl (Ev.sub rfl rfl (i64_in (by omega) (by omega))) ?_
      refine JL.ev _ rfl rfl (Ev.assign rfl) ?_
      refine JL.nil ?_
      first
      | exact JE.back (i, M) ⟨by dsimp only; omega, hmod.2, hM, by dsimp only; rw [← hrt, rt, hMe, hfit]; rfl⟩ (by dsimp only; omega) ⟨rfl, rfl, rfl, rfl, trivial⟩ (fun w s => s.sub (by repeat (first | exact List.Sublist.refl _ | exact List.nil_sublist _ | apply List.Sublist.cons_cons | apply List.Sublist.cons)))
      | exact JE.back (i, m) ⟨by dsimp only; omega, hmod.1, hlt, by dsimp only; rw [← hrt, rt, hMe, hfit]; rfl⟩ (by dsimp only; omega) ⟨rfl, rfl, rfl, rfl, trivial⟩ (fun w s => s.sub (by repeat (first | exact List.Sublist.refl _ | exact List.nil_sublist _ | apply List.Sublist.cons_cons | apply List.Sublist.cons)))
  · try replace ht17 := of_decide_eq_false ht17
    obtain rfl : k = 0 := by omega
    refine J.exit ?_
    refine JE.thenExit ?_
    refine JE.thenExit ?_
    refine JE.blockHere ?_
    refine JE.next ?_
    refine J.seq ?_
    refine J.region ?_
    refine JL.ev _ rfl rfl (Ev.move rfl) ?_
    refine JL.ev _ rfl rfl (Ev.convNU rfl Try.underlying49 Try.underlying23) ?_
    refine JL.ev _ rfl rfl (Ev.assign rfl) ?_
    refine JL.nil ?_
    refine JE.next ?_
    refine J.ret ?_
    exact JE.ret1 _ rfl rfl fun w' s => ⟨by rw [← hrt]; rfl, s.below⟩
theorem root3_calls (p : Nat) (hp : p < 65536) (w : World) : Calls Try.prog 20 #[D64 p, .bool true] w (Pure1 w (U (BitVec.ofNat 32 (rootN true p)))) := by
  refine enter (args := [D64 p, .bool true]) 46 Try.func20 rfl rfl (by simp) ?_
  refine J.seq ?_
  refine J.region ?_
  refine JL.ev (U 0) rfl rfl (Ev.assign rfl) ?_
  refine JL.nil ?_
  refine JE.next ?_
  refine J.seq ?_
  refine J.region ?_
  refine JL.ev _ rfl rfl (Ev.move rfl) ?_
  refine JL.eff (Eff.litV (e := 49) (z := D64 0) (xs := digs 5 (wd 4 p)) Try.underlying62 (by kernel_rfl) rfl (by decide) rfl (fun u => by kernel_rfl) (by decide)) rfl rfl (fun gx _ => ?_)
  refine JL.ev _ rfl rfl (Ev.assign rfl) ?_
  refine JL.nil ?_
  refine JE.next ?_
  refine J.seq ?_
  refine J.seq ?_
  refine J.region ?_
  refine JL.ev _ rfl rfl (Ev.move rfl) ?_
  refine JL.nil ?_
  refine JE.next ?_
  refine J.condT rfl (rfl) ?_
  refine J.region ?_
  refine JL.ev _ rfl rfl (Ev.move rfl) ?_
  refine JL.eff (Eff.litV (e := 49) (z := D64 0) (xs := digs 7 (wd 6 p)) Try.underlying62 (by kernel_rfl) rfl (by decide) rfl (fun u => by kernel_rfl) (by decide)) rfl rfl (fun gw _ => ?_)
  refine JL.ev _ rfl rfl (Ev.assign rfl) ?_
  refine JL.nil ?_
  refine JE.next ?_
  refine J.seq ?_
  refine J.region ?_
  refine JL.ev (D64 0) rfl rfl (Ev.assign rfl) ?_
  refine JL.nil ?_
  refine JE.next ?_
  refine J.seq ?_
  refine J.seq ?_
  refine J.region ?_
  refine JL.ev _ rfl rfl (Ev.assign rfl) ?_
  refine JL.nil ?_
  refine JE.next ?_
  refine J.block ?_
  refine J.loop (σ := Nat × Nat) (fun q => q.1 ≤ 38 ∧ q.2 % 2 ^ q.1 = 0 ∧ q.2 < 2 ^ 38 ∧ rt (fits true p) q.1 q.2 = rootN true p) (fun q => [(1, .bool true), (5, .slice (some ⟨gw, 0, none⟩) 7 7), (6, D64 q.2), (7, .int .i64 ((q.1 : Int) - 1))]) (fun q => [rowE (.slice (some ⟨gw, 0, none⟩) 7 7) 49 (digs 7 (wd 6 p))]) (fun q => q.1) (38, 0) ⟨by decide, by decide, by decide, rfl⟩ ⟨rfl, rfl, rfl, rfl, trivial⟩ (fun w s => s.sub (by repeat (first | exact List.Sublist.refl _ | exact List.nil_sublist _ | apply List.Sublist.cons_cons | apply List.Sublist.cons))) ?_
  rintro ⟨k, m⟩ ⟨hk, hm, hlt, hrt⟩
  dsimp only at hk hm hlt hrt ⊢
  refine J.seq ?_
  refine J.seq ?_
  refine J.region ?_
  refine JL.ev _ rfl rfl (Ev.move rfl) ?_
  refine JL.ev _ rfl rfl (Ev.geq rfl rfl rfl) ?_
  refine JL.nil ?_
  refine JE.next ?_
  refine J.cond _ rfl (fun ht17 => ?_) (fun ht17 => ?_)
  · try replace ht17 := of_decide_eq_true ht17
    obtain ⟨i, rfl⟩ : ∃ i, k = i + 1 := ⟨k - 1, by omega⟩
    rw [show ((i + 1 : Nat) : Int) - 1 = (i : Int) by omega]
    have hM := more_lt m i hm (by omega) hlt
    have hor := or_pow m i hm
    have hmod := mod_half m i hm
    have hpow : 2 ^ i ≤ 2 ^ 37 := Nat.pow_le_pow_right (by omega) (by omega)
    refine J.skip ?_
    refine JE.next ?_
    refine J.seq ?_
    refine J.block ?_
    refine J.seq ?_
    refine J.region ?_
    refine JL.ev _ rfl rfl (Ev.move rfl) ?_
    refine JL.ev _ rfl rfl (Ev.move rfl) ?_
    refine JL.ev _ rfl rfl (Ev.shlN (a := 1) (m := i) rfl rfl (by omega) (by omega)) ?_
    refine JL.ev _ rfl rfl (Ev.orN rfl rfl (by omega) (by omega)) ?_
    rw [Nat.one_mul, hor]
    obtain ⟨M, hMe⟩ : ∃ M, m + 2 ^ i = M := ⟨_, rfl⟩
    rw [hMe] at hM hmod ⊢
    refine JL.ev _ rfl rfl (Ev.assign rfl) ?_
    refine JL.nil ?_
    refine JE.next ?_
    refine J.seq ?_
    refine J.region ?_
    refine JL.ev _ rfl rfl (Ev.move rfl) ?_
    refine JL.ev _ rfl rfl (Ev.remN (b := 65536) rfl rfl (by omega)) ?_
    refine JL.ev _ rfl rfl (Ev.move rfl) ?_
    refine JL.ev _ rfl rfl (Ev.quoN (b := 65536) rfl rfl (by omega) (by omega)) ?_
    refine JL.ev _ rfl rfl (Ev.remN (b := 65536) rfl rfl (by omega)) ?_
    refine JL.ev _ rfl rfl (Ev.move rfl) ?_
    refine JL.ev _ rfl rfl (Ev.shrN (m := 32) rfl rfl (by omega)) ?_
    refine JL.eff (Eff.litV (e := 49) (z := D64 0) (xs := digs 3 (xd M)) Try.underlying62 (by kernel_rfl) rfl (by decide) rfl (fun u => by kernel_rfl) (by decide)) rfl rfl (fun g9 _ => ?_)
    refine JL.ev _ rfl rfl (Ev.assign rfl) ?_
    refine JL.nil ?_
    refine JE.next ?_
    refine J.seq ?_
    refine J.region ?_
    refine JL.ev _ rfl rfl (Ev.move rfl) ?_
    refine JL.ev _ rfl rfl (Ev.move rfl) ?_
    refine JL.eff (times_eff (xd M) (xd M) 3 3 g9 g9 3 3 rfl rfl (xd_lt M hM) (xd_lt M hM) (by decide) (by decide) (by repeat (first | exact At.here | apply At.there)) (by repeat (first | exact At.here | apply At.there))) rfl rfl ?_
    rintro ⟨g10, Y⟩ ⟨hY, hYv⟩
    dsimp only at hY hYv ⊢
    rw [gv_xd M] at hYv
    refine JL.ev _ rfl rfl (Ev.assign rfl) ?_
    refine JL.nil ?_
    refine JE.next ?_
    refine J.seq ?_
    refine J.seq ?_
    refine J.region ?_
    refine JL.ev _ rfl rfl (Ev.move rfl) ?_
    refine JL.nil ?_
    refine JE.next ?_
    refine J.condT rfl (rfl) ?_
    refine J.region ?_
    refine JL.ev _ rfl rfl (Ev.move rfl) ?_
    refine JL.ev _ rfl rfl (Ev.move rfl) ?_
    refine JL.eff (times_eff Y (xd M) 6 3 g10 g9 6 3 rfl rfl hY (xd_lt M hM) (by decide) (by decide) (by repeat (first | exact At.here | apply At.there)) (by repeat (first | exact At.here | apply At.there))) rfl rfl ?_
    rintro ⟨g11, Z⟩ ⟨hZ, hZv⟩
    dsimp only at hZ hZv ⊢
    rw [gv_xd M, hYv] at hZv
    refine JL.ev _ rfl rfl (Ev.assign rfl) ?_
    refine JL.nil ?_
    refine JE.next ?_
    refine J.seq ?_
    refine J.region ?_
    refine JL.ev _ rfl rfl (Ev.move rfl) ?_
    refine JL.ev _ rfl rfl (Ev.move rfl) ?_
    refine JL.eff (above_eff Z (wd 6 p) 9 7 g11 gw 9 7 rfl rfl hZ (wd_lt 6 p hp) (by decide) (by decide) (by repeat (first | exact At.here | apply At.there)) (by repeat (first | exact At.here | apply At.there))) rfl rfl (fun _ _ => ?_)
    rw [gv_wd, hZv]
    refine JL.ev _ rfl rfl (Ev.not rfl rfl) ?_
    refine JL.nil ?_
    refine JE.next ?_
    refine J.cond _ rfl (fun ht42 => ?_) (fun ht42 => ?_)
    · have hfit : fits true p M = true := by
        simp only [Bool.not_eq_true', decide_eq_false_iff_not, Nat.not_lt] at ht42
        simp only [fits, if_true, decide_eq_true_eq]
        exact ht42
      refine J.region ?_
      refine JL.ev _ rfl rfl (Ev.move rfl) ?_
      refine JL.ev _ rfl rfl (Ev.assign rfl) ?_
      refine JL.nil ?_
      refine JE.blockNormal ?_
      refine JE.next ?_
      refine J.region ?_
      refine JL.ev _ rfl rfl (Ev.move rfl) ?_
      refine JL.ev _ rfl rfl (Ev.sub rfl rfl (i64_in (by omega) (by omega))) ?_
      refine JL.ev _ rfl rfl (Ev.assign rfl) ?_
      refine JL.nil ?_
      first
      | exact JE.back (i, M) ⟨by dsimp only; omega, hmod.2, hM, by dsimp only; rw [← hrt, rt, hMe, hfit]; rfl⟩ (by dsimp only; omega) ⟨rfl, rfl, rfl, rfl, trivial⟩ (fun w s => s.sub (by repeat (first | exact List.Sublist.refl _ | exact List.nil_sublist _ | apply List.Sublist.cons_cons | apply List.Sublist.cons)))
      | exact JE.back (i, m) ⟨by dsimp only; omega, hmod.1, hlt, by dsimp only; rw [← hrt, rt, hMe, hfit]; rfl⟩ (by dsimp only; omega) ⟨rfl, rfl, rfl, rfl, trivial⟩ (fun w s => s.sub (by repeat (first | exact List.Sublist.refl _ | exact List.nil_sublist _ | apply List.Sublist.cons_cons | apply List.Sublist.cons)))
    · have hfit : fits true p M = false := by
        simp only [Bool.not_eq_false', decide_eq_true_eq] at ht42
        simp only [fits, if_true, decide_eq_false_iff_not, Nat.not_le]
        exact ht42
      refine J.skip ?_
      refine JE.blockNormal ?_
      refine JE.next ?_
      refine J.region ?_
      refine JL.ev _ rfl rfl (Ev.move rfl) ?_
      refine JL.ev _ rfl rfl (Ev.sub rfl rfl (i64_in (by omega) (by omega))) ?_
      refine JL.ev _ rfl rfl (Ev.assign rfl) ?_
      refine JL.nil ?_
      first
      | exact JE.back (i, M) ⟨by dsimp only; omega, hmod.2, hM, by dsimp only; rw [← hrt, rt, hMe, hfit]; rfl⟩ (by dsimp only; omega) ⟨rfl, rfl, rfl, rfl, trivial⟩ (fun w s => s.sub (by repeat (first | exact List.Sublist.refl _ | exact List.nil_sublist _ | apply List.Sublist.cons_cons | apply List.Sublist.cons)))
      | exact JE.back (i, m) ⟨by dsimp only; omega, hmod.1, hlt, by dsimp only; rw [← hrt, rt, hMe, hfit]; rfl⟩ (by dsimp only; omega) ⟨rfl, rfl, rfl, rfl, trivial⟩ (fun w s => s.sub (by repeat (first | exact List.Sublist.refl _ | exact List.nil_sublist _ | apply List.Sublist.cons_cons | apply List.Sublist.cons)))
  · try replace ht17 := of_decide_eq_false ht17
    obtain rfl : k = 0 := by omega
    refine J.exit ?_
    refine JE.thenExit ?_
    refine JE.thenExit ?_
    refine JE.blockHere ?_
    refine JE.next ?_
    refine J.seq ?_
    refine J.region ?_
    refine JL.ev _ rfl rfl (Ev.move rfl) ?_
    refine JL.ev _ rfl rfl (Ev.convNU rfl Try.underlying49 Try.underlying23) ?_
    refine JL.ev _ rfl rfl (Ev.assign rfl) ?_
    refine JL.nil ?_
    refine JE.next ?_
    refine J.ret ?_
    exact JE.ret1 _ rfl rfl fun w' s => ⟨by rw [← hrt]; rfl, s.below⟩
end Go.Proofs.Ytimokikpnngikaa
