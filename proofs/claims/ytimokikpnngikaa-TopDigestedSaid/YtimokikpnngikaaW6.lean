/- The walk of a digest, as it is written bit by bit. -/
import Derived.Test.YtimokikpnngikaaW5
import Derived.Test.YtimokikpnngikaaD4
namespace Go.Proofs.Ytimokikpnngikaa
open Go Go.RowKit Go.Proofs Go.Fw Go.Dig
theorem digest03_calls (K H : Nat → BitVec 32) (s : List UInt8) (hs : s.length ≤ 140737488355328) (w : World) : Calls Try.prog 8 #[.agg (arr 64 fun i => U (K i)), .agg (arr 8 fun i => U (H i)), S s] w (Pure1 w (S (out8 (digest K H s)))) := by
  obtain ⟨hp1, hp2, hp3⟩ := padL_len s
  obtain ⟨N, hN⟩ : ∃ N, (padL s).length = 64 * N := ⟨(padL s).length / 64, by omega⟩
  rw [show digest K H s = dig K N H (padL s) by unfold digest; rw [hN, Nat.mul_div_cancel_left _ (by decide)]]
  refine enter (args := [.agg (arr 64 fun i => U (K i)), .agg (arr 8 fun i => U (H i)), S s]) 32 Try.func8 rfl rfl (by simp) ?_
  refine J.seq ?_
  refine J.region ?_
  refine JL.eff (Eff.boxA rfl) rfl rfl (fun g3 _ => ?_)
  refine JL.eff (Eff.boxA rfl) rfl rfl (fun g4 _ => ?_)
  refine JL.ev (S []) rfl rfl (Ev.assign rfl) ?_
  refine JL.nil ?_
  refine JE.next ?_
  refine J.seq ?_
  refine J.seq ?_
  refine J.region ?_
  refine JL.ev _ rfl rfl (Ev.move rfl) ?_
  refine JL.eff (Eff.callP rfl (enters Try.func9 (by kernel_rfl) rfl) (filled_calls s hs)) rfl rfl (fun _ _ => ?_)
  refine JL.ev _ rfl rfl (Ev.assign rfl) ?_
  refine JL.nil ?_
  refine JE.next ?_
  refine J.block ?_
  refine J.loop (σ := Nat) (fun k => k ≤ N) (fun k => [(3, .pointer (some ⟨g3, 0, none⟩)), (4, .pointer (some ⟨g4, 0, none⟩)), (7, S ((padL s).drop (64 * k)))]) (fun k => [cells g4 (arr 8 (fun i => U (dig K k H (padL s) i))) 24, cells g3 (arr 64 (fun i => U (K i))) 30]) (fun k => N - k) 0 (Nat.zero_le _) ⟨rfl, rfl, rfl, trivial⟩ (fun w s => s) ?_
  intro k hk
  have hln : ((padL s).drop (64 * k)).length = 64 * (N - k) := by rw [List.length_drop]; omega
  refine J.seq ?_
  refine J.seq ?_
  refine J.region ?_
  refine JL.ev _ rfl rfl (Ev.move rfl) ?_
  refine JL.ev _ rfl rfl (Ev.neqS (a := (padL s).drop (64 * k)) (b := []) rfl rfl rfl) ?_
  refine JL.nil ?_
  refine JE.next ?_
  refine J.cond _ rfl (fun ht14 => ?_) (fun ht14 => ?_)
  · try replace ht14 := of_decide_eq_true ht14
    have hk2 : k < N := by
      rcases Nat.lt_or_ge k N with h | h
      · exact h
      · exact absurd (List.eq_nil_of_length_eq_zero (by rw [hln]; omega)) ht14
    refine J.skip ?_
    refine JE.next ?_
    refine J.seq ?_
    refine J.block ?_
    refine J.region ?_
    refine JL.ev _ rfl rfl (Ev.loadAll rfl Try.underlying30 rfl (by repeat (first | exact At.here | apply At.there)) (by kernel_rfl)) ?_
    refine JL.ev _ rfl rfl (Ev.loadAll rfl Try.underlying24 rfl (by repeat (first | exact At.here | apply At.there)) (by kernel_rfl)) ?_
    refine JL.ev _ rfl rfl (Ev.move rfl) ?_
    refine JL.eff (Eff.callP rfl (enters Try.func13 (by kernel_rfl) rfl) (block03_calls K (dig K k H (padL s)) ((padL s).drop (64 * k)) (by omega))) rfl rfl (fun _ _ => ?_)
    refine JL.eff0 (Eff.storeAll rfl rfl (by kernel_rfl) (fun _ => rfl) (by repeat (first | exact At.here | apply At.there))) rfl rfl (fun _ _ => ?_)
    refine JL.nil ?_
    refine JE.blockNormal ?_
    refine JE.next ?_
    refine J.region ?_
    refine JL.ev _ rfl rfl (Ev.move rfl) ?_
    refine JL.ev _ rfl rfl (Ev.sliceFrom (i := 64) rfl Try.underlying9 rfl (by omega)) ?_
    refine JL.ev _ rfl rfl (Ev.assign rfl) ?_
    refine JL.nil ?_
    exact JE.back (k + 1) (by omega) (by omega) ⟨rfl, rfl, by simp only [lk]; rw [show 64 * (k + 1) = 64 * k + 64 by omega, ← List.drop_drop]; rfl, trivial⟩ (fun w s => by rw [dig_succ]; exact s)
  · try replace ht14 := of_decide_eq_false ht14
    obtain rfl : k = N := by
      rcases Nat.lt_or_ge k N with h | h
      · exfalso
        have h1 : (padL s).drop (64 * k) = [] := by
          by_cases h2 : (padL s).drop (64 * k) = []
          · exact h2
          · simp [h2] at ht14
        rw [h1] at hln
        simp at hln
        omega
      · omega
    refine J.exit ?_
    refine JE.thenExit ?_
    refine JE.thenExit ?_
    refine JE.blockHere ?_
    refine JE.next ?_
    refine J.seq ?_
    refine J.region ?_
    refine JL.ev (S []) rfl rfl (Ev.assign rfl) ?_
    refine JL.nil ?_
    refine JE.next ?_
    refine J.seq ?_
    refine J.seq ?_
    refine J.region ?_
    refine JL.ev _ rfl rfl (Ev.loadAll rfl Try.underlying24 rfl (by repeat (first | exact At.here | apply At.there)) (by kernel_rfl)) ?_
    refine JL.ev _ rfl rfl (Ev.move rfl) ?_
    refine JL.nil ?_
    refine JE.next ?_
    refine J.block ?_
    refine J.loop (σ := Nat) (fun j => j ≤ 8) (fun j => [(21, .agg (arr 8 (fun i => U (dig K k H (padL s) i)))), (22, .int .i64 j), (8, S (out8k (dig K k H (padL s)) j))]) (fun _ => []) (fun j => 8 - j) 0 (Nat.zero_le _) ⟨rfl, rfl, rfl, trivial⟩ (fun w s => s.sub (List.nil_sublist _)) ?_
    intro j hj
    have hol := out8k_len (dig K k H (padL s)) j
    refine J.seq ?_
    refine J.region ?_
    refine JL.ev _ rfl rfl (Ev.lss rfl rfl rfl) ?_
    refine JL.nil ?_
    refine JE.next ?_
    refine J.seq ?_
    refine J.cond _ rfl (fun ht23 => ?_) (fun ht23 => ?_)
    · try replace ht23 := of_decide_eq_true ht23
      refine J.skip ?_
      refine JE.next ?_
      refine J.seq ?_
      refine J.block ?_
      refine J.seq ?_
      refine J.region ?_
      refine JL.ev _ rfl rfl (Ev.indexArr rfl rfl Try.underlying24 (by kernel_rfl) Try.underlying23 rfl (by omega) (by omega) (by first | exact idxN _ | rfl)) ?_
      refine JL.ev _ rfl rfl (Ev.assign rfl) ?_
      refine JL.nil ?_
      refine JE.next ?_
      refine J.region ?_
      refine JL.ev _ rfl rfl (Ev.move rfl) ?_
      refine JL.ev _ rfl rfl (Ev.move rfl) ?_
      refine JL.ev _ rfl rfl (Ev.convUN rfl Try.underlying23 Try.underlying49) ?_
      refine JL.eff (Eff.callP rfl (enters Try.func21 (by kernel_rfl) rfl) (laid_calls _ 4 (by decide) (by have := (dig K k H (padL s) j).isLt; omega))) rfl rfl (fun _ _ => ?_)
      refine JL.ev _ rfl rfl (Ev.addS rfl rfl (by rw [hol, laidL_len]; omega)) ?_
      refine JL.ev _ rfl rfl (Ev.assign rfl) ?_
      refine JL.nil ?_
      refine JE.blockNormal ?_
      refine JE.next ?_
      refine J.region ?_
      refine JL.ev _ rfl rfl (Ev.add rfl rfl (i64_in (by omega) (by omega))) ?_
      refine JL.ev _ rfl rfl (Ev.move rfl) ?_
      refine JL.nil ?_
      exact JE.back (j + 1) (by omega) (by omega) ⟨rfl, rfl, by simp only [lk]; rw [out8k_succ]; rfl, trivial⟩ (fun w s => s)
    · try replace ht23 := of_decide_eq_false ht23
      obtain rfl : j = 8 := by omega
      refine J.exit ?_
      refine JE.thenExit ?_
      refine JE.thenExit ?_
      refine JE.blockHere ?_
      refine JE.next ?_
      refine J.seq ?_
      refine J.region ?_
      refine JL.ev _ rfl rfl (Ev.move rfl) ?_
      refine JL.ev _ rfl rfl (Ev.assign rfl) ?_
      refine JL.nil ?_
      refine JE.next ?_
      refine J.ret ?_
      exact JE.ret1 _ rfl rfl fun w' s => ⟨rfl, s.below⟩
end Go.Proofs.Ytimokikpnngikaa
