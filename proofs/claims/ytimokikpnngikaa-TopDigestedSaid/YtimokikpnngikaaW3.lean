/- The walks of the primes and of the tables. -/
import Derived.Test.YtimokikpnngikaaW2
namespace Go.Proofs.Ytimokikpnngikaa
open Go Go.RowKit Go.Proofs Go.Fw Go.Dig
theorem len_D64 (l : List Nat) : (l.map D64).length = l.length := List.length_map ..
theorem get_D64 {l : List Nat} {i : Nat} (h : i < l.length) : (l.map D64)[i]? = some (D64 l[i]) := by simp [h]
theorem primes_calls (w : World) : Calls Try.prog 19 #[.int .i64 64] w fun e w' => ∃ v, e = .returned v ∧ Below w.heap.size w w' ∧ (∀ b, v.ownBlock = some b → w.heap.size ≤ b) ∧ (rowE v 49 ((pr 310).map D64)).ok w' := by
  refine enter (args := [.int .i64 64]) 34 Try.func19 rfl rfl (by simp) ?_
  refine J.seq ?_
  refine J.region ?_
  refine JL.ev _ rfl rfl (Ev.assign rfl) ?_
  refine JL.nil ?_
  refine JE.next ?_
  refine J.seq ?_
  refine J.region ?_
  refine JL.ev _ rfl rfl (Ev.assign rfl) ?_
  refine JL.nil ?_
  refine JE.next ?_
  refine J.seq ?_
  refine J.seq ?_
  refine J.region ?_
  refine JL.ev (D64 2) rfl rfl (Ev.assign rfl) ?_
  refine JL.nil ?_
  refine JE.next ?_
  refine J.block ?_
  refine J.loop (σ := Nat × Value) (fun p => p.1 ≤ 310) (fun p => [(0, .int .i64 64), (3, p.2), (4, D64 (p.1 + 2))]) (fun p => [rowE p.2 49 ((pr p.1).map D64)]) (fun p => 310 - p.1) (0, .slice none 0 0) (by decide) ⟨rfl, rfl, rfl, trivial⟩ (fun w s => s.addNil 49) ?_
  rintro ⟨k, v⟩ hk
  dsimp only at hk ⊢
  refine J.seq ?_
  refine J.seq ?_
  refine J.region ?_
  refine JL.ev _ rfl rfl (Ev.move rfl) ?_
  refine JL.ev _ rfl rfl (Ev.lenV (xs := (pr k).map D64) (e' := 49) rfl Try.underlying47 (by repeat (first | exact At.here | apply At.there))) ?_
  rw [len_D64]
  refine JL.ev _ rfl rfl (Ev.move rfl) ?_
  refine JL.ev _ rfl rfl (Ev.lss rfl rfl rfl) ?_
  refine JL.nil ?_
  refine JE.next ?_
  refine J.cond _ rfl (fun ht11 => ?_) (fun ht11 => ?_)
  · try replace ht11 := of_decide_eq_true ht11
    have hk2 := pr_more k hk (by omega)
    refine J.skip ?_
    refine JE.next ?_
    refine J.seq ?_
    refine J.block ?_
    refine J.seq ?_
    refine J.region ?_
    refine JL.ev _ rfl rfl (Ev.assign rfl) ?_
    refine JL.nil ?_
    refine JE.next ?_
    refine J.seq ?_
    refine J.seq ?_
    refine J.region ?_
    refine JL.ev _ rfl rfl (Ev.move rfl) ?_
    refine JL.ev _ rfl rfl (Ev.lenV (xs := (pr k).map D64) (e' := 49) rfl Try.underlying47 (by repeat (first | exact At.here | apply At.there))) ?_
    rw [len_D64]
    refine JL.ev _ rfl rfl (Ev.move rfl) ?_
    refine JL.nil ?_
    refine JE.next ?_
    refine J.block ?_
    refine J.loop (σ := Nat) (fun j => j ≤ (pr k).length) (fun j => [(0, .int .i64 64), (3, v), (4, D64 (k + 2)), (5, .bool (allTo (pr k) (k + 2) j)), (14, v), (15, .int .i64 (pr k).length), (16, .int .i64 j)]) (fun _ => [rowE v 49 ((pr k).map D64)]) (fun j => (pr k).length - j) 0 (Nat.zero_le _) ⟨rfl, rfl, rfl, rfl, rfl, rfl, rfl, trivial⟩ (fun w s => s) ?_
    intro j hj
    refine J.seq ?_
    refine J.region ?_
    refine JL.ev _ rfl rfl (Ev.lss rfl rfl rfl) ?_
    refine JL.nil ?_
    refine JE.next ?_
    refine J.seq ?_
    refine J.cond _ rfl (fun ht17 => ?_) (fun ht17 => ?_)
    · try replace ht17 := of_decide_eq_true ht17
      have hjl : j < (pr k).length := by omega
      have hpp := pr_pos k (pr k)[j] (List.getElem_mem hjl)
      have hst := allTo_step (pr k) (k + 2) j hjl
      refine J.skip ?_
      refine JE.next ?_
      refine J.seq ?_
      refine J.block ?_
      refine J.seq ?_
      refine J.region ?_
      refine JL.ev _ rfl rfl (Ev.indexAddrV (xs := (pr k).map D64) (e := 49) rfl rfl (by repeat (first | exact At.here | apply At.there)) Try.underlying47 (by kernel_rfl) (by omega) (by rw [len_D64]; omega) (idxN _)) ?_
      refine JL.ev _ rfl rfl (Ev.loadV rfl Try.underlying49 rfl (by repeat (first | exact At.here | apply At.there)) (get_D64 hjl)) ?_
      refine JL.ev _ rfl rfl (Ev.assign rfl) ?_
      refine JL.nil ?_
      refine JE.next ?_
      refine J.region ?_
      refine JL.ev _ rfl rfl (Ev.move rfl) ?_
      refine JL.ev _ rfl rfl (Ev.move rfl) ?_
      cases hb : allTo (pr k) (k + 2) j
      · refine JL.off rfl rfl ?_
        refine JL.off rfl rfl ?_
        refine JL.off rfl rfl ?_
        refine JL.off rfl rfl ?_
        refine JL.ev _ rfl rfl (Ev.pickF rfl rfl) ?_
        refine JL.ev _ rfl rfl (Ev.assign rfl) ?_
        refine JL.nil ?_
        refine JE.blockNormal ?_
        refine JE.next ?_
        refine J.region ?_
        refine JL.ev _ rfl rfl (Ev.add rfl rfl (i64_in (by omega) (by omega))) ?_
        refine JL.ev _ rfl rfl (Ev.move rfl) ?_
        refine JL.nil ?_
        exact JE.back (j + 1) (by omega) (by omega) ⟨rfl, rfl, rfl, by simp only [lk]; rw [hst, hb]; rfl, rfl, rfl, rfl, trivial⟩ (fun w s => s)
      · refine JL.ev _ rfl rfl (Ev.move rfl) ?_
        refine JL.ev _ rfl rfl (Ev.move rfl) ?_
        refine JL.ev _ rfl rfl (Ev.remN rfl rfl (by omega)) ?_
        refine JL.ev _ rfl rfl (Ev.gtr (c := decide (0 < (k + 2) % (pr k)[j])) rfl rfl (by rw [decide_eq_decide]; omega)) ?_
        refine JL.ev _ rfl rfl (Ev.pickT rfl rfl) ?_
        refine JL.ev _ rfl rfl (Ev.assign rfl) ?_
        refine JL.nil ?_
        refine JE.blockNormal ?_
        refine JE.next ?_
        refine J.region ?_
        refine JL.ev _ rfl rfl (Ev.add rfl rfl (i64_in (by omega) (by omega))) ?_
        refine JL.ev _ rfl rfl (Ev.move rfl) ?_
        refine JL.nil ?_
        exact JE.back (j + 1) (by omega) (by omega) ⟨rfl, rfl, rfl, by simp only [lk]; rw [hst, hb]; rfl, rfl, rfl, rfl, trivial⟩ (fun w s => s)
    · try replace ht17 := of_decide_eq_false ht17
      obtain rfl : j = (pr k).length := by omega
      rw [allTo_all]
      refine J.exit ?_
      refine JE.thenExit ?_
      refine JE.thenExit ?_
      refine JE.blockHere ?_
      refine JE.next ?_
      refine J.seq ?_
      refine J.region ?_
      refine JL.ev _ rfl rfl (Ev.move rfl) ?_
      refine JL.nil ?_
      refine JE.next ?_
      refine J.cond _ rfl (fun ht28 => ?_) (fun ht28 => ?_)
      · refine J.region ?_
        refine JL.ev _ rfl rfl (Ev.move rfl) ?_
        refine JL.ev _ rfl rfl (Ev.move rfl) ?_
        refine JL.eff (Eff.litV (e := 49) (z := D64 0) (xs := [D64 (k + 2)]) Try.underlying47 (by kernel_rfl) rfl (by decide) rfl (fun u => by kernel_rfl) (by decide)) rfl rfl (fun g _ => ?_)
        have hlen : (pr k).length < 64 := by omega
        refine JL.eff (Eff.appendV (xs := (pr k).map D64) (ys := [D64 (k + 2)]) (e := 49) (z := D64 0) (bytes := 8) (c := 1) rfl rfl Try.underlying47 (by kernel_rfl) rfl (fun w s j u hu => by
          have ho := rowE_ok0 (v := .slice (some ⟨g, 0, none⟩) 1 1) (e := 49) (xs := [D64 (k + 2)]) s (by repeat (first | exact At.here | apply At.there))
          rw [addr_add, Nat.zero_add]
          have hlt := (List.getElem?_eq_some_iff.1 hu).1
          exact (row_cell ho j hlt).trans hu) (fun y hy => by simp at hy; subst hy; rfl) (by rw [len_D64]; simp; omega) (by decide) (fun v' => by repeat (first | exact At.here | apply At.there))) rfl rfl (fun v' _ => ?_)
        refine JL.ev _ rfl rfl (Ev.assign rfl) ?_
        refine JL.nil ?_
        refine JE.blockNormal ?_
        refine JE.next ?_
        refine J.region ?_
        refine JL.ev _ rfl rfl (Ev.move rfl) ?_
        refine JL.ev _ rfl rfl (Ev.addN (b := 1) rfl rfl (by omega)) ?_
        refine JL.ev _ rfl rfl (Ev.assign rfl) ?_
        refine JL.nil ?_
        first
        | exact JE.back (k + 1, v') (by dsimp only; omega) (by dsimp only; omega) ⟨rfl, rfl, rfl, trivial⟩ (fun w s => by
            have : (pr (k + 1)).map D64 = (pr k).map D64 ++ [D64 (k + 2)] := by rw [pr, if_pos ht28, List.map_append]; rfl
            dsimp only
            rw [this]
            exact s.sub (by repeat (first | exact List.Sublist.refl _ | exact List.nil_sublist _ | apply List.Sublist.cons_cons | apply List.Sublist.cons)))
        | exact JE.back (k + 1, v) (by dsimp only; omega) (by dsimp only; omega) ⟨rfl, rfl, rfl, trivial⟩ (fun w s => by
            have : pr (k + 1) = pr k := by rw [pr, if_neg (by rw [ht28]; simp)]
            dsimp only
            rw [this]
            exact s)
      · refine J.skip ?_
        refine JE.blockNormal ?_
        refine JE.next ?_
        refine J.region ?_
        refine JL.ev _ rfl rfl (Ev.move rfl) ?_
        refine JL.ev _ rfl rfl (Ev.addN (b := 1) rfl rfl (by omega)) ?_
        refine JL.ev _ rfl rfl (Ev.assign rfl) ?_
        refine JL.nil ?_
        first
        | exact JE.back (k + 1, v') (by dsimp only; omega) (by dsimp only; omega) ⟨rfl, rfl, rfl, trivial⟩ (fun w s => by
            have : (pr (k + 1)).map D64 = (pr k).map D64 ++ [D64 (k + 2)] := by rw [pr, if_pos ht28, List.map_append]; rfl
            dsimp only
            rw [this]
            exact s.sub (by repeat (first | exact List.Sublist.refl _ | exact List.nil_sublist _ | apply List.Sublist.cons_cons | apply List.Sublist.cons)))
        | exact JE.back (k + 1, v) (by dsimp only; omega) (by dsimp only; omega) ⟨rfl, rfl, rfl, trivial⟩ (fun w s => by
            have : pr (k + 1) = pr k := by rw [pr, if_neg (by rw [ht28]; simp)]
            dsimp only
            rw [this]
            exact s)
  · try replace ht11 := of_decide_eq_false ht11
    obtain rfl := pr_done k hk (by omega)
    refine J.exit ?_
    refine JE.thenExit ?_
    refine JE.thenExit ?_
    refine JE.blockHere ?_
    refine JE.next ?_
    refine J.seq ?_
    refine J.region ?_
    refine JL.ev _ rfl rfl (Ev.move rfl) ?_
    refine JL.ev _ rfl rfl (Ev.assign rfl) ?_
    refine JL.nil ?_
    refine JE.next ?_
    refine J.ret ?_
    exact JE.ret1 _ rfl rfl fun w' s => ⟨v, rfl, s.below, fun b hb => s.own _ (List.mem_cons_self ..) (by unfold rowE; rfl) b (by unfold rowE; exact hb), s.ok _ (List.mem_cons_self ..)⟩
theorem primes_eff {w0 : World} {n : Nat} {l : Env} {h : Hp} {dst : Option Tmp} {ty : TypeId} {pos : String} {aft : Array Edge} {gd : Option (Nat × Bool)} {x : Operand} {tys : Array TypeId} (hx : ev n l x = some (.int .i64 64)) :
    Eff Try.prog w0 n l h ⟨dst, .call { callee := .value (.func 19), args := #[x], argTypes := tys }, ty, pos, aft, gd⟩ (α := Value) (fun _ => True) (fun v => v) (fun v => rowE v 49 ((pr 310).map D64) :: h) :=
  Eff.call (xs := [x]) (fi := #[]) (ca := #[]) (args := [.int .i64 64]) rfl (by simp [evs, hx]) (enters Try.func19 (by kernel_rfl) rfl) fun w s => by
    simp only [Array.append_empty, Array.empty_append]
    refine (primes_calls w).mono ?_
    rintro e w' ⟨v, rfl, hb, hn, hok⟩
    exact ⟨v, trivial, rfl, s.addNew hb _ hok (fun b hb' => hn b (rowE_fp' hb'))⟩
theorem tables_calls (w : World) : Calls Try.prog 6 #[] w (Pure1 w (.tuple #[.agg (arr 64 fun i => U (kT i)), .agg (arr 8 fun i => U (hT i))])) := by
  refine enter (args := []) 26 Try.func6 rfl rfl (by simp) ?_
  refine J.seq ?_
  refine J.region ?_
  refine JL.eff (Eff.allocA 64 (fun _ => U 0) (by kernel_rfl)) rfl rfl (fun g0 _ => ?_)
  refine JL.eff (Eff.allocA 8 (fun _ => U 0) (by kernel_rfl)) rfl rfl (fun g1 _ => ?_)
  refine JL.nil ?_
  refine JE.next ?_
  refine J.seq ?_
  refine J.region ?_
  refine JL.eff (Eff.allocA 64 (fun _ => U 0) (by kernel_rfl)) rfl rfl (fun g2 _ => ?_)
  refine JL.nil ?_
  refine JE.next ?_
  refine J.seq ?_
  refine J.region ?_
  refine JL.eff (Eff.allocA 8 (fun _ => U 0) (by kernel_rfl)) rfl rfl (fun g3 _ => ?_)
  refine JL.nil ?_
  refine JE.next ?_
  refine J.seq ?_
  refine J.seq ?_
  refine J.region ?_
  refine JL.eff (primes_eff rfl) rfl rfl (fun v _ => ?_)
  refine JL.ev _ rfl rfl (Ev.lenV (xs := (pr 310).map D64) (e' := 49) rfl Try.underlying47 (by repeat (first | exact At.here | apply At.there))) ?_
  rw [len_D64, pr_310]
  refine JL.ev _ rfl rfl (Ev.move rfl) ?_
  refine JL.nil ?_
  refine JE.next ?_
  refine J.block ?_
  refine J.loop (σ := Nat) (fun k => k ≤ 64) (fun k => [(0, .pointer (some ⟨g0, 0, none⟩)), (1, .pointer (some ⟨g1, 0, none⟩)), (2, .pointer (some ⟨g2, 0, none⟩)), (3, .pointer (some ⟨g3, 0, none⟩)), (6, v), (7, .int .i64 (64 : Nat)), (8, .int .i64 k)]) (fun k => [rowE v 49 ((pr 310).map D64), cells g3 (arr 8 (fillTo (fun i => U (hT i)) (U 0) (min k 8))) 24, cells g2 (arr 64 (fillTo (fun i => U (kT i)) (U 0) k)) 30, cells g1 (arr 8 (fun _ => U 0)) 24, cells g0 (arr 64 (fun _ => U 0)) 30]) (fun k => 64 - k) 0 (by decide) ⟨rfl, rfl, rfl, rfl, rfl, rfl, rfl, trivial⟩ (fun w s => by rw [Nat.zero_min, fillTo_zero, fillTo_zero]; exact s) ?_
  intro k hk
  refine J.seq ?_
  refine J.region ?_
  refine JL.ev _ rfl rfl (Ev.lss rfl rfl rfl) ?_
  refine JL.nil ?_
  refine JE.next ?_
  refine J.seq ?_
  refine J.cond _ rfl (fun ht9 => ?_) (fun ht9 => ?_)
  · try replace ht9 := of_decide_eq_true ht9
    have hkl : k < (pr 310).length := by rw [pr_310]; omega
    have hpk : (pr 310)[k] = prime k := by unfold prime; rw [List.getD_eq_getElem?_getD, List.getElem?_eq_getElem hkl]; rfl
    refine J.skip ?_
    refine JE.next ?_
    refine J.seq ?_
    refine J.block ?_
    refine J.seq ?_
    refine J.region ?_
    refine JL.ev _ rfl rfl (Ev.move rfl) ?_
    refine JL.ev _ rfl rfl (Ev.indexAddrV (xs := (pr 310).map D64) (e := 49) rfl rfl (by repeat (first | exact At.here | apply At.there)) Try.underlying47 (by kernel_rfl) (by omega) (by rw [len_D64]; omega) (idxN _)) ?_
    refine JL.ev _ rfl rfl (Ev.loadV (y := D64 (prime k)) rfl Try.underlying49 rfl (by repeat (first | exact At.here | apply At.there)) ((get_D64 hkl).trans (by rw [hpk]))) ?_
    refine JL.ev _ rfl rfl (Ev.assign rfl) ?_
    refine JL.ev _ rfl rfl (Ev.assign rfl) ?_
    refine JL.nil ?_
    refine JE.next ?_
    refine J.seq ?_
    refine J.region ?_
    refine JL.ev _ rfl rfl (Ev.move rfl) ?_
    refine JL.ev _ rfl rfl (Ev.move rfl) ?_
    refine JL.eff (Eff.callP rfl (enters Try.func20 (by kernel_rfl) rfl) (root3_calls (prime k) (prime_lt k))) rfl rfl (fun _ _ => ?_)
    refine JL.ev _ rfl rfl (Ev.indexAddrA rfl rfl Try.underlying30 (by kernel_rfl) (by omega) (by omega) (by first | exact idx0 _ | exact Nat.zero_add _)) ?_
    refine JL.eff0 (Eff.storeA rfl rfl rfl (by kernel_rfl) (by repeat (first | exact At.here | apply At.there)) (by omega)) rfl rfl (fun _ _ => ?_)
    refine JL.nil ?_
    refine JE.next ?_
    refine J.seq ?_
    refine J.region ?_
    refine JL.ev _ rfl rfl (Ev.move rfl) ?_
    refine JL.ev _ rfl rfl (Ev.lss rfl rfl rfl) ?_
    refine JL.nil ?_
    refine JE.next ?_
    refine J.cond _ rfl (fun ht18 => ?_) (fun ht18 => ?_)
    · try replace ht18 := of_decide_eq_true ht18
      rw [show min k 8 = k by omega]
      refine J.region ?_
      refine JL.ev _ rfl rfl (Ev.move rfl) ?_
      refine JL.ev _ rfl rfl (Ev.move rfl) ?_
      refine JL.eff (Eff.callP rfl (enters Try.func20 (by kernel_rfl) rfl) (root2_calls (prime k) (prime_lt k))) rfl rfl (fun _ _ => ?_)
      refine JL.ev _ rfl rfl (Ev.indexAddrA rfl rfl Try.underlying24 (by kernel_rfl) (by omega) (by omega) (by first | exact idx0 _ | exact Nat.zero_add _)) ?_
      refine JL.eff0 (Eff.storeA rfl rfl rfl (by kernel_rfl) (by repeat (first | exact At.here | apply At.there)) (by omega)) rfl rfl (fun _ _ => ?_)
      refine JL.nil ?_
      refine JE.blockNormal ?_
      refine JE.next ?_
      refine J.region ?_
      refine JL.ev _ rfl rfl (Ev.add rfl rfl (i64_in (by omega) (by omega))) ?_
      refine JL.ev _ rfl rfl (Ev.move rfl) ?_
      refine JL.nil ?_
      first
      | exact JE.back (k + 1) (by omega) (by omega) ⟨rfl, rfl, rfl, rfl, rfl, rfl, rfl, trivial⟩ (fun w s => by
          rw [show min (k + 1) 8 = k + 1 by omega, ← fillTo_step (fun i => U (hT i)) (U 0) k _ rfl, ← fillTo_step (fun i => U (kT i)) (U 0) k _ rfl]
          exact s)
      | exact JE.back (k + 1) (by omega) (by omega) ⟨rfl, rfl, rfl, rfl, rfl, rfl, rfl, trivial⟩ (fun w s => by
          rw [show min (k + 1) 8 = min k 8 by omega, ← fillTo_step (fun i => U (kT i)) (U 0) k _ rfl]
          exact s)
    · try replace ht18 := of_decide_eq_false ht18
      refine J.skip ?_
      refine JE.blockNormal ?_
      refine JE.next ?_
      refine J.region ?_
      refine JL.ev _ rfl rfl (Ev.add rfl rfl (i64_in (by omega) (by omega))) ?_
      refine JL.ev _ rfl rfl (Ev.move rfl) ?_
      refine JL.nil ?_
      first
      | exact JE.back (k + 1) (by omega) (by omega) ⟨rfl, rfl, rfl, rfl, rfl, rfl, rfl, trivial⟩ (fun w s => by
          rw [show min (k + 1) 8 = k + 1 by omega, ← fillTo_step (fun i => U (hT i)) (U 0) k _ rfl, ← fillTo_step (fun i => U (kT i)) (U 0) k _ rfl]
          exact s)
      | exact JE.back (k + 1) (by omega) (by omega) ⟨rfl, rfl, rfl, rfl, rfl, rfl, rfl, trivial⟩ (fun w s => by
          rw [show min (k + 1) 8 = min k 8 by omega, ← fillTo_step (fun i => U (kT i)) (U 0) k _ rfl]
          exact s)
  · try replace ht9 := of_decide_eq_false ht9
    obtain rfl : k = 64 := by omega
    rw [show min 64 8 = 8 by decide, fillTo_all, fillTo_all]
    refine J.exit ?_
    refine JE.thenExit ?_
    refine JE.thenExit ?_
    refine JE.blockHere ?_
    refine JE.next ?_
    refine J.seq ?_
    refine J.drawS [cells g3 (arr 8 (fun i => U (hT i))) 24, cells g2 (arr 64 (fun i => U (kT i))) 30] [(0, true), (1, true), (2, false)] [3] (fun w s => s.sub (by repeat (first | exact List.Sublist.refl _ | exact List.nil_sublist _ | apply List.Sublist.cons_cons | apply List.Sublist.cons))) (by kernel_rfl) (by kernel_rfl) ?_
    refine JD.ev _ rfl rfl rfl (Ev.loadAll rfl Try.underlying30 rfl (by repeat (first | exact At.here | apply At.there)) (by kernel_rfl)) ?_
    refine JD.ev _ rfl rfl rfl (Ev.loadAll rfl Try.underlying24 rfl (by repeat (first | exact At.here | apply At.there)) (by kernel_rfl)) ?_
    refine JD.eff0 (fun _ => [cells g3 (arr 8 (fun i => U (hT i))) 24, cells g2 (arr 64 (fun i => U (kT i))) 30]) rfl (Eff.storeAll rfl rfl (by kernel_rfl) (fun _ => rfl) (by repeat (first | exact At.here | apply At.there))) rfl rfl (fun _ _ _ s => s.sub (by repeat (first | exact List.Sublist.refl _ | exact List.nil_sublist _ | apply List.Sublist.cons_cons | apply List.Sublist.cons))) (fun _ _ s => s) (fun _ _ => ?_)
    refine JD.tail ?_
    refine JT.eff0 rfl (Eff.storeAll rfl rfl (by kernel_rfl) (fun _ => rfl) (by repeat (first | exact At.here | apply At.there))) rfl rfl (fun _ _ => ?_)
    refine JT.nil (JE.np ?_)
    refine JE.next ?_
    refine J.ret ?_
    exact JE.ret2Cells rfl rfl rfl (by repeat (first | exact At.here | apply At.there)) (by repeat (first | exact At.here | apply At.there)) Try.underlying30 rfl (by kernel_rfl) Try.underlying24 rfl (by kernel_rfl) fun w' s => ⟨rfl, s.below⟩
end Go.Proofs.Ytimokikpnngikaa
