/- The walks of filling up, as sha does it. -/
import Derived.Test.YtimokikpnngikaaW1
import Derived.Test.YtimokikpnngikaaW4
import Derived.Test.YtimokikpnngikaaD4
namespace Go.Proofs.Ytimokikpnngikaa
open Go Go.RowKit Go.Proofs Go.Fw Go.Dig
theorem lay_calls (v : Value) (xs : List Value) (m : Nat) (_hm : m < 18446744073709551616) (hl : xs.length ≤ 1000000000) (h1 : ∀ y ∈ xs, one y = true) (w : World) (hv : rdOk v xs w) : Calls Try.prog 32 #[v, D64 m, .int .i64 8] w (NewRd w (xs ++ (laidL m 8).map B8)) := by
  refine enter (args := [v, D64 m, .int .i64 8]) 37 Try.func32 rfl rfl (by simp) ?_
  refine J.withRd hv ?_
  refine J.seq ?_
  refine J.region ?_
  refine JL.ev _ rfl rfl (Ev.assign rfl) ?_
  refine JL.nil ?_
  refine JE.next ?_
  refine J.seq ?_
  refine J.region ?_
  refine JL.ev _ rfl rfl (Ev.move rfl) ?_
  refine JL.ev _ rfl rfl (Ev.lenR rfl Try.underlying22 (by repeat (first | exact At.here | apply At.there))) ?_
  refine JL.ev _ rfl rfl (Ev.move rfl) ?_
  refine JL.ev _ rfl rfl (Ev.add rfl rfl (i64_in (by omega) (by omega))) ?_
  refine JL.eff (Eff.makeC (m := xs.length + 8) (c := xs.length + 8) (z := B8 0) (bytes := 1) rfl rfl Try.underlying22 (by kernel_rfl) rfl (by omega) (by omega) (by omega)) rfl rfl (fun g _ => ?_)
  refine JL.ev _ rfl rfl (Ev.assign rfl) ?_
  refine JL.nil ?_
  refine JE.next ?_
  refine J.seq ?_
  refine J.region ?_
  refine JL.ev _ rfl rfl (Ev.move rfl) ?_
  refine JL.ev _ rfl rfl (Ev.move rfl) ?_
  refine JL.eff (Eff.copyC (xs := xs) (F := fun _ => B8 0) (N := xs.length + 8) rfl rfl Try.underlying22 (by kernel_rfl) (fun w s => rdE_ok s (by repeat (first | exact At.here | apply At.there))) h1 (by omega) (by omega) (by repeat (first | exact At.here | apply At.there))) rfl rfl (fun _ _ => ?_)
  refine JL.nil ?_
  refine JE.next ?_
  refine J.seq ?_
  refine J.seq ?_
  refine J.region ?_
  refine JL.ev _ rfl rfl (Ev.move rfl) ?_
  refine JL.ev _ rfl rfl (Ev.move rfl) ?_
  refine JL.nil ?_
  refine JE.next ?_
  refine J.block ?_
  refine J.loop (σ := Nat) (fun j => j ≤ 8) (fun j => [(0, v), (1, D64 m), (2, .int .i64 8), (7, .slice (some ⟨g, 0, none⟩) (xs.length + 8) (xs.length + 8)), (17, .int .i64 8), (18, .int .i64 j)]) (fun j => [cells g (arr (xs.length + 8) (layF xs m j)) 5, rdE v xs]) (fun j => 8 - j) 0 (Nat.zero_le _) ⟨rfl, rfl, rfl, rfl, rfl, rfl, trivial⟩ (fun w s => by rw [← layF_zero]; exact s) ?_
  intro j hj
  refine J.seq ?_
  refine J.region ?_
  refine JL.ev _ rfl rfl (Ev.lss rfl rfl rfl) ?_
  refine JL.nil ?_
  refine JE.next ?_
  refine J.seq ?_
  refine J.cond _ rfl (fun ht19 => ?_) (fun ht19 => ?_)
  · try replace ht19 := of_decide_eq_true ht19
    refine J.skip ?_
    refine JE.next ?_
    refine J.seq ?_
    refine J.block ?_
    refine J.seq ?_
    refine J.region ?_
    refine JL.ev _ rfl rfl (Ev.move rfl) ?_
    refine JL.ev _ rfl rfl (Ev.assign rfl) ?_
    refine JL.nil ?_
    refine JE.next ?_
    refine J.region ?_
    refine JL.ev _ rfl rfl (Ev.move rfl) ?_
    refine JL.ev _ rfl rfl (Ev.move rfl) ?_
    refine JL.ev _ rfl rfl (Ev.lenR rfl Try.underlying22 (by repeat (first | exact At.here | apply At.there))) ?_
    refine JL.ev _ rfl rfl (Ev.move rfl) ?_
    refine JL.ev _ rfl rfl (Ev.add rfl rfl (i64_in (by omega) (by omega))) ?_
    refine JL.ev _ rfl rfl (Ev.move rfl) ?_
    refine JL.ev _ rfl rfl (Ev.move rfl) ?_
    refine JL.ev _ rfl rfl (Ev.sub rfl rfl (i64_in (by omega) (by omega))) ?_
    refine JL.ev _ rfl rfl (Ev.move rfl) ?_
    refine JL.ev _ rfl rfl (Ev.sub rfl rfl (r := ((7 - j : Nat) : Int)) ((i64_in (by omega) (by omega)).trans (by omega))) ?_
    refine JL.ev _ rfl rfl (Ev.mul rfl rfl (r := ((8 * (7 - j) : Nat) : Int)) ((i64_in (by omega) (by omega)).trans (by omega))) ?_
    refine JL.ev _ rfl rfl (Ev.shrN (m := 8 * (7 - j)) rfl rfl (by omega)) ?_
    refine JL.ev _ rfl rfl (Ev.convNB rfl Try.underlying49 Try.underlying5) ?_
    refine JL.ev _ rfl rfl (Ev.indexAddrS rfl rfl Try.underlying22 (by kernel_rfl) (by omega) (by omega) (j := xs.length + j) (by omega)) ?_
    refine JL.eff0 (Eff.storeA rfl rfl rfl (by kernel_rfl) (by repeat (first | exact At.here | apply At.there)) (by omega)) rfl rfl (fun _ _ => ?_)
    refine JL.nil ?_
    refine JE.blockNormal ?_
    refine JE.next ?_
    refine J.region ?_
    refine JL.ev _ rfl rfl (Ev.add rfl rfl (i64_in (by omega) (by omega))) ?_
    refine JL.ev _ rfl rfl (Ev.move rfl) ?_
    refine JL.nil ?_
    exact JE.back (j + 1) (by omega) (by omega) ⟨rfl, rfl, rfl, rfl, rfl, rfl, trivial⟩ (fun w s => by rw [layF_step xs m j _ (by rw [pow_256])] at s; exact s)
  · try replace ht19 := of_decide_eq_false ht19
    obtain rfl : j = 8 := by omega
    refine J.exit ?_
    refine JE.thenExit ?_
    refine JE.thenExit ?_
    refine JE.blockHere ?_
    refine JE.next ?_
    refine J.seq ?_
    refine J.region ?_
    refine JL.ev _ rfl rfl (Ev.move rfl) ?_
    refine JL.ev _ rfl rfl (Ev.assign rfl) ?_
    refine JL.nil ?_
    refine JE.next ?_
    refine J.ret ?_
    exact JE.ret1 _ rfl rfl fun w' s => ⟨_, rfl, s.below, rdOk_cells s (by repeat (first | exact At.here | apply At.there)) (by simp [laidL_len]) (layF_get xs m), fun b hb => by rw [rdE_fp hb]; exact cells_own s (by repeat (first | exact At.here | apply At.there)), fun a m c e => by injection e with _ e1 e2; omega⟩
theorem put64_calls (v : Value) (xs : List Value) (m : Nat) (hm : m < 18446744073709551616) (hl : xs.length ≤ 1000000000) (h1 : ∀ y ∈ xs, one y = true) (w : World) (hv : rdOk v xs w) : Calls Try.prog 27 #[v, D64 m] w (NewRd w (xs ++ (laidL m 8).map B8)) := by
  refine enter (args := [v, D64 m]) 8 Try.func27 rfl rfl (by simp) ?_
  refine J.withRd hv ?_
  refine J.seq ?_
  refine J.region ?_
  refine JL.ev _ rfl rfl (Ev.assign rfl) ?_
  refine JL.nil ?_
  refine JE.next ?_
  refine J.seq ?_
  refine J.region ?_
  refine JL.ev _ rfl rfl (Ev.move rfl) ?_
  refine JL.ev _ rfl rfl (Ev.move rfl) ?_
  refine JL.eff (Eff.callRd rfl (enters Try.func32 (by kernel_rfl) rfl) fun w s => lay_calls v xs m hm hl h1 w (rdE_ok s (by repeat (first | exact At.here | apply At.there)))) rfl rfl (fun vn hcap => ?_)
  refine JL.ev _ rfl rfl (Ev.assign rfl) ?_
  refine JL.nil ?_
  refine JE.next ?_
  refine J.ret ?_
  exact JE.ret1 _ rfl rfl fun w' s => ⟨_, rfl, s.below, rdE_ok s (by repeat (first | exact At.here | apply At.there)), rdE_own s (by repeat (first | exact At.here | apply At.there)), hcap⟩
theorem pad_calls (v : Value) (bs : List UInt8) (hl : bs.length ≤ 100000000) (w : World) (hv : rdOk v (bs.map B8) w) : Calls Try.prog 15 #[v] w (NewRd w ((padL bs).map B8)) := by
  have hz : zc bs.length < 64 := Nat.mod_lt _ (by decide)
  obtain ⟨xs, hxs⟩ : ∃ xs, bs.map B8 = xs := ⟨_, rfl⟩
  have hlx : xs.length = bs.length := by rw [← hxs]; simp
  have h1 : ∀ y ∈ xs, one y = true := by rw [← hxs]; intro y hy; obtain ⟨c, _, rfl⟩ := List.mem_map.1 hy; rfl
  rw [show (padL bs).map B8 = xs ++ [B8 128] ++ List.replicate (zc bs.length) (B8 0) ++ (laidL (8 * xs.length) 8).map B8 by rw [hlx, ← hxs, Nat.mul_comm]; simp [padL]]
  rw [hxs] at hv
  have hone : ∀ y ∈ xs ++ [B8 128] ++ List.replicate (zc bs.length) (B8 0), one y = true := by
    intro y hy
    rcases List.mem_append.1 hy with hy | hy
    · rcases List.mem_append.1 hy with hy | hy
      · exact h1 y hy
      · rw [List.mem_singleton.1 hy]; rfl
    · rw [List.eq_of_mem_replicate hy]; rfl
  have hget : ∀ (i : Nat) (y : Value), (xs ++ [B8 128] ++ List.replicate (zc bs.length) (B8 0))[i]? = some y → (arr (xs.length + 72) (ovl (ovl (ovl (fun _ => B8 0) 0 xs) xs.length [B8 128]) (xs.length + 1) (List.replicate (zc bs.length) (B8 0))))[0 + i]? = some y := by
    intro i y hy
    rw [Nat.zero_add]
    have := ovl_get (xs.length + 72) (ovl (ovl (fun _ => B8 0) 0 xs) xs.length [B8 128]) (xs ++ [B8 128]) (List.replicate (zc bs.length) (B8 0)) i y (by simp; omega) (fun i y hy => ovl_get (xs.length + 72) (ovl (fun _ => B8 0) 0 xs) xs [B8 128] i y (by simp) (fun i y hy => ovl_get (xs.length + 72) (fun _ => B8 0) [] xs i y (by simp) (fun i y hy => by simp at hy) (by simpa using hy)) hy) hy
    simpa using this
  refine enter (args := [v]) 29 Try.func15 rfl rfl (by simp) ?_
  refine J.withRd hv ?_
  refine J.seq ?_
  refine J.region ?_
  refine JL.ev _ rfl rfl (Ev.assign rfl) ?_
  refine JL.nil ?_
  refine JE.next ?_
  refine J.seq ?_
  refine J.region ?_
  refine JL.ev _ rfl rfl (Ev.move rfl) ?_
  refine JL.ev _ rfl rfl (Ev.lenR rfl Try.underlying22 (by repeat (first | exact At.here | apply At.there))) ?_
  refine JL.ev _ rfl rfl (Ev.move rfl) ?_
  refine JL.ev _ rfl rfl (Ev.lenR rfl Try.underlying22 (by repeat (first | exact At.here | apply At.there))) ?_
  refine JL.ev _ rfl rfl (Ev.add rfl rfl (i64_in (by omega) (by omega))) ?_
  refine JL.eff (Eff.makeC (m := xs.length) (c := xs.length + 72) (z := B8 0) (bytes := 1) rfl rfl Try.underlying22 (by kernel_rfl) rfl (by omega) (by omega) (by omega)) rfl rfl (fun g _ => ?_)
  refine JL.ev _ rfl rfl (Ev.assign rfl) ?_
  refine JL.nil ?_
  refine JE.next ?_
  refine J.seq ?_
  refine J.region ?_
  refine JL.ev _ rfl rfl (Ev.move rfl) ?_
  refine JL.ev _ rfl rfl (Ev.move rfl) ?_
  refine JL.eff (Eff.copyC (xs := xs) (F := fun _ => B8 0) (N := xs.length + 72) rfl rfl Try.underlying22 (by kernel_rfl) (fun w s => rdE_ok s (by repeat (first | exact At.here | apply At.there))) h1 (by omega) (by omega) (by repeat (first | exact At.here | apply At.there))) rfl rfl (fun _ _ => ?_)
  refine JL.nil ?_
  refine JE.next ?_
  refine J.seq ?_
  refine J.region ?_
  refine JL.ev _ rfl rfl (Ev.move rfl) ?_
  refine JL.eff (Eff.litV (e := 5) (z := B8 0) (xs := [B8 128]) Try.underlying22 (by kernel_rfl) rfl (by decide) rfl (fun u => by kernel_rfl) (by decide)) rfl rfl (fun g9 _ => ?_)
  refine JL.eff (Eff.appendC (xs := [B8 128]) (N := xs.length + 72) rfl rfl Try.underlying22 (by kernel_rfl) (fun w s => rdOk_row (rowE_ok0 s (by repeat (first | exact At.here | apply At.there)))) (by intro y hy; rw [List.mem_singleton.1 hy]; rfl) (by simp) (by simp) (by repeat (first | exact At.here | apply At.there))) rfl rfl (fun _ _ => ?_)
  refine JL.ev _ rfl rfl (Ev.assign rfl) ?_
  refine JL.nil ?_
  refine JE.next ?_
  refine J.seq ?_
  refine J.region ?_
  refine JL.ev _ rfl rfl (Ev.move rfl) ?_
  refine JL.ev _ rfl rfl (Ev.move rfl) ?_
  refine JL.ev _ rfl rfl (Ev.lenR rfl Try.underlying22 (by repeat (first | exact At.here | apply At.there))) ?_
  refine JL.ev _ rfl rfl (Ev.rem rfl rfl (by omega) (tmod_nn (by omega))) ?_
  refine JL.ev _ rfl rfl (Ev.sub rfl rfl (i64_in (by omega) (by omega))) ?_
  refine JL.ev _ rfl rfl (Ev.rem rfl rfl (r := ((zc bs.length : Nat) : Int)) (by omega) ((tmod_nn (by omega)).trans (by unfold zc; omega))) ?_
  refine JL.eff (Eff.appendZ (k := zc bs.length) (z := B8 0) (bytes := 1) (N := xs.length + 72) rfl rfl Try.underlying22 Try.underlying3 (by kernel_rfl) rfl rfl (by omega) (by omega) (by simp; omega) (by simp; omega) (by repeat (first | exact At.here | apply At.there))) rfl rfl (fun _ _ => ?_)
  refine JL.ev _ rfl rfl (Ev.assign rfl) ?_
  refine JL.nil ?_
  refine JE.next ?_
  refine J.seq ?_
  refine J.region ?_
  refine JL.ev _ rfl rfl (Ev.move rfl) ?_
  refine JL.ev _ rfl rfl (Ev.move rfl) ?_
  refine JL.ev _ rfl rfl (Ev.lenR rfl Try.underlying22 (by repeat (first | exact At.here | apply At.there))) ?_
  refine JL.ev _ rfl rfl (Ev.convN rfl Try.underlying3 Try.underlying49 rfl (by omega)) ?_
  refine JL.ev _ rfl rfl (Ev.mulN (a := 8) rfl rfl (by omega)) ?_
  refine JL.eff (Eff.callRd rfl (enters Try.func27 (by kernel_rfl) rfl) fun w s => put64_calls _ (xs ++ [B8 128] ++ List.replicate (zc bs.length) (B8 0)) (8 * xs.length) (by omega) (by simp; omega) hone w (rdOk_cells s (by repeat (first | exact At.here | apply At.there)) (by simp; omega) hget)) rfl rfl (fun vn hcap => ?_)
  refine JL.ev _ rfl rfl (Ev.assign rfl) ?_
  refine JL.nil ?_
  refine JE.next ?_
  refine J.ret ?_
  exact JE.ret1 _ rfl rfl fun w' s => ⟨_, rfl, s.below, rdE_ok s (by repeat (first | exact At.here | apply At.there)), rdE_own s (by repeat (first | exact At.here | apply At.there)), hcap⟩
end Go.Proofs.Ytimokikpnngikaa
