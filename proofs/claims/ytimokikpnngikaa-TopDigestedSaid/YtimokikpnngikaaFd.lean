/- Regions that draw their order: one order is walked; what only reads is taken first, under a condition S on the world that the other operations keep. -/
import Derived.Test.YtimokikpnngikaaFw
import Derived.Deep.RegionHeld3
namespace Go.Fw
open Go Go.RowKit
section
variable {P : Program} {ops : Array Oper} {Q : Exit → Act → World → Prop} {md : Region.Mode} {H : List Nat} {S : World → Prop}
/-- Whatever order is picked from here on; behind each operation of H the world meets S. -/
def wpAnyK (P : Program) (md : Region.Mode) (ops : Array Oper) (Q : Exit → Act → World → Prop) (H : List Nat) (S : World → Prop) : Nat → Array Bool → Act → World → Prop
  | 0, listed, a, w => Region.ready md ops listed = [] ∧ Q .normal a w
  | fuel + 1, listed, a, w =>
    (Region.ready md ops listed = [] → Q .normal a w) ∧
    ∀ i ∈ Region.ready md ops listed, wpOp P ops Q i (fun a' w' => (i ∈ H → S w') ∧ wpAnyK P md ops Q H S fuel (listed.setIfInBounds i true) a' w') a w
theorem wpAny_of_K : ∀ (fuel : Nat) (listed : Array Bool) (a : Act) (w : World), wpAnyK P md ops Q H S fuel listed a w → wpAny P md ops Q fuel listed a w
  | 0, _, _, _, h => h
  | fuel + 1, _, _, _, h => ⟨h.1, fun i hi => wpOp_mono (fun a' w' h' => wpAny_of_K fuel _ a' w' h'.2) (h.2 i hi)⟩
theorem wpAnyK_mono {S' : World → Prop} (hS : ∀ w, S' w → S w) : ∀ (fuel : Nat) (listed : Array Bool) (a : Act) (w : World), wpAnyK P md ops Q H S' fuel listed a w → wpAnyK P md ops Q H S fuel listed a w
  | 0, _, _, _, h => h
  | fuel + 1, _, _, _, h => ⟨h.1, fun i hi => wpOp_mono (fun a' w' h' => ⟨fun hm => hS _ (h'.1 hm), wpAnyK_mono hS fuel _ a' w' h'.2⟩) (h.2 i hi)⟩
/-- Where all of H is behind, S is asked no more. -/
theorem wpAnyK_tail (hT : ∀ (L : Array Bool) (j : Nat), j ∈ Region.ready md ops L → L.getD j true = false) : ∀ (fuel : Nat) (listed : Array Bool) (a : Act) (w : World), (∀ i ∈ H, listed.getD i true = true) → wpAny P md ops Q fuel listed a w → wpAnyK P md ops Q H S fuel listed a w
  | 0, _, _, _, _, h => h
  | fuel + 1, listed, _, _, hH, h => ⟨h.1, fun i hi => by
      have hn : i ∉ H := fun hm => by
        have := hT _ _ hi
        rw [hH i hm] at this
        cases this
      refine wpOp_mono (fun a' w' h' => ⟨fun hm => absurd hm hn, wpAnyK_tail hT fuel _ a' w' (fun k hk => ?_) h'⟩) (h.2 i hi)
      have hik : i ≠ k := fun e => hn (e ▸ hk)
      rw [getD_set_ne true hik]; exact hH k hk⟩
/-- What does not belong to H waits for all of H. -/
def TailOk (md : Region.Mode) (ops : Array Oper) (H : List Nat) : Prop := ∀ j o, ops[j]? = some o → j ∉ H → ∀ i ∈ H, ∃ e ∈ o.after, Region.binds md e = true ∧ e.on = i
theorem wpAnyK_first {i : Nat} {oi : Oper} {v : Value} (hi : ops[i]? = some oi) (hiH : i ∈ H) (hT : TailOk md ops H) (hsel : ∀ (j : Nat) (o : Oper) cs b, ops[j]? = some o → o.op ≠ .select cs b)
    (hQ : ∀ c a w, Q (.panic c) (a.put oi.dst v) w → Q (.panic c) a w) :
    ∀ (fuel : Nat) (listed : Array Bool) (a : Act) (w : World),
      (∀ j oj, ops[j]? = some oj → j ≠ i → listed.getD j true = false → (∀ e ∈ oj.after, Region.binds md e = true → e.on ≠ i) → oi.apart ops oj = true) →
      i ∈ Region.ready md ops listed → YieldsIf P ops S oi v a → S w →
      wpAnyK P md ops Q H S fuel (listed.setIfInBounds i true) (a.put oi.dst v) w → wpAnyK P md ops Q H S (fuel + 1) listed a w := by
  intro fuel
  induction fuel with
  | zero =>
    intro listed a w _ hr hy hS Hk
    refine ⟨fun h => (by rw [h] at hr; cases hr), fun j hj => ?_⟩
    by_cases hji : j = i
    · subst hji; exact hy.wpOp hi hS ⟨fun _ => hS, Hk⟩
    · have := ready_mono hj hji
      rw [Hk.1] at this
      cases this
  | succ fuel ih =>
    intro listed a w hfree hr hy hS Hk
    refine ⟨fun h => (by rw [h] at hr; cases hr), fun j hj => ?_⟩
    by_cases hji : j = i
    · subst hji; exact hy.wpOp hi hS ⟨fun _ => hS, Hk⟩
    · have h1 := Hk.2 j (ready_mono hj hji)
      obtain ⟨hjun, oj, hoj, hall⟩ := mem_ready.1 hj
      have hnot : ∀ e ∈ oj.after, Region.binds md e = true → e.on ≠ i := fun e he hb heq => by
        have h1 := hall e he hb
        have h0 := (mem_ready.1 hr).1
        rw [heq] at h1
        rcases Nat.lt_or_ge i listed.size with h' | h'
        · simp [h'] at h0 h1; rw [h0] at h1; cases h1
        · simp [Array.getElem?_eq_none h'] at h1
      have hjH : j ∈ H := by
        by_cases hjH : j ∈ H
        · exact hjH
        · obtain ⟨e, he, hb, heq⟩ := hT j oj hoj hjH i hiH
          exact absurd heq (hnot e he hb)
      have h2 := wpOp_putIf hoj (hfree j oj hoj hji hjun hnot) (fun cs b => hsel i oi cs b hi) (fun cs b => hsel j oj cs b hoj) hQ hy h1
      have hfree' : ∀ k ok, ops[k]? = some ok → k ≠ i → (listed.setIfInBounds j true).getD k true = false →
          (∀ e ∈ ok.after, Region.binds md e = true → e.on ≠ i) → oi.apart ops ok = true := fun k ok hk hki hun hno => by
        refine hfree k ok hk hki ?_ hno
        by_cases hjk : j = k
        · subst hjk; exact hjun
        · rw [getD_set_ne true hjk] at hun; exact hun
      refine wpOp_mono (fun a' w' h3 => ⟨h3.2.1, ih (listed.setIfInBounds j true) a' w' hfree' (ready_mono hr (Ne.symm hji)) h3.1 (h3.2.1 hjH) ?_⟩) h2
      rw [Array.setIfInBounds_comm _ _ hji]
      exact h3.2.2
/-! ### The order that is walked, checked once a region -/
/-- Steps: true: a reading, taken first; false: the only one that may come up. -/
def chk (md : Region.Mode) (ops : Array Oper) : List (Nat × Bool) → Array Bool → Bool
  | [], L => (Region.ready md ops L).isEmpty
  | (i, true) :: σ, L => (Region.ready md ops L).contains i && Region.free md ops L i && chk md ops σ (L.setIfInBounds i true)
  | (i, false) :: σ, L => (Region.ready md ops L == [i]) && chk md ops σ (L.setIfInBounds i true)
/-- Of what does not belong to H each waits for all of H. -/
def tailB (md : Region.Mode) (ops : Array Oper) (H : List Nat) : Bool :=
  (List.range ops.size).all fun j => H.contains j || match ops[j]? with
    | some o => H.all fun i => o.after.any fun e => Region.binds md e && e.on == i
    | none => true
theorem tailB_spec (h : tailB md ops H = true) : TailOk md ops H := by
  intro j o ho hj i hi
  have hlt := (Array.getElem?_eq_some_iff.1 ho).1
  have h1 := List.all_eq_true.1 h j (List.mem_range.2 hlt)
  simp only [ho, Bool.or_eq_true, List.contains_iff_mem, hj, false_or] at h1
  have h2 := List.all_eq_true.1 h1 i hi
  rw [Array.any_eq_true] at h2
  obtain ⟨k, hk, hb⟩ := h2
  simp only [Bool.and_eq_true, beq_iff_eq] at hb
  exact ⟨o.after[k], Array.getElem_mem hk, hb.1, hb.2⟩
def headsOf : List (Nat × Bool) → List Nat := List.map (·.1)
/-- From here on: the rest σ of the heads, then the tail τ. -/
structure JD (P : Program) (ops : Array Oper) (Q : Exit → Act → World → Prop) (w0 : World) (n : Nat) (H : List Nat) (τ : List Nat) (hS : Hp) (σ : List (Nat × Bool)) (L : Array Bool) (l : Env) (h : Hp) : Prop where of_ ::
  run : TailOk .any ops H → Region.noSelect ops = true → (∀ c a a' w, Q (.panic c) a w → Q (.panic c) a' w) → (∀ i ∈ headsOf σ, i ∈ H) → (∀ i ∈ H, i ∈ headsOf σ ∨ L.getD i true = true) → chk .any ops (σ ++ τ.map (·, false)) L = true →
    ∀ u w, St w0 h w → St w0 hS w → wpAnyK P .any ops Q H (St w0 hS) (σ.length + τ.length) L (mk n l u) w
structure JT (P : Program) (ops : Array Oper) (Q : Exit → Act → World → Prop) (w0 : World) (n : Nat) (τ : List Nat) (L : Array Bool) (l : Env) (h : Hp) : Prop where of_ ::
  run : chk .any ops (τ.map (·, false)) L = true → ∀ u w, St w0 h w → wpAny P .any ops Q τ.length L (mk n l u) w
variable {w0 : World} {n : Nat} {l : Env} {h hS : Hp} {σ : List (Nat × Bool)} {τ : List Nat} {L : Array Bool} {i : Nat} {o : Oper}
theorem wpOp_wanted {a : Act} {w : World} {K : Act → World → Prop} (ho : ops[i]? = some o) (hw : Region.wanted o (yielded ops a.tmps) = true) (h : o.wp P a w K Q) : wpOp P ops Q i K a w := by
  unfold wpOp
  simp only [ho, hw, if_true]
  exact .inl h
theorem wpOp_unwanted {a : Act} {w : World} {K : Act → World → Prop} (ho : ops[i]? = some o) (hw : Region.wanted o (yielded ops a.tmps) = false) (h : K (a.put o.dst undef) w) : wpOp P ops Q i K a w := by
  unfold wpOp
  simp only [ho, hw, Bool.false_eq_true, if_false]
  exact h
theorem left_cons {b : Bool} (hH : ∀ k ∈ H, k ∈ headsOf ((i, b) :: σ) ∨ L.getD k true = true) : ∀ k ∈ H, k ∈ headsOf σ ∨ (L.setIfInBounds i true).getD k true = true := by
  intro k hk
  by_cases hik : i = k
  · subst hik
    right
    by_cases hlt : i < L.size
    · simp [hlt]
    · simp [hlt]
  · rcases hH k hk with h' | h'
    · rcases List.mem_cons.1 h' with h' | h'
      · exact absurd h'.symm hik
      · exact .inl h'
    · right; rw [getD_set_ne true hik]; exact h'
theorem JD.take {d : Nat} (v : Value) (ho : ops[i]? = some o) (hd : o.dst = some d) (hy : ∀ u, YieldsIf P ops (St w0 hS) o v (mk n l u))
    (H' : JD P ops Q w0 n H τ hS σ (L.setIfInBounds i true) ((d, v) :: l) h) : JD P ops Q w0 n H τ hS ((i, true) :: σ) L l h := by
  refine ⟨fun hT hs hQ hσ hH hc u w s sS => ?_⟩
  simp only [List.cons_append, chk, Bool.and_eq_true] at hc
  obtain ⟨⟨h1, h2⟩, h3⟩ := hc
  have H1 := H'.run hT hs hQ (fun k hk => hσ k (List.mem_cons_of_mem _ hk)) (left_cons hH) h3 u w s sS
  rw [show ((i, true) :: σ).length + τ.length = (σ.length + τ.length) + 1 by simp; omega]
  refine wpAnyK_first (v := v) ho (hσ i (List.mem_cons_self ..)) hT (Region.noSelect_spec hs) (fun c a w => hQ c _ _ w) _ L _ w (Region.free_spec ho h2) (by simpa using h1) (hy u) sS ?_
  rw [hd, mk_put]
  exact H1
theorem JD.ev {d : Nat} (v : Value) (ho : ops[i]? = some o) (hw : wants ops n l o = some true) (hd : o.dst = some d) (hv : Ev P w0 n l hS o v)
    (H' : JD P ops Q w0 n H τ hS σ (L.setIfInBounds i true) ((d, v) :: l) h) : JD P ops Q w0 n H τ hS ((i, true) :: σ) L l h :=
  JD.take v ho hd (fun u => .inl ⟨wants_spec hw u, fun w s => by rw [mk_eval]; exact hv.run u w s⟩) H'
theorem JD.off {d : Nat} (ho : ops[i]? = some o) (hw : wants ops n l o = some false) (hd : o.dst = some d)
    (H' : JD P ops Q w0 n H τ hS σ (L.setIfInBounds i true) ((d, undef) :: l) h) : JD P ops Q w0 n H τ hS ((i, true) :: σ) L l h :=
  JD.take undef ho hd (fun u => .inr ⟨wants_spec hw u, rfl⟩) H'
theorem ready_of_eq {L : Array Bool} (h : (Region.ready .any ops L == [i]) = true) : Region.ready .any ops L = [i] := by simpa using h
/-- An operation that turns the world, the only one that may come up: what was asked of the world for the readings must hold still. -/
theorem JD.eff {d : Nat} {α : Type} {φ : α → Prop} {v : α → Value} {h' : α → Hp} (hS' : α → Hp) (ho : ops[i]? = some o) (hv : Eff P w0 n l h o φ v h') (hw : wants ops n l o = some true) (hd : o.dst = some d)
    (hm : ∀ x w, φ x → St w0 (h' x) w → St w0 (hS' x) w) (hm' : ∀ x w, St w0 (hS' x) w → St w0 hS w)
    (H' : ∀ x, φ x → JD P ops Q w0 n H τ (hS' x) σ (L.setIfInBounds i true) ((d, v x) :: l) (h' x)) : JD P ops Q w0 n H τ hS ((i, false) :: σ) L l h := by
  refine ⟨fun hT hs hQ hσ hH hc u w s sS => ?_⟩
  simp only [List.cons_append, chk, Bool.and_eq_true] at hc
  obtain ⟨h1, h3⟩ := hc
  have h1 := ready_of_eq h1
  rw [show ((i, false) :: σ).length + τ.length = (σ.length + τ.length) + 1 by simp; omega]
  refine ⟨fun h => (by rw [h1] at h; cases h), fun j hj => ?_⟩
  rw [h1] at hj
  obtain rfl : j = i := by simpa using hj
  refine wpOp_wanted ho (wants_spec hw u) (hv.run u w s _ _ fun x w' hx s' => ?_)
  rw [hd, mk_put]
  exact ⟨fun _ => hm' x w' (hm x w' hx s'), wpAnyK_mono (fun w => hm' x w) _ _ _ _ ((H' x hx).run hT hs hQ (fun k hk => hσ k (List.mem_cons_of_mem _ hk)) (left_cons hH) h3 u w' s' (hm x w' hx s'))⟩
theorem JD.eff0 {α : Type} {φ : α → Prop} {v : α → Value} {h' : α → Hp} (hS' : α → Hp) (ho : ops[i]? = some o) (hv : Eff P w0 n l h o φ v h') (hw : wants ops n l o = some true) (hd : o.dst = none)
    (hm : ∀ x w, φ x → St w0 (h' x) w → St w0 (hS' x) w) (hm' : ∀ x w, St w0 (hS' x) w → St w0 hS w)
    (H' : ∀ x, φ x → JD P ops Q w0 n H τ (hS' x) σ (L.setIfInBounds i true) l (h' x)) : JD P ops Q w0 n H τ hS ((i, false) :: σ) L l h := by
  refine ⟨fun hT hs hQ hσ hH hc u w s sS => ?_⟩
  simp only [List.cons_append, chk, Bool.and_eq_true] at hc
  obtain ⟨h1, h3⟩ := hc
  have h1 := ready_of_eq h1
  rw [show ((i, false) :: σ).length + τ.length = (σ.length + τ.length) + 1 by simp; omega]
  refine ⟨fun h => (by rw [h1] at h; cases h), fun j hj => ?_⟩
  rw [h1] at hj
  obtain rfl : j = i := by simpa using hj
  refine wpOp_wanted ho (wants_spec hw u) (hv.run u w s _ _ fun x w' hx s' => ?_)
  rw [hd]
  exact ⟨fun _ => hm' x w' (hm x w' hx s'), wpAnyK_mono (fun w => hm' x w) _ _ _ _ ((H' x hx).run hT hs hQ (fun k hk => hσ k (List.mem_cons_of_mem _ hk)) (left_cons hH) h3 u w' s' (hm x w' hx s'))⟩
/-- The heads are behind. -/
theorem JD.tail (H' : JT P ops Q w0 n τ L l h) : JD P ops Q w0 n H τ hS [] L l h := by
  refine ⟨fun hT hs hQ hσ hH hc u w s sS => ?_⟩
  simp only [List.nil_append] at hc
  rw [show ([] : List (Nat × Bool)).length + τ.length = τ.length by simp]
  exact wpAnyK_tail (fun L j hj => (mem_ready.1 hj).1) _ L _ w (fun k hk => (hH k hk).resolve_left (by simp [headsOf])) (H'.run hc u w s)
theorem JT.nil (H' : JE Q w0 n .normal l h) : JT P ops Q w0 n [] L l h := by
  refine ⟨fun hc u w s => ?_⟩
  simp only [List.map_nil, chk, List.isEmpty_iff] at hc
  exact ⟨hc, H'.run u w s⟩
theorem JT.ev {d : Nat} (v : Value) (ho : ops[i]? = some o) (hw : wants ops n l o = some true) (hd : o.dst = some d) (hv : Ev P w0 n l h o v)
    (H' : JT P ops Q w0 n τ (L.setIfInBounds i true) ((d, v) :: l) h) : JT P ops Q w0 n (i :: τ) L l h := by
  refine ⟨fun hc u w s => ?_⟩
  simp only [List.map_cons, chk, Bool.and_eq_true] at hc
  obtain ⟨h1, h3⟩ := hc
  have h1 := ready_of_eq h1
  refine ⟨fun h => (by rw [h1] at h; cases h), fun j hj => ?_⟩
  rw [h1] at hj
  obtain rfl : j = i := by simpa using hj
  refine wpOp_wanted ho (wants_spec hw u) ?_
  unfold Oper.wp
  rw [mk_eval, hv.run u w s, Oper.upon_value, hd, mk_put]
  exact H'.run h3 u w s
theorem JT.off {d : Nat} (ho : ops[i]? = some o) (hw : wants ops n l o = some false) (hd : o.dst = some d)
    (H' : JT P ops Q w0 n τ (L.setIfInBounds i true) ((d, undef) :: l) h) : JT P ops Q w0 n (i :: τ) L l h := by
  refine ⟨fun hc u w s => ?_⟩
  simp only [List.map_cons, chk, Bool.and_eq_true] at hc
  obtain ⟨h1, h3⟩ := hc
  have h1 := ready_of_eq h1
  refine ⟨fun h => (by rw [h1] at h; cases h), fun j hj => ?_⟩
  rw [h1] at hj
  obtain rfl : j = i := by simpa using hj
  refine wpOp_unwanted ho (wants_spec hw u) ?_
  rw [hd, mk_put]
  exact H'.run h3 u w s
theorem JT.eff {d : Nat} {α : Type} {φ : α → Prop} {v : α → Value} {h' : α → Hp} (ho : ops[i]? = some o) (hv : Eff P w0 n l h o φ v h') (hw : wants ops n l o = some true) (hd : o.dst = some d)
    (H' : ∀ x, φ x → JT P ops Q w0 n τ (L.setIfInBounds i true) ((d, v x) :: l) (h' x)) : JT P ops Q w0 n (i :: τ) L l h := by
  refine ⟨fun hc u w s => ?_⟩
  simp only [List.map_cons, chk, Bool.and_eq_true] at hc
  obtain ⟨h1, h3⟩ := hc
  have h1 := ready_of_eq h1
  refine ⟨fun h => (by rw [h1] at h; cases h), fun j hj => ?_⟩
  rw [h1] at hj
  obtain rfl : j = i := by simpa using hj
  refine wpOp_wanted ho (wants_spec hw u) (hv.run u w s _ _ fun x w' hx s' => ?_)
  rw [hd, mk_put]
  exact (H' x hx).run h3 u w' s'
theorem JT.eff0 {α : Type} {φ : α → Prop} {v : α → Value} {h' : α → Hp} (ho : ops[i]? = some o) (hv : Eff P w0 n l h o φ v h') (hw : wants ops n l o = some true) (hd : o.dst = none)
    (H' : ∀ x, φ x → JT P ops Q w0 n τ (L.setIfInBounds i true) l (h' x)) : JT P ops Q w0 n (i :: τ) L l h := by
  refine ⟨fun hc u w s => ?_⟩
  simp only [List.map_cons, chk, Bool.and_eq_true] at hc
  obtain ⟨h1, h3⟩ := hc
  have h1 := ready_of_eq h1
  refine ⟨fun h => (by rw [h1] at h; cases h), fun j hj => ?_⟩
  rw [h1] at hj
  obtain rfl : j = i := by simpa using hj
  refine wpOp_wanted ho (wants_spec hw u) (hv.run u w s _ _ fun x w' hx s' => ?_)
  rw [hd]
  exact (H' x hx).run h3 u w' s'
/-- A region that draws its order: the order σ, τ is walked. One Bool for all that is asked of it. -/
def drawOk (ops : Array Oper) (σ : List (Nat × Bool)) (τ : List Nat) : Bool :=
  tailB .any ops (headsOf σ) && Region.noSelect ops && chk .any ops (σ ++ τ.map (·, false)) (Array.replicate ops.size false) && Nat.beq ops.size (σ.length + τ.length)
theorem J.draw {id : Nat} {ol : Array Oper} (σ : List (Nat × Bool)) (τ : List Nat) (hm : P.follows .mixedOrders = true) (hc : drawOk ol σ τ = true)
    (H' : JD P ol (NoPanic Q) w0 n (headsOf σ) τ h σ (Array.replicate ol.size false) l h) : J P Q w0 n (.region id ol true) l h := by
  refine ⟨fun u w s => ?_⟩
  simp only [drawOk, Bool.and_eq_true] at hc
  obtain ⟨⟨⟨h1, h2⟩, h3⟩, h4⟩ := hc
  refine wp_region_noPanic (wp_region_any hm (wpAny_of_K (H := headsOf σ) (S := St w0 h) _ _ _ _ ?_))
  have := H'.run (tailB_spec h1) h2 (fun c a a' w q => q) (fun _ hk => hk) (fun _ hk => .inl hk) h3 u w.drew s.drew s.drew
  rw [Nat.eq_of_beq_eq_true h4]
  rw [Nat.eq_of_beq_eq_true h4] at this
  exact this
/-- The same; what the readings lean on is told apart. -/
theorem J.drawS {id : Nat} {ol : Array Oper} (hS : Hp) (σ : List (Nat × Bool)) (τ : List Nat) (hsub : ∀ w, St w0 h w → St w0 hS w) (hm : P.follows .mixedOrders = true) (hc : drawOk ol σ τ = true)
    (H' : JD P ol (NoPanic Q) w0 n (headsOf σ) τ hS σ (Array.replicate ol.size false) l h) : J P Q w0 n (.region id ol true) l h := by
  refine ⟨fun u w s => ?_⟩
  simp only [drawOk, Bool.and_eq_true] at hc
  obtain ⟨⟨⟨h1, h2⟩, h3⟩, h4⟩ := hc
  refine wp_region_noPanic (wp_region_any hm (wpAny_of_K (H := headsOf σ) (S := St w0 hS) _ _ _ _ ?_))
  have := H'.run (tailB_spec h1) h2 (fun c a a' w q => q) (fun _ hk => hk) (fun _ hk => .inl hk) h3 u w.drew s.drew (hsub _ s.drew)
  rw [Nat.eq_of_beq_eq_true h4]
  rw [Nat.eq_of_beq_eq_true h4] at this
  exact this
theorem JE.noPanic {e : Exit} (he : ∀ c, e ≠ .panic c) (H' : JE Q w0 n e l h) : JE (NoPanic Q) w0 n e l h := by
  refine ⟨fun u w s => ?_⟩
  cases e with
  | panic c => exact absurd rfl (he c)
  | _ => exact H'.run u w s
theorem JE.np (H' : JE Q w0 n .normal l h) : JE (NoPanic Q) w0 n .normal l h := ⟨H'.run⟩
end
end Go.Fw
namespace Go.Fw
section
variable {P : Program} {ops : Array Oper} {Q : Exit → Act → World → Prop} {H : List Nat} {w0 : World} {n : Nat} {l : Env} {h hS : Hp} {σ : List (Nat × Bool)} {τ : List Nat} {L : Array Bool} {i : Nat} {o : Oper}
/-- An operation that would turn the world is not wanted. -/
theorem JD.offE {d : Nat} (ho : ops[i]? = some o) (hw : wants ops n l o = some false) (hd : o.dst = some d)
    (H' : JD P ops Q w0 n H τ hS σ (L.setIfInBounds i true) ((d, undef) :: l) h) : JD P ops Q w0 n H τ hS ((i, false) :: σ) L l h := by
  refine ⟨fun hT hs hQ hσ hH hc u w s sS => ?_⟩
  simp only [List.cons_append, chk, Bool.and_eq_true] at hc
  obtain ⟨h1, h3⟩ := hc
  have h1 := ready_of_eq h1
  rw [show ((i, false) :: σ).length + τ.length = (σ.length + τ.length) + 1 by simp; omega]
  refine ⟨fun h => (by rw [h1] at h; cases h), fun j hj => ?_⟩
  rw [h1] at hj
  obtain rfl : j = i := by simpa using hj
  refine wpOp_unwanted ho (wants_spec hw u) ?_
  rw [hd, mk_put]
  exact ⟨fun _ => sS, H'.run hT hs hQ (fun k hk => hσ k (List.mem_cons_of_mem _ hk)) (left_cons hH) h3 u w s sS⟩
end
end Go.Fw
