/- Regions that draw their order and let several operations that turn the world come up: each order is walked. -/
import Derived.Test.YtimokikpnngikaaFd
namespace Go.Fw
open Go Go.RowKit
section
variable {P : Program} {ops : Array Oper} {Q : Exit → Act → World → Prop} {H : List Nat}
def Pan (Q : Exit → Act → World → Prop) : Prop := ∀ c a a' w, Q (.panic c) a w → Q (.panic c) a' w
structure JX (P : Program) (ops : Array Oper) (Q : Exit → Act → World → Prop) (w0 : World) (n : Nat) (H : List Nat) (hS : Hp) (m : Nat) (L : Array Bool) (l : Env) (h : Hp) : Prop where of_ ::
  run : TailOk .any ops H → Region.noSelect ops = true → Pan Q → ∀ u w, St w0 h w → St w0 hS w → wpAnyK P .any ops Q H (St w0 hS) m L (mk n l u) w
structure JO (P : Program) (ops : Array Oper) (Q : Exit → Act → World → Prop) (w0 : World) (n : Nat) (H : List Nat) (hS : Hp) (m i : Nat) (L : Array Bool) (l : Env) (h : Hp) : Prop where of_ ::
  run : TailOk .any ops H → Region.noSelect ops = true → Pan Q → ∀ u w, St w0 h w → St w0 hS w →
    wpOp P ops Q i (fun a' w' => (i ∈ H → St w0 hS w') ∧ wpAnyK P .any ops Q H (St w0 hS) m (L.setIfInBounds i true) a' w') (mk n l u) w
variable {w0 : World} {n m : Nat} {l : Env} {h hS : Hp} {L : Array Bool} {i j : Nat} {o : Oper}
theorem JX.ev {d : Nat} (hc : ((Region.ready .any ops L).contains i && Region.free .any ops L i && H.contains i) = true) (v : Value) (ho : ops[i]? = some o) (hw : wants ops n l o = some true) (hd : o.dst = some d) (hv : Ev P w0 n l hS o v)
    (H' : JX P ops Q w0 n H hS m (L.setIfInBounds i true) ((d, v) :: l) h) : JX P ops Q w0 n H hS (m + 1) L l h := by
  refine ⟨fun hT hs hQ u w s sS => ?_⟩
  simp only [Bool.and_eq_true] at hc
  obtain ⟨⟨h1, h2⟩, h3⟩ := hc
  refine wpAnyK_first (v := v) ho (by simpa using h3) hT (Region.noSelect_spec hs) (fun c a w => hQ c _ _ w) _ L _ w (Region.free_spec ho h2) (by simpa using h1) (.inl ⟨wants_spec hw u, fun w s => by rw [mk_eval]; exact hv.run u w s⟩) sS ?_
  rw [hd, mk_put]
  exact H'.run hT hs hQ u w s sS
theorem JX.off {d : Nat} (hc : ((Region.ready .any ops L).contains i && Region.free .any ops L i && H.contains i) = true) (ho : ops[i]? = some o) (hw : wants ops n l o = some false) (hd : o.dst = some d)
    (H' : JX P ops Q w0 n H hS m (L.setIfInBounds i true) ((d, undef) :: l) h) : JX P ops Q w0 n H hS (m + 1) L l h := by
  refine ⟨fun hT hs hQ u w s sS => ?_⟩
  simp only [Bool.and_eq_true] at hc
  obtain ⟨⟨h1, h2⟩, h3⟩ := hc
  refine wpAnyK_first (v := undef) ho (by simpa using h3) hT (Region.noSelect_spec hs) (fun c a w => hQ c _ _ w) _ L _ w (Region.free_spec ho h2) (by simpa using h1) (.inr ⟨wants_spec hw u, rfl⟩) sS ?_
  rw [hd, mk_put]
  exact H'.run hT hs hQ u w s sS
theorem JO.eff {d : Nat} {α : Type} {φ : α → Prop} {v : α → Value} {h' : α → Hp} (hS' : α → Hp) (ho : ops[i]? = some o) (hv : Eff P w0 n l h o φ v h') (hw : wants ops n l o = some true) (hd : o.dst = some d)
    (hm : ∀ x w, φ x → St w0 (h' x) w → St w0 (hS' x) w) (hm' : ∀ x w, St w0 (hS' x) w → St w0 hS w)
    (H' : ∀ x, φ x → JX P ops Q w0 n H (hS' x) m (L.setIfInBounds i true) ((d, v x) :: l) (h' x)) : JO P ops Q w0 n H hS m i L l h := by
  refine ⟨fun hT hs hQ u w s sS => ?_⟩
  refine wpOp_wanted ho (wants_spec hw u) (hv.run u w s _ _ fun x w' hx s' => ?_)
  rw [hd, mk_put]
  exact ⟨fun _ => hm' x w' (hm x w' hx s'), wpAnyK_mono (fun w => hm' x w) _ _ _ _ ((H' x hx).run hT hs hQ u w' s' (hm x w' hx s'))⟩
theorem JO.eff0 {α : Type} {φ : α → Prop} {v : α → Value} {h' : α → Hp} (hS' : α → Hp) (ho : ops[i]? = some o) (hv : Eff P w0 n l h o φ v h') (hw : wants ops n l o = some true) (hd : o.dst = none)
    (hm : ∀ x w, φ x → St w0 (h' x) w → St w0 (hS' x) w) (hm' : ∀ x w, St w0 (hS' x) w → St w0 hS w)
    (H' : ∀ x, φ x → JX P ops Q w0 n H (hS' x) m (L.setIfInBounds i true) l (h' x)) : JO P ops Q w0 n H hS m i L l h := by
  refine ⟨fun hT hs hQ u w s sS => ?_⟩
  refine wpOp_wanted ho (wants_spec hw u) (hv.run u w s _ _ fun x w' hx s' => ?_)
  rw [hd]
  exact ⟨fun _ => hm' x w' (hm x w' hx s'), wpAnyK_mono (fun w => hm' x w) _ _ _ _ ((H' x hx).run hT hs hQ u w' s' (hm x w' hx s'))⟩
theorem JO.off {d : Nat} (ho : ops[i]? = some o) (hw : wants ops n l o = some false) (hd : o.dst = some d)
    (H' : JX P ops Q w0 n H hS m (L.setIfInBounds i true) ((d, undef) :: l) h) : JO P ops Q w0 n H hS m i L l h := by
  refine ⟨fun hT hs hQ u w s sS => ?_⟩
  refine wpOp_unwanted ho (wants_spec hw u) ?_
  rw [hd, mk_put]
  exact ⟨fun _ => sS, H'.run hT hs hQ u w s sS⟩
theorem JX.only (hc : (Region.ready .any ops L == [i]) = true) (Hi : JO P ops Q w0 n H hS m i L l h) : JX P ops Q w0 n H hS (m + 1) L l h := by
  refine ⟨fun hT hs hQ u w s sS => ?_⟩
  have h1 := ready_of_eq hc
  refine ⟨fun h => (by rw [h1] at h; cases h), fun j hj => ?_⟩
  rw [h1] at hj
  obtain rfl : j = i := by simpa using hj
  exact Hi.run hT hs hQ u w s sS
theorem JX.fork (hc : (Region.ready .any ops L == [i, j]) = true) (Hi : JO P ops Q w0 n H hS m i L l h) (Hj : JO P ops Q w0 n H hS m j L l h) : JX P ops Q w0 n H hS (m + 1) L l h := by
  refine ⟨fun hT hs hQ u w s sS => ?_⟩
  have h1 : Region.ready .any ops L = [i, j] := by simpa using hc
  refine ⟨fun h => (by rw [h1] at h; cases h), fun k hk => ?_⟩
  rw [h1] at hk
  rcases List.mem_cons.1 hk with rfl | hk
  · exact Hi.run hT hs hQ u w s sS
  · obtain rfl : k = j := by simpa using hk
    exact Hj.run hT hs hQ u w s sS
theorem JX.tail {τ : List Nat} (hc : ((H.all fun k => L.getD k true) && chk .any ops (τ.map (·, false)) L && Nat.beq τ.length m) = true) (H' : JT P ops Q w0 n τ L l h) : JX P ops Q w0 n H hS m L l h := by
  refine ⟨fun hT hs hQ u w s sS => ?_⟩
  simp only [Bool.and_eq_true] at hc
  obtain ⟨⟨h1, h2⟩, h3⟩ := hc
  rw [← Nat.eq_of_beq_eq_true h3]
  exact wpAnyK_tail (fun L j hj => (mem_ready.1 hj).1) _ L _ w (fun k hk => List.all_eq_true.1 h1 k hk) (H'.run h2 u w s)
theorem J.drawX {id : Nat} {ol : Array Oper} (hS : Hp) (H : List Nat) (m : Nat) (hsub : ∀ w, St w0 h w → St w0 hS w) (hm : P.follows .mixedOrders = true) (hc : (tailB .any ol H && Region.noSelect ol && Nat.beq ol.size m) = true)
    (H' : JX P ol (NoPanic Q) w0 n H hS m (Array.replicate ol.size false) l h) : J P Q w0 n (.region id ol true) l h := by
  refine ⟨fun u w s => ?_⟩
  simp only [Bool.and_eq_true] at hc
  obtain ⟨⟨h1, h2⟩, h3⟩ := hc
  refine wp_region_noPanic (wp_region_any hm (wpAny_of_K (H := H) (S := St w0 hS) _ _ _ _ ?_))
  have := H'.run (tailB_spec h1) h2 (fun c a a' w q => q) u w.drew s.drew (hsub _ s.drew)
  rw [Nat.eq_of_beq_eq_true h3] at this ⊢
  exact this
end
end Go.Fw
