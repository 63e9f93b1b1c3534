/- Arrays of integers compared. -/
import Derived.Test.YtimokikpnngikaaFt
import Derived.Stop.BytesEq
import Derived.Laws.StructEq
set_option linter.unusedVariables false
set_option linter.unusedSimpArgs false
namespace Go.Fw
open Go Go.RowKit
section
variable {P : Program}
def sameTo (N : Nat) (f g : Nat → Int) : Bool := (List.range N).all fun i => f i == g i
theorem sameTo_self (N : Nat) (f : Nat → Int) : sameTo N f f = true := by simp [sameTo]
theorem sameTo_iff {N : Nat} {f g : Nat → Int} : sameTo N f g = true ↔ ∀ i, i < N → f i = g i := by simp [sameTo]
theorem run_equalIn_arr (w : World) (d : Nat) (t e : TypeId) (N : Nat) (k k' : IntKind) (ht : P.underlying t = some (.array N e)) (he : P.underlying e = some (.int k')) (hsz : ∀ w, (sizeOf e).run P w = .ok 1 w) (f g : Nat → Int) (F G : Nat → Value) (hF : ∀ i, F i = .int k (f i)) (hG : ∀ i, G i = .int k (g i)) :
    (Op.equalIn (d + 2) t (.agg (arr N F)) (.agg (arr N G))).run P w = .ok (sameTo N f g) w := by
  unfold sameTo
  rw [List.range_eq_range', Op.equalIn]
  simp only [Sem.run_bind, run_underlying ht, Result.andThen_ok, hsz, Std.Legacy.Range.forIn_eq_forIn_range', Std.Legacy.Range.size, Nat.sub_zero, Nat.add_sub_cancel, Nat.div_one]
  have hl : ∀ i ∈ List.range' 0 N 1, i < N := fun i hi => by simpa using (List.mem_range'_1.1 hi).2
  generalize List.range' 0 N 1 = l at hl ⊢
  induction l with
  | nil => simp
  | cons i l ih =>
    have hi : i < N := hl i (by simp)
    have px : (part e (arr N F) (i * 1)).run P w = .ok (F i) w := by
      unfold part
      simp [Sem.run_bind, run_isAgg he, aggB, arr_get F hi]
    have py : (part e (arr N G) (i * 1)).run P w = .ok (G i) w := by
      unfold part
      simp [Sem.run_bind, run_isAgg he, aggB, arr_get G hi]
    have pe : (Op.equalIn (d + 1) e (F i) (G i)).run P w = .ok (f i == g i) w := by
      rw [hF, hG, run_equalIn_int w d e k k' _ _ he]
    simp only [List.forIn_cons, Sem.run_bind, px, py, pe, Result.andThen_ok, List.all_cons]
    cases hb : (f i == g i)
    · simp
    · simp only [Bool.not_true, Bool.false_eq_true, if_false, Sem.run_pure, Result.andThen_ok, Bool.true_and]
      exact ih fun j hj => hl j (by simp [hj])
end
section
variable {P : Program} {w0 : World} {n : Nat} {l : Env} {h h' : Hp} {dst : Option Tmp} {ty : TypeId} {pos : String} {aft : Array Edge} {gd : Option (Nat × Bool)} {x y : Operand} {t te tyy : TypeId}
theorem Ev.eqlA {N : Nat} {k k' : IntKind} {f g : Nat → Int} {F G : Nat → Value} {c : Bool} (hx : ev n l x = some (.agg (arr N F))) (hy : ev n l y = some (.agg (arr N G))) (ht : P.underlying t = some (.array N te)) (he : P.underlying te = some (.int k')) (hi : (P.info? te).map (·.size) = some 1) (hm : P.eqGuardType P.depth t = false) (hF : ∀ i, F i = .int k (f i)) (hG : ∀ i, G i = .int k (g i)) (hr : sameTo N f g = c) :
    Ev P w0 n l h ⟨dst, .binOp .eql t x y tyy, ty, pos, aft, gd⟩ (.bool c) := by
  refine ⟨fun u w s => ?_⟩
  subst hr
  simp only [execOp, ev_evu hx u, ev_evu hy u]
  have := run_equalIn_arr (P := P) w 9998 t te N k k' ht he (fun w => run_sizeOf1 hi) f g F G hF hG
  have h9 : (Op.equal t (.agg (arr N F)) (.agg (arr N G))).run P w = .ok (sameTo N f g) w := this
  simp [binOp, Sem.run_bind, run_eqGuard_agg (P := P) w _ t x y _ _ hm, h9]
theorem Ev.neqA {N : Nat} {k k' : IntKind} {f g : Nat → Int} {F G : Nat → Value} {c : Bool} (hx : ev n l x = some (.agg (arr N F))) (hy : ev n l y = some (.agg (arr N G))) (ht : P.underlying t = some (.array N te)) (he : P.underlying te = some (.int k')) (hi : (P.info? te).map (·.size) = some 1) (hm : P.eqGuardType P.depth t = false) (hF : ∀ i, F i = .int k (f i)) (hG : ∀ i, G i = .int k (g i)) (hr : (!sameTo N f g) = c) :
    Ev P w0 n l h ⟨dst, .binOp .neq t x y tyy, ty, pos, aft, gd⟩ (.bool c) := by
  refine ⟨fun u w s => ?_⟩
  subst hr
  simp only [execOp, ev_evu hx u, ev_evu hy u]
  have := run_equalIn_arr (P := P) w 9998 t te N k k' ht he (fun w => run_sizeOf1 hi) f g F G hF hG
  have h9 : (Op.equal t (.agg (arr N F)) (.agg (arr N G))).run P w = .ok (sameTo N f g) w := this
  simp [binOp, Sem.run_bind, run_eqGuard_agg (P := P) w _ t x y _ _ hm, h9]
end
end Go.Fw
namespace Go.Fw
open Go Go.RowKit
section
variable {P : Program} {w0 : World} {n : Nat} {l : Env} {h h' : Hp} {dst : Option Tmp} {ty : TypeId} {pos : String} {aft : Array Edge} {gd : Option (Nat × Bool)}
theorem Eff.weak {o : Oper} {α : Type} {φ : α → Prop} {v : α → Value} {h' h'' : α → Hp} (H : Eff P w0 n l h o φ v h') (hw : ∀ x w, φ x → St w0 (h' x) w → St w0 (h'' x) w) : Eff P w0 n l h o φ v h'' :=
  ⟨fun u w s K Q Hk => H.run u w s K Q fun x w' hx s' => Hk x w' hx (hw x w' hx s')⟩
/-- A row of the call's own, from now on only read. -/
theorem St.rowRd {w : World} {v : Value} {e : TypeId} {xs : List Value} (s : St w0 h w) (ha : At (rowE v e xs) (rdE v xs true) h h') : St w0 h' w := by
  obtain ⟨i, hi, rfl⟩ := ha.idx
  have ho : w.ownsRow 0 e 1 v xs.length xs := by
    have := s.ok _ (List.mem_of_getElem? hi)
    unfold rowE at this
    exact this
  refine s.turn hi (by unfold rowE; rfl) (fun b hb => .inl ?_) rfl rfl rfl (Nat.le_refl _) (fun b _ _ => rfl) (rdOk_row ho)
  obtain ⟨a, m, c, rfl, rfl⟩ := hb
  unfold rowE
  rfl
theorem cell_freeze (w : World) (g k m : Nat) (a : Addr) : (w.freeze ⟨g, k, none⟩ m).cell? a = w.cell? a := by
  unfold World.freeze
  split
  · rfl
  · unfold World.cell?
    simp only [Array.getElem?_modify]
    by_cases hg : g = a.block
    · rw [if_pos hg]
      cases w.heap[a.block]? with
      | none => rfl
      | some o => cases o <;> rfl
    · rw [if_neg hg]
theorem heap_freeze (w : World) (g k m b : Nat) (hb : b ≠ g) : (w.freeze ⟨g, k, none⟩ m).heap[b]? = w.heap[b]? := by
  unfold World.freeze
  split
  · rfl
  · simp only [Array.getElem?_modify]
    rw [if_neg (fun e => hb e.symm)]
theorem size_freeze (w : World) (a : Addr) (m : Nat) : (w.freeze a m).heap.size = w.heap.size := by
  unfold World.freeze
  split
  · rfl
  · simp
/-- []byte(b) of one and the same type. -/
theorem Eff.convR {x : Operand} {t e : TypeId} {v : Value} {xs : List Value} {g o m c : Nat} (hx : ev n l x = some v) (hv : v = .slice (some ⟨g, o, none⟩) m c) (ht : P.underlying t = some (.slice e)) (he : P.underlying e = some (.int .u8)) (ha : At (rdE v xs true) (rdE v xs true) h h) :
    Eff P w0 n l h ⟨dst, .convert t t x, ty, pos, aft, gd⟩ (α := Unit) (fun _ => True) (fun _ => v) (fun _ => h) := by
  refine ⟨fun u w st K Q H => ?_⟩
  have ho := rdE_ok st ha
  obtain ⟨i, hi, hh⟩ := ha.idx
  subst hv
  rcases ho with ⟨hn, _⟩ | ⟨a, c', hs, hb, hc⟩
  · cases hn
  injection hs with h1 h2 h3
  injection h1 with h1
  subst h1 h2 h3
  have hrun : ∃ k w', (w' = w.freeze ⟨g, k, none⟩ 1 ∨ w' = w) ∧ (convert t t (.slice (some ⟨g, o, none⟩) xs.length c)).run P w = .ok (.slice (some ⟨g, o, none⟩) xs.length c) w' := by
    cases hsh : w.shape? g with
    | none =>
      refine ⟨0, w, .inr rfl, ?_⟩
      simp [convert, run_underlying ht, run_underlying he, markStringish, hsh]
    | some p =>
      refine ⟨p.2, _, .inl rfl, ?_⟩
      simp [convert, run_underlying ht, run_underlying he, markStringish, hsh]
  obtain ⟨k, w', hw', hr⟩ := hrun
  unfold Oper.wp
  rw [mk_eval]
  simp only [execOp, ev_evu hx u, Sem.run_bind, hr, Result.andThen_ok]
  refine H () w' trivial ?_
  rcases hw' with rfl | rfl
  · have hf : (w.freeze ⟨g, k, none⟩ 1).os = w.os ∧ (w.freeze ⟨g, k, none⟩ 1).tape = w.tape ∧ (w.freeze ⟨g, k, none⟩ 1).output = w.output := by
      unfold World.freeze
      split <;> exact ⟨rfl, rfl, rfl⟩
    have := st.turn (w' := w.freeze ⟨g, k, none⟩ 1) hi rfl (fun b hb => .inl hb) hf.1 hf.2.1 hf.2.2 (Nat.le_of_eq (size_freeze _ _ _).symm) (fun b hb hn => heap_freeze _ _ _ _ _ (fun e => hn ⟨_, _, _, rfl, e.symm⟩)) (.inr ⟨⟨g, o, none⟩, c, rfl, by rw [size_freeze]; exact hb, fun i y hy => by rw [cell_freeze]; exact hc i y hy⟩)
    rw [← hh] at this
    exact this
  · exact st
end
end Go.Fw
