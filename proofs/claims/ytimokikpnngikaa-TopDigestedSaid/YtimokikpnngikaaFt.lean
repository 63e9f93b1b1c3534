/- Scopes and labels; ranging over a string's runes. -/
import Derived.Test.YtimokikpnngikaaFs
import Derived.Scope
import Derived.Laws.RangeAny
set_option linter.unusedVariables false
set_option linter.unusedSimpArgs false
namespace Go.Fw
open Go Go.RowKit
section
variable {P : Program} {Q : Exit → Act → World → Prop} {w0 : World} {n : Nat} {l : Env} {h : Hp}
theorem J.scope {c : Code} (H : J P (Exit.noGoto Q) w0 n c l h) : J P Q w0 n (.scope c) l h := ⟨fun u w s => wp_scope_straight (H.run u w s)⟩
theorem J.label {id : Nat} (H : JE Q w0 n .normal l h) : J P Q w0 n (.label id) l h := ⟨fun u w s => wp_label (H.run u w s)⟩
theorem JE.scopeNormal (H : JE Q w0 n .normal l h) : JE (Exit.noGoto Q) w0 n .normal l h := ⟨H.run⟩
theorem JE.scopeRet (H : JE Q w0 n .ret l h) : JE (Exit.noGoto Q) w0 n .ret l h := ⟨H.run⟩
theorem JE.scopeExit {id : Nat} (H : JE Q w0 n (.exit id) l h) : JE (Exit.noGoto Q) w0 n (.exit id) l h := ⟨H.run⟩
end
/-! ### Runes of a string -/
def iterE (g : Nat) (s : List UInt8) (pos : Nat) : Ent where
  rw := true
  fp b := b = g
  ok w := w.heap[g]? = some (.stringIter ⟨s.toArray⟩ pos)
  dep w w' h hg := by rw [h g rfl]; exact hg
  lt w h b hb := by subst hb; exact (Array.getElem?_eq_some_iff.1 h).1
def dec (s : List UInt8) (pos : Nat) : Nat × Nat := Utf8.decode ⟨s.toArray⟩ pos
def nextP (s : List UInt8) (pos : Nat) : Nat := if pos < s.length then pos + (dec s pos).2 else pos
def nextV (s : List UInt8) (pos : Nat) : Value := if pos < s.length then .tuple #[.bool true, .int .i64 pos, .int .i32 (dec s pos).1] else .tuple #[.bool false]
theorem dec_ascii (s : List UInt8) (pos : Nat) (h : pos < s.length) (ha : s[pos].toNat < 128) : dec s pos = (s[pos].toNat, 1) := by
  have := decode_ascii ⟨s.toArray⟩ pos (by simpa [ByteArray.size] using h) ha
  unfold dec
  rw [this]
  rfl
theorem dec_high (s : List UInt8) (pos : Nat) (h : pos < s.length) (ha : 128 ≤ s[pos].toNat) : 128 ≤ (dec s pos).1 ∧ 1 ≤ (dec s pos).2 :=
  decode_high ⟨s.toArray⟩ pos (by simpa [ByteArray.size] using h) ha
theorem dec_le (s : List UInt8) (pos : Nat) : (dec s pos).1 ≤ 2147483647 := decode_le _ _
section
variable {P : Program} {w0 : World} {n : Nat} {l : Env} {h h' : Hp} {dst : Option Tmp} {ty : TypeId} {pos : String} {aft : Array Edge} {gd : Option (Nat × Bool)}
theorem Eff.rangeS {t : TypeId} {x : Operand} {s : List UInt8} (hx : ev n l x = some (S s)) (hu : P.underlying t = some .string) :
    Eff P w0 n l h ⟨dst, .range t x, ty, pos, aft, gd⟩ (α := Nat) (fun _ => True) (fun g => .pointer (some ⟨g, 0, none⟩)) (fun g => iterE g s 0 :: h) := by
  refine ⟨fun u w st K Q H => ?_⟩
  have hr := run_range_string (P := P) w t ⟨s.toArray⟩ hu
  unfold Oper.wp
  rw [mk_eval]
  simp only [execOp, ev_evu hx u, S, Sem.run_bind, hr, Result.andThen_ok]
  refine H w.heap.size _ trivial (st.addNew (below_alloc w _) _ ?_ ?_)
  · show (w.iter _ 0).heap[w.heap.size]? = _
    exact w.iter_heap _ _
  · intro b hb
    have : b = w.heap.size := hb
    omega
theorem Eff.nextS {x : Operand} {g p : Nat} {s : List UInt8} (hx : ev n l x = some (.pointer (some ⟨g, 0, none⟩))) (ha : At (iterE g s p) (iterE g s (nextP s p)) h h') :
    Eff P w0 n l h ⟨dst, .next x true, ty, pos, aft, gd⟩ (α := Unit) (fun _ => True) (fun _ => nextV s p) (fun _ => h') := by
  refine ⟨fun u w st K Q H => ?_⟩
  obtain ⟨i, hi, rfl⟩ := ha.idx
  have hg : w.heap[g]? = some (.stringIter ⟨s.toArray⟩ p) := st.ok _ (List.mem_of_getElem? hi)
  have hlt := (Array.getElem?_eq_some_iff.1 hg).1
  unfold Oper.wp
  rw [mk_eval]
  have hsz : (ByteArray.mk s.toArray).size = s.length := by simp [ByteArray.size]
  by_cases hp : p < s.length
  · have hr : (Instr.next (.pointer (some ⟨g, 0, none⟩)) true ty).run P w = .ok (nextV s p) { w with heap := w.heap.setIfInBounds g (.stringIter ⟨s.toArray⟩ (nextP s p)) } := by
      simp [Instr.next, getObj, setObj, Sem.run, hg, hsz, hp, goInt, nextV, nextP, dec]
    simp only [execOp, ev_evu hx u, Sem.run_bind, hr, Result.andThen_ok]
    refine H () _ trivial (st.turn hi rfl (fun b hb => .inl hb) rfl rfl rfl (by simp) (fun b hb hn => ?_) ?_)
    · have hne : g ≠ b := fun e => hn e.symm
      show (w.heap.setIfInBounds g _)[b]? = _
      rw [Array.getElem?_setIfInBounds_ne hne]
    · show (w.heap.setIfInBounds g _)[g]? = _
      rw [Array.getElem?_setIfInBounds_self_of_lt hlt]
  · have hr : (Instr.next (.pointer (some ⟨g, 0, none⟩)) true ty).run P w = .ok (nextV s p) w := by
      simp [Instr.next, getObj, setObj, Sem.run, hg, hsz, hp, nextV]
    simp only [execOp, ev_evu hx u, Sem.run_bind, hr, Result.andThen_ok]
    refine H () _ trivial ?_
    rw [show nextP s p = p by unfold nextP; rw [if_neg hp]]
    have hil := (List.getElem?_eq_some_iff.1 hi).1
    have hie := (List.getElem?_eq_some_iff.1 hi).2
    rw [← hie, List.set_getElem_self]
    exact st
theorem Ev.next0 {x : Operand} {s : List UInt8} {p : Nat} (hx : ev n l x = some (nextV s p)) : Ev P w0 n l h ⟨dst, .extract x 0, ty, pos, aft, gd⟩ (.bool (decide (p < s.length))) := by
  unfold nextV at hx
  by_cases h : p < s.length
  · rw [if_pos h] at hx
    rw [decide_eq_true h]
    exact Ev.extract hx rfl
  · rw [if_neg h] at hx
    rw [decide_eq_false h]
    exact Ev.extract hx rfl
theorem Ev.next1 {x : Operand} {s : List UInt8} {p : Nat} (hx : ev n l x = some (nextV s p)) (hp : p < s.length) : Ev P w0 n l h ⟨dst, .extract x 1, ty, pos, aft, gd⟩ (.int .i64 p) := by
  unfold nextV at hx
  rw [if_pos hp] at hx
  exact Ev.extract hx rfl
theorem Ev.next2 {x : Operand} {s : List UInt8} {p : Nat} (hx : ev n l x = some (nextV s p)) (hp : p < s.length) : Ev P w0 n l h ⟨dst, .extract x 2, ty, pos, aft, gd⟩ (.int .i32 (dec s p).1) := by
  unfold nextV at hx
  rw [if_pos hp] at hx
  exact Ev.extract hx rfl
end
end Go.Fw
namespace Go.Fw
theorem i32_in {z : Int} (h1 : -2147483648 ≤ z) (h2 : z ≤ 2147483647) : IntKind.i32.wrap z = z := by
  rw [IntKind.wrap_i32]; omega
end Go.Fw
