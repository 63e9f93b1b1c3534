/- A light frame for walks: a Go frame is told by the slots that are known, a world by the blocks that the call itself has made; each operation has one rule. Nothing here speaks of a program. -/
import Derived.Calls
import Derived.Below
import Derived.Orders
import Derived.OrdersHeld
import Derived.Tactics
import Derived.Laws.Rows
import Derived.KernelRfl
import Derived.Deep.LoopGhost
namespace Go.Fw
open Go Go.RowKit

/-! ### 1. Frames -/
abbrev Env := List (Nat × Value)
def lk : Env → Nat → Option Value
  | [], _ => none
  | (j, v) :: r, i => bif Nat.beq j i then some v else lk r i
/-- A frame of n slots: the known ones, and whatever the others hold. -/
def mk (n : Nat) (l : Env) (u : Nat → Value) : Act := { tmps := Array.ofFn (n := n) fun i => (lk l i).getD (u i), defers := [] }
def evu (n : Nat) (l : Env) (u : Nat → Value) : Operand → Value
  | .tmp t => bif Nat.blt t n then (lk l t).getD (u t) else undef
  | .const v => v
  | .global g => .pointer (some ⟨g, 0, none⟩)
  | .func f => .func (.func f) #[] #[]
theorem blt_iff {a b : Nat} : Nat.blt a b = true ↔ a < b := by
  simp [Nat.blt, Nat.ble_eq]; omega
theorem mk_getD (n : Nat) (l : Env) (u : Nat → Value) (i : Nat) : (mk n l u).tmps.getD i undef = bif Nat.blt i n then (lk l i).getD (u i) else undef := by
  unfold mk
  by_cases h : i < n
  · rw [blt_iff.2 h]; simp [h]
  · have : Nat.blt i n = false := by
      cases hb : Nat.blt i n
      · rfl
      · exact absurd (blt_iff.1 hb) h
    rw [this]; simp [h]
theorem mk_eval (n : Nat) (l : Env) (u : Nat → Value) : (mk n l u).eval = evu n l u := by
  funext x
  cases x with
  | tmp t => exact mk_getD n l u t
  | _ => rfl
theorem lk_cons (d : Nat) (v : Value) (l : Env) (i : Nat) : lk ((d, v) :: l) i = if d = i then some v else lk l i := by
  simp only [lk]
  by_cases h : d = i
  · subst h; simp [Nat.beq_refl]
  · have : Nat.beq d i = false := by
      cases hb : Nat.beq d i
      · rfl
      · exact absurd (Nat.eq_of_beq_eq_true hb) h
    rw [this, if_neg h]; rfl
theorem mk_put {n : Nat} {l : Env} {u : Nat → Value} {d : Nat} {v : Value} : (mk n l u).put (some d) v = mk n ((d, v) :: l) u := by
  unfold mk
  simp only [Act.put]
  congr 1
  apply Array.ext
  · simp
  · intro i h1 h2
    simp only [Array.getElem_ofFn, lk_cons]
    split <;> simp_all
theorem mk_ext {n : Nat} {l l' : Env} {u u' : Nat → Value} (h : ∀ i, (lk l i).getD (u i) = (lk l' i).getD (u' i)) : mk n l u = mk n l' u' := by
  unfold mk
  simp only [h]
/-- What is told of a frame may be told in part. -/
theorem mk_sub {n : Nat} {l l' : Env} (u : Nat → Value) (h : ∀ i v, lk l' i = some v → lk l i = some v) : ∃ u', mk n l u = mk n l' u' :=
  ⟨fun i => (lk l i).getD (u i), mk_ext fun i => by
    cases h' : lk l' i with
    | none => rfl
    | some v => rw [h i v h']; rfl⟩
/-- Every slot that l' tells is told so by l: asked slot by slot. -/
def Sub (l : Env) : Env → Prop
  | [] => True
  | (i, v) :: r => lk l i = some v ∧ Sub l r
theorem Sub.lk {l : Env} : ∀ {l' : Env}, Sub l l' → ∀ i v, lk l' i = some v → lk l i = some v
  | [], _, i, v, h => by simp [Fw.lk] at h
  | (j, x) :: r, hs, i, v, h => by
    rw [lk_cons] at h
    split at h
    · rename_i hj; subst hj; injection h with h; subst h; exact hs.1
    · exact Sub.lk hs.2 i v h
theorem undef_args (n : Nat) (args : Array Value) (l : Env) (hn : args.size ≤ n) (h : ∀ i, i < args.size → Fw.lk l i = args[i]?) (h' : ∀ i, args.size ≤ i → Fw.lk l i = none) :
    ({ tmps := args ++ Array.replicate (n - args.size) undef, defers := [] } : Act) = mk n l (fun _ => undef) := by
  unfold mk
  congr 1
  apply Array.ext
  · simp; omega
  · intro i h1 h2
    simp only [Array.getElem_ofFn]
    by_cases hi : i < args.size
    · rw [h i hi, Array.getElem_append_left hi]; simp [hi]
    · rw [h' i (by omega), Array.getElem_append_right (by omega)]; simp
/-- The arguments as slots. -/
def argsEnv : Nat → List Value → Env
  | _, [] => []
  | k, v :: r => (k, v) :: argsEnv (k + 1) r
theorem lk_argsEnv : ∀ (vs : List Value) (k i : Nat), Fw.lk (argsEnv k vs) i = if k ≤ i then vs[i - k]? else none
  | [], k, i => by simp [argsEnv, Fw.lk]
  | v :: r, k, i => by
    rw [argsEnv, lk_cons, lk_argsEnv r]
    by_cases h : k = i
    · subst h; simp
    · rw [if_neg h]
      by_cases h1 : k ≤ i
      · rw [if_pos (by omega : k + 1 ≤ i), if_pos h1, show i - k = (i - (k + 1)) + 1 by omega]; simp
      · rw [if_neg (by omega), if_neg h1]

/-! ### 2. Worlds -/
/-- Something that is known of a world, and the blocks that it hangs on. -/
structure Ent where
  rw : Bool
  fp : Nat → Prop
  ok : World → Prop
  dep : ∀ w w', (∀ b, fp b → w'.heap[b]? = w.heap[b]?) → ok w → ok w'
  lt : ∀ w, ok w → ∀ b, fp b → b < w.heap.size
/-- A row of cells of the call's own: it may be written. -/
def cells (g : Nat) (c : Array Value) (t : TypeId) : Ent where
  rw := true
  fp b := b = g
  ok w := ∃ fr, w.heap[g]? = some (.cells c t fr) ∧ ∀ i, i < c.size → ¬ (fr.1 ≤ i ∧ i < fr.2)
  dep w w' h := fun ⟨fr, hg, hf⟩ => ⟨fr, by rw [h g rfl]; exact hg, hf⟩
  lt w h b hb := by
    obtain ⟨fr, hg, _⟩ := h
    subst hb
    exact (Array.getElem?_eq_some_iff.1 hg).1
abbrev Hp := List Ent
/-- The world is the old one and what is told of it. -/
structure St (w0 : World) (h : Hp) (w : World) : Prop where
  below : Below w0.heap.size w0 w
  ok : ∀ e ∈ h, e.ok w
  own : ∀ e ∈ h, e.rw = true → ∀ b, e.fp b → w0.heap.size ≤ b
  apart : h.Pairwise fun e e' => (e.rw = true ∨ e'.rw = true) → ∀ b, e.fp b → ¬ e'.fp b
theorem St.start (w : World) : St w [] w := ⟨Below.refl _ _, by simp, by simp, .nil⟩
theorem St.keep {w0 : World} {h : Hp} {w w' : World} (s : St w0 h w) (hb : Below w.heap.size w w') : St w0 h w' := by
  refine ⟨s.below.trans (hb.mono s.below.size), fun e he => e.dep w w' (fun b hf => hb.block b (e.lt w (s.ok e he) b hf)) (s.ok e he), s.own, s.apart⟩
theorem below_of_heap {w w' : World} (h : w'.heap = w.heap) (h1 : w'.os = w.os) (h2 : w'.tape = w.tape) (h3 : w'.output = w.output) (B : Nat) : Below B w w' :=
  ⟨h1, h2, h3, by rw [h]; exact Nat.le_refl _, fun _ _ => by rw [h]⟩
theorem St.drew {w0 : World} {h : Hp} {w : World} (s : St w0 h w) : St w0 h w.drew := s.keep (below_of_heap (w := w) (w' := w.drew) rfl rfl rfl rfl _)
theorem below_alloc (w : World) (o : Obj) : Below w.heap.size w (w.alloc o) := (Below.refl _ _).alloc (Nat.le_refl _) o
theorem St.alloc {w0 : World} {h : Hp} {w : World} (s : St w0 h w) (c : Array Value) (t : TypeId) : St w0 (cells w.heap.size c t :: h) (w.alloc (.cells c t)) := by
  have s' := s.keep (below_alloc w (.cells c t))
  refine ⟨s'.below, ?_, ?_, ?_⟩
  · intro e he
    rcases List.mem_cons.1 he with rfl | he
    · exact ⟨(0, 0), heap_alloc_new w _, fun i _ => by simp⟩
    · exact s'.ok e he
  · intro e he hr b hf
    rcases List.mem_cons.1 he with rfl | he
    · have : b = w.heap.size := hf
      subst this; exact s.below.size
    · exact s'.own e he hr b hf
  · refine List.pairwise_cons.2 ⟨fun e he _ b hb hf => ?_, s.apart⟩
    have : b = w.heap.size := hb
    subst this
    exact absurd (e.lt w (s.ok e he) _ hf) (Nat.lt_irrefl _)
theorem St.sub {w0 : World} {h h' : Hp} {w : World} (s : St w0 h w) (hs : h'.Sublist h) : St w0 h' w :=
  ⟨s.below, fun e he => s.ok e (hs.subset he), fun e he => s.own e (hs.subset he), s.apart.sublist hs⟩
theorem St.swap {w0 : World} {h h' : Hp} {w : World} (s : St w0 h w) (hs : h.Perm h') : St w0 h' w :=
  ⟨s.below, fun e he => s.ok e (hs.symm.subset he), fun e he => s.own e (hs.symm.subset he), (hs.pairwise_iff (fun hab hr c hb ha => hab hr.symm c ha hb)).1 s.apart⟩
/-- Something more is known, that nothing of the call's own is part of. -/
theorem St.add {w0 : World} {h : Hp} {w : World} (s : St w0 h w) (e : Ent) (hr : e.rw = false) (ho : e.ok w) (hd : ∀ e' ∈ h, e'.rw = true → ∀ b, e.fp b → ¬ e'.fp b) : St w0 (e :: h) w := by
  refine ⟨s.below, ?_, ?_, ?_⟩
  · intro e' he
    rcases List.mem_cons.1 he with rfl | he
    · exact ho
    · exact s.ok e' he
  · intro e' he hr' b hf
    rcases List.mem_cons.1 he with rfl | he
    · rw [hr] at hr'; cases hr'
    · exact s.own e' he hr' b hf
  · exact List.pairwise_cons.2 ⟨fun e' he h' b hb hf => hd e' he (by rcases h' with h' | h'; (rw [hr] at h'; cases h'); exact h') b hb hf, s.apart⟩
/-- Something new in new memory, that may be written. -/
theorem St.addNew {w0 : World} {h : Hp} {w w' : World} (s : St w0 h w) (hb : Below w.heap.size w w') (e : Ent) (ho : e.ok w') (hd : ∀ b, e.fp b → w.heap.size ≤ b) : St w0 (e :: h) w' := by
  have s' := s.keep hb
  refine ⟨s'.below, ?_, ?_, ?_⟩
  · intro e' he
    rcases List.mem_cons.1 he with rfl | he
    · exact ho
    · exact s'.ok e' he
  · intro e' he hr' b hf
    rcases List.mem_cons.1 he with rfl | he
    · exact Nat.le_trans s.below.size (hd b hf)
    · exact s'.own e' he hr' b hf
  · exact List.pairwise_cons.2 ⟨fun e' he _ b hb hf => absurd (e'.lt w (s.ok e' he) b hf) (Nat.not_lt.2 (hd b hb)), s'.apart⟩
theorem cells_mem {w0 : World} {h : Hp} {w : World} (s : St w0 h w) {i g : Nat} {c : Array Value} {t : TypeId} (hi : h[i]? = some (cells g c t)) :
    ∃ fr, w.heap[g]? = some (.cells c t fr) ∧ ∀ i, i < c.size → ¬ (fr.1 ≤ i ∧ i < fr.2) := s.ok _ (List.mem_of_getElem? hi)
theorem cells_cell {w0 : World} {h : Hp} {w : World} (s : St w0 h w) {i g : Nat} {c : Array Value} {t : TypeId} (hi : h[i]? = some (cells g c t)) (o : Nat) : w.cell? ⟨g, o, none⟩ = c[o]? := by
  obtain ⟨fr, hg, _⟩ := cells_mem s hi
  simp [World.cell?, hg]
theorem cells_frozen {w0 : World} {h : Hp} {w : World} (s : St w0 h w) {i g : Nat} {c : Array Value} {t : TypeId} (hi : h[i]? = some (cells g c t)) (o : Nat) (ho : o < c.size) : w.frozen? ⟨g, o, none⟩ = false := by
  obtain ⟨fr, hg, hf⟩ := cells_mem s hi
  have := hf o ho
  simp only [World.frozen?, hg]
  rcases fr with ⟨a, b⟩
  simp at this ⊢
  exact this
theorem setAt_apart {h : Hp} {i B : Nat} {e e' : Ent} (hi : h[i]? = some e) (hw : e.rw = true) (hf : ∀ b, e'.fp b → e.fp b ∨ B ≤ b) (hlt : ∀ x ∈ h, ∀ b, x.fp b → b < B)
    (hp : h.Pairwise fun e e' => (e.rw = true ∨ e'.rw = true) → ∀ b, e.fp b → ¬ e'.fp b) : (h.set i e').Pairwise fun e e' => (e.rw = true ∨ e'.rw = true) → ∀ b, e.fp b → ¬ e'.fp b := by
  rw [List.pairwise_iff_getElem] at hp ⊢
  intro a b ha hb hab
  simp only [List.length_set] at ha hb
  have H := hp a b ha hb hab
  have hie : ∀ k (hk : k < h.length), i = k → h[k] = e := fun k hk he => by subst he; exact (List.getElem?_eq_some_iff.1 hi).2
  simp only [List.getElem_set]
  by_cases ia : i = a
  · have hne : ¬ i = b := by omega
    rw [if_pos ia, if_neg hne]
    rw [hie a ha ia] at H
    intro _ c hc hc'
    rcases hf c hc with hc | hc
    · exact H (.inl hw) c hc hc'
    · exact absurd (hlt _ (List.getElem_mem hb) c hc') (Nat.not_lt.2 hc)
  · rw [if_neg ia]
    by_cases ib : i = b
    · rw [if_pos ib]
      rw [hie b hb ib] at H
      intro _ c hc hc'
      rcases hf c hc' with hc' | hc'
      · exact H (.inr hw) c hc hc'
      · exact absurd (hlt _ (List.getElem_mem ha) c hc) (Nat.not_lt.2 hc')
    · rw [if_neg ib]; exact H
/-- A world in which only one block of the call's own has turned, and perhaps gone into new memory. -/
theorem St.turn {w0 : World} {h : Hp} {w w' : World} (s : St w0 h w) {i : Nat} {e e' : Ent} (hi : h[i]? = some e) (hw : e.rw = true) (hf : ∀ b, e'.fp b → e.fp b ∨ w.heap.size ≤ b)
    (hos : w'.os = w.os) (htp : w'.tape = w.tape) (hout : w'.output = w.output) (hsz : w.heap.size ≤ w'.heap.size) (hbl : ∀ b, b < w.heap.size → ¬ e.fp b → w'.heap[b]? = w.heap[b]?) (ho : e'.ok w') : St w0 (h.set i e') w' := by
  have hil := (List.getElem?_eq_some_iff.1 hi).1
  have hie := (List.getElem?_eq_some_iff.1 hi).2
  have hmem : e ∈ h := List.mem_of_getElem? hi
  refine ⟨⟨hos.trans s.below.os, htp.trans s.below.tape, hout.trans s.below.output, Nat.le_trans s.below.size hsz, fun b hb => ?_⟩, ?_, ?_, setAt_apart hi hw hf (fun x hx b hb => x.lt w (s.ok x hx) b hb) s.apart⟩
  · refine (hbl b (Nat.lt_of_lt_of_le hb s.below.size) fun hfb => ?_).trans (s.below.block b hb)
    exact absurd (s.own e hmem hw b hfb) (Nat.not_le.2 hb)
  · intro x hx
    obtain ⟨k, hk⟩ := List.mem_iff_getElem?.1 hx
    rw [List.getElem?_set] at hk
    by_cases hik : i = k
    · subst hik
      simp [hil] at hk
      subst hk; exact ho
    · rw [if_neg hik] at hk
      have hxm : x ∈ h := List.mem_of_getElem? hk
      refine x.dep w w' (fun b hfb => hbl b (x.lt w (s.ok x hxm) b hfb) fun heb => ?_) (s.ok x hxm)
      have hkl := (List.getElem?_eq_some_iff.1 hk).1
      have hke := (List.getElem?_eq_some_iff.1 hk).2
      have hp := List.pairwise_iff_getElem.1 s.apart
      rcases Nat.lt_or_gt_of_ne hik with hlt | hgt
      · exact hp i k hil hkl hlt (.inl (by rw [hie]; exact hw)) b (by rw [hie]; exact heb) (by rw [hke]; exact hfb)
      · exact hp k i hkl hil hgt (.inr (by rw [hie]; exact hw)) b (by rw [hke]; exact hfb) (by rw [hie]; exact heb)
  · intro x hx hxr b hfb
    obtain ⟨k, hk⟩ := List.mem_iff_getElem?.1 hx
    rw [List.getElem?_set] at hk
    by_cases hik : i = k
    · subst hik
      simp [hil] at hk
      subst hk
      rcases hf b hfb with hfb | hfb
      · exact s.own e hmem hw b hfb
      · exact Nat.le_trans s.below.size hfb
    · rw [if_neg hik] at hk
      exact s.own x (List.mem_of_getElem? hk) hxr b hfb
theorem St.set {w0 : World} {h : Hp} {w : World} (s : St w0 h w) {i g : Nat} {c : Array Value} {t : TypeId} (hi : h[i]? = some (cells g c t)) (o : Nat) (v : Value) :
    St w0 (h.set i (cells g (c.setIfInBounds o v) t)) (w.setCell ⟨g, o, none⟩ v) := by
  obtain ⟨fr, hg, hf⟩ := cells_mem s hi
  refine s.turn hi rfl (fun b hb => .inl hb) rfl rfl rfl (by simp [World.setCell]) (fun b _ hb => ?_) ⟨fr, ?_, by simpa using hf⟩
  · have : ¬ g = b := fun e => hb e.symm
    simp [World.setCell, Array.getElem?_modify, this]
  · simp [World.setCell, Array.getElem?_modify, hg]
end Go.Fw

namespace Go.Fw
/-! ### 3. Code from a state that is told -/
section
variable {P : Program} {ops : Array Oper} {Q : Exit → Act → World → Prop} {w0 : World} {n : Nat} {l l' : Env} {h h' : Hp}
structure J (P : Program) (Q : Exit → Act → World → Prop) (w0 : World) (n : Nat) (c : Code) (l : Env) (h : Hp) : Prop where of_ ::
  run : ∀ u w, St w0 h w → c.wp P Q (mk n l u) w
/-- An end that is reached. -/
structure JE (Q : Exit → Act → World → Prop) (w0 : World) (n : Nat) (e : Exit) (l : Env) (h : Hp) : Prop where of_ ::
  run : ∀ u w, St w0 h w → Q e (mk n l u) w
structure JL (P : Program) (ops : Array Oper) (Q : Exit → Act → World → Prop) (w0 : World) (n : Nat) (rest : List Oper) (l : Env) (h : Hp) : Prop where of_ ::
  run : ∀ u w, St w0 h w → wpList P ops Q rest (mk n l u) w
/-- An operation that answers a value and turns nothing. -/
structure Ev (P : Program) (w0 : World) (n : Nat) (l : Env) (h : Hp) (o : Oper) (v : Value) : Prop where of_ ::
  run : ∀ u w, St w0 h w → (execOp (evu n l u) o).run P w = .ok (.value v) w
/-- An operation that turns the world. -/
structure Eff (P : Program) (w0 : World) (n : Nat) (l : Env) (h : Hp) (o : Oper) {α : Type} (φ : α → Prop) (v : α → Value) (h' : α → Hp) : Prop where of_ ::
  run : ∀ u w, St w0 h w → ∀ (K : Act → World → Prop) (Q : Exit → Act → World → Prop), (∀ x w', φ x → St w0 (h' x) w' → K ((mk n l u).put o.dst (v x)) w') → o.wp P (mk n l u) w K Q
/-- Is an operation wanted? -/
def wants (ops : Array Oper) (n : Nat) (l : Env) (o : Oper) : Option Bool :=
  match o.guard with
  | none => some true
  | some (j, want) => match (ops[j]?).bind (·.dst) with
    | none => none
    | some d => bif Nat.blt d n then match lk l d with
      | some (.bool b) => some (b == want)
      | some (.tuple _) => some false
      | _ => none
      else none
theorem wants_spec {o : Oper} {b : Bool} (hw : wants ops n l o = some b) (u : Nat → Value) : Region.wanted o (yielded ops (mk n l u).tmps) = b := by
  unfold wants at hw
  unfold Region.wanted
  cases hg : o.guard with
  | none =>
    simp [hg] at hw
    simpa using hw
  | some jw =>
    obtain ⟨j, want⟩ := jw
    simp only [hg] at hw ⊢
    cases hd : (ops[j]?).bind (·.dst) with
    | none => simp [hd] at hw
    | some d =>
      simp only [hd] at hw
      cases hb : Nat.blt d n with
      | false => simp [hb] at hw
      | true =>
        simp only [hb, cond_true] at hw
        cases hl : lk l d with
        | none => simp [hl] at hw
        | some v =>
          have hlt := blt_iff.1 hb
          have hy : yielded ops (mk n l u).tmps j = match v with | .bool b => some b | _ => none := by
            have hg : (mk n l u).tmps[d]? = some v := by
              have hsz : d < (mk n l u).tmps.size := by unfold mk; simpa using hlt
              rw [Array.getElem?_eq_getElem hsz]
              simp only [mk, Array.getElem_ofFn, hl, Option.getD_some]
            unfold yielded
            rw [hd, Option.bind_some, hg]
            cases v <;> rfl
          rw [hy]
          rw [hl] at hw
          cases v with
          | bool b' => simpa using hw
          | tuple vs => simpa using hw
          | _ => simp at hw
theorem JL.nil (H : JE Q w0 n .normal l h) : JL P ops Q w0 n [] l h := ⟨H.run⟩
theorem JL.ev {o : Oper} {rest : List Oper} {d : Nat} (v : Value) (hw : wants ops n l o = some true) (hd : o.dst = some d) (hv : Ev P w0 n l h o v)
    (H : JL P ops Q w0 n rest ((d, v) :: l) h) : JL P ops Q w0 n (o :: rest) l h := by
  refine ⟨fun u w s => ?_⟩
  refine wpList_step fun K hK => ?_
  rw [if_pos (wants_spec hw u)]
  unfold Oper.wp
  rw [mk_eval, hv.run u w s, Oper.upon_value, hd, mk_put]
  exact hK _ _ (H.run u w s)
theorem JL.off {o : Oper} {rest : List Oper} {d : Nat} (hw : wants ops n l o = some false) (hd : o.dst = some d)
    (H : JL P ops Q w0 n rest ((d, undef) :: l) h) : JL P ops Q w0 n (o :: rest) l h := by
  refine ⟨fun u w s => ?_⟩
  refine wpList_step fun K hK => ?_
  rw [if_neg (by rw [wants_spec hw u]; simp), hd, mk_put]
  exact hK _ _ (H.run u w s)
theorem JL.eff {o : Oper} {rest : List Oper} {d : Nat} {α : Type} {φ : α → Prop} {v : α → Value} {h' : α → Hp} (hv : Eff P w0 n l h o φ v h') (hw : wants ops n l o = some true) (hd : o.dst = some d)
    (H : ∀ x, φ x → JL P ops Q w0 n rest ((d, v x) :: l) (h' x)) : JL P ops Q w0 n (o :: rest) l h := by
  refine ⟨fun u w s => ?_⟩
  refine wpList_step fun K hK => ?_
  rw [if_pos (wants_spec hw u)]
  refine hv.run u w s _ _ fun x w' hx s' => ?_
  rw [hd, mk_put]
  exact hK _ _ ((H x hx).run u w' s')
theorem JL.eff0 {o : Oper} {rest : List Oper} {α : Type} {φ : α → Prop} {v : α → Value} {h' : α → Hp} (hv : Eff P w0 n l h o φ v h') (hw : wants ops n l o = some true) (hd : o.dst = none)
    (H : ∀ x, φ x → JL P ops Q w0 n rest l (h' x)) : JL P ops Q w0 n (o :: rest) l h := by
  refine ⟨fun u w s => ?_⟩
  refine wpList_step fun K hK => ?_
  rw [if_pos (wants_spec hw u)]
  refine hv.run u w s _ _ fun x w' hx s' => ?_
  rw [hd]
  exact hK _ _ ((H x hx).run u w' s')
/-- What is told may be told otherwise. -/
theorem JL.re {rest : List Oper} (hl : Sub l l') (hh : ∀ w, St w0 h w → St w0 h' w) (H : JL P ops Q w0 n rest l' h') : JL P ops Q w0 n rest l h := by
  refine ⟨fun u w s => ?_⟩
  obtain ⟨u', e⟩ := mk_sub u hl.lk
  rw [e]; exact H.run u' w (hh w s)
theorem J.re {c : Code} (hl : Sub l l') (hh : ∀ w, St w0 h w → St w0 h' w) (H : J P Q w0 n c l' h') : J P Q w0 n c l h := by
  refine ⟨fun u w s => ?_⟩
  obtain ⟨u', e⟩ := mk_sub u hl.lk
  rw [e]; exact H.run u' w (hh w s)
theorem J.region {id : Nat} {ol : List Oper} (H : JL P ol.toArray Q w0 n ol l h) : J P Q w0 n (.region id ol.toArray false) l h := ⟨fun u w s => wp_region_lit (H.run u w s)⟩
theorem J.seq {x y : Code} (H : J P (Exit.then (fun a w => y.wp P Q a w) Q) w0 n x l h) : J P Q w0 n (.seq x y) l h := ⟨fun u w s => wp_seq (H.run u w s)⟩
theorem J.skip (H : JE Q w0 n .normal l h) : J P Q w0 n .skip l h := ⟨fun u w s => wp_skip (H.run u w s)⟩
theorem J.ret (H : JE Q w0 n .ret l h) : J P Q w0 n .ret l h := ⟨fun u w s => wp_ret (H.run u w s)⟩
theorem J.exit {id : Nat} (H : JE Q w0 n (.exit id) l h) : J P Q w0 n (.exit id) l h := ⟨fun u w s => wp_exit (H.run u w s)⟩
theorem J.block {id : Nat} {c : Code} (H : J P (Exit.inBlock id Q) w0 n c l h) : J P Q w0 n (.block id c) l h := ⟨fun u w s => wp_block (H.run u w s)⟩
theorem JE.next {y : Code} (H : J P Q w0 n y l h) : JE (Exit.then (fun a w => y.wp P Q a w) Q) w0 n .normal l h := ⟨H.run⟩
theorem JE.thenExit {K : Act → World → Prop} {id : Nat} (H : JE Q w0 n (.exit id) l h) : JE (Exit.then K Q) w0 n (.exit id) l h := ⟨H.run⟩
theorem JE.thenRet {K : Act → World → Prop} (H : JE Q w0 n .ret l h) : JE (Exit.then K Q) w0 n .ret l h := ⟨H.run⟩
theorem JE.blockRet {id : Nat} (H : JE Q w0 n .ret l h) : JE (Exit.inBlock id Q) w0 n .ret l h := ⟨H.run⟩
theorem JE.blockNormal {id : Nat} (H : JE Q w0 n .normal l h) : JE (Exit.inBlock id Q) w0 n .normal l h := ⟨H.run⟩
theorem JE.blockHere {id : Nat} (H : JE Q w0 n .normal l h) : JE (Exit.inBlock id Q) w0 n (.exit id) l h := ⟨fun u w s => by
  simp only [Exit.inBlock, if_true]; exact H.run u w s⟩
theorem JE.blockOut {id id' : Nat} (hne : Nat.beq id' id = false) (H : JE Q w0 n (.exit id') l h) : JE (Exit.inBlock id Q) w0 n (.exit id') l h := ⟨fun u w s => by
  have : ¬ id' = id := fun e => by rw [e, Nat.beq_refl] at hne; cases hne
  simp only [Exit.inBlock, if_neg this]; exact H.run u w s⟩
/-- The value of an operand. -/
def ev (n : Nat) (l : Env) : Operand → Option Value
  | .tmp t => bif Nat.blt t n then lk l t else none
  | .const v => some v
  | .global g => some (.pointer (some ⟨g, 0, none⟩))
  | .func f => some (.func (.func f) #[] #[])
theorem ev_evu {x : Operand} {v : Value} (hx : ev n l x = some v) (u : Nat → Value) : evu n l u x = v := by
  cases x with
  | tmp t =>
    simp only [ev] at hx
    simp only [evu]
    cases hb : Nat.blt t n <;> simp [hb] at hx ⊢
    rw [hx]; rfl
  | const v' => simpa [ev, evu] using hx
  | global g => simpa [ev, evu] using hx
  | func f => simpa [ev, evu] using hx
theorem J.cond {c : Operand} {x y : Code} (b : Bool) (hc : ev n l c = some (.bool b)) (ht : b = true → J P Q w0 n x l h) (hf : b = false → J P Q w0 n y l h) : J P Q w0 n (.cond c x y) l h := by
  refine ⟨fun u w s => ?_⟩
  exact wp_cond_split (t := b) (by rw [mk_eval]; exact ev_evu hc u) (fun e => (ht e).run u w s) (fun e => (hf e).run u w s)
theorem J.condT {c : Operand} {x y : Code} {b : Bool} (hc : ev n l c = some (.bool b)) (hb : b = true) (H : J P Q w0 n x l h) : J P Q w0 n (.cond c x y) l h :=
  J.cond b hc (fun _ => H) (fun e => by rw [hb] at e; cases e)
theorem J.condF {c : Operand} {x y : Code} {b : Bool} (hc : ev n l c = some (.bool b)) (hb : b = false) (H : J P Q w0 n y l h) : J P Q w0 n (.cond c x y) l h :=
  J.cond b hc (fun e => by rw [hb] at e; cases e) (fun _ => H)
/-- A loop: its states are told by x. -/
def Back (w0 : World) (n : Nat) {σ : Type} (I : σ → Prop) (L : σ → Env) (H : σ → Hp) (μ : σ → Nat) (x : σ) (a : Act) (w : World) : Prop :=
  ∃ x', I x' ∧ μ x' < μ x ∧ (∃ u, a = mk n (L x') u) ∧ St w0 (H x') w
theorem J.loop {c : Code} {σ : Type} (I : σ → Prop) (L : σ → Env) (H : σ → Hp) (μ : σ → Nat) (x0 : σ) (hI : I x0) (hl : Sub l (L x0)) (hh : ∀ w, St w0 h w → St w0 (H x0) w)
    (round : ∀ x, I x → J P (Exit.then (Back w0 n I L H μ x) Q) w0 n c (L x) (H x)) : J P Q w0 n (.loop c) l h := by
  refine ⟨fun u w s => ?_⟩
  obtain ⟨u', e⟩ := mk_sub u hl.lk
  rw [e]
  refine wp_loop_ghost (fun k a w => ∃ x, μ x = k ∧ I x ∧ (∃ u, a = mk n (L x) u) ∧ St w0 (H x) w) (μ x0) ⟨x0, rfl, hI, ⟨u', rfl⟩, hh w s⟩ ?_
  rintro k a w ⟨x, rfl, hx, ⟨u, rfl⟩, s⟩
  refine Code.wp_mono ?_ ((round x hx).run u w s)
  intro e a w q
  cases e with
  | normal =>
    obtain ⟨x', hI', hlt, hu, s'⟩ := q
    exact ⟨μ x', hlt, x', rfl, hI', hu, s'⟩
  | _ => exact q
theorem JE.back {σ : Type} {I : σ → Prop} {L : σ → Env} {H : σ → Hp} {μ : σ → Nat} {x : σ} (x' : σ) (hI : I x') (hμ : μ x' < μ x) (hl : Sub l (L x')) (hh : ∀ w, St w0 h w → St w0 (H x') w) :
    JE (Exit.then (Back w0 n I L H μ x) Q) w0 n .normal l h := by
  refine ⟨fun u w s => ?_⟩
  obtain ⟨u', e⟩ := mk_sub u hl.lk
  exact ⟨x', hI, hμ, ⟨u', e⟩, hh w s⟩
/-! ### 4. A function -/
theorem enter {f : FuncId} {fn : Func} {c : Code} {args : List Value} {w0 : World} {R : Ending → World → Prop} (n : Nat) (hf : P.funcs[f]? = some fn) (hb : fn.body = some c) (hn : fn.ntmps = n) (hs : args.length ≤ n)
    (H : J P (bodyPost P fn R) w0 n c (argsEnv 0 args) []) : Calls P f args.toArray w0 R := by
  refine calls_of_wp hf hb ?_
  rw [hn, undef_args n args.toArray (argsEnv 0 args) (by simpa using hs) (fun i hi => by rw [lk_argsEnv]; simp) (fun i hi => by rw [lk_argsEnv]; simp at hi ⊢; exact hi)]
  exact H.run _ _ (St.start w0)
theorem JE.ret1 {fn : Func} {R : Ending → World → Prop} {t : Nat} (v : Value) (hr : fn.results = #[.tmp t]) (hv : ev n l (.tmp t) = some v) (H : ∀ w, St w0 h w → R (.returned v) w) : JE (bodyPost P fn R) w0 n .ret l h := by
  refine ⟨fun u w s => ?_⟩
  refine bodyPost_ret (v := v) ?_ rfl (H w s)
  rw [results_tmp hr]
  have : (mk n l u).eval (.tmp t) = v := by rw [mk_eval]; exact ev_evu hv u
  exact congrArg (fun v => Result.ok v w) this
theorem JE.ret2 {fn : Func} {R : Ending → World → Prop} {t t' : Nat} (v v' : Value) (hr : fn.results = #[.tmp t, .tmp t']) (hv : ev n l (.tmp t) = some v) (hv' : ev n l (.tmp t') = some v') (H : ∀ w, St w0 h w → R (.returned (.tuple #[v, v'])) w) : JE (bodyPost P fn R) w0 n .ret l h := by
  refine ⟨fun u w s => ?_⟩
  refine bodyPost_ret (v := .tuple #[v, v']) ?_ rfl (H w s)
  rw [results_tmp2 hr]
  have e1 : (mk n l u).eval (.tmp t) = v := by rw [mk_eval]; exact ev_evu hv u
  have e2 : (mk n l u).eval (.tmp t') = v' := by rw [mk_eval]; exact ev_evu hv' u
  show Result.ok (Value.tuple #[(mk n l u).eval (.tmp t), (mk n l u).eval (.tmp t')]) w = _
  rw [e1, e2]
end
end Go.Fw

namespace Go.Fw
/-! ### 5. Entries by their place -/
/-- h' is h with one entry e turned into e'. -/
inductive At (e e' : Ent) : Hp → Hp → Prop
  | here {r : Hp} : At e e' (e :: r) (e' :: r)
  | there {x : Ent} {r r' : Hp} : At e e' r r' → At e e' (x :: r) (x :: r')
theorem At.idx {e e' : Ent} {h h' : Hp} (a : At e e' h h') : ∃ i : Nat, h[i]? = some e ∧ h' = h.set i e' := by
  induction a with
  | here => exact ⟨0, rfl, rfl⟩
  | there _ ih =>
    obtain ⟨i, h1, h2⟩ := ih
    exact ⟨i + 1, by simpa using h1, by simp [h2]⟩
theorem At.cell {w0 w : World} {h : Hp} {g : Nat} {c : Array Value} {t : TypeId} {e' : Ent} {h' : Hp} (a : At (cells g c t) e' h h') (s : St w0 h w) (o : Nat) : w.cell? ⟨g, o, none⟩ = c[o]? := by
  obtain ⟨i, hi, _⟩ := a.idx
  exact cells_cell s hi o
theorem At.row {w0 w : World} {h : Hp} {g : Nat} {c : Array Value} {t : TypeId} {e' : Ent} {h' : Hp} (a : At (cells g c t) e' h h') (s : St w0 h w) : ∃ fr, w.heap[g]? = some (.cells c t fr) ∧ ∀ i, i < c.size → ¬ (fr.1 ≤ i ∧ i < fr.2) := by
  obtain ⟨i, hi, _⟩ := a.idx
  exact cells_mem s hi
attribute [irreducible] cells
end Go.Fw
