/- Rules for memory: what the call itself has laid. -/
import Derived.Test.YtimokikpnngikaaFo
set_option linter.unusedVariables false
set_option linter.unusedSimpArgs false
namespace Go.Fw
open Go Go.RowKit
/-- Is a value one of one cell? -/
def one (v : Value) : Bool := match v with | .agg _ => false | .tuple _ => false | _ => true
section
variable {P : Program} {w0 : World} {n : Nat} {l : Env} {h h' : Hp} {dst : Option Tmp} {ty : TypeId} {pos : String} {aft : Array Edge} {gd : Option (Nat × Bool)}
theorem run_store1 {w : World} {a : Addr} {v x : Value} (hc : w.cell? a = some x) (hf : w.frozen? a = false) (h1 : one v = true) : (store a v).run P w = .ok () (w.setCell a v) := by
  unfold store
  cases v <;> simp [one] at h1 <;> simp [Sem.run, hc, hf]
theorem addr_add (g i j : Nat) : (⟨g, i, none⟩ : Addr).add j = ⟨g, i + j, none⟩ := by
  unfold Addr.add
  split
  · simp_all
  · rfl
/-- Cells laid over others from a place on. -/
def spl (c : Array Value) (j : Nat) : List Value → Array Value
  | [] => c
  | v :: r => spl (c.setIfInBounds j v) (j + 1) r
theorem spl_size : ∀ (vs : List Value) (c : Array Value) (j : Nat), (spl c j vs).size = c.size
  | [], _, _ => rfl
  | v :: r, c, j => by rw [spl, spl_size r]; simp
theorem spl_get : ∀ (vs : List Value) (c : Array Value) (j i : Nat), j + vs.length ≤ c.size → (spl c j vs)[i]? = if j ≤ i ∧ i < j + vs.length then vs[i - j]? else c[i]?
  | [], c, j, i, _ => by
    rw [spl, if_neg (by rintro ⟨h1, h2⟩; simp at h2; omega)]
  | v :: r, c, j, i, hb => by
    simp only [List.length_cons] at hb
    rw [spl, spl_get r _ _ _ (by simp; omega)]
    by_cases h1 : j + 1 ≤ i ∧ i < j + 1 + r.length
    · rw [if_pos h1, if_pos (by simp; omega), show i - j = (i - (j + 1)) + 1 by omega]
      simp
    · rw [if_neg h1]
      by_cases h2 : i = j
      · subst h2
        rw [if_pos (by simp)]
        simp [show i < c.size by omega]
      · rw [if_neg (by simp; omega)]
        rw [Array.getElem?_setIfInBounds_ne (fun e => h2 e.symm)]
theorem spl_all (c : Array Value) (vs : List Value) (hs : vs.length = c.size) : spl c 0 vs = vs.toArray := by
  apply Array.ext_getElem?
  intro i
  rw [spl_get vs c 0 i (by omega)]
  by_cases h : i < vs.length
  · rw [if_pos (by omega)]; simp
  · rw [if_neg (by omega)]; simp [show c.size ≤ i by omega, show vs.length ≤ i by omega]
theorem run_storeCells {g : Nat} {t : TypeId} (o : Nat) : ∀ (vs : List Value) (i k : Nat) (c : Array Value) (h : Hp) (w : World), St w0 h w → h[k]? = some (cells g c t) → o + i + vs.length ≤ c.size → (∀ v ∈ vs, one v = true) →
    ∃ w', (storeCells ⟨g, o, none⟩ vs i).run P w = .ok () w' ∧ St w0 (h.set k (cells g (spl c (o + i) vs) t)) w'
  | [], i, k, c, h, w, s, hk, hl, h1 => ⟨w, by simp [storeCells], by
      have hkl := (List.getElem?_eq_some_iff.1 hk).1
      have hke := (List.getElem?_eq_some_iff.1 hk).2
      rw [spl, ← hke, List.set_getElem_self]; exact s⟩
  | v :: r, i, k, c, h, w, s, hk, hl, h1 => by
    simp only [List.length_cons] at hl
    have hcell : w.cell? ((⟨g, o, none⟩ : Addr).add i) = some c[o + i] := by
      rw [addr_add, cells_cell s hk]; simp [show o + i < c.size by omega]
    have hfr : w.frozen? ((⟨g, o, none⟩ : Addr).add i) = false := by
      rw [addr_add]; exact cells_frozen s hk _ (by omega)
    have hst := run_store1 (P := P) hcell hfr (h1 v (List.mem_cons_self ..))
    have s' := s.set hk (o + i) v
    rw [addr_add] at hst
    have hkl := (List.getElem?_eq_some_iff.1 hk).1
    obtain ⟨w', hw, hs⟩ := run_storeCells o r (i + 1) k (c.setIfInBounds (o + i) v) _ _ s' (by rw [List.getElem?_set_self hkl]) (by simp; omega) (fun v hv => h1 v (List.mem_cons_of_mem _ hv))
    refine ⟨w', ?_, ?_⟩
    · simp only [storeCells, Sem.run_bind, addr_add, hst, Result.andThen_ok]
      exact hw
    · rw [List.set_set] at hs
      exact hs
theorem run_storeVar {g o k tv : Nat} {t : TypeId} {v : Value} {c : Array Value} {h : Hp} {w : World} (s : St w0 h w) (hk : h[k]? = some (cells g c t)) (hi : (P.info? tv).map (·.size) = some v.cells.size) (hl : o + v.cells.size ≤ c.size) (h1 : ∀ x ∈ v.cells.toList, one x = true) :
    ∃ w', (storeVar tv ⟨g, o, none⟩ v).run P w = .ok () w' ∧ St w0 (h.set k (cells g (spl c o v.cells.toList) t)) w' := by
  obtain ⟨w', hw, hs⟩ := run_storeCells (P := P) (t := t) o v.cells.toList 0 k c h w s hk (by simpa using hl) h1
  refine ⟨w', ?_, by simpa using hs⟩
  cases hq : P.info? tv with
  | none => simp [hq] at hi
  | some i =>
    have hsz : v.cells.size = i.size := by simp [hq] at hi; omega
    simp [storeVar, sizeOf, typeInfo, hq, hsz]
    exact hw
/-! ### Stores -/
theorem Eff.store1 {tv : TypeId} {x y : Operand} {g o : Nat} {v : Value} {c : Array Value} {t : TypeId} (hx : ev n l x = some (.pointer (some ⟨g, o, none⟩))) (hy : ev n l y = some v) (h1 : one v = true) (hi : (P.info? tv).map (·.size) = some 1)
    (ha : At (cells g c t) (cells g (c.setIfInBounds o v) t) h h') (ho : o < c.size) : Eff P w0 n l h ⟨dst, .store tv x y, ty, pos, aft, gd⟩ (α := Unit) (fun _ => True) (fun _ => undef) (fun _ => h') := by
  refine ⟨fun u w s K Q H => ?_⟩
  obtain ⟨k, hk, rfl⟩ := ha.idx
  have hc : v.cells = #[v] := by cases v <;> first | rfl | (simp [one] at h1)
  obtain ⟨w', hw, hs⟩ := run_storeVar (P := P) (tv := tv) (o := o) (v := v) s hk (by rw [hc]; exact hi) (by rw [hc]; exact ho) (by rw [hc]; simpa using h1)
  unfold Oper.wp
  rw [mk_eval]
  simp only [execOp, ev_evu hx u, ev_evu hy u, Instr.storeAt, Instr.sureAddr, Sem.run_bind, Sem.run_pure, Result.andThen_ok, hw]
  rw [hc] at hs
  exact H () w' trivial hs
theorem Eff.storeRow {tv : TypeId} {x y : Operand} {g : Nat} {c c' : Array Value} {t : TypeId} (hx : ev n l x = some (.pointer (some ⟨g, 0, none⟩))) (hy : ev n l y = some (.agg c')) (hi : (P.info? tv).map (·.size) = some c.size) (hs : c'.size = c.size) (h1 : ∀ x ∈ c'.toList, one x = true)
    (ha : At (cells g c t) (cells g c' t) h h') : Eff P w0 n l h ⟨dst, .store tv x y, ty, pos, aft, gd⟩ (α := Unit) (fun _ => True) (fun _ => undef) (fun _ => h') := by
  refine ⟨fun u w s K Q H => ?_⟩
  obtain ⟨k, hk, rfl⟩ := ha.idx
  obtain ⟨w', hw, hs'⟩ := run_storeVar (P := P) (tv := tv) (o := 0) (v := .agg c') s hk (by rw [hi, ← hs]; rfl) (by show 0 + c'.size ≤ c.size; omega) h1
  unfold Oper.wp
  rw [mk_eval]
  simp only [execOp, ev_evu hx u, ev_evu hy u, Instr.storeAt, Instr.sureAddr, Sem.run_bind, Sem.run_pure, Result.andThen_ok, hw]
  have : spl c 0 (Value.agg c').cells.toList = c' := by
    rw [spl_all c _ (by show c'.toList.length = _; simpa using hs)]
    show c'.toList.toArray = c'
    simp
  rw [this] at hs'
  exact H () w' trivial hs'
/-! ### New variables -/
theorem Eff.alloc {e : TypeId} {z : Value} {c : Array Value} (hz : (P.info? e).bind (·.zero) = some z) (hc : z.cells = c) : Eff P w0 n l h ⟨dst, .alloc e, ty, pos, aft, gd⟩ (α := Nat) (fun _ => True) (fun g => .pointer (some ⟨g, 0, none⟩)) (fun g => cells g c e :: h) := by
  refine ⟨fun u w s K Q H => ?_⟩
  have hrun : (zeroValue e).run P w = .ok z w := by
    cases hq : P.info? e with
    | none => simp [hq] at hz
    | some i => simp [hq] at hz; simp [zeroValue, typeInfo, hq, hz]
  subst hc
  unfold Oper.wp
  rw [mk_eval]
  simp only [execOp, Instr.alloc, Sem.run_bind, hrun, Result.andThen_ok]
  exact H w.heap.size _ trivial (s.alloc z.cells e)
theorem Eff.box {e : TypeId} {x : Operand} {v : Value} {c : Array Value} (hx : ev n l x = some v) (hc : v.cells = c) : Eff P w0 n l h ⟨dst, .box e x, ty, pos, aft, gd⟩ (α := Nat) (fun _ => True) (fun g => .pointer (some ⟨g, 0, none⟩)) (fun g => cells g c e :: h) := by
  refine ⟨fun u w s K Q H => ?_⟩
  subst hc
  unfold Oper.wp
  rw [mk_eval]
  simp only [execOp, ev_evu hx u, Instr.box]
  exact H w.heap.size _ trivial (s.alloc v.cells e)
/-! ### Loads -/
def aggB : TypeDesc → Bool
  | .struct _ => true
  | .array _ _ => true
  | _ => false
theorem run_isAgg {t : TypeId} {d : TypeDesc} (hu : P.underlying t = some d) (w : World) : (isAgg t).run P w = .ok (aggB d) w := by
  unfold isAgg
  rw [Sem.run_bind, run_underlying hu w]
  cases d <;> simp [aggB]
theorem run_load {w : World} {a : Addr} {v : Value} (hc : w.cell? a = some v) : (load a).run P w = .ok v w := by
  unfold load
  simp [Sem.run, hc]
theorem Ev.load1w {tv : TypeId} {x : Operand} {a : Addr} {v : Value} {d : TypeDesc} (hx : ev n l x = some (.pointer (some a))) (hu : P.underlying tv = some d) (hd : aggB d = false) (hv : ∀ w, St w0 h w → w.cell? a = some v) :
    Ev P w0 n l h ⟨dst, .load tv x, ty, pos, aft, gd⟩ v := by
  refine ⟨fun u w s => ?_⟩
  simp only [execOp, ev_evu hx u, Instr.loadAt, Instr.sureAddr, loadVar, Sem.run_bind, Sem.run_pure, Result.andThen_ok, run_isAgg hu, hd, Bool.false_eq_true, if_false, run_load (hv w s)]
theorem Ev.load1 {tv : TypeId} {x : Operand} {g o : Nat} {v : Value} {d : TypeDesc} {c : Array Value} {t : TypeId} (hx : ev n l x = some (.pointer (some ⟨g, o, none⟩))) (hu : P.underlying tv = some d) (hd : aggB d = false) (ha : At (cells g c t) (cells g c t) h h) (hv : c[o]? = some v) :
    Ev P w0 n l h ⟨dst, .load tv x, ty, pos, aft, gd⟩ v :=
  Ev.load1w hx hu hd fun w s => by rw [ha.cell s, hv]
theorem Ev.loadRow {tv : TypeId} {x : Operand} {g : Nat} {d : TypeDesc} {c : Array Value} {t : TypeId} (hx : ev n l x = some (.pointer (some ⟨g, 0, none⟩))) (hu : P.underlying tv = some d) (hd : aggB d = true) (ha : At (cells g c t) (cells g c t) h h) (hi : (P.info? tv).map (·.size) = some c.size) :
    Ev P w0 n l h ⟨dst, .load tv x, ty, pos, aft, gd⟩ (.agg c) := by
  refine ⟨fun u w s => ?_⟩
  obtain ⟨fr, hg, _⟩ := ha.row s
  simp only [execOp, ev_evu hx u, Instr.loadAt, Instr.sureAddr, Sem.run_bind, Sem.run_pure, Result.andThen_ok, run_loadVar_row w g t tv c fr d hg hu (by cases d <;> simp_all [aggB]) hi]
/-! ### Addresses -/
theorem Ev.indexAddrA {tx te : TypeId} {x y : Operand} {g o j N : Nat} {k : IntKind} {i : Int} (hx : ev n l x = some (.pointer (some ⟨g, o, none⟩))) (hy : ev n l y = some (.int k i)) (hu : P.underlying tx = some (.array N te)) (he : (P.info? te).map (·.size) = some 1)
    (h0 : 0 ≤ i) (h1 : i < N) (hj : o + i.toNat = j) : Ev P w0 n l h ⟨dst, .indexAddr tx x y, ty, pos, aft, gd⟩ (.pointer (some ⟨g, j, none⟩)) := by
  refine ⟨fun u w s => ?_⟩
  cases hq : P.info? te with
  | none => simp [hq] at he
  | some inf =>
    have hs : inf.size = 1 := by simpa [hq] using he
    simp [execOp, ev_evu hx u, ev_evu hy u, Instr.indexAt, asIntOf, run_underlying hu, Instr.sureAddr, h0, h1, sizeOf, typeInfo, hq, hs, addr_add, hj]
theorem Ev.indexAddrS {tx te : TypeId} {x y : Operand} {g o j len cap : Nat} {k : IntKind} {i : Int} (hx : ev n l x = some (.slice (some ⟨g, o, none⟩) len cap)) (hy : ev n l y = some (.int k i)) (hu : P.underlying tx = some (.slice te)) (he : (P.info? te).map (·.size) = some 1)
    (h0 : 0 ≤ i) (h1 : i < len) (hj : o + i.toNat = j) : Ev P w0 n l h ⟨dst, .indexAddr tx x y, ty, pos, aft, gd⟩ (.pointer (some ⟨g, j, none⟩)) := by
  refine ⟨fun u w s => ?_⟩
  cases hq : P.info? te with
  | none => simp [hq] at he
  | some inf =>
    have hs : inf.size = 1 := by simpa [hq] using he
    simp [execOp, ev_evu hx u, ev_evu hy u, Instr.indexAt, asIntOf, run_underlying hu, h0, h1, sizeOf, typeInfo, hq, hs, addr_add, hj]
theorem Ev.indexA {tx te : TypeId} {x y : Operand} {N : Nat} {k : IntKind} {i : Int} {cs : Array Value} {v : Value} {d : TypeDesc} (hx : ev n l x = some (.agg cs)) (hy : ev n l y = some (.int k i)) (hu : P.underlying tx = some (.array N te)) (he : (P.info? te).map (·.size) = some 1)
    (hd : P.underlying te = some d) (hdd : aggB d = false) (h0 : 0 ≤ i) (h1 : i < N) (hv : cs[i.toNat]? = some v) : Ev P w0 n l h ⟨dst, .index tx x y, ty, pos, aft, gd⟩ v := by
  refine ⟨fun u w s => ?_⟩
  cases hq : P.info? te with
  | none => simp [hq] at he
  | some inf =>
    have hs : inf.size = 1 := by simpa [hq] using he
    have hp : (part te cs i.toNat).run P w = .ok v w := by
      unfold part
      simp [Sem.run_bind, run_isAgg hd, hdd, hv]
    simp [execOp, ev_evu hx u, ev_evu hy u, Instr.index, asIntOf, run_underlying hu, h0, h1, sizeOf, typeInfo, hq, hs, hp]
end
end Go.Fw
namespace Go.Fw
open Go Go.RowKit
/-! ### Calls -/
def evs (n : Nat) (l : Env) : List Operand → Option (List Value)
  | [] => some []
  | x :: r => match ev n l x, evs n l r with
    | some v, some vs => some (v :: vs)
    | _, _ => none
theorem evs_map {n : Nat} {l : Env} (u : Nat → Value) : ∀ {xs : List Operand} {vs : List Value}, evs n l xs = some vs → xs.map (evu n l u) = vs
  | [], vs, h => by simp [evs] at h; simp [h]
  | x :: r, vs, h => by
    simp only [evs] at h
    cases hx : ev n l x with
    | none => simp [hx] at h
    | some v =>
      cases hr : evs n l r with
      | none => simp [hx, hr] at h
      | some vr =>
        simp [hx, hr] at h
        subst h
        simp [ev_evu hx u, evs_map u hr]
/-- Does a function have a body, so that a call enters it? -/
theorem enters {P : Program} {f : FuncId} {fn : Func} (hf : P.funcs[f]? = some fn) (hn : (fn.name == "runtime.NumGoroutine") = false) (hb : fn.body.isNone = false) (args : Array Value) (w : World) : (callFunc f args).run P w = .ok (.enter f args) w := by
  unfold callFunc
  have hp : (program : Sem Program).run P w = .ok P w := rfl
  rw [Sem.run_bind, hp]
  simp only [Result.andThen_ok, hf, hn, hb, Bool.false_eq_true, if_false]
  rfl
section
variable {P : Program} {w0 : World} {n : Nat} {l : Env} {h : Hp} {dst : Option Tmp} {ty : TypeId} {pos : String} {aft : Array Edge} {gd : Option (Nat × Bool)}
theorem Eff.call {c : Operand} {xs : List Operand} {tys : Array TypeId} {f : FuncId} {fi ca : Array Value} {args : List Value} {α : Type} {φ : α → Prop} {v : α → Value} {h' : α → Hp} (hf : ev n l c = some (.func (.func f) fi ca)) (hx : evs n l xs = some args)
    (he : ∀ args w, (callFunc f args).run P w = .ok (.enter f args) w)
    (hc : ∀ w, St w0 h w → Calls P f (fi ++ args.toArray ++ ca) w fun e w' => ∃ x, φ x ∧ e = .returned (v x) ∧ St w0 (h' x) w') :
    Eff P w0 n l h ⟨dst, .call { callee := .value c, args := xs.toArray, argTypes := tys }, ty, pos, aft, gd⟩ φ v h' := by
  refine ⟨fun u w s K Q H => ?_⟩
  unfold Oper.wp
  rw [mk_eval]
  have hm : (xs.toArray.map (evu n l u)) = args.toArray := by
    rw [← evs_map u hx]; simp
  simp only [execOp, resolve, hm, ev_evu hf u, Deferred.ofValue, Sem.run_bind, Sem.run_pure, Result.andThen_ok, invoke, he, Oper.upon_enter]
  refine (hc w s).mono ?_
  rintro e w' ⟨x, hφ, rfl, s'⟩
  exact H x w' hφ s'
/-- What a call answers that only computes. -/
def Pure1 (w : World) (v : Value) (e : Ending) (w' : World) : Prop := e = .returned v ∧ Below w.heap.size w w'
theorem Eff.callP {xs : List Operand} {tys : Array TypeId} {f : FuncId} {args : List Value} {v : Value} (hx : evs n l xs = some args)
    (he : ∀ args w, (callFunc f args).run P w = .ok (.enter f args) w) (hc : ∀ w, Calls P f args.toArray w (Pure1 w v)) :
    Eff P w0 n l h ⟨dst, .call { callee := .value (.func f), args := xs.toArray, argTypes := tys }, ty, pos, aft, gd⟩ (α := Unit) (fun _ => True) (fun _ => v) (fun _ => h) :=
  Eff.call (fi := #[]) (ca := #[]) rfl hx he fun w s => by
    have := hc w
    simp only [Array.append_empty, Array.empty_append]
    exact this.mono fun e w' ⟨h1, h2⟩ => ⟨(), trivial, h1, s.keep h2⟩
end
end Go.Fw
namespace Go.Fw
open Go Go.RowKit
/-! ### Arrays, told by a function of the place -/
def arr (N : Nat) (F : Nat → Value) : Array Value := Array.ofFn (n := N) fun i => F i
theorem arr_size (N : Nat) (F : Nat → Value) : (arr N F).size = N := by simp [arr]
theorem arr_get {N i : Nat} (F : Nat → Value) (h : i < N) : (arr N F)[i]? = some (F i) := by simp [arr, h]
theorem arr_congr {N : Nat} {F G : Nat → Value} (h : ∀ i, i < N → F i = G i) : arr N F = arr N G := by
  unfold arr
  apply Array.ext
  · simp
  · intro i h1 h2
    simp at h1
    simpa using h i h1
def upd {α : Type} (F : Nat → α) (o : Nat) (v : α) : Nat → α := fun i => if i = o then v else F i
theorem upd_same {α : Type} (F : Nat → α) (o : Nat) (v : α) : upd F o v o = v := by simp [upd]
theorem upd_ne {α : Type} (F : Nat → α) {o i : Nat} (v : α) (h : i ≠ o) : upd F o v i = F i := by simp [upd, h]
theorem arr_set (N : Nat) (F : Nat → Value) (o : Nat) (v : Value) : (arr N F).setIfInBounds o v = arr N (upd F o v) := by
  apply Array.ext_getElem?
  intro i
  by_cases hi : i < N
  · rw [arr_get _ hi]
    by_cases ho : o = i
    · subst ho; simp [arr_size, hi, upd]
    · rw [Array.getElem?_setIfInBounds_ne ho, arr_get _ hi, upd_ne _ _ (fun e => ho e.symm)]
  · rw [Array.getElem?_eq_none (by simp [arr_size]; omega), Array.getElem?_eq_none (by rw [arr_size]; omega)]
section
variable {P : Program} {w0 : World} {n : Nat} {l : Env} {h h' : Hp} {dst : Option Tmp} {ty : TypeId} {pos : String} {aft : Array Edge} {gd : Option (Nat × Bool)}
theorem Ev.loadA {tv : TypeId} {x : Operand} {g o N : Nat} {F : Nat → Value} {d : TypeDesc} {t : TypeId} (hx : ev n l x = some (.pointer (some ⟨g, o, none⟩))) (hu : P.underlying tv = some d) (hd : aggB d = false) (ha : At (cells g (arr N F) t) (cells g (arr N F) t) h h) (hv : o < N) :
    Ev P w0 n l h ⟨dst, .load tv x, ty, pos, aft, gd⟩ (F o) := Ev.load1 hx hu hd ha (arr_get F hv)
theorem Ev.loadAll {tv : TypeId} {x : Operand} {g N : Nat} {F : Nat → Value} {d : TypeDesc} {t : TypeId} (hx : ev n l x = some (.pointer (some ⟨g, 0, none⟩))) (hu : P.underlying tv = some d) (hd : aggB d = true) (ha : At (cells g (arr N F) t) (cells g (arr N F) t) h h) (hi : (P.info? tv).map (·.size) = some N) :
    Ev P w0 n l h ⟨dst, .load tv x, ty, pos, aft, gd⟩ (.agg (arr N F)) := Ev.loadRow hx hu hd ha (by rw [arr_size]; exact hi)
theorem Eff.storeA {tv : TypeId} {x y : Operand} {g o N : Nat} {v : Value} {F : Nat → Value} {t : TypeId} (hx : ev n l x = some (.pointer (some ⟨g, o, none⟩))) (hy : ev n l y = some v) (h1 : one v = true) (hi : (P.info? tv).map (·.size) = some 1)
    (ha : At (cells g (arr N F) t) (cells g (arr N (upd F o v)) t) h h') (ho : o < N) : Eff P w0 n l h ⟨dst, .store tv x y, ty, pos, aft, gd⟩ (α := Unit) (fun _ => True) (fun _ => undef) (fun _ => h') :=
  Eff.store1 hx hy h1 hi (by rw [arr_set]; exact ha) (by rw [arr_size]; exact ho)
theorem Eff.storeAll {tv : TypeId} {x y : Operand} {g N : Nat} {F G : Nat → Value} {t : TypeId} (hx : ev n l x = some (.pointer (some ⟨g, 0, none⟩))) (hy : ev n l y = some (.agg (arr N G))) (hi : (P.info? tv).map (·.size) = some N) (h1 : ∀ i, one (G i) = true)
    (ha : At (cells g (arr N F) t) (cells g (arr N G) t) h h') : Eff P w0 n l h ⟨dst, .store tv x y, ty, pos, aft, gd⟩ (α := Unit) (fun _ => True) (fun _ => undef) (fun _ => h') :=
  Eff.storeRow hx hy (by rw [arr_size]; exact hi) (by rw [arr_size, arr_size]) (fun x hx => by
    simp [arr] at hx
    obtain ⟨i, rfl⟩ := hx
    exact h1 _) ha
theorem Ev.indexArr {tx te : TypeId} {x y : Operand} {N : Nat} {k : IntKind} {i : Int} {F : Nat → Value} {d : TypeDesc} (hx : ev n l x = some (.agg (arr N F))) (hy : ev n l y = some (.int k i)) (hu : P.underlying tx = some (.array N te)) (he : (P.info? te).map (·.size) = some 1)
    (hd : P.underlying te = some d) (hdd : aggB d = false) (h0 : 0 ≤ i) (h1 : i < N) {j : Nat} (hj : i.toNat = j) : Ev P w0 n l h ⟨dst, .index tx x y, ty, pos, aft, gd⟩ (F j) :=
  Ev.indexA hx hy hu he hd hdd h0 h1 (by rw [hj]; exact arr_get F (by omega))
theorem Eff.boxA {e : TypeId} {x : Operand} {c : Array Value} (hx : ev n l x = some (.agg c)) : Eff P w0 n l h ⟨dst, .box e x, ty, pos, aft, gd⟩ (α := Nat) (fun _ => True) (fun g => .pointer (some ⟨g, 0, none⟩)) (fun g => cells g c e :: h) := Eff.box hx rfl
theorem Eff.box1 {e : TypeId} {x : Operand} {v : Value} (hx : ev n l x = some v) (h1 : one v = true) : Eff P w0 n l h ⟨dst, .box e x, ty, pos, aft, gd⟩ (α := Nat) (fun _ => True) (fun g => .pointer (some ⟨g, 0, none⟩)) (fun g => cells g #[v] e :: h) :=
  Eff.box hx (by cases v <;> first | rfl | (simp [one] at h1))
theorem Eff.allocA {e : TypeId} (N : Nat) (F : Nat → Value) (hz : (P.info? e).bind (·.zero) = some (.agg (arr N F))) : Eff P w0 n l h ⟨dst, .alloc e, ty, pos, aft, gd⟩ (α := Nat) (fun _ => True) (fun g => .pointer (some ⟨g, 0, none⟩)) (fun g => cells g (arr N F) e :: h) := Eff.alloc hz rfl
theorem Eff.alloc1 {e : TypeId} (v : Value) (hz : (P.info? e).bind (·.zero) = some v) (h1 : one v = true) : Eff P w0 n l h ⟨dst, .alloc e, ty, pos, aft, gd⟩ (α := Nat) (fun _ => True) (fun g => .pointer (some ⟨g, 0, none⟩)) (fun g => cells g #[v] e :: h) :=
  Eff.alloc hz (by cases v <;> first | rfl | (simp [one] at h1))
/-- Whatever the kernel can run: no test on what is not known. -/
theorem Ev.closed {o : Oper} {v : Value} (hv : ∀ u w, (execOp (evu n l u) o).run P w = .ok (.value v) w) : Ev P w0 n l h o v := ⟨fun u w _ => hv u w⟩
theorem JE.retCell {fn : Func} {R : Ending → World → Prop} {t e N g : Nat} {F : Nat → Value} {te : TypeId} {d : TypeDesc} (hr : fn.results = #[.cell t e]) (hv : ev n l (.tmp t) = some (.pointer (some ⟨g, 0, none⟩))) (ha : At (cells g (arr N F) te) (cells g (arr N F) te) h h) (hu : P.underlying e = some d) (hd : aggB d = true) (hi : (P.info? e).map (·.size) = some N)
    (H : ∀ w, St w0 h w → R (.returned (.agg (arr N F))) w) : JE (bodyPost P fn R) w0 n .ret l h := by
  refine ⟨fun u w s => ?_⟩
  obtain ⟨fr, hg, _⟩ := ha.row s
  refine bodyPost_ret (v := .agg (arr N F)) ?_ rfl (H w s)
  have e1 : (mk n l u).tmps.getD t undef = .pointer (some ⟨g, 0, none⟩) := by
    have : (mk n l u).eval (.tmp t) = .pointer (some ⟨g, 0, none⟩) := by rw [mk_eval]; exact ev_evu hv u
    exact this
  exact results_cell_row hr _ w g te _ fr d e1 hg hu (by cases d <;> simp_all [aggB]) (by rw [arr_size]; exact hi)
theorem JE.ret2Cells {fn : Func} {R : Ending → World → Prop} {t e N g t' e' N' g' : Nat} {F F' : Nat → Value} {te te' : TypeId} {d d' : TypeDesc} (hr : fn.results = #[.cell t e, .cell t' e']) (hv : ev n l (.tmp t) = some (.pointer (some ⟨g, 0, none⟩))) (hv' : ev n l (.tmp t') = some (.pointer (some ⟨g', 0, none⟩)))
    (ha : At (cells g (arr N F) te) (cells g (arr N F) te) h h) (ha' : At (cells g' (arr N' F') te') (cells g' (arr N' F') te') h h) (hu : P.underlying e = some d) (hd : aggB d = true) (hi : (P.info? e).map (·.size) = some N) (hu' : P.underlying e' = some d') (hd' : aggB d' = true) (hi' : (P.info? e').map (·.size) = some N')
    (H : ∀ w, St w0 h w → R (.returned (.tuple #[.agg (arr N F), .agg (arr N' F')])) w) : JE (bodyPost P fn R) w0 n .ret l h := by
  refine ⟨fun u w s => ?_⟩
  obtain ⟨fr, hg, _⟩ := ha.row s
  obtain ⟨fr', hg', _⟩ := ha'.row s
  refine bodyPost_ret (v := .tuple #[.agg (arr N F), .agg (arr N' F')]) ?_ rfl (H w s)
  have e1 : (mk n l u).tmps.getD t undef = .pointer (some ⟨g, 0, none⟩) := by
    have : (mk n l u).eval (.tmp t) = .pointer (some ⟨g, 0, none⟩) := by rw [mk_eval]; exact ev_evu hv u
    exact this
  have e2 : (mk n l u).tmps.getD t' undef = .pointer (some ⟨g', 0, none⟩) := by
    have : (mk n l u).eval (.tmp t') = .pointer (some ⟨g', 0, none⟩) := by rw [mk_eval]; exact ev_evu hv' u
    exact this
  have l1 := run_loadVar_row (P := P) w g te e _ fr d hg hu (by cases d <;> simp_all [aggB]) (by rw [arr_size]; exact hi)
  have l2 := run_loadVar_row (P := P) w g' te' e' _ fr' d' hg' hu' (by cases d' <;> simp_all [aggB]) (by rw [arr_size]; exact hi')
  have e1' : (mk n l u).tmps[t]?.getD undef = .pointer (some ⟨g, 0, none⟩) := by simpa using e1
  have e2' : (mk n l u).tmps[t']?.getD undef = .pointer (some ⟨g', 0, none⟩) := by simpa using e2
  simp [results, hr, e1', e2', asAddr, l1, l2]
/-- The first result in memory, the second in a slot. -/
theorem JE.retCell1 {fn : Func} {R : Ending → World → Prop} {t e N g t' : Nat} {F : Nat → Value} {v' : Value} {te : TypeId} {d : TypeDesc} (hr : fn.results = #[.cell t e, .tmp t']) (hv : ev n l (.tmp t) = some (.pointer (some ⟨g, 0, none⟩))) (hv' : ev n l (.tmp t') = some v')
    (ha : At (cells g (arr N F) te) (cells g (arr N F) te) h h) (hu : P.underlying e = some d) (hd : aggB d = true) (hi : (P.info? e).map (·.size) = some N)
    (H : ∀ w, St w0 h w → R (.returned (.tuple #[.agg (arr N F), v'])) w) : JE (bodyPost P fn R) w0 n .ret l h := by
  refine ⟨fun u w s => ?_⟩
  obtain ⟨fr, hg, _⟩ := ha.row s
  refine bodyPost_ret (v := .tuple #[.agg (arr N F), v']) ?_ rfl (H w s)
  have e1 : (mk n l u).tmps.getD t undef = .pointer (some ⟨g, 0, none⟩) := by
    have : (mk n l u).eval (.tmp t) = .pointer (some ⟨g, 0, none⟩) := by rw [mk_eval]; exact ev_evu hv u
    exact this
  have e2 : (mk n l u).tmps.getD t' undef = v' := by
    have : (mk n l u).eval (.tmp t') = v' := by rw [mk_eval]; exact ev_evu hv' u
    exact this
  have l1 := run_loadVar_row (P := P) w g te e _ fr d hg hu (by cases d <;> simp_all [aggB]) (by rw [arr_size]; exact hi)
  have e1' : (mk n l u).tmps[t]?.getD undef = .pointer (some ⟨g, 0, none⟩) := by simpa using e1
  have e2' : (mk n l u).tmps[t']?.getD undef = v' := by simpa using e2
  simp [results, hr, e1', e2', asAddr, l1]
theorem Ev.fieldAddr {s : TypeId} {x : Operand} {f g o j : Nat} {fs : Array Field} {fd : Field} (hx : ev n l x = some (.pointer (some ⟨g, o, none⟩))) (hu : P.underlying s = some (.struct fs)) (hf : fs[f]? = some fd) (hp : ∀ w, (fieldPlace ⟨g, o, none⟩ fd).run P w = .ok ⟨g, j, none⟩ w) : Ev P w0 n l h ⟨dst, .fieldAddr s x f, ty, pos, aft, gd⟩ (.pointer (some ⟨g, j, none⟩)) := by
  refine ⟨fun u w st => ?_⟩
  simp [execOp, ev_evu hx u, Instr.fieldAt, run_underlying hu, hf, Instr.sureAddr, hp]
end
end Go.Fw
namespace Go.Fw
attribute [irreducible] arr
theorem idx0 (k : Nat) : 0 + ((k : Int)).toNat = k := by omega
theorem idxN (k : Nat) : ((k : Int)).toNat = k := by omega
theorem tmod_nn {a b : Int} (h : 0 ≤ a) : a.tmod b = a % b := Int.tmod_eq_emod_of_nonneg h
theorem quo_i64 {a b : Int} (h : 0 ≤ a) (hb : 0 < b) (h1 : a ≤ 9223372036854775807) : IntKind.i64.wrap (a.tdiv b) = a / b := by
  rw [Int.tdiv_eq_ediv_of_nonneg h]
  have h2 : 0 ≤ a / b := Int.ediv_nonneg h (Int.le_of_lt hb)
  have h3 : a / b ≤ a := Int.ediv_le_self _ h
  exact i64_in (by omega) (by omega)
theorem quo_u64 {a b : Int} (h : 0 ≤ a) (hb : 0 < b) (h1 : a < 18446744073709551616) : IntKind.u64.wrap (a.tdiv b) = a / b := by
  rw [Int.tdiv_eq_ediv_of_nonneg h]
  have h2 : 0 ≤ a / b := Int.ediv_nonneg h (Int.le_of_lt hb)
  have h3 : a / b ≤ a := Int.ediv_le_self _ h
  exact u64_in (by omega) (by omega)
theorem quo_u8 {a b : Int} (h : 0 ≤ a) (hb : 0 < b) (h1 : a < 256) : IntKind.u8.wrap (a.tdiv b) = a / b := by
  rw [Int.tdiv_eq_ediv_of_nonneg h]
  have h2 : 0 ≤ a / b := Int.ediv_nonneg h (Int.le_of_lt hb)
  have h3 : a / b ≤ a := Int.ediv_le_self _ h
  exact u8_in (by omega) (by omega)
/-- Places filled up to k. -/
def fillTo (F : Nat → Value) (z : Value) (k i : Nat) : Value := if i < k then F i else z
theorem fillTo_zero (F : Nat → Value) (z : Value) : fillTo F z 0 = fun _ => z := by funext i; simp [fillTo]
theorem fillTo_step (F : Nat → Value) (z : Value) (k : Nat) (v : Value) (hv : v = F k) : upd (fillTo F z k) k v = fillTo F z (k + 1) := by
  subst hv
  funext i
  unfold upd fillTo
  by_cases h1 : i = k
  · subst h1; simp
  · rw [if_neg h1]
    by_cases h2 : i < k
    · rw [if_pos h2, if_pos (by omega)]
    · rw [if_neg h2, if_neg (by omega)]
theorem fillTo_all (F : Nat → Value) (z : Value) (N : Nat) : arr N (fillTo F z N) = arr N F := arr_congr fun i h => by simp [fillTo, h]
theorem fillTo_one {F : Nat → Value} {z : Value} (hF : ∀ i, one (F i) = true) (hz : one z = true) (k i : Nat) : one (fillTo F z k i) = true := by unfold fillTo; split; exact hF i; exact hz
end Go.Fw
namespace Go.Fw
theorem fillTo_lt (F : Nat → Value) (z : Value) {k j : Nat} (h : j < k) : fillTo F z k j = F j := by simp [fillTo, h]
theorem fillTo_ge (F : Nat → Value) (z : Value) {k j : Nat} (h : k ≤ j) : fillTo F z k j = z := by simp [fillTo]; omega
theorem upd_id {α : Type} (F : Nat → α) (o : Nat) (v : α) (h : F o = v) : upd F o v = F := by
  funext i; unfold upd; split
  · rename_i e; rw [e, h]
  · rfl
theorem upd_upd {α : Type} (F : Nat → α) (o : Nat) (v v' : α) : upd (upd F o v) o v' = upd F o v' := by
  funext i; unfold upd; split <;> rfl
end Go.Fw
