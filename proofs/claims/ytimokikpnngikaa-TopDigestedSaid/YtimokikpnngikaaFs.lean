/- Rows that are only read; slices over cells of the call's own: made, copied to, appended to. -/
import Derived.Test.YtimokikpnngikaaFr
set_option linter.unusedVariables false
set_option linter.unusedSimpArgs false
namespace Go.Fw
open Go Go.RowKit
/-! ### Rows that are only read -/
def rdOk (v : Value) (xs : List Value) (w : World) : Prop :=
  (v = .slice none 0 0 ∧ xs = []) ∨ ∃ a c, v = .slice (some a) xs.length c ∧ a.block < w.heap.size ∧ ∀ i y, xs[i]? = some y → w.cell? (a.add i) = some y
theorem addr_block (a : Addr) (i : Nat) : (a.add i).block = a.block := by unfold Addr.add; split <;> rfl
theorem cell_dep {w w' : World} {a : Addr} (h : w'.heap[a.block]? = w.heap[a.block]?) : w'.cell? a = w.cell? a := by unfold World.cell?; rw [h]
theorem rdOk.dep {v : Value} {xs : List Value} {w w' : World} (hd : ∀ a n c, v = .slice (some a) n c → w'.heap[a.block]? = w.heap[a.block]?) (hv : rdOk v xs w) : rdOk v xs w' := by
  rcases hv with hv | ⟨a, c, rfl, hb, hc⟩
  · exact .inl hv
  · have he := hd a _ _ rfl
    refine .inr ⟨a, c, rfl, ?_, fun i y hy => by rw [cell_dep (w := w) (by rw [addr_block]; exact he)]; exact hc i y hy⟩
    rw [Array.getElem?_eq_getElem hb] at he
    exact (Array.getElem?_eq_some_iff.1 he).1
theorem rdOk.keep {v : Value} {xs : List Value} {w w' : World} (hv : rdOk v xs w) (hb : Below w.heap.size w w') : rdOk v xs w' := by
  rcases hv with hv | ⟨a, c, rfl, hlt, hc⟩
  · exact .inl hv
  · exact rdOk.dep (fun a' n' c' e => by injection e with e1 _ _; injection e1 with e1; subst e1; exact hb.block _ hlt) (.inr ⟨a, c, rfl, hlt, hc⟩)
/-- A row that is only read, behind a slice. -/
def rdE (v : Value) (xs : List Value) (own : Bool := false) : Ent where
  rw := own
  fp b := ∃ a n c, v = .slice (some a) n c ∧ a.block = b
  ok := rdOk v xs
  dep w w' h hv := hv.dep fun a n c e => h _ ⟨a, n, c, e, rfl⟩
  lt w h b hb := by
    obtain ⟨a, n, c, rfl, rfl⟩ := hb
    rcases h with ⟨h, _⟩ | ⟨a', c', h, hb, _⟩
    · exact absurd h (by simp)
    · injection h with h1 _ _
      injection h1 with h1
      rw [h1]; exact hb
theorem rdE_ok {w0 : World} {h : Hp} {w : World} {v : Value} {xs : List Value} {own : Bool} (s : St w0 h w) (ha : At (rdE v xs own) (rdE v xs own) h h) : rdOk v xs w := by
  obtain ⟨i, hi, _⟩ := ha.idx
  exact s.ok _ (List.mem_of_getElem? hi)
/-- A row of the caller's comes in. -/
theorem St.startRd {w : World} {h : Hp} {v : Value} {xs : List Value} (s : St w h w) (hv : rdOk v xs w) : St w (rdE v xs :: h) w := by
  refine s.add _ rfl hv fun e' he' hr b hb hb' => ?_
  have h1 := s.own e' he' hr b hb'
  have h2 := (rdE v xs).lt w hv b hb
  omega
theorem J.withRd {P : Program} {Q : Exit → Act → World → Prop} {w0 : World} {n : Nat} {c : Code} {l : Env} {h : Hp} {v : Value} {xs : List Value} (hv : rdOk v xs w0) (H : J P Q w0 n c l (rdE v xs :: h)) : J P Q w0 n c l h :=
  ⟨fun u w s => H.run u w (s.add _ rfl (hv.keep s.below) fun e' he' hr b hb hb' => by
    have h1 := s.own e' he' hr b hb'
    have h2 := (rdE v xs).lt w0 hv b hb
    omega)⟩
/-- A new row that is answered, to be read. -/
def NewRd (w : World) (xs : List Value) (e : Ending) (w' : World) : Prop :=
  ∃ v, e = .returned v ∧ Below w.heap.size w w' ∧ rdOk v xs w' ∧ (∀ b, (rdE v xs).fp b → w.heap.size ≤ b) ∧ ∀ a m c, v = .slice a m c → m ≤ c
theorem NewRd.add {w0 : World} {h : Hp} {w w' : World} {xs : List Value} {e : Ending} (s : St w0 h w) (H : NewRd w xs e w') : ∃ v, (∀ a m c, v = .slice a m c → m ≤ c) ∧ e = .returned v ∧ St w0 (rdE v xs true :: h) w' := by
  obtain ⟨v, he, hb, ho, hf, hc⟩ := H
  exact ⟨v, hc, he, s.addNew hb _ ho hf⟩
theorem rdE_own {w0 w : World} {h : Hp} {v : Value} {xs : List Value} (s : St w0 h w) (ha : At (rdE v xs true) (rdE v xs true) h h) : ∀ b, (rdE v xs).fp b → w0.heap.size ≤ b := by
  obtain ⟨i, hi, _⟩ := ha.idx
  exact s.own (rdE v xs true) (List.mem_of_getElem? hi) rfl
theorem cells_own {w0 w : World} {h : Hp} {g : Nat} {C : Array Value} {t : TypeId} (s : St w0 h w) (ha : At (cells g C t) (cells g C t) h h) : w0.heap.size ≤ g := by
  obtain ⟨i, hi, _⟩ := ha.idx
  exact s.own _ (List.mem_of_getElem? hi) (by unfold cells; rfl) g (by unfold cells; rfl)
theorem rdE_fp {g o n c b : Nat} {xs : List Value} (hb : (rdE (.slice (some ⟨g, o, none⟩) n c) xs).fp b) : b = g := by
  obtain ⟨a, n', c', h, rfl⟩ := hb
  injection h with h1 _ _
  injection h1 with h1
  rw [← h1]
theorem rdOk_row {w : World} {v : Value} {e : TypeId} {xs : List Value} (ho : w.ownsRow 0 e 1 v xs.length xs) : rdOk v xs w := by
  rcases row_form ho with ⟨rfl, rfl⟩ | ⟨g, cap, rfl⟩
  · exact .inl ⟨rfl, rfl⟩
  · refine .inr ⟨⟨g, 0, none⟩, cap, rfl, (ho.lt g rfl).2, fun i y hy => ?_⟩
    rw [addr_add, Nat.zero_add, row_cell ho i (List.getElem?_eq_some_iff.1 hy).1, hy]
theorem rdOk_cells {w0 w : World} {h : Hp} {g o n c : Nat} {C : Array Value} {t : TypeId} {xs : List Value} (s : St w0 h w) (ha : At (cells g C t) (cells g C t) h h) (hn : n = xs.length) (hx : ∀ i y, xs[i]? = some y → C[o + i]? = some y) : rdOk (.slice (some ⟨g, o, none⟩) n c) xs w := by
  obtain ⟨fr, hg, _⟩ := ha.row s
  exact .inr ⟨⟨g, o, none⟩, c, by rw [hn], (Array.getElem?_eq_some_iff.1 hg).1, fun i y hy => by rw [addr_add, ha.cell s]; exact hx i y hy⟩
/-- A row in the world turns to one that is only read. -/
theorem St.toRd {w0 : World} {h : Hp} {w : World} {v : Value} {xs : List Value} (s : St w0 h w) (hv : rdOk v xs w) (hd : ∀ e' ∈ h, e'.rw = true → ∀ b, (rdE v xs).fp b → ¬ e'.fp b) : St w0 (rdE v xs :: h) w := s.add _ rfl hv hd
theorem rng_at {m : Nat} {F : Nat → Value} {i : Nat} {y : Value} (h : (rng m F)[i]? = some y) : i < m ∧ F i = y := by
  have h1 := (List.getElem?_eq_some_iff.1 h).1
  rw [rng_len] at h1
  rw [rng_get F h1] at h
  exact ⟨h1, by simpa using h⟩
/-! ### The rules -/
def tailV (v : Value) (k : Nat) : Value := match v with
  | .slice a m c => .slice (if c = k then a else a.map (·.add k)) (m - k) (c - k)
  | x => x
theorem add_add (a : Addr) (i j : Nat) : (a.add i).add j = a.add (i + j) := by
  unfold Addr.add
  by_cases h1 : i = 0
  · subst h1; simp
  · by_cases h2 : j = 0
    · subst h2; simp [h1]
    · rw [if_neg h2, if_neg h1, if_neg (by omega)]; simp [Nat.add_assoc]
theorem rdOk_tail {v : Value} {xs : List Value} {w : World} {k : Nat} (hv : rdOk v xs w) (hk : k ≤ xs.length) (hc : ∀ a m c, v = .slice a m c → m ≤ c) : rdOk (tailV v k) (xs.drop k) w := by
  rcases hv with ⟨rfl, rfl⟩ | ⟨a, c, rfl, hb, hcell⟩
  · simp at hk; subst hk
    exact .inl ⟨rfl, rfl⟩
  · have hle := hc _ _ _ rfl
    unfold tailV
    by_cases h : c = k
    · refine .inr ⟨a, c - k, ?_, hb, fun i y hy => ?_⟩
      · simp [h]
      · rw [List.getElem?_drop] at hy
        have := (List.getElem?_eq_some_iff.1 hy).1
        omega
    · refine .inr ⟨a.add k, c - k, ?_, by rw [addr_block]; exact hb, fun i y hy => ?_⟩
      · simp [h]
      · rw [List.getElem?_drop] at hy
        rw [add_add]
        exact hcell _ _ hy
section
variable {P : Program} {w0 : World} {n : Nat} {l : Env} {h h' : Hp} {dst : Option Tmp} {ty : TypeId} {pos : String} {aft : Array Edge} {gd : Option (Nat × Bool)}
theorem Ev.lenR {x : Operand} {t e : TypeId} {v : Value} {xs : List Value} (hx : ev n l x = some v) (hu : P.underlying t = some (.slice e)) {own : Bool} (ha : At (rdE v xs own) (rdE v xs own) h h) : Ev P w0 n l h ⟨dst, .call { callee := .builtin .len, args := #[x], argTypes := #[t] }, ty, pos, aft, gd⟩ (.int .i64 xs.length) := by
  refine ⟨fun u w s => ?_⟩
  rcases rdE_ok s ha with ⟨rfl, rfl⟩ | ⟨a, c, rfl, _⟩
  · exact (Ev.lenL (P := P) (w0 := w0) (h := h) (dst := dst) (ty := ty) (pos := pos) (aft := aft) (gd := gd) hx hu).run u w s
  · exact (Ev.lenL (P := P) (w0 := w0) (h := h) (dst := dst) (ty := ty) (pos := pos) (aft := aft) (gd := gd) hx hu).run u w s
/-- string(b), b bytes that are read. -/
theorem Ev.strR {x : Operand} {sr ds e : TypeId} {v : Value} {a : List UInt8} (hx : ev n l x = some v) (hs : P.underlying sr = some (.slice e)) (he : P.underlying e = some (.int .u8)) (hd : P.underlying ds = some .string) (ha : ∀ w, St w0 h w → rdOk v (a.map B8) w) :
    Ev P w0 n l h ⟨dst, .convert sr ds x, ty, pos, aft, gd⟩ (S a) := by
  refine ⟨fun u w s => ?_⟩
  rcases ha w s with ⟨rfl, hn⟩ | ⟨ad, c, rfl, _, hc⟩
  · have : a = [] := by simpa using hn
    subst this
    simp only [execOp, ev_evu hx u, Sem.run_bind, run_convert_bytes_nil w sr e hs he 0 0 ds hd, Result.andThen_ok, Sem.run_pure]
    rfl
  · rw [List.length_map] at hx
    have hc' : ∀ j (hj : j < a.length), w.cell? (ad.add j) = some (.int .u8 (a[j].toNat : Int)) := fun j hj => hc j _ (by simp [hj, B8])
    simp only [execOp, ev_evu hx u, Sem.run_bind, run_convert_bytes_back w sr ds e ad c a hs he hd hc', Result.andThen_ok, Sem.run_pure]
    rfl
/-- v[k:] of a slice of one-cell elements. -/
theorem Ev.tail {x lo : Operand} {t e : TypeId} {v : Value} {xs : List Value} {kk : IntKind} {k : Nat} (hx : ev n l x = some v) (hlo : ev n l lo = some (.int kk k)) (hu : P.underlying t = some (.slice e)) (he : (P.info? e).map (·.size) = some 1) {own : Bool} (ha : At (rdE v xs own) (rdE v xs own) h h) (hk : k ≤ xs.length) :
    Ev P w0 n l h ⟨dst, .slice t x (some lo) none none, ty, pos, aft, gd⟩ (tailV v k) := by
  refine ⟨fun u w s => ?_⟩
  cases hq : P.info? e with
  | none => simp [hq] at he
  | some inf =>
    have hs : inf.size = 1 := by simpa [hq] using he
    have hk' : (k : Int) ≤ (xs.length : Int) := by omega
    rcases rdE_ok s ha with ⟨rfl, rfl⟩ | ⟨a, c, rfl, _⟩
    · have : k = 0 := by simpa using hk
      subst this
      simp [execOp, ev_evu hx u, ev_evu hlo u, Instr.sliceAt, Instr.slice, run_underlying hu, Instr.sliceBounds, Instr.sliceBound, asIntOf, sizeOf, typeInfo, hq, hs, tailV]
    · by_cases hck : c = k <;>
        simp [execOp, ev_evu hx u, ev_evu hlo u, Instr.sliceAt, Instr.slice, run_underlying hu, Instr.sliceBounds, Instr.sliceBound, asIntOf, sizeOf, typeInfo, hq, hs, tailV, hk', hck, Nat.mul_one, hk]
/-- v[:] of an array of the call's own. -/
theorem Ev.sliceArr {x : Operand} {t e : TypeId} {g N : Nat} (hx : ev n l x = some (.pointer (some ⟨g, 0, none⟩))) (hu : P.underlying t = some (.array N e)) (he : (P.info? e).map (·.size) = some 1) :
    Ev P w0 n l h ⟨dst, .slice t x none none none, ty, pos, aft, gd⟩ (.slice (some ⟨g, 0, none⟩) N N) := by
  refine ⟨fun u w s => ?_⟩
  cases hq : P.info? e with
  | none => simp [hq] at he
  | some inf =>
    have hs : inf.size = 1 := by simpa [hq] using he
    simp [execOp, ev_evu hx u, Instr.sliceAt, run_underlying hu, Instr.sliceBounds, Instr.sureAddr, sizeOf, typeInfo, hq, hs, addr_add]
/-- (*[N]T)(v). -/
def ptr0 (v : Value) : Value := match v with | .slice a _ _ => .pointer a | x => x
theorem Ev.arrPtr {x : Operand} {t e : TypeId} {N : Nat} {v : Value} {xs : List Value} (hx : ev n l x = some v) (hu : P.underlying t = some (.array N e)) {own : Bool} (ha : At (rdE v xs own) (rdE v xs own) h h) (hN : N ≤ xs.length) :
    Ev P w0 n l h ⟨dst, .sliceToArrayPointer t x, ty, pos, aft, gd⟩ (ptr0 v) := by
  refine ⟨fun u w s => ?_⟩
  rcases rdE_ok s ha with ⟨rfl, rfl⟩ | ⟨a, c, rfl, _⟩
  · simp at hN; subst hN
    simp [execOp, ev_evu hx u, Instr.arrayAt, run_underlying hu, ptr0]
  · simp [execOp, ev_evu hx u, Instr.arrayAt, run_underlying hu, ptr0, Nat.not_lt.2 hN]
theorem Ev.loadPtr0 {x : Operand} {tv : TypeId} {N : Nat} {v : Value} {xs : List Value} {d : TypeDesc} {F : Nat → Value} (hx : ev n l x = some (ptr0 v)) (hu : P.underlying tv = some d) (hd : aggB d = true) (hi : (P.info? tv).map (·.size) = some N) {own : Bool} (ha : At (rdE v xs own) (rdE v xs own) h h) (h0 : 0 < N) (hF : ∀ i, i < N → xs[i]? = some (F i)) :
    Ev P w0 n l h ⟨dst, .load tv x, ty, pos, aft, gd⟩ (.agg (arr N F)) := by
  refine ⟨fun u w s => ?_⟩
  rcases rdE_ok s ha with ⟨rfl, rfl⟩ | ⟨a, c, rfl, _, hc⟩
  · have := hF 0 h0; simp at this
  · cases hq : P.info? tv with
    | none => simp [hq] at hi
    | some inf =>
      have hsz : inf.size = N := by simpa [hq] using hi
      have hl := run_loadCells_list (P := P) w a (rng N F) (fun j y hy => by
        obtain ⟨h1, h2⟩ := rng_at hy
        exact hc j y (by rw [hF j h1, h2]))
      rw [rng_len] at hl
      simp only [execOp, ev_evu hx u, ptr0, Instr.loadAt, Instr.sureAddr, loadVar, Sem.run_bind, Sem.run_pure, Result.andThen_ok, run_isAgg hu, hd, if_true, sizeOf, typeInfo]
      have hp : (program : Sem Program).run P w = .ok P w := rfl
      simp only [hp, Result.andThen_ok, hq, Sem.run_pure, hsz, hl]
      have : (rng N F).toArray = arr N F := by
        apply Array.ext_getElem?
        intro i
        by_cases hi : i < N
        · rw [arr_get F hi]; simp [rng_get F hi]
        · rw [Array.getElem?_eq_none (xs := arr N F) (by rw [arr_size]; omega)]; simp [rng]; omega
      rw [this]
/-- make([]T, m, c). -/
theorem Eff.makeC {t e : TypeId} {x y : Operand} {kl kc : IntKind} {m c : Nat} {z : Value} {bytes : Nat} (hx : ev n l x = some (.int kl m)) (hy : ev n l y = some (.int kc c)) (ht : P.underlying t = some (.slice e)) (hinfo : (P.info? e).map (fun i => (i.zero, i.size, i.bytes)) = some (some z, 1, bytes)) (hz : z.cells = #[z])
    (hmc : m ≤ c) (hb : bytes * c ≤ 281474976710656) (hm : c ≤ 9223372036854775807) : Eff P w0 n l h ⟨dst, .makeSlice t x y, ty, pos, aft, gd⟩ (α := Nat) (fun _ => True) (fun g => .slice (some ⟨g, 0, none⟩) m c) (fun g => cells g (arr c fun _ => z) e :: h) := by
  refine ⟨fun u w st K Q H => ?_⟩
  obtain ⟨i0, hi, hzz⟩ := Option.map_eq_some_iff.1 hinfo
  simp only [Prod.mk.injEq] at hzz
  obtain ⟨hz0, hz1, hz2⟩ := hzz
  have hb' : (i0.bytes : Int) * (c : Int) ≤ 281474976710656 := by
    have h : ((i0.bytes * c : Nat) : Int) ≤ 281474976710656 := by rw [hz2]; omega
    rwa [Int.natCast_mul] at h
  have hr := run_make (P := P) w t e i0 z ht hi hz0 kl kc m c (by omega) (by omega) hb' (by omega)
  simp only [Int.toNat_natCast, hz1, Nat.mul_one] at hr
  have he : madeCells z.cells c = arr c fun _ => z := by
    rw [hz, ← Array.toList_inj, toList_madeCells_one]
    apply List.ext_getElem?
    intro i
    by_cases hi : i < c
    · have := arr_get (fun _ => z) hi
      rw [← Array.getElem?_toList] at this
      rw [this]; simp [hi]
    · rw [List.getElem?_eq_none (by simp; omega), List.getElem?_eq_none (by rw [Array.length_toList, arr_size]; omega)]
  rw [he] at hr
  unfold Oper.wp
  rw [mk_eval]
  simp only [execOp, ev_evu hx u, ev_evu hy u, Sem.run_bind, hr, Result.andThen_ok]
  exact H w.heap.size _ trivial (st.alloc _ _)
/-- F with the values of xs from place o on. -/
def ovl (F : Nat → Value) (o : Nat) (xs : List Value) (i : Nat) : Value := if o ≤ i ∧ i < o + xs.length then xs.getD (i - o) undef else F i
theorem spl_arr (N : Nat) (F : Nat → Value) (o : Nat) (xs : List Value) (hl : o + xs.length ≤ N) : spl (arr N F) o xs = arr N (ovl F o xs) := by
  apply Array.ext_getElem?
  intro i
  rw [spl_get _ _ _ _ (by rw [arr_size]; exact hl)]
  by_cases hi : i < N
  · rw [arr_get _ hi, arr_get _ hi]
    unfold ovl
    by_cases h1 : o ≤ i ∧ i < o + xs.length
    · rw [if_pos h1, if_pos h1, List.getD_eq_getElem?_getD, List.getElem?_eq_getElem (by omega)]; rfl
    · rw [if_neg h1, if_neg h1]
  · rw [if_neg (by omega), Array.getElem?_eq_none (by rw [arr_size]; omega), Array.getElem?_eq_none (by rw [arr_size]; omega)]
theorem run_storeC {g o N : Nat} {F : Nat → Value} {t : TypeId} {xs : List Value} {w : World} (s : St w0 h w) (ha : At (cells g (arr N F) t) (cells g (arr N (ovl F o xs)) t) h h') (hl : o + xs.length ≤ N) (h1 : ∀ y ∈ xs, one y = true) :
    ∃ w', (storeCells ⟨g, o, none⟩ xs).run P w = .ok () w' ∧ St w0 h' w' := by
  obtain ⟨k, hk, rfl⟩ := ha.idx
  obtain ⟨w', hr, hs⟩ := run_storeCells (P := P) (t := t) o xs 0 k _ h w s hk (by rw [arr_size]; omega) h1
  exact ⟨w', hr, by rw [Nat.add_zero, spl_arr _ _ _ _ hl] at hs; exact hs⟩
theorem run_firstCells_rd {v : Value} {xs : List Value} {w : World} (hv : rdOk v xs w) : (Builtin.firstCells 1 xs.length v).run P w = .ok xs.toArray w := by
  rcases hv with ⟨rfl, rfl⟩ | ⟨a, c, rfl, _, hc⟩
  · simp [Builtin.firstCells]
  · exact run_firstCells_some (P := P) w 1 xs.length a _ c xs (by simp) hc
theorem run_lenOf_rd {v : Value} {xs : List Value} {w : World} (hv : rdOk v xs w) : (Builtin.lenOf v).run P w = .ok xs.length w := by
  rcases hv with ⟨rfl, rfl⟩ | ⟨a, c, rfl, _, hc⟩ <;> rfl
theorem run_sizeOf1 {e : TypeId} {w : World} (he : (P.info? e).map (·.size) = some 1) : (sizeOf e).run P w = .ok 1 w := by
  cases hq : P.info? e with
  | none => simp [hq] at he
  | some inf =>
    have hs : inf.size = 1 := by simpa [hq] using he
    simp [sizeOf, typeInfo, hq, hs]
/-- copy(d, s): all of s. -/
theorem Eff.copyC {t t' e : TypeId} {d x : Operand} {g o m c N : Nat} {F : Nat → Value} {v : Value} {xs : List Value} {te : TypeId} (hd : ev n l d = some (.slice (some ⟨g, o, none⟩) m c)) (hx : ev n l x = some v) (ht : P.underlying t = some (.slice e)) (he : (P.info? e).map (·.size) = some 1)
    (hv : ∀ w, St w0 h w → rdOk v xs w) (h1 : ∀ y ∈ xs, one y = true) (hm : xs.length ≤ m) (hN : o + xs.length ≤ N) (ha : At (cells g (arr N F) te) (cells g (arr N (ovl F o xs)) te) h h') :
    Eff P w0 n l h ⟨dst, .call { callee := .builtin .copy, args := #[d, x], argTypes := #[t, t'] }, ty, pos, aft, gd⟩ (α := Unit) (fun _ => True) (fun _ => .int .i64 xs.length) (fun _ => h') := by
  refine ⟨fun u w st K Q H => ?_⟩
  obtain ⟨w', hw, hs⟩ := run_storeC (P := P) st ha hN h1
  have hmn : Nat.min xs.length m = xs.length := Nat.min_eq_left hm
  unfold Oper.wp
  rw [mk_eval]
  have hma : (#[d, x] : Array Operand).map (evu n l u) = #[.slice (some ⟨g, o, none⟩) m c, v] := by simp [ev_evu hd u, ev_evu hx u]
  simp only [execOp, resolve, hma, Sem.run_bind, Sem.run_pure, Result.andThen_ok, invoke, builtin, Builtin.copy_]
  simp [run_underlying ht, run_lenOf_rd (P := P) (hv w st), run_sizeOf1 (w := w) he, hmn, run_firstCells_rd (P := P) (hv w st), hw]
  exact H () w' trivial hs
/-- append(d, x..) where there is room. -/
theorem Eff.appendC {t e : TypeId} {d x : Operand} {g m c N : Nat} {F : Nat → Value} {v : Value} {xs : List Value} {te : TypeId} (hd : ev n l d = some (.slice (some ⟨g, 0, none⟩) m c)) (hx : ev n l x = some v) (ht : P.underlying t = some (.slice e)) (he : (P.info? e).map (·.size) = some 1)
    (hv : ∀ w, St w0 h w → rdOk v xs w) (h1 : ∀ y ∈ xs, one y = true) (hm : m + xs.length ≤ c) (hN : m + xs.length ≤ N) (ha : At (cells g (arr N F) te) (cells g (arr N (ovl F m xs)) te) h h') :
    Eff P w0 n l h ⟨dst, .call { callee := .builtin .append, args := #[d, x], argTypes := #[t, t] }, ty, pos, aft, gd⟩ (α := Unit) (fun _ => True) (fun _ => .slice (some ⟨g, 0, none⟩) (m + xs.length) c) (fun _ => h') := by
  refine ⟨fun u w st K Q H => ?_⟩
  obtain ⟨w', hw, hs⟩ := run_storeC (P := P) st ha hN h1
  unfold Oper.wp
  rw [mk_eval]
  have hma : (#[d, x] : Array Operand).map (evu n l u) = #[.slice (some ⟨g, 0, none⟩) m c, v] := by simp [ev_evu hd u, ev_evu hx u]
  simp only [execOp, resolve, hma, Sem.run_bind, Sem.run_pure, Result.andThen_ok, invoke, builtin, Builtin.append_]
  simp [run_underlying ht, run_lenOf_rd (P := P) (hv w st), run_sizeOf1 (w := w) he, hm, run_firstCells_rd (P := P) (hv w st), addr_add, hw]
  exact H () w' trivial hs
/-- append(d, make([]T, k)..) where there is room. -/
theorem Eff.appendZ {t tn e : TypeId} {d x : Operand} {g m c N k : Nat} {kk kn : IntKind} {F : Nat → Value} {z : Value} {bytes : Nat} {te : TypeId} (hd : ev n l d = some (.slice (some ⟨g, 0, none⟩) m c)) (hx : ev n l x = some (.int kk k)) (ht : P.underlying t = some (.slice e)) (htn : P.underlying tn = some (.int kn))
    (hinfo : (P.info? e).map (fun i => (i.zero, i.size, i.bytes)) = some (some z, 1, bytes)) (hz : z.cells = #[z]) (h1 : one z = true) (hk : k ≤ 9223372036854775807) (hb : k * bytes ≤ 281474976710656) (hm : m + k ≤ c) (hN : m + k ≤ N)
    (ha : At (cells g (arr N F) te) (cells g (arr N (ovl F m (List.replicate k z))) te) h h') :
    Eff P w0 n l h ⟨dst, .call { callee := .builtin .append, args := #[d, x], argTypes := #[t, tn] }, ty, pos, aft, gd⟩ (α := Unit) (fun _ => True) (fun _ => .slice (some ⟨g, 0, none⟩) (m + k) c) (fun _ => h') := by
  refine ⟨fun u w st K Q H => ?_⟩
  obtain ⟨i0, hi, hzz⟩ := Option.map_eq_some_iff.1 hinfo
  simp only [Prod.mk.injEq] at hzz
  obtain ⟨hz0, hz1, hz2⟩ := hzz
  obtain ⟨w', hw, hs⟩ := run_storeC (P := P) st ha (by rw [List.length_replicate]; exact hN) (fun y hy => by rw [List.eq_of_mem_replicate hy]; exact h1)
  unfold Oper.wp
  rw [mk_eval]
  have hma : (#[d, x] : Array Operand).map (evu n l u) = #[.slice (some ⟨g, 0, none⟩) m c, .int kk k] := by simp [ev_evu hd u, ev_evu hx u]
  have hwr : IntKind.i64.wrap (k : Int) = k := by rw [IntKind.wrap_i64]; omega
  have hb' : ¬ (281474976710656 < (k : Int) * (i0.bytes : Int)) := by
    rw [← Int.natCast_mul, hz2]; omega
  have hneg : ¬ ((k : Int) < 0) := by omega
  have hzc : (Builtin.zeroCells #[z] k).toList = List.replicate k z := by
    unfold Builtin.zeroCells
    apply List.ext_getElem?
    intro i
    by_cases hi : i < k <;> simp [hi, Nat.mod_one]
  have hst0 : (storeCells ⟨g, m, none⟩ (if k = 0 then #[] else Builtin.zeroCells #[z] k).toList).run P w = .ok () w' := by
    by_cases h0 : k = 0
    · subst h0; exact hw
    · rw [if_neg h0, hzc]; exact hw
  simp only [execOp, resolve, hma, Sem.run_bind, Sem.run_pure, Result.andThen_ok, invoke, builtin, Builtin.append_]
  by_cases h0 : k = 0
  · subst h0
    have hwr0 : IntKind.i64.wrap 0 = 0 := by rw [IntKind.wrap_i64]; rfl
    have hm0 : m ≤ c := by omega
    simp [run_underlying ht, run_underlying htn, hwr0, hm0, storeCells, asInt, asIntOf, hwr, hneg, sizeOf, typeInfo, zeroValue, hi, hz0, hz1, hz, hb', hm, addr_add]
    simp [storeCells] at hw
    subst hw
    exact H () w trivial hs
  · simp [run_underlying ht, run_underlying htn, asInt, asIntOf, hwr, hneg, sizeOf, typeInfo, zeroValue, hi, hz0, hz1, hz, hb', hm, addr_add, h0]
    rw [hzc, hw]
    exact H () w' trivial hs
/-- A call that answers a new row to be read. -/
theorem Eff.callRd {xs : List Operand} {tys : Array TypeId} {f : FuncId} {args ys : List Value} (hx : evs n l xs = some args)
    (he : ∀ args w, (callFunc f args).run P w = .ok (.enter f args) w) (hc : ∀ w, St w0 h w → Calls P f args.toArray w (NewRd w ys)) :
    Eff P w0 n l h ⟨dst, .call { callee := .value (.func f), args := xs.toArray, argTypes := tys }, ty, pos, aft, gd⟩ (α := Value) (fun v => ∀ a m c, v = .slice a m c → m ≤ c) (fun v => v) (fun v => rdE v ys true :: h) :=
  Eff.call (fi := #[]) (ca := #[]) rfl hx he fun w s => by
    have := hc w s
    simp only [Array.append_empty, Array.empty_append]
    exact this.mono fun e w' H => NewRd.add s H
/-- A call that only computes, from what is told of the world. -/
theorem Eff.callW {xs : List Operand} {tys : Array TypeId} {f : FuncId} {args : List Value} {v : Value} (hx : evs n l xs = some args)
    (he : ∀ args w, (callFunc f args).run P w = .ok (.enter f args) w) (hc : ∀ w, St w0 h w → Calls P f args.toArray w (Pure1 w v)) :
    Eff P w0 n l h ⟨dst, .call { callee := .value (.func f), args := xs.toArray, argTypes := tys }, ty, pos, aft, gd⟩ (α := Unit) (fun _ => True) (fun _ => v) (fun _ => h) :=
  Eff.call (fi := #[]) (ca := #[]) rfl hx he fun w s => by
    have := hc w s
    simp only [Array.append_empty, Array.empty_append]
    exact this.mono fun e w' ⟨h1, h2⟩ => ⟨(), trivial, h1, s.keep h2⟩
/-- A call of a function value that only computes. -/
theorem Eff.callF {c : Operand} {xs : List Operand} {tys : Array TypeId} {f : FuncId} {args : List Value} {v : Value} (hf : ev n l c = some (.func (.func f) #[] #[])) (hx : evs n l xs = some args)
    (he : ∀ args w, (callFunc f args).run P w = .ok (.enter f args) w) (hc : ∀ w, Calls P f args.toArray w (Pure1 w v)) :
    Eff P w0 n l h ⟨dst, .call { callee := .value c, args := xs.toArray, argTypes := tys }, ty, pos, aft, gd⟩ (α := Unit) (fun _ => True) (fun _ => v) (fun _ => h) :=
  Eff.call hf hx he fun w s => by
    have := hc w
    simp only [Array.append_empty, Array.empty_append]
    exact this.mono fun e w' ⟨h1, h2⟩ => ⟨(), trivial, h1, s.keep h2⟩
theorem Ev.convUB {x : Operand} {tx tyy : TypeId} {a : BitVec 32} {d : TypeDesc} (hx : ev n l x = some (U a)) (hs : P.underlying tx = some d) (hd : P.underlying tyy = some (.int .u8)) : Ev P w0 n l h ⟨dst, .convert tx tyy x, ty, pos, aft, gd⟩ (B8 (UInt8.ofNat a.toNat)) :=
  Ev.conv hx hs hd (by rw [u8_wrap]; show _ = ((UInt8.ofNat a.toNat).toNat : Int); rw [UInt8.toNat_ofNat']; omega)
/-- v[k:] takes the place of v. -/
theorem St.tailRd {w : World} {v : Value} {xs : List Value} {k : Nat} (s : St w0 h w) (ha : At (rdE v xs true) (rdE (tailV v k) (xs.drop k) true) h h') (hk : k ≤ xs.length) (hc : ∀ a m c, v = .slice a m c → m ≤ c) : St w0 h' w := by
  obtain ⟨i, hi, rfl⟩ := ha.idx
  have ho : rdOk v xs w := s.ok _ (List.mem_of_getElem? hi)
  refine s.turn hi rfl (fun b hb => .inl ?_) rfl rfl rfl (Nat.le_refl _) (fun b _ _ => rfl) (rdOk_tail ho hk hc)
  obtain ⟨a, m, c, he, rfl⟩ := hb
  rcases ho with ⟨rfl, _⟩ | ⟨a', c', rfl, _⟩
  · simp [tailV] at he
  · refine ⟨a', _, _, rfl, ?_⟩
    simp only [tailV] at he
    injection he with he _ _
    by_cases h1 : c' = k
    · rw [if_pos h1] at he; injection he with he; rw [he]
    · rw [if_neg h1] at he; injection he with he; rw [← he, addr_block]
end
end Go.Fw
