/- Rows of the call's own behind slices: read, written, appended to; strings. -/
import Derived.Test.YtimokikpnngikaaFm
import Derived.Maps.AppendAt
import Derived.Laws.OwnMore
import Derived.Laws.IdiomStrings
set_option linter.unusedVariables false
set_option linter.unusedSimpArgs false
namespace Go.Fw
open Go Go.RowKit
theorem ownsRow_dep {w w' : World} {base : Nat} {e : TypeId} {size n : Nat} {v : Value} {xs : List Value} (h : w.ownsRow base e size v n xs) (hb : ∀ b, v.ownBlock = some b → w'.heap[b]? = w.heap[b]?) : w'.ownsRow base e size v n xs := by
  refine ⟨h.1, ?_⟩
  rcases h.2 with hn | ⟨g, cap, cur, rfl, hb', hg, rest⟩
  · exact .inl hn
  · exact .inr ⟨g, cap, cur, rfl, hb', by rw [hb g rfl]; exact hg, rest⟩
/-- A row of the call's own behind a slice, nil let in. -/
def rowE (v : Value) (e : TypeId) (xs : List Value) : Ent where
  rw := true
  fp b := v.ownBlock = some b
  ok w := w.ownsRow 0 e 1 v xs.length xs
  dep w w' hb h := ownsRow_dep h hb
  lt w h b hb := (h.lt b hb).2
theorem rowE_ok {w0 : World} {h h' : Hp} {w : World} {v : Value} {e : TypeId} {xs : List Value} {e' : Ent} (s : St w0 h w) (ha : At (rowE v e xs) e' h h') : w.ownsRow 0 e 1 v xs.length xs := by
  obtain ⟨i, hi, _⟩ := ha.idx
  exact s.ok _ (List.mem_of_getElem? hi)
theorem rowE_ok0 {w0 : World} {h : Hp} {w : World} {v : Value} {e : TypeId} {xs : List Value} (s : St w0 h w) (ha : At (rowE v e xs) (rowE v e xs) h h) : w.ownsRow 0 e 1 v xs.length xs := rowE_ok s ha
theorem row_form {w : World} {v : Value} {e : TypeId} {xs : List Value} (h : w.ownsRow 0 e 1 v xs.length xs) : (v = .slice none 0 0 ∧ xs = []) ∨ ∃ g cap, v = .slice (some ⟨g, 0, none⟩) xs.length cap := by
  rcases h.2 with ⟨h1, h2⟩ | ⟨g, cap, cur, h1, _⟩
  · exact .inl ⟨h1, List.eq_nil_of_length_eq_zero h2⟩
  · exact .inr ⟨g, cap, h1⟩
def ptrOf (v : Value) (i : Nat) : Value := match v with | .slice (some a) _ _ => .pointer (some (a.add i)) | _ => undef
theorem row_cell {w : World} {g cap : Nat} {e : TypeId} {xs : List Value} (h : w.ownsRow 0 e 1 (.slice (some ⟨g, 0, none⟩) xs.length cap) xs.length xs) (i : Nat) (hi : i < xs.length) : w.cell? ⟨g, i, none⟩ = xs[i]? := h.cellAt i (by omega)
/-- A run to a world with one row of the call's own turned. -/
theorem St.grown {w0 : World} {h h' : Hp} {w w' : World} {v v' : Value} {e : TypeId} {xs ys : List Value} (s : St w0 h w) (ha : At (rowE v e xs) (rowE v' e ys) h h') (hg : w.grownBy w' v.ownBlock) (hb : v'.ownBlock = v.ownBlock ∨ v'.ownBlock = some w.heap.size) (ho : w'.ownsRow 0 e 1 v' ys.length ys) : St w0 h' w' := by
  obtain ⟨i, hi, rfl⟩ := ha.idx
  refine s.turn hi rfl (fun b hb' => ?_) hg.os hg.tape hg.output hg.size (fun b hlt hn => hg.block b hlt (fun e => hn e.symm)) ho
  have hb'' : v'.ownBlock = some b := hb'
  rcases hb with hb | hb
  · left
    show v.ownBlock = some b
    rw [← hb]; exact hb''
  · right
    rw [hb''] at hb
    injection hb with hb
    omega
section
variable {P : Program} {w0 : World} {n : Nat} {l : Env} {h h' : Hp} {dst : Option Tmp} {ty : TypeId} {pos : String} {aft : Array Edge} {gd : Option (Nat × Bool)}
theorem Ev.lenL {x : Operand} {t e : TypeId} {a : Option Addr} {m c : Nat} (hx : ev n l x = some (.slice a m c)) (hu : P.underlying t = some (.slice e)) : Ev P w0 n l h ⟨dst, .call { callee := .builtin .len, args := #[x], argTypes := #[t] }, ty, pos, aft, gd⟩ (.int .i64 m) := by
  refine ⟨fun u w s => ?_⟩
  simp [execOp, resolve, invoke, builtin, ev_evu hx u, Builtin.len_, run_underlying hu, goInt]
theorem Ev.lenV {x : Operand} {t e e' : TypeId} {v : Value} {xs : List Value} (hx : ev n l x = some v) (hu : P.underlying t = some (.slice e)) (ha : At (rowE v e' xs) (rowE v e' xs) h h) : Ev P w0 n l h ⟨dst, .call { callee := .builtin .len, args := #[x], argTypes := #[t] }, ty, pos, aft, gd⟩ (.int .i64 xs.length) := by
  refine ⟨fun u w s => ?_⟩
  rcases row_form (rowE_ok s ha) with ⟨rfl, rfl⟩ | ⟨g, cap, rfl⟩
  · exact (Ev.lenL (P := P) (w0 := w0) (h := h) (dst := dst) (ty := ty) (pos := pos) (aft := aft) (gd := gd) hx hu).run u w s
  · exact (Ev.lenL (P := P) (w0 := w0) (h := h) (dst := dst) (ty := ty) (pos := pos) (aft := aft) (gd := gd) hx hu).run u w s
theorem Ev.indexAddrV {tx te e : TypeId} {x y : Operand} {v : Value} {xs : List Value} {k : IntKind} {i : Int} (hx : ev n l x = some v) (hy : ev n l y = some (.int k i)) (ha : At (rowE v e xs) (rowE v e xs) h h) (hu : P.underlying tx = some (.slice te)) (he : (P.info? te).map (·.size) = some 1)
    (h0 : 0 ≤ i) (h1 : i < xs.length) {j : Nat} (hj : i.toNat = j) : Ev P w0 n l h ⟨dst, .indexAddr tx x y, ty, pos, aft, gd⟩ (ptrOf v j) := by
  refine ⟨fun u w s => ?_⟩
  rcases row_form (rowE_ok s ha) with ⟨rfl, rfl⟩ | ⟨g, cap, rfl⟩
  · simp at h1; omega
  · rw [ptrOf, addr_add]
    exact (Ev.indexAddrS (P := P) (w0 := w0) (h := h) (dst := dst) (ty := ty) (pos := pos) (aft := aft) (gd := gd) hx hy hu he h0 h1 (by rw [hj])).run u w s
theorem Ev.loadV {tv e : TypeId} {x : Operand} {v y : Value} {xs : List Value} {i : Nat} {d : TypeDesc} (hx : ev n l x = some (ptrOf v i)) (hu : P.underlying tv = some d) (hd : aggB d = false) (ha : At (rowE v e xs) (rowE v e xs) h h) (hy : xs[i]? = some y) :
    Ev P w0 n l h ⟨dst, .load tv x, ty, pos, aft, gd⟩ y := by
  have hi := (List.getElem?_eq_some_iff.1 hy).1
  refine ⟨fun u w s => ?_⟩
  have ho := rowE_ok s ha
  rcases row_form ho with ⟨rfl, rfl⟩ | ⟨g, cap, rfl⟩
  · simp at hi
  · rw [ptrOf, addr_add, Nat.zero_add] at hx
    simp only [execOp, ev_evu hx u, Instr.loadAt, Instr.sureAddr, loadVar, Sem.run_bind, Sem.run_pure, Result.andThen_ok, run_isAgg hu, hd, Bool.false_eq_true, if_false, run_load ((row_cell ho i hi).trans hy)]
theorem Eff.storeV {tv e : TypeId} {x z : Operand} {v y : Value} {xs : List Value} {i : Nat} (hx : ev n l x = some (ptrOf v i)) (hz : ev n l z = some y) (h1 : one y = true) (hi : (P.info? tv).map (·.size) = some 1) (hlt : i < xs.length)
    (ha : At (rowE v e xs) (rowE v e (xs.set i y)) h h') : Eff P w0 n l h ⟨dst, .store tv x z, ty, pos, aft, gd⟩ (α := Unit) (fun _ => True) (fun _ => undef) (fun _ => h') := by
  refine ⟨fun u w s K Q H => ?_⟩
  have ho := rowE_ok s ha
  rcases row_form ho with ⟨rfl, rfl⟩ | ⟨g, cap, rfl⟩
  · simp at hlt
  · rw [ptrOf, addr_add, Nat.zero_add] at hx
    have hcell : w.cell? ⟨g, i, none⟩ = some xs[i] := (row_cell ho i hlt).trans (by simp [hlt])
    have hst := run_store1 (P := P) hcell (ho.frozenAt i) h1
    obtain ⟨hs1, hs2⟩ := ho.stored i y
    have s' : St w0 h' (w.setCell ⟨g, i, none⟩ y) := s.grown ha hs2 (.inl rfl) (by simpa using hs1)
    have hc : y.cells = #[y] := by cases y <;> first | rfl | (simp [one] at h1)
    have hsv : (storeVar tv ⟨g, i, none⟩ y).run P w = .ok () (w.setCell ⟨g, i, none⟩ y) := by
      cases hq : P.info? tv with
      | none => simp [hq] at hi
      | some inf =>
        have hsz : inf.size = 1 := by simpa [hq] using hi
        simp only [storeVar, sizeOf, typeInfo, Sem.run_bind, hc]
        have hp : (program : Sem Program).run P w = .ok P w := rfl
        simp [hp, hq, hsz, storeCells, Sem.run_bind, addr_add, hst]
    unfold Oper.wp
    rw [mk_eval]
    simp only [execOp, ev_evu hx u, ev_evu hz u, Instr.storeAt, Instr.sureAddr, Sem.run_bind, Sem.run_pure, Result.andThen_ok, hsv]
    exact H () _ trivial s'
/-- append(s, x..): s a row of the call's own; what is appended lies behind an address. -/
theorem Eff.appendV {t e : TypeId} {s x : Operand} {v z : Value} {xs ys : List Value} {a : Addr} {c bytes : Nat} (hs : ev n l s = some v) (hx : ev n l x = some (.slice (some a) ys.length c)) (ht : P.underlying t = some (.slice e)) (hinfo : (P.info? e).map (fun i => (i.zero, i.size, i.bytes)) = some (some z, 1, bytes)) (hz : z.cells.size = 1)
    (hys : ∀ w, St w0 h w → ∀ j u, ys[j]? = some u → w.cell? (a.add j) = some u) (h1 : ∀ y ∈ ys, one y = true) (hl : (xs.length + ys.length) * bytes ≤ 140737488355328) (hb : 0 < bytes) {h' : Value → Hp}
    (ha : ∀ v', At (rowE v e xs) (rowE v' e (xs ++ ys)) h (h' v')) : Eff P w0 n l h ⟨dst, .call { callee := .builtin .append, args := #[s, x], argTypes := #[t, t] }, ty, pos, aft, gd⟩ (fun _ => True) (fun v' => v') h' := by
  refine ⟨fun u w st K Q H => ?_⟩
  obtain ⟨i0, hi, hzz⟩ := Option.map_eq_some_iff.1 hinfo
  simp only [Prod.mk.injEq] at hzz
  obtain ⟨hz0, hz1, hz2⟩ := hzz
  have ho := rowE_ok st (ha v)
  have hlen : xs.length + ys.length ≤ 140737488355328 := Nat.le_trans (Nat.le_mul_of_pos_right _ hb) hl
  obtain ⟨v', w', hr, h2, h3, _, h5⟩ := run_append_own_at (P := P) (w := w) 0 t ty e i0 z 1 bytes ht hi hz0 hz1 hz2 hz (by omega) v xs.length xs ho a ys.length c ys (by simp) (hys w st)
    (fun y hy => by have := h1 y hy; cases y <;> simp [one] at this <;> rfl) (by simp only [maxLen]; omega) hl (Nat.zero_le _)
  unfold Oper.wp
  rw [mk_eval]
  have hm : (#[s, x] : Array Operand).map (evu n l u) = #[v, .slice (some a) ys.length c] := by simp [ev_evu hs u, ev_evu hx u]
  simp only [execOp, resolve, hm, Sem.run_bind, Sem.run_pure, Result.andThen_ok, invoke, builtin, hr]
  exact H v' w' trivial (st.grown (ha v') h3 h5 (by simpa using h2))
/-- make([]T, n) with a number that is known here. -/
theorem Eff.makeV {t e : TypeId} {x y : Operand} {kl kc : IntKind} {m : Nat} {z : Value} {bytes : Nat} (hx : ev n l x = some (.int kl m)) (hy : ev n l y = some (.int kc m)) (ht : P.underlying t = some (.slice e)) (hinfo : (P.info? e).map (fun i => (i.zero, i.size, i.bytes)) = some (some z, 1, bytes)) (hz : z.cells = #[z])
    (hb : bytes * m ≤ 281474976710656) (hm : m ≤ 9223372036854775807) : Eff P w0 n l h ⟨dst, .makeSlice t x y, ty, pos, aft, gd⟩ (α := Nat) (fun _ => True) (fun g => .slice (some ⟨g, 0, none⟩) m m) (fun g => rowE (.slice (some ⟨g, 0, none⟩) m m) e (List.replicate m z) :: h) := by
  refine ⟨fun u w st K Q H => ?_⟩
  obtain ⟨i0, hi, hzz⟩ := Option.map_eq_some_iff.1 hinfo
  simp only [Prod.mk.injEq] at hzz
  obtain ⟨hz0, hz1, hz2⟩ := hzz
  obtain ⟨w', hr, ho, hg⟩ := run_make_full (P := P) (w := w) 0 t e i0 z 1 ht hi hz0 hz1 kl kc m (by rw [hz2]; exact hb) (by simpa [maxLen] using hm) (Nat.zero_le _)
  rw [hz, Nat.mul_one, toList_madeCells_one] at ho
  unfold Oper.wp
  rw [mk_eval]
  simp only [execOp, ev_evu hx u, ev_evu hy u, Sem.run_bind, hr, Result.andThen_ok]
  refine H w.heap.size w' trivial (st.addNew ⟨hg.os, hg.tape, hg.output, hg.size, fun b hb => hg.block b hb (by simp)⟩ _ ?_ ?_)
  · show w'.ownsRow 0 e 1 _ (List.replicate m z).length _
    rw [List.length_replicate]; exact ho
  · intro b hb'
    have : Value.ownBlock (.slice (some ⟨w.heap.size, 0, none⟩) m m) = some b := hb'
    simp [Value.ownBlock] at this
    omega
end
/-! ### Strings -/
def S (l : List UInt8) : Value := .string ⟨l.toArray⟩
end Go.Fw
namespace Go.Fw
open Go Go.RowKit
section
variable {P : Program} {w0 : World} {n : Nat} {l : Env} {h h' : Hp} {dst : Option Tmp} {ty : TypeId} {pos : String} {aft : Array Edge} {gd : Option (Nat × Bool)}
variable {x y : Operand} {tx tyy t : TypeId} {a b : List UInt8} {c : Bool}
theorem Ev.lenS (hx : ev n l x = some (S a)) (hu : P.underlying t = some .string) : Ev P w0 n l h ⟨dst, .call { callee := .builtin .len, args := #[x], argTypes := #[t] }, ty, pos, aft, gd⟩ (.int .i64 a.length) := by
  refine ⟨fun u w s => ?_⟩
  simp [execOp, resolve, invoke, builtin, ev_evu hx u, Builtin.len_, run_underlying hu, goInt, S, ByteArray.size_mk']
theorem Ev.addS (hx : ev n l x = some (S a)) (hy : ev n l y = some (S b)) (hb : a.length + b.length ≤ 9223372036854775807) : Ev P w0 n l h ⟨dst, .binOp .add tx x y tyy, ty, pos, aft, gd⟩ (S (a ++ b)) := by
  refine ⟨fun u w s => ?_⟩
  have h1 : ¬ ((((ByteArray.mk a.toArray).size + (ByteArray.mk b.toArray).size : Nat) : Int) > IntKind.i64.max) := by
    simp [ByteArray.size, IntKind.max, IntKind.signed, IntKind.bits]; omega
  simp only [execOp, ev_evu hx u, ev_evu hy u, S, eqGuard, binOp, Op.stringOp, if_neg h1, ByteArray.mk_append_mk]
  simp
theorem Ev.eqlS (hx : ev n l x = some (S a)) (hy : ev n l y = some (S b)) (hr : decide (a = b) = c) : Ev P w0 n l h ⟨dst, .binOp .eql tx x y tyy, ty, pos, aft, gd⟩ (.bool c) := by
  refine ⟨fun u w s => ?_⟩
  have e : (a == b) = c := by rw [← hr]; by_cases hab : a = b <;> simp [hab]
  simp [execOp, ev_evu hx u, ev_evu hy u, S, eqGuard, binOp, Op.stringOp, e]
theorem Ev.neqS (hx : ev n l x = some (S a)) (hy : ev n l y = some (S b)) (hr : decide (a ≠ b) = c) : Ev P w0 n l h ⟨dst, .binOp .neq tx x y tyy, ty, pos, aft, gd⟩ (.bool c) := by
  refine ⟨fun u w s => ?_⟩
  have e : (!(a == b)) = c := by rw [← hr]; by_cases hab : a = b <;> simp [hab]
  simp [execOp, ev_evu hx u, ev_evu hy u, S, eqGuard, binOp, Op.stringOp, e]
theorem Ev.lssS (hx : ev n l x = some (S a)) (hy : ev n l y = some (S b)) (hr : Op.bytesLess a b = c) : Ev P w0 n l h ⟨dst, .binOp .lss tx x y tyy, ty, pos, aft, gd⟩ (.bool c) := by
  refine ⟨fun u w s => ?_⟩
  simp [execOp, ev_evu hx u, ev_evu hy u, S, eqGuard, binOp, Op.stringOp, hr]
theorem Ev.indexS {k : IntKind} {i : Int} {z : UInt8} (hx : ev n l x = some (S a)) (hy : ev n l y = some (.int k i)) (hu : P.underlying tx = some .string) (h0 : 0 ≤ i) (hz : a[i.toNat]? = some z) : Ev P w0 n l h ⟨dst, .index tx x y, ty, pos, aft, gd⟩ (B8 z) := by
  refine ⟨fun u w s => ?_⟩
  have hlt := (List.getElem?_eq_some_iff.1 hz).1
  have hg : (ByteArray.mk a.toArray)[i.toNat]? = some z := by
    rw [ByteArray.getElem?_lt' _ _ (by simpa [ByteArray.size] using hlt)]
    have := (List.getElem?_eq_some_iff.1 hz).2
    show some (a.toArray[i.toNat]'_) = some z
    simp [this]
  simp [execOp, ev_evu hx u, ev_evu hy u, S, Instr.index, asIntOf, run_underlying hu, h0, hg, B8]
theorem Ev.eqB {p q : Bool} {d : TypeDesc} (hx : ev n l x = some (.bool p)) (hy : ev n l y = some (.bool q)) (hu : P.underlying tx = some .bool) (hr : (p == q) = c) : Ev P w0 n l h ⟨dst, .binOp .eql tx x y tyy, ty, pos, aft, gd⟩ (.bool c) := by
  refine ⟨fun u w s => ?_⟩
  have hq : (binOp .eql tx (.bool p) (.bool q)).run P w = .ok (.bool c) w := by
    rw [run_eql_bool w tx p q hu, hr]
  simp [execOp, ev_evu hx u, ev_evu hy u, eqGuard, hq]
/-- s[i:], s[:j], s[i:j] of a string. -/
theorem Ev.sliceS {lo hi : Option Operand} {i j : Nat} (hx : ev n l x = some (S a)) (hu : P.underlying tx = some .string) (hlo : match lo with | none => i = 0 | some o => ∃ k, ev n l o = some (.int k i)) (hhi : match hi with | none => j = a.length | some o => ∃ k, ev n l o = some (.int k j)) (hij : i ≤ j) (hj : j ≤ a.length) {r : List UInt8} (hr : (a.drop i).take (j - i) = r) :
    Ev P w0 n l h ⟨dst, .slice tx x lo hi none, ty, pos, aft, gd⟩ (S r) := by
  refine ⟨fun u w s => ?_⟩
  have e1 : (ByteArray.mk a.toArray).size = a.length := by simp [ByteArray.size]
  cases lo with
  | none =>
    cases hi with
    | none =>
      have hi0 : i = 0 := hlo
      have hj0 : j = a.length := hhi
      subst hi0 hj0 hr
      simp [execOp, ev_evu hx u, S, Instr.sliceAt, Instr.slice, run_underlying hu, Instr.sliceBounds, e1, ByteArray.extract_mk]
    | some oh =>
      have hi0 : i = 0 := hlo
      obtain ⟨kh, hh⟩ := hhi
      subst hi0 hr
      simp [execOp, ev_evu hx u, ev_evu hh u, S, Instr.sliceAt, Instr.slice, run_underlying hu, Instr.sliceBounds, Instr.sliceBound, asIntOf, e1, hj, ByteArray.extract_mk]
  | some ol =>
    obtain ⟨kl, hl⟩ := hlo
    cases hi with
    | none =>
      have hj0 : j = a.length := hhi
      subst hj0 hr
      simp [execOp, ev_evu hx u, ev_evu hl u, S, Instr.sliceAt, Instr.slice, run_underlying hu, Instr.sliceBounds, Instr.sliceBound, asIntOf, e1, hij, ByteArray.extract_mk]
    | some oh =>
      obtain ⟨kh, hh⟩ := hhi
      subst hr
      simp [execOp, ev_evu hx u, ev_evu hl u, ev_evu hh u, S, Instr.sliceAt, Instr.slice, run_underlying hu, Instr.sliceBounds, Instr.sliceBound, asIntOf, e1, hij, hj, ByteArray.extract_mk]
/-- string(b), b bytes behind an address. -/
theorem Ev.strW {sr ds e : TypeId} {ad : Addr} {cap : Nat} (hx : ev n l x = some (.slice (some ad) a.length cap)) (hs : P.underlying sr = some (.slice e)) (he : P.underlying e = some (.int .u8)) (hd : P.underlying ds = some .string)
    (hc : ∀ w, St w0 h w → ∀ j (hj : j < a.length), w.cell? (ad.add j) = some (B8 a[j])) : Ev P w0 n l h ⟨dst, .convert sr ds x, ty, pos, aft, gd⟩ (S a) := by
  refine ⟨fun u w s => ?_⟩
  simp only [execOp, ev_evu hx u, Sem.run_bind, run_convert_bytes_back w sr ds e ad cap a hs he hd (hc w s), Result.andThen_ok, Sem.run_pure]
  rfl
theorem Ev.strV {sr ds e e' : TypeId} {v : Value} (hx : ev n l x = some v) (hs : P.underlying sr = some (.slice e)) (he : P.underlying e = some (.int .u8)) (hd : P.underlying ds = some .string) (ha : At (rowE v e' (a.map B8)) (rowE v e' (a.map B8)) h h) :
    Ev P w0 n l h ⟨dst, .convert sr ds x, ty, pos, aft, gd⟩ (S a) := by
  refine ⟨fun u w s => ?_⟩
  have ho := rowE_ok s ha
  rcases row_form ho with ⟨rfl, hn⟩ | ⟨g, cap, rfl⟩
  · have : a = [] := by simpa using hn
    subst this
    simp only [execOp, ev_evu hx u, Sem.run_bind, run_convert_bytes_nil w sr e hs he 0 0 ds hd, Result.andThen_ok, Sem.run_pure]
    rfl
  · rw [List.length_map] at hx ho
    have hc : ∀ j (hj : j < a.length), w.cell? ((⟨g, 0, none⟩ : Addr).add j) = some (.int .u8 (a[j].toNat : Int)) := fun j hj => by
      rw [addr_add, Nat.zero_add]
      have := row_cell (w := w) (g := g) (cap := cap) (e := e') (xs := a.map B8) (by simpa using ho) j (by simpa using hj)
      rw [this]
      simp [hj, B8]
    simp only [execOp, ev_evu hx u, Sem.run_bind, run_convert_bytes_back w sr ds e ⟨g, 0, none⟩ cap a hs he hd hc, Result.andThen_ok, Sem.run_pure]
    rfl
/-- A slice literal of one-cell elements. -/
theorem Eff.litV {e : TypeId} {m : Nat} {ps : Array (Nat × Operand)} {z : Value} {xs : List Value} (ht : P.underlying t = some (.slice e)) (hinfo : (P.info? e).map (fun i => (i.zero, i.size)) = some (some z, 1)) (hz : z.cells = #[z]) (hm : m ≤ 16777216) (hl : xs.length = m)
    (hf : ∀ u, Instr.fill (fun i => some (i * 1, 1)) ((Array.range (m * 1)).map (#[z][· % (#[z] : Array Value).size]!)) (ps.map fun (i, x) => (i, evu n l u x)).toList = some xs.toArray) (h0 : 0 < m) :
    Eff P w0 n l h ⟨dst, .buildSlice t m ps, ty, pos, aft, gd⟩ (α := Nat) (fun _ => True) (fun g => .slice (some ⟨g, 0, none⟩) m m) (fun g => rowE (.slice (some ⟨g, 0, none⟩) m m) e xs :: h) := by
  refine ⟨fun u w st K Q H => ?_⟩
  obtain ⟨i0, hi, hzz⟩ := Option.map_eq_some_iff.1 hinfo
  simp only [Prod.mk.injEq] at hzz
  obtain ⟨hz0, hz1⟩ := hzz
  have hp : (program : Sem Program).run P w = .ok P w := rfl
  have hrun : (Instr.buildSlice t m (ps.map fun (i, x) => (i, evu n l u x))).run P w = .ok (.slice (some ⟨w.heap.size, 0, none⟩) m m) (w.alloc (.cells xs.toArray e)) := by
    unfold Instr.buildSlice
    have hzr : (zeroValue e).run P w = .ok z w := by simp [zeroValue, typeInfo, hi, hz0]
    simp only [Sem.run_bind, run_underlying ht w, Result.andThen_ok, sizeOf, typeInfo, hp, hi, hz1, Sem.run_pure, Nat.mul_one, show ¬ m > 2 ^ 24 by omega, if_false, show ¬ m = 0 by omega, hzr, hz]
    have := hf u
    simp only [Nat.mul_one] at this
    simp only [this, Sem.run_bind, Sem.run_pure, Result.andThen_ok]
    rfl
  unfold Oper.wp
  rw [mk_eval]
  simp only [execOp, Sem.run_bind, hrun, Result.andThen_ok]
  refine H w.heap.size _ trivial (st.addNew (below_alloc w _) _ ?_ ?_)
  · have := World.ownsRow_lit (base := 0) (e := e) (size := 1) w xs.toArray m (Nat.zero_le _) (by simp only [maxLen]; omega) (by simp [hl])
    show (w.alloc (.cells xs.toArray e)).ownsRow 0 e 1 _ xs.length xs
    rw [hl]
    simpa using this
  · intro b hb'
    have : Value.ownBlock (.slice (some ⟨w.heap.size, 0, none⟩) m m) = some b := hb'
    simp [Value.ownBlock] at this
    omega
/-- What is read of memory that stood before the call. -/
theorem Ev.loadOld {tv : TypeId} {ad : Addr} {v : Value} {d : TypeDesc} (hx : ev n l x = some (.pointer (some ad))) (hu : P.underlying tv = some d) (hd : aggB d = false) (hc : w0.cell? ad = some v) : Ev P w0 n l h ⟨dst, .load tv x, ty, pos, aft, gd⟩ v :=
  Ev.load1w hx hu hd fun w s => (s.below.cell (World.block_lt_of_cell? w0 ad hc)).trans hc
theorem Ev.maxI {tys : Array TypeId} {p q : Int} (hx : ev n l x = some (.int .i64 p)) (hy : ev n l y = some (.int .i64 q)) : Ev P w0 n l h ⟨dst, .call { callee := .builtin .max, args := #[x, y], argTypes := tys }, ty, pos, aft, gd⟩ (.int .i64 (if q > p then q else p)) := by
  refine ⟨fun u w s => ?_⟩
  simp [execOp, resolve, invoke, builtin, ev_evu hx u, ev_evu hy u, Builtin.max_, Builtin.max2]
end
end Go.Fw
namespace Go.Fw
open Go Go.RowKit
/-! ### Numbers of 64 bits without a sign, as natural numbers -/
def D64 (m : Nat) : Value := .int .u64 (m : Int)
section
variable {P : Program} {w0 : World} {n : Nat} {l : Env} {h h' : Hp} {dst : Option Tmp} {ty : TypeId} {pos : String} {aft : Array Edge} {gd : Option (Nat × Bool)}
variable {x y : Operand} {tx tyy t : TypeId} {a b : Nat}
theorem Ev.addN (hx : ev n l x = some (D64 a)) (hy : ev n l y = some (D64 b)) (hb : a + b < 18446744073709551616) : Ev P w0 n l h ⟨dst, .binOp .add tx x y tyy, ty, pos, aft, gd⟩ (D64 (a + b)) :=
  Ev.add hx hy (by rw [← Int.natCast_add]; exact u64_in (by omega) (by omega))
theorem Ev.mulN (hx : ev n l x = some (D64 a)) (hy : ev n l y = some (D64 b)) (hb : a * b < 18446744073709551616) : Ev P w0 n l h ⟨dst, .binOp .mul tx x y tyy, ty, pos, aft, gd⟩ (D64 (a * b)) :=
  Ev.mul hx hy (by rw [← Int.natCast_mul]; exact u64_in (by omega) (by omega))
theorem Ev.remN (hx : ev n l x = some (D64 a)) (hy : ev n l y = some (D64 b)) (hb : 0 < b) : Ev P w0 n l h ⟨dst, .binOp .rem tx x y tyy, ty, pos, aft, gd⟩ (D64 (a % b)) :=
  Ev.rem hx hy (by omega) (by rw [tmod_nn (by omega), Int.natCast_emod])
theorem Ev.quoN (hx : ev n l x = some (D64 a)) (hy : ev n l y = some (D64 b)) (hb : 0 < b) (ha : a < 18446744073709551616) : Ev P w0 n l h ⟨dst, .binOp .quo tx x y tyy, ty, pos, aft, gd⟩ (D64 (a / b)) :=
  Ev.quo hx hy (by omega) (by rw [quo_u64 (by omega) (by omega) (by omega), Int.natCast_ediv])
theorem Ev.shrN {k' : IntKind} {m : Nat} (hx : ev n l x = some (D64 a)) (hy : ev n l y = some (.int k' m)) (hm : m ≤ 64) : Ev P w0 n l h ⟨dst, .binOp .shr tx x y tyy, ty, pos, aft, gd⟩ (D64 (a / 2 ^ m)) :=
  Ev.shr hx hy (by omega) (by
    rw [Int.fdiv_eq_ediv_of_nonneg _ (by exact Int.le_of_lt (Int.pow_pos (by omega)))]
    show ((a : Int) / 2 ^ (min m 64)) = _
    rw [Nat.min_eq_left hm, Int.natCast_ediv, Int.natCast_pow]; rfl)
theorem Ev.shlN {k' : IntKind} {m : Nat} (hx : ev n l x = some (D64 a)) (hy : ev n l y = some (.int k' m)) (hm : m ≤ 64) (hb : a * 2 ^ m < 18446744073709551616) : Ev P w0 n l h ⟨dst, .binOp .shl tx x y tyy, ty, pos, aft, gd⟩ (D64 (a * 2 ^ m)) :=
  Ev.shl hx hy (by omega) (by
    show IntKind.u64.wrap ((a : Int) * 2 ^ (min m 64)) = _
    rw [Nat.min_eq_left hm, show (a : Int) * 2 ^ m = ((a * 2 ^ m : Nat) : Int) by rw [Int.natCast_mul, Int.natCast_pow]; rfl]
    exact u64_in (by omega) (by omega))
theorem ofInt64 (m : Nat) : BitVec.ofInt 64 (m : Int) = BitVec.ofNat 64 m := by
  apply BitVec.eq_of_toNat_eq
  rw [BitVec.toNat_ofInt, BitVec.toNat_ofNat]
  omega
theorem Ev.orN (hx : ev n l x = some (D64 a)) (hy : ev n l y = some (D64 b)) (ha : a < 18446744073709551616) (hb : b < 18446744073709551616) : Ev P w0 n l h ⟨dst, .binOp .or tx x y tyy, ty, pos, aft, gd⟩ (D64 (a ||| b)) :=
  Ev.or hx hy (by
    show IntKind.u64.wrap ((BitVec.ofInt 64 _ ||| BitVec.ofInt 64 _).toNat : Int) = _
    rw [ofInt64, ofInt64, BitVec.toNat_or, BitVec.toNat_ofNat, BitVec.toNat_ofNat, Nat.mod_eq_of_lt ha, Nat.mod_eq_of_lt hb]
    have : a ||| b < 2 ^ 64 := Nat.or_lt_two_pow ha hb
    exact u64_in (by omega) (by omega))
theorem Ev.convN {k : IntKind} {z : Int} {d : TypeDesc} (hx : ev n l x = some (.int k z)) (hs : P.underlying tx = some d) (hd : P.underlying tyy = some (.int .u64)) {m : Nat} (hz : z = m) (hb : m < 18446744073709551616) : Ev P w0 n l h ⟨dst, .convert tx tyy x, ty, pos, aft, gd⟩ (D64 m) :=
  Ev.conv hx hs hd (by rw [hz]; exact u64_in (by omega) (by omega))
theorem Ev.convNB {d : TypeDesc} (hx : ev n l x = some (D64 a)) (hs : P.underlying tx = some d) (hd : P.underlying tyy = some (.int .u8)) : Ev P w0 n l h ⟨dst, .convert tx tyy x, ty, pos, aft, gd⟩ (B8 (UInt8.ofNat a)) :=
  Ev.conv hx hs hd (by rw [u8_wrap, UInt8.toNat_ofNat']; omega)
theorem Ev.convNU {d : TypeDesc} (hx : ev n l x = some (D64 a)) (hs : P.underlying tx = some d) (hd : P.underlying tyy = some (.int .u32)) : Ev P w0 n l h ⟨dst, .convert tx tyy x, ty, pos, aft, gd⟩ (U (BitVec.ofNat 32 a)) :=
  Ev.conv hx hs hd (by rw [u32_wrap, BitVec.toNat_ofNat]; omega)
end
/-! ### Rows of such numbers -/
def digs (m : Nat) (D : Nat → Nat) : List Value := (List.range m).map fun i => D64 (D i)
theorem digs_len (m : Nat) (D : Nat → Nat) : (digs m D).length = m := by simp [digs]
theorem digs_get {m i : Nat} (D : Nat → Nat) (h : i < m) : (digs m D)[i]? = some (D64 (D i)) := by simp [digs, h]
theorem digs_set (m : Nat) (D : Nat → Nat) (o v : Nat) : (digs m D).set o (D64 v) = digs m (fun i => if i = o then v else D i) := by
  apply List.ext_getElem?
  intro i
  rw [List.getElem?_set]
  by_cases ho : o = i
  · subst ho
    by_cases hm : o < m
    · simp only [if_true, digs_len, hm]
      rw [digs_get _ hm, if_pos rfl]
    · rw [digs_len]; simp [hm, digs]
  · rw [if_neg ho]
    by_cases hm : i < m
    · rw [digs_get _ hm, digs_get _ hm, if_neg (fun e => ho e.symm)]
    · simp [digs, hm]
theorem digs_zero (m : Nat) : List.replicate m (D64 0) = digs m (fun _ => 0) := by
  apply List.ext_getElem?
  intro i
  by_cases hm : i < m
  · rw [digs_get _ hm]; simp [hm]
  · simp [digs, hm]
theorem rowE_fp {g a c b : Nat} {e : TypeId} {xs : List Value} (hb : (rowE (.slice (some ⟨g, 0, none⟩) a c) e xs).fp b) : b = g := by
  have : Value.ownBlock (.slice (some ⟨g, 0, none⟩) a c) = some b := hb
  simp [Value.ownBlock] at this
  exact this.symm
theorem rowE_fp' {v : Value} {b : Nat} {e : TypeId} {xs : List Value} (hb : (rowE v e xs).fp b) : v.ownBlock = some b := hb
theorem rowE_mk {v : Value} {w : World} {e : TypeId} {xs : List Value} (h : w.ownsRow 0 e 1 v xs.length xs) : (rowE v e xs).ok w := h
theorem rowE_own {w0 w : World} {h : Hp} {g a c : Nat} {e : TypeId} {xs : List Value} (s : St w0 h w) (hm : rowE (.slice (some ⟨g, 0, none⟩) a c) e xs ∈ h) : w0.heap.size ≤ g := s.own _ hm rfl g rfl
theorem rowE_nil (w : World) (e : TypeId) : (rowE (.slice none 0 0) e []).ok w := by
  show w.ownsRow 0 e 1 (.slice none 0 0) 0 []
  exact World.ownsRow_nil w 0 e 1
/-- An empty row that nothing holds. -/
theorem St.addNil {w0 : World} {h : Hp} {w : World} (s : St w0 h w) (e : TypeId) : St w0 (rowE (.slice none 0 0) e [] :: h) w :=
  s.addNew (Below.refl _ _) _ (rowE_nil w e) fun b hb => by
    have : Value.ownBlock (.slice none 0 0) = some b := hb
    simp [Value.ownBlock] at this
attribute [irreducible] rowE
end Go.Fw
namespace Go.Fw
open Go Go.RowKit
/-! ### Rows told by a function of the place -/
def rng (m : Nat) (F : Nat → Value) : List Value := (List.range m).map F
theorem rng_len (m : Nat) (F : Nat → Value) : (rng m F).length = m := by simp [rng]
theorem rng_get {m i : Nat} (F : Nat → Value) (h : i < m) : (rng m F)[i]? = some (F i) := by simp [rng, h]
theorem rng_congr {m : Nat} {F G : Nat → Value} (h : ∀ i, i < m → F i = G i) : rng m F = rng m G := List.map_congr_left fun i hi => h i (List.mem_range.1 hi)
theorem rng_set (m : Nat) (F : Nat → Value) (o : Nat) (v : Value) : (rng m F).set o v = rng m (upd F o v) := by
  apply List.ext_getElem?
  intro i
  rw [List.getElem?_set]
  by_cases ho : o = i
  · subst ho
    by_cases hm : o < m
    · simp only [if_true, rng_len, hm]
      rw [rng_get _ hm, upd_same]
    · rw [rng_len]; simp [hm, rng]
  · rw [if_neg ho]
    by_cases hm : i < m
    · rw [rng_get _ hm, rng_get _ hm, upd_ne _ _ (fun e => ho e.symm)]
    · simp [rng, hm]
theorem rng_rep (m : Nat) (z : Value) : List.replicate m z = rng m (fun _ => z) := by
  apply List.ext_getElem?
  intro i
  by_cases hm : i < m
  · rw [rng_get _ hm]; simp [hm]
  · simp [rng, hm]
section
variable {P : Program} {w0 : World} {n : Nat} {l : Env} {h h' : Hp} {dst : Option Tmp} {ty : TypeId} {pos : String} {aft : Array Edge} {gd : Option (Nat × Bool)}
variable {x y : Operand} {tx tyy : TypeId}
theorem Ev.quoB {c : UInt8} {b : Nat} (hx : ev n l x = some (B8 c)) (hy : ev n l y = some (.int .u8 b)) (hb : 0 < b) : Ev P w0 n l h ⟨dst, .binOp .quo tx x y tyy, ty, pos, aft, gd⟩ (.int .u8 ((c.toNat / b : Nat) : Int)) :=
  Ev.quo hx hy (by omega) (by have := c.toNat_lt; rw [quo_u8 (by omega) (by omega) (by omega), Int.natCast_ediv])
theorem Ev.remB {c : UInt8} {b : Nat} (hx : ev n l x = some (B8 c)) (hy : ev n l y = some (.int .u8 b)) (hb : 0 < b) : Ev P w0 n l h ⟨dst, .binOp .rem tx x y tyy, ty, pos, aft, gd⟩ (.int .u8 ((c.toNat % b : Nat) : Int)) :=
  Ev.rem hx hy (by omega) (by rw [tmod_nn (by omega), Int.natCast_emod])
theorem Ev.convUN {a : BitVec 32} {d : TypeDesc} (hx : ev n l x = some (U a)) (hs : P.underlying tx = some d) (hd : P.underlying tyy = some (.int .u64)) : Ev P w0 n l h ⟨dst, .convert tx tyy x, ty, pos, aft, gd⟩ (D64 a.toNat) :=
  Ev.conv hx hs hd (by have := a.isLt; exact u64_in (by omega) (by omega))
end
end Go.Fw
namespace Go.Fw
open Go Go.RowKit
section
variable {P : Program} {w0 : World} {n : Nat} {l : Env} {h h' : Hp} {dst : Option Tmp} {ty : TypeId} {pos : String} {aft : Array Edge} {gd : Option (Nat × Bool)}
variable {x lo hi : Operand} {tx : TypeId} {a : List UInt8} {k : IntKind} {i j : Nat}
theorem Ev.sliceFrom (hx : ev n l x = some (S a)) (hu : P.underlying tx = some .string) (hlo : ev n l lo = some (.int k i)) (hi : i ≤ a.length) : Ev P w0 n l h ⟨dst, .slice tx x (some lo) none none, ty, pos, aft, gd⟩ (S (a.drop i)) :=
  Ev.sliceS (lo := some lo) (hi := none) (i := i) (j := a.length) hx hu ⟨k, hlo⟩ rfl hi (Nat.le_refl _) (List.take_of_length_le (by simp))
theorem Ev.sliceTo (hx : ev n l x = some (S a)) (hu : P.underlying tx = some .string) (hhi : ev n l hi = some (.int k j)) (hj : j ≤ a.length) : Ev P w0 n l h ⟨dst, .slice tx x none (some hi) none, ty, pos, aft, gd⟩ (S (a.take j)) :=
  Ev.sliceS (lo := none) (hi := some hi) (i := 0) (j := j) hx hu rfl ⟨k, hhi⟩ (Nat.zero_le _) hj (by simp)
end
end Go.Fw
