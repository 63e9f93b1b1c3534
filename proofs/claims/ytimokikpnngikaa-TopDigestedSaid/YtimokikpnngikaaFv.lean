/- Arguments opened: slices of bytes, arrays of integers, strings. -/
import Derived.Test.YtimokikpnngikaaFu
import Derived.ProofKit
import Derived.OpenShut
import Derived.ChangeOld
set_option linter.unusedVariables false
set_option linter.unusedSimpArgs false
namespace Go.Fw
open Go Go.RowKit Go.WideShapes Go.ChangeShapes Go.ChangeAt
section
variable {H : Type} {enc : TypeId × Value → H} {P : Program} {W : World} {base b0 : Nat} {sp : Nat → Bool} {hd : Bool} {r : Reach}
theorem has_lt {a : Addr} {e : TypeId} {n : Nat} (h : W.has P r b0 a e n) : a.block < W.heap.size := by
  obtain ⟨_, _, row, cs, hs, _⟩ := h
  rcases Nat.lt_or_ge a.block W.heap.size with h' | h'
  · exact h'
  · simp [World.shape?, Array.getElem?_eq_none h'] at hs
theorem open_bytes {t e : TypeId} {v : Value} {d : DataW H} {ps : List MemPlace} (ht : P.underlying t = some (.slice e)) (he : P.underlying e = some (.int .u8)) (hc : P.cellsOf e = 1) (hok : Value.okWide P W r b0 t v) (h : DataW.Trod enc P W base sp hd t v d ps) :
    ∃ bs : List UInt8, rdOk v (bs.map B8) W := by
  obtain ⟨fuel, hf⟩ := h
  obtain ⟨a0, len, cap, rfl⟩ := okWide_slice ht hok
  rcases open_ints ht he hc hf with ⟨hcs, _⟩ | ⟨x, l, c, zs, hcs, _, hl, hm, hz, _, hcell, hwz⟩
  · simp [Value.cells] at hcs
    obtain ⟨rfl, rfl, rfl⟩ := hcs
    exact ⟨[], .inl ⟨rfl, rfl⟩⟩
  · simp [Value.cells] at hcs
    obtain ⟨rfl, rfl, rfl⟩ := hcs
    have hlt : x.block < W.heap.size := by
      simp only [Value.okWide, ht, Cell.okWide, Cell.ok] at hok
      exact has_lt hok.2.2
    have hzl : len ≤ zs.length := by rw [hz]; split <;> omega
    refine ⟨(zs.take len).map fun n => UInt8.ofNat n.toNat, .inr ⟨x, cap, by simp [Nat.min_eq_left hzl], hlt, fun i y hy => ?_⟩⟩
    have hi := (List.getElem?_eq_some_iff.1 hy).1
    simp only [List.length_map, List.length_take] at hi
    have hi2 : i < zs.length := by omega
    rw [hcell i hi2]
    have hwf := bounds_u8 (hwz _ (List.getElem_mem hi2))
    rw [List.getElem?_map, List.getElem?_map, List.getElem?_take_of_lt (by omega), List.getElem?_eq_getElem hi2] at hy
    simp only [Option.map_some, Option.some.injEq] at hy
    rw [← hy, List.getD_eq_getElem?_getD, List.getElem?_eq_getElem hi2]
    show some (Value.int .u8 zs[i]) = some (Value.int .u8 ((UInt8.ofNat zs[i].toNat).toNat : Int))
    rw [UInt8.toNat_ofNat']
    congr 2
    omega
theorem open_arr {t e : TypeId} {N : Nat} {k : IntKind} {v : Value} {d : DataW H} {ps : List MemPlace} (ht : P.underlying t = some (.array N e)) (he : P.underlying e = some (.int k)) (hc : P.cellsOf e = 1) (hct : P.cellsOf t = N) (hok : Value.okWide P W r b0 t v) (h : DataW.Trod enc P W base sp hd t v d ps) :
    ∃ f : Nat → Int, v = .agg (arr N fun i => .int k (f i)) ∧ ∀ i, i < N → (Lit.int k (f i)).wf = true := by
  obtain ⟨fuel, hf⟩ := h
  simp only [Value.okWide, ht] at hok
  obtain ⟨cs, rfl, hsz, _⟩ := hok
  obtain ⟨xs, m, _, _, hlen, hxs, hel⟩ := DataW.trod_array ht hf
  have hcl : cs.toList.length = N := by rw [← hct]; simpa [Value.cells] using hlen
  have each : ∀ i, i < N → ∃ n, cs.toList[i]? = some (.int k n) ∧ (Lit.int k n).wf = true := by
    intro i hi
    have h1 := hel i hi
    rw [hc, Nat.mul_one, List.getElem?_eq_getElem (by omega)] at h1
    obtain ⟨n, hn, _, hw⟩ := DataW.trod_int he h1
    refine ⟨n, ?_, hw⟩
    have h2 : ((cs.toList.drop i).take 1)[0]? = some (.int k n) := by
      have hn' : (cs.toList.drop i).take 1 = [.int k n] := hn
      rw [hn']; rfl
    rw [List.getElem?_take_of_lt (by decide), List.getElem?_drop] at h2
    simpa using h2
  refine ⟨fun i => match cs.toList[i]? with | some (.int _ n) => n | _ => 0, ?_, ?_⟩
  · congr 1
    apply Array.ext_getElem?
    intro i
    by_cases hi : i < N
    · obtain ⟨n, hn, _⟩ := each i hi
      rw [arr_get _ hi, ← Array.getElem?_toList, hn]
      dsimp only
      rw [hn]
    · rw [Array.getElem?_eq_none (by rw [← Array.length_toList]; omega), Array.getElem?_eq_none (by rw [arr_size]; omega)]
  · intro i hi
    obtain ⟨n, hn, hw⟩ := each i hi
    dsimp only
    rw [hn]; exact hw
theorem open_arrU {t e : TypeId} {N : Nat} {v : Value} {d : DataW H} {ps : List MemPlace} (ht : P.underlying t = some (.array N e)) (he : P.underlying e = some (.int .u32)) (hc : P.cellsOf e = 1) (hct : P.cellsOf t = N) (hok : Value.okWide P W r b0 t v) (h : DataW.Trod enc P W base sp hd t v d ps) :
    ∃ f : Nat → BitVec 32, v = .agg (arr N fun i => U (f i)) := by
  obtain ⟨f, rfl, hw⟩ := open_arr ht he hc hct hok h
  refine ⟨fun i => BitVec.ofInt 32 (f i), ?_⟩
  rw [arr_congr fun i hi => ?_]
  have := bounds_u32 (hw i hi)
  show Value.int .u32 (f i) = Value.int .u32 ((BitVec.ofInt 32 (f i)).toNat : Int)
  rw [BitVec.toNat_ofInt]
  congr 1
  omega
theorem open_arrB {t e : TypeId} {N : Nat} {v : Value} {d : DataW H} {ps : List MemPlace} (ht : P.underlying t = some (.array N e)) (he : P.underlying e = some (.int .u8)) (hc : P.cellsOf e = 1) (hct : P.cellsOf t = N) (hok : Value.okWide P W r b0 t v) (h : DataW.Trod enc P W base sp hd t v d ps) :
    ∃ l : List UInt8, l.length = N ∧ v = .agg (arr N fun i => B8 (l.getD i 0)) := by
  obtain ⟨f, rfl, hw⟩ := open_arr ht he hc hct hok h
  refine ⟨(List.range N).map fun i => UInt8.ofNat (f i).toNat, by simp, ?_⟩
  rw [arr_congr fun i hi => ?_]
  have := bounds_u8 (hw i hi)
  have e1 : ((List.range N).map fun i => UInt8.ofNat (f i).toNat).getD i 0 = UInt8.ofNat (f i).toNat := by simp [List.getD_eq_getElem?_getD, hi]
  rw [e1]
  show Value.int .u8 (f i) = Value.int .u8 ((UInt8.ofNat (f i).toNat).toNat : Int)
  rw [UInt8.toNat_ofNat']
  congr 1
  omega
end
theorem string_S (s : ByteArray) : Value.string s = S s.data.toList := by
  unfold S
  cases s
  simp
end Go.Fw
