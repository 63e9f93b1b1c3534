/- Plain facts for TopDigested: digests block after block. No Go here. -/
import Derived.Test.YtimokikpnngikaaD3
import Derived.Test.YtimokikpnngikaaFs
namespace Go.Dig
open Go Go.Fw
theorem dig_succ (K : Nat → BitVec 32) : ∀ (k : Nat) (h : Nat → BitVec 32) (l : List UInt8), dig K (k + 1) h l = blk K (dig K k h l) (l.drop (64 * k))
  | 0, h, l => rfl
  | k + 1, h, l => by
    rw [show dig K (k + 1 + 1) h l = dig K (k + 1) (blk K h l) (l.drop 64) from rfl, dig_succ K k]
    rw [List.drop_drop, show 64 + 64 * k = 64 * (k + 1) by omega]
    rfl
/-- The first k of the eight numbers. -/
def out8k (x : Nat → BitVec 32) (k : Nat) : List UInt8 := (List.range k).flatMap fun i => laidL (x i).toNat 4
theorem out8k_succ (x : Nat → BitVec 32) (k : Nat) : out8k x (k + 1) = out8k x k ++ laidL (x k).toNat 4 := by
  simp [out8k, List.range_succ]
theorem out8k_len (x : Nat → BitVec 32) (k : Nat) : (out8k x k).length = 4 * k := by
  induction k with
  | zero => rfl
  | succ k ih => rw [out8k_succ, List.length_append, ih, laidL_len]; omega
/-! ### bytes laid behind a row -/
def layF (xs : List Value) (m j i : Nat) : Value := if i < xs.length then xs.getD i undef else if i < xs.length + j then B8 (UInt8.ofNat (m / 256 ^ (7 - (i - xs.length)))) else B8 0
theorem layF_zero (xs : List Value) (m : Nat) : ovl (fun _ => B8 0) 0 xs = layF xs m 0 := by
  funext i
  unfold ovl layF
  by_cases h : i < xs.length
  · rw [if_pos (by omega), if_pos h, Nat.sub_zero]
  · rw [if_neg (by omega), if_neg h, if_neg (by omega)]
theorem layF_step (xs : List Value) (m j : Nat) (z : Value) (hz : z = B8 (UInt8.ofNat (m / 256 ^ (7 - j)))) : upd (layF xs m j) (xs.length + j) z = layF xs m (j + 1) := by
  subst hz
  funext i
  unfold upd layF
  by_cases h : i = xs.length + j
  · subst h
    rw [if_pos rfl, if_neg (by omega), if_pos (by omega), Nat.add_sub_cancel_left]
  · rw [if_neg h]
    by_cases h1 : i < xs.length
    · rw [if_pos h1, if_pos h1]
    · rw [if_neg h1, if_neg h1]
      by_cases h2 : i < xs.length + j
      · rw [if_pos h2, if_pos (by omega)]
      · rw [if_neg h2, if_neg (by omega)]
theorem pow_256 (k : Nat) : 2 ^ (8 * k) = 256 ^ k := by rw [Nat.pow_mul]
theorem layF_get (xs : List Value) (m i : Nat) (y : Value) (h : (xs ++ (laidL m 8).map B8)[i]? = some y) : (arr (xs.length + 8) (layF xs m 8))[0 + i]? = some y := by
  have hi := (List.getElem?_eq_some_iff.1 h).1
  simp only [List.length_append, List.length_map, laidL_len] at hi
  rw [Nat.zero_add, arr_get _ hi]
  unfold layF
  by_cases h1 : i < xs.length
  · rw [List.getElem?_append_left h1] at h
    rw [if_pos h1, List.getD_eq_getElem?_getD, h]; rfl
  · rw [List.getElem?_append_right (by omega)] at h
    rw [if_neg h1, if_pos (by omega), ← h]
    simp [laidL, show i - xs.length < 8 by omega]
theorem ovl_get (N : Nat) (F : Nat → Value) (xs ys : List Value) (i : Nat) (y : Value) (hN : xs.length + ys.length ≤ N) (hx : ∀ (i : Nat) (y : Value), xs[i]? = some y → (arr N F)[i]? = some y) (h : (xs ++ ys)[i]? = some y) : (arr N (ovl F xs.length ys))[i]? = some y := by
  have hi := (List.getElem?_eq_some_iff.1 h).1
  rw [List.length_append] at hi
  rw [arr_get _ (by omega)]
  unfold ovl
  by_cases h1 : i < xs.length
  · rw [if_neg (by omega)]
    rw [List.getElem?_append_left h1] at h
    have := hx i y h
    rwa [arr_get _ (by omega)] at this
  · rw [if_pos (by omega), List.getD_eq_getElem?_getD]
    rw [List.getElem?_append_right (by omega)] at h
    rw [h]; rfl
end Go.Dig
