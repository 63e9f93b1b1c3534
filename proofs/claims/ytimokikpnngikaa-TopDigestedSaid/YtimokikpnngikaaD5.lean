/- Plain facts for TopDigested: the block as sha does it, in rows that turn. No Go here. -/
import Derived.Test.YtimokikpnngikaaD4
namespace Go.Dig
open Go Go.Fw
/-! ### and with seven -/
theorem and7 (a : Int) : IntKind.i64.wrap (BitVec.ofInt 64 a &&& BitVec.ofInt 64 7).toNat = a % 8 := by
  have h1 : (BitVec.ofInt 64 7).toNat = 2 ^ 3 - 1 := rfl
  rw [BitVec.toNat_and, h1, Nat.and_two_pow_sub_one_eq_mod, BitVec.toNat_ofInt]
  rw [i64_in (by omega) (by omega)]
  omega
/-! ### words out of bytes -/
theorem shl8_or (v : BitVec 32) (b : UInt8) : v * 256 + BitVec.ofNat 32 b.toNat = (v <<< 8) ||| BitVec.ofNat 32 b.toNat := by
  have hb := b.toNat_lt
  have h1 : v * 256 = v <<< 8 := by
    rw [BitVec.shiftLeft_eq_mul_twoPow]; rfl
  rw [h1, BitVec.add_eq_or_of_and_eq_zero]
  apply BitVec.eq_of_getLsbD_eq
  intro i hi
  rw [BitVec.getLsbD_and, BitVec.getLsbD_shiftLeft, BitVec.getLsbD_ofNat]
  by_cases h : i < 8
  · simp [h]
  · rw [Nat.testBit_lt_two_pow (Nat.lt_of_lt_of_le (show b.toNat < 2 ^ 8 from hb) (Nat.pow_le_pow_right (by decide) (by omega)))]
    simp
theorem w0_or (l : List UInt8) (i : Nat) : w0 l i = (BitVec.ofNat 32 (byteAt l (4 * i)).toNat <<< 24 ||| BitVec.ofNat 32 (byteAt l (4 * i + 1)).toNat <<< 16 ||| BitVec.ofNat 32 (byteAt l (4 * i + 2)).toNat <<< 8 ||| BitVec.ofNat 32 (byteAt l (4 * i + 3)).toNat) := by
  have h : w0 l i = ((((0#32 <<< 8 ||| BitVec.ofNat 32 (byteAt l (4 * i)).toNat) <<< 8 ||| BitVec.ofNat 32 (byteAt l (4 * i + 1)).toNat) <<< 8 ||| BitVec.ofNat 32 (byteAt l (4 * i + 2)).toNat) <<< 8 ||| BitVec.ofNat 32 (byteAt l (4 * i + 3)).toNat) := by
    rw [← shl8_or, ← shl8_or, ← shl8_or, ← shl8_or]
    rfl
  rw [h]
  generalize BitVec.ofNat 32 (byteAt l (4 * i)).toNat = a
  generalize BitVec.ofNat 32 (byteAt l (4 * i + 1)).toNat = b
  generalize BitVec.ofNat 32 (byteAt l (4 * i + 2)).toNat = c
  generalize BitVec.ofNat 32 (byteAt l (4 * i + 3)).toNat = d
  rw [BitVec.zero_shiftLeft, BitVec.zero_or, BitVec.shiftLeft_or_distrib, BitVec.shiftLeft_or_distrib, BitVec.shiftLeft_or_distrib, ← BitVec.shiftLeft_add, ← BitVec.shiftLeft_add, ← BitVec.shiftLeft_add]
/-! ### the row of sixteen words -/
def widx (t p : Nat) : Nat := max t 16 - 1 - ((max t 16 - 1 - p) % 16)
theorem widx_lo (t p : Nat) (h : t ≤ 16) (hp : p < 16) : widx t p = p := by unfold widx; omega
theorem widx_at (t d : Nat) (h : 16 ≤ t) (h1 : 1 ≤ d) (h2 : d ≤ 16) : widx t ((t - d) % 16) = t - d := by
  unfold widx
  rw [show max t 16 = t by omega]
  omega
theorem widx_step (t p : Nat) (h : 16 ≤ t) (hp : p < 16) : widx (t + 1) p = if p = t % 16 then t else widx t p := by
  unfold widx
  rw [show max t 16 = t by omega, show max (t + 1) 16 = t + 1 by omega]
  by_cases h1 : p = t % 16
  · rw [if_pos h1]; subst h1; omega
  · rw [if_neg h1]; omega
def wrow (f : Nat → BitVec 32) (t p : Nat) : Value := U (W f (widx t p))
theorem wrow_16 (f : Nat → BitVec 32) (t : Nat) (h : t ≤ 16) : arr 16 (fillTo (fun i => U (f i)) (U 0) 16) = arr 16 (wrow f t) := arr_congr fun i hi => by
  rw [fillTo_lt _ _ hi, wrow, widx_lo t i h hi, W_low f i hi]
theorem wrow_lo (f : Nat → BitVec 32) (t : Nat) (h : t < 16) : arr 16 (wrow f t) = arr 16 (wrow f (t + 1)) := arr_congr fun i hi => by
  unfold wrow
  rw [widx_lo t i (by omega) hi, widx_lo (t + 1) i (by omega) hi]
theorem wrow_step (f : Nat → BitVec 32) (t : Nat) (h : 16 ≤ t) (z : BitVec 32) (hz : z = W f t) : arr 16 (upd (wrow f t) (t % 16) (U z)) = arr 16 (wrow f (t + 1)) := arr_congr fun i hi => by
  subst hz
  unfold upd wrow
  rw [widx_step t i h hi]
  split <;> rfl
theorem wrow_old (f : Nat → BitVec 32) (t d : Nat) (h : 16 ≤ t) (h1 : 1 ≤ d) (h2 : d ≤ 16) : wrow f t ((t - d) % 16) = U (W f (t - d)) := by
  unfold wrow; rw [widx_at t d h h1 h2]
theorem wrow_16old (f : Nat → BitVec 32) (t : Nat) (h : 16 ≤ t) : wrow f t (t % 16) = U (W f (t - 16)) := by
  have := wrow_old f t 16 h (by decide) (by decide)
  rwa [show (t - 16) % 16 = t % 16 by omega] at this
theorem wrow_new (f : Nat → BitVec 32) (t : Nat) (h : t < 16) : wrow f t (t % 16) = U (W f t) := by
  unfold wrow; rw [Nat.mod_eq_of_lt h, widx_lo t t (by omega) h]
theorem W_rec' (f : Nat → BitVec 32) (t : Nat) (h : 16 ≤ t) : W f (t - 16) + (mixP 17 19 10 (W f (t - 2)) + W f (t - 7) + mixP 7 18 3 (W f (t - 15))) = W f t := by
  rw [W_rec f t h, BitVec.add_comm]
/-! ### the eight that turn -/
def xrow (X : Nat → BitVec 32) (t p : Nat) : Value := U (X ((p + t) % 8))
def px (c t : Nat) : Nat := (c + 7 * t) % 8
theorem px_lt (c t : Nat) : px c t < 8 := Nat.mod_lt _ (by decide)
theorem xrow_at (X : Nat → BitVec 32) (c t : Nat) (hc : c < 8) : xrow X t (px c t) = U (X c) := by
  unfold xrow px
  rw [show ((c + 7 * t) % 8 + t) % 8 = c by omega]
theorem px_int (c t : Nat) : 0 + (((c : Int) - (t : Int)) % 8).toNat = px c t := by unfold px; omega
theorem px_neg (t : Nat) : 0 + ((-(t : Int)) % 8).toNat = px 0 t := by unfold px; omega
theorem xrow_step (X : Nat → BitVec 32) (k w : BitVec 32) (t : Nat) : arr 8 (upd (upd (xrow X t) (px 3 t) (U (X 3 + sum1 k w X))) (px 7 t) (U (sum1 k w X + mixT 2 13 22 (X 0) + mjW (X 0) (X 1) (X 2)))) = arr 8 (xrow (rnd k w X) (t + 1)) := arr_congr fun p hp => by
  unfold upd xrow px
  by_cases h1 : p = (7 + 7 * t) % 8
  · rw [if_pos h1, show (p + (t + 1)) % 8 = 0 by omega]; rfl
  · rw [if_neg h1]
    by_cases h2 : p = (3 + 7 * t) % 8
    · rw [if_pos h2, show (p + (t + 1)) % 8 = 4 by omega]; rfl
    · rw [if_neg h2]
      obtain ⟨q, hq⟩ : ∃ q, (p + t) % 8 = q := ⟨_, rfl⟩
      rw [hq, show (p + (t + 1)) % 8 = q + 1 by omega]
      unfold rnd
      rw [if_neg (by omega), if_neg (by omega)]
      rfl
theorem xrow_zero (X : Nat → BitVec 32) : arr 8 (fun i => U (X i)) = arr 8 (xrow X 0) := arr_congr fun p hp => by
  unfold xrow; rw [Nat.add_zero, Nat.mod_eq_of_lt hp]
theorem xrow_64 (X : Nat → BitVec 32) : arr 8 (xrow X 64) = arr 8 (fun i => U (X i)) := arr_congr fun p hp => by
  unfold xrow; rw [show (p + 64) % 8 = p by omega]
theorem addTo_all' (K H : Nat → BitVec 32) (l : List UInt8) : arr 8 (addTo H (rounds K (w0 l) H 64) 8) = arr 8 (fun i => U (blk K H l i)) := arr_congr fun i hi => by
  rw [addTo, if_pos hi, BitVec.add_comm]; rfl
end Go.Dig
namespace Go.Dig
open Go Go.Fw
/-! ### bytes out of eight words -/
theorem out8_map (x : Nat → BitVec 32) : out8 x = (List.range 32).map fun p => UInt8.ofNat ((x (p / 4)).toNat / 256 ^ (3 - p % 4)) := rfl
theorem out8_byte (x : Nat → BitVec 32) (i j : Nat) (hi : i < 8) (hj : j < 4) : byteAt (out8 x) (4 * i + j) = UInt8.ofNat ((x i).toNat / 256 ^ (3 - j)) := by
  rw [out8_map]
  have h : 4 * i + j < 32 := by omega
  simp [byteAt, List.getD_eq_getElem?_getD, h]
  rw [show (4 * i + j) / 4 = i by omega, show j % 4 = j by omega]
theorem shr_byte (x : BitVec 32) (j : Nat) (hj : j < 4) : (x >>> ((24 : Int) - 8 * (j : Int)).toNat).toNat = x.toNat / 256 ^ (3 - j) := by
  rw [BitVec.toNat_ushiftRight, Nat.shiftRight_eq_div_pow, show ((24 : Int) - 8 * (j : Int)).toNat = 8 * (3 - j) by omega, pow_256]
theorem fillTo_ovl (G : Nat → Value) (z : Value) (n : Nat) (ys : List Value) (h : ∀ (i : Nat) (y : Value), ys[i]? = some y → y = G (n + i)) : ovl (fillTo G z n) n ys = fillTo G z (n + ys.length) := by
  funext i
  unfold ovl fillTo
  by_cases h1 : n ≤ i ∧ i < n + ys.length
  · rw [if_pos h1, if_pos h1.2]
    have h2 : i - n < ys.length := by omega
    rw [List.getD_eq_getElem?_getD, List.getElem?_eq_getElem h2]
    show ys[i - n] = G i
    rw [h (i - n) _ (List.getElem?_eq_getElem h2), show n + (i - n) = i by omega]
  · rw [if_neg h1]
    by_cases h2 : i < n
    · rw [if_pos h2, if_pos (by omega)]
    · rw [if_neg h2, if_neg (by omega)]
/-! ### digits -/
def dgt (d : Nat) : UInt8 := byteAt hexDigits d
theorem hx_dgt : ∀ d, d < 16 → hx d = [dgt d] := by decide
theorem hexL_cons (c : UInt8) (r : List UInt8) : hexL (c :: r) = dgt (c.toNat / 16) :: dgt (c.toNat % 16) :: hexL r := by
  have h := c.toNat_lt
  rw [show hexL (c :: r) = (hx (c.toNat / 16) ++ hx (c.toNat % 16)) ++ hexL r by simp [hexL], hx_dgt _ (by omega), hx_dgt _ (by omega)]
  rfl
theorem byteAt_zero (c : UInt8) (r : List UInt8) : byteAt (c :: r) 0 = c := rfl
theorem byteAt_succ (c : UInt8) (r : List UInt8) (i : Nat) : byteAt (c :: r) (i + 1) = byteAt r i := rfl
theorem hexL_byte : ∀ (l : List UInt8) (k : Nat), k < l.length → byteAt (hexL l) (2 * k) = dgt ((byteAt l k).toNat / 16) ∧ byteAt (hexL l) (2 * k + 1) = dgt ((byteAt l k).toNat % 16)
  | [], k, h => by simp at h
  | c :: r, 0, _ => by rw [hexL_cons]; exact ⟨rfl, rfl⟩
  | c :: r, k + 1, h => by
    have := hexL_byte r k (by simpa using h)
    rw [hexL_cons, show 2 * (k + 1) = 2 * k + 1 + 1 by omega, byteAt_succ, byteAt_succ, byteAt_succ, byteAt_succ, byteAt_succ]
    exact this
theorem bytes_of (l : List UInt8) (n : Nat) (h : l.length = n) : (List.range n).map (byteAt l) = l := by
  apply List.ext_getElem?
  intro i
  by_cases hi : i < n
  · simp [hi, byteAt, List.getD_eq_getElem?_getD, show i < l.length by omega]
  · rw [List.getElem?_eq_none (by simp; omega), List.getElem?_eq_none (by omega)]
end Go.Dig
namespace Go.Dig
open Go Go.Fw
/-! ### order -/
theorem bytesLess_self : ∀ l, Op.bytesLess l l = false
  | [] => rfl
  | a :: r => by
    unfold Op.bytesLess
    rw [bytesLess_self r]
    simp
theorem bytesLess_at : ∀ (l m : List UInt8) (k : Nat), k < l.length → k < m.length → (∀ i, i < k → byteAt l i = byteAt m i) → byteAt l k ≠ byteAt m k → Op.bytesLess l m = decide (((byteAt l k).toNat : Int) < ((byteAt m k).toNat : Int))
  | [], _, k, h, _, _, _ => by simp at h
  | _ :: _, [], k, _, h, _, _ => by simp at h
  | a :: r, b :: s, 0, _, _, _, hne => by
    unfold Op.bytesLess
    have hne' : a ≠ b := hne
    have : (a == b) = false := by simpa using hne'
    rw [this, Bool.false_and, Bool.or_false]
    show decide (a < b) = decide ((a.toNat : Int) < (b.toNat : Int))
    exact decide_eq_decide.2 (by
      rw [UInt8.lt_iff_toNat_lt]
      omega)
  | a :: r, b :: s, k + 1, h1, h2, hs, hne => by
    have h0 : a = b := hs 0 (by omega)
    subst h0
    have ih := bytesLess_at r s k (by simpa using h1) (by simpa using h2) (fun i hi => hs (i + 1) (by omega)) hne
    unfold Op.bytesLess
    rw [ih, byteAt_succ, byteAt_succ]
    simp
end Go.Dig
