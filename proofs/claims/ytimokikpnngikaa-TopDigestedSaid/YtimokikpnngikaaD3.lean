/- Plain facts for TopDigested: blocks, digests, bytes. No Go here. -/
import Derived.Test.YtimokikpnngikaaD1
import Derived.Test.YtimokikpnngikaaD2
import Derived.Test.YtimokikpnngikaaFr
namespace Go.Dig
/-! ### bytes of a number, digits of bytes, filling up -/
def laidL (n w : Nat) : List UInt8 := (List.range w).map fun i => UInt8.ofNat (n / 256 ^ (w - 1 - i))
theorem laidL_len (n w : Nat) : (laidL n w).length = w := by simp [laidL]
def hexDigits : List UInt8 := [48, 49, 50, 51, 52, 53, 54, 55, 56, 57, 97, 98, 99, 100, 101, 102]
def hx (d : Nat) : List UInt8 := (hexDigits.drop d).take 1
theorem hx_len (d : Nat) (h : d < 16) : (hx d).length = 1 := by
  simp [hx, hexDigits]; omega
def hexL (l : List UInt8) : List UInt8 := l.flatMap fun c => hx (c.toNat / 16) ++ hx (c.toNat % 16)
theorem hexL_snoc (l : List UInt8) (c : UInt8) : hexL (l ++ [c]) = hexL l ++ (hx (c.toNat / 16) ++ hx (c.toNat % 16)) := by simp [hexL]
theorem hexL_len (l : List UInt8) : (hexL l).length = 2 * l.length := by
  induction l with
  | nil => rfl
  | cons c r ih =>
    have h1 := hx_len (c.toNat / 16) (by have := c.toNat_lt; omega)
    have h2 := hx_len (c.toNat % 16) (by omega)
    rw [show hexL (c :: r) = (hx (c.toNat / 16) ++ hx (c.toNat % 16)) ++ hexL r by simp [hexL], List.length_append, List.length_append, h1, h2, ih, List.length_cons]
    omega
/-- How many noughts. -/
def zc (n : Nat) : Nat := (119 - n % 64) % 64
def padL (l : List UInt8) : List UInt8 := l ++ [128] ++ List.replicate (zc l.length) 0 ++ laidL (l.length * 8) 8
theorem padL_len (l : List UInt8) : (padL l).length % 64 = 0 ∧ 64 ≤ (padL l).length ∧ (padL l).length = l.length + 9 + zc l.length := by
  have : (padL l).length = l.length + 9 + zc l.length := by simp [padL, laidL_len]; omega
  refine ⟨?_, ?_, this⟩ <;> rw [this] <;> unfold zc <;> omega
/-! ### a block -/
def byteAt (l : List UInt8) (i : Nat) : UInt8 := l.getD i 0
/-- The first j bytes of word i. -/
def wp (l : List UInt8) (i : Nat) : Nat → BitVec 32
  | 0 => 0
  | j + 1 => wp l i j * 256 + BitVec.ofNat 32 (byteAt l (4 * i + j)).toNat
def w0 (l : List UInt8) (i : Nat) : BitVec 32 := wp l i 4
def nxt (l : List (BitVec 32)) : BitVec 32 := mixP 17 19 10 (l.getD 1 0) + l.getD 6 0 + mixP 7 18 3 (l.getD 14 0) + l.getD 15 0
/-- The words, the newest first. -/
def wrev (f : Nat → BitVec 32) : Nat → List (BitVec 32)
  | 0 => (List.range 16).map fun j => f (15 - j)
  | k + 1 => nxt (wrev f k) :: wrev f k
def W (f : Nat → BitVec 32) (t : Nat) : BitVec 32 := if t < 16 then f t else (wrev f (t - 15)).getD 0 0
theorem wrev_get (f : Nat → BitVec 32) : ∀ k j, j < 16 + k → (wrev f k).getD j 0 = W f (15 + k - j)
  | 0, j, h => by
    have h' : j < 16 := by omega
    unfold wrev W
    rw [if_pos (by omega)]
    rw [List.getD_eq_getElem?_getD]
    simp [h']
  | k + 1, 0, _ => by
    unfold W
    rw [if_neg (by omega), show 15 + (k + 1) - 0 - 15 = k + 1 by omega]
  | k + 1, j + 1, h => by
    rw [show 15 + (k + 1) - (j + 1) = 15 + k - j by omega, ← wrev_get f k j (by omega)]
    rfl
theorem W_rec (f : Nat → BitVec 32) (t : Nat) (h : 16 ≤ t) : W f t = mixP 17 19 10 (W f (t - 2)) + W f (t - 7) + mixP 7 18 3 (W f (t - 15)) + W f (t - 16) := by
  obtain ⟨k, rfl⟩ : ∃ k, t = 16 + k := ⟨t - 16, by omega⟩
  have hl : W f (16 + k) = nxt (wrev f k) := by
    unfold W
    rw [if_neg (by omega), show 16 + k - 15 = k + 1 by omega]
    rfl
  rw [hl]
  unfold nxt
  rw [wrev_get f k 1 (by omega), wrev_get f k 6 (by omega), wrev_get f k 14 (by omega), wrev_get f k 15 (by omega)]
  rw [show 15 + k - 1 = 16 + k - 2 by omega, show 15 + k - 6 = 16 + k - 7 by omega, show 15 + k - 14 = 16 + k - 15 by omega, show 15 + k - 15 = 16 + k - 16 by omega]
theorem W_low (f : Nat → BitVec 32) (t : Nat) (h : t < 16) : W f t = f t := by simp [W, h]
def sum1 (k w : BitVec 32) (x : Nat → BitVec 32) : BitVec 32 := x 7 + mixT 6 11 25 (x 4) + chW (x 4) (x 5) (x 6) + k + w
def rnd (k w : BitVec 32) (x : Nat → BitVec 32) (i : Nat) : BitVec 32 :=
  if i = 0 then sum1 k w x + mixT 2 13 22 (x 0) + mjW (x 0) (x 1) (x 2) else if i = 4 then x 3 + sum1 k w x else x (i - 1)
def rounds (K f h : Nat → BitVec 32) : Nat → Nat → BitVec 32
  | 0 => h
  | t + 1 => rnd (K t) (W f t) (rounds K f h t)
def blkT (t : Nat) (K h : Nat → BitVec 32) (l : List UInt8) (i : Nat) : BitVec 32 := rounds K (w0 l) h t i + h i
def blk (K h : Nat → BitVec 32) (l : List UInt8) : Nat → BitVec 32 := blkT 64 K h l
/-! ### a digest: m blocks -/
def dig (K : Nat → BitVec 32) : Nat → (Nat → BitVec 32) → List UInt8 → Nat → BitVec 32
  | 0, h, _ => h
  | m + 1, h, l => dig K m (blk K h l) (l.drop 64)
def digest (K h : Nat → BitVec 32) (l : List UInt8) : Nat → BitVec 32 := dig K ((padL l).length / 64) h (padL l)
/-- Eight numbers as bytes. -/
def out8 (x : Nat → BitVec 32) : List UInt8 := (List.range 8).flatMap fun i => laidL (x i).toNat 4
def sumL (l : List UInt8) : List UInt8 := out8 (digest kT hT l)
theorem out8_len (x : Nat → BitVec 32) : (out8 x).length = 32 := by simp [out8, laidL_len, List.range_succ]
theorem byteAt_drop (l : List UInt8) (n i : Nat) : byteAt (l.drop n) i = byteAt l (n + i) := by
  simp [byteAt, List.getD_eq_getElem?_getD]
theorem blkT_congr (t : Nat) {K h h' : Nat → BitVec 32} {l l' : List UInt8} (hl : ∀ i, i < 64 → byteAt l i = byteAt l' i) (hh : h = h') : blkT t K h l = blkT t K h' l' := by
  subst hh
  have hw : ∀ i, i < 16 → w0 l i = w0 l' i := by
    intro i hi
    unfold w0
    simp only [wp]
    rw [hl (4 * i + 0) (by omega), hl (4 * i + 1) (by omega), hl (4 * i + 2) (by omega), hl (4 * i + 3) (by omega)]
  have hr : ∀ k, wrev (w0 l) k = wrev (w0 l') k := by
    intro k
    induction k with
    | zero =>
      unfold wrev
      apply List.map_congr_left
      intro j hj
      exact hw _ (by omega)
    | succ k ih => unfold wrev; rw [ih]
  have hW : ∀ t, W (w0 l) t = W (w0 l') t := by
    intro t
    unfold W
    split
    · rename_i h; exact hw t h
    · rw [hr]
  have hR : ∀ t, rounds K (w0 l) h t = rounds K (w0 l') h t := by
    intro t
    induction t with
    | zero => simp only [rounds]
    | succ t ih => simp only [rounds]; rw [ih, hW]
  funext i
  unfold blkT
  rw [hR]
theorem blk_congr {K h h' : Nat → BitVec 32} {l l' : List UInt8} (hl : ∀ i, i < 64 → byteAt l i = byteAt l' i) (hh : h = h') : blk K h l = blk K h' l' := blkT_congr 64 hl hh
end Go.Dig
namespace Go.Dig
open Go Go.Fw
/-! ### the constants, written out -/
def kLit : List Nat := [0x428a2f98, 0x71374491, 0xb5c0fbcf, 0xe9b5dba5, 0x3956c25b, 0x59f111f1, 0x923f82a4, 0xab1c5ed5, 0xd807aa98, 0x12835b01, 0x243185be, 0x550c7dc3, 0x72be5d74, 0x80deb1fe, 0x9bdc06a7, 0xc19bf174, 0xe49b69c1, 0xefbe4786, 0x0fc19dc6, 0x240ca1cc, 0x2de92c6f, 0x4a7484aa, 0x5cb0a9dc, 0x76f988da, 0x983e5152, 0xa831c66d, 0xb00327c8, 0xbf597fc7, 0xc6e00bf3, 0xd5a79147, 0x06ca6351, 0x14292967, 0x27b70a85, 0x2e1b2138, 0x4d2c6dfc, 0x53380d13, 0x650a7354, 0x766a0abb, 0x81c2c92e, 0x92722c85, 0xa2bfe8a1, 0xa81a664b, 0xc24b8b70, 0xc76c51a3, 0xd192e819, 0xd6990624, 0xf40e3585, 0x106aa070, 0x19a4c116, 0x1e376c08, 0x2748774c, 0x34b0bcb5, 0x391c0cb3, 0x4ed8aa4a, 0x5b9cca4f, 0x682e6ff3, 0x748f82ee, 0x78a5636f, 0x84c87814, 0x8cc70208, 0x90befffa, 0xa4506ceb, 0xbef9a3f7, 0xc67178f2]
def hLit : List Nat := [0x6a09e667, 0xbb67ae85, 0x3c6ef372, 0xa54ff53a, 0x510e527f, 0x9b05688c, 0x1f83d9ab, 0x5be0cd19]
def kC (i : Nat) : BitVec 32 := BitVec.ofNat 32 (kLit.getD i 0)
def hC (i : Nat) : BitVec 32 := BitVec.ofNat 32 (hLit.getD i 0)
theorem kT_eq : ∀ i, i < 64 → kT i = kC i := by decide +kernel
theorem hT_eq : ∀ i, i < 8 → hT i = hC i := by decide +kernel
/-! ### the loop of the bytes of a number -/
def laidTo (n w k i : Nat) : Value := if k ≤ i then B8 (UInt8.ofNat (n / 256 ^ (w - 1 - i))) else B8 0
theorem laidTo_start (n w : Nat) : rng w (fun _ => B8 0) = rng w (laidTo n w w) := rng_congr fun i hi => by simp [laidTo]; omega
theorem laidTo_step (n w k : Nat) (hk : k < w) : upd (laidTo n w (k + 1)) k (B8 (UInt8.ofNat (n / 256 ^ (w - 1 - k)))) = laidTo n w k := by
  funext i
  unfold upd laidTo
  by_cases h1 : i = k
  · subst h1; simp
  · rw [if_neg h1]
    by_cases h2 : k ≤ i
    · rw [if_pos h2, if_pos (by omega)]
    · rw [if_neg h2, if_neg (by omega)]
theorem laidTo_all (n w : Nat) : rng w (laidTo n w 0) = (laidL n w).map B8 := by simp [rng, laidL, laidTo]
theorem div_step (n w k : Nat) (hk : k < w) : n / 256 ^ (w - (k + 1)) / 256 = n / 256 ^ (w - k) := by
  rw [Nat.div_div_eq_div_mul, ← Nat.pow_succ, show (w - (k + 1)).succ = w - k by omega]
/-! ### the loop of the words of a block -/
theorem hexL_take (l : List UInt8) (k : Nat) (h : k < l.length) : hexL (l.take (k + 1)) = hexL (l.take k) ++ (hx (l[k].toNat / 16) ++ hx (l[k].toNat % 16)) := by
  rw [List.take_succ_eq_append_getElem h, hexL_snoc]
end Go.Dig
namespace Go.Dig
open Go Go.Fw
theorem byteAt_get {l : List UInt8} {n : Nat} (h : n < l.length) : l[n]? = some (byteAt l n) := by
  simp [byteAt, List.getD_eq_getElem?_getD, h]
def addTo (X H : Nat → BitVec 32) (k i : Nat) : Value := if i < k then U (X i + H i) else U (X i)
theorem addTo_zero (X H : Nat → BitVec 32) : addTo X H 0 = fun i => U (X i) := by funext i; simp [addTo]
theorem addTo_one (X H : Nat → BitVec 32) (k i : Nat) : one (addTo X H k i) = true := by unfold addTo; split <;> rfl
theorem addTo_step (X H : Nat → BitVec 32) (k : Nat) : upd (addTo X H k) k (U (X k + H k)) = addTo X H (k + 1) := by
  funext i
  unfold upd addTo
  by_cases h1 : i = k
  · subst h1; simp
  · rw [if_neg h1]
    by_cases h2 : i < k
    · rw [if_pos h2, if_pos (by omega)]
    · rw [if_neg h2, if_neg (by omega)]
theorem addTo_at (X H : Nat → BitVec 32) (k : Nat) : addTo X H k k = U (X k) := by simp [addTo]
theorem addTo_all (K H : Nat → BitVec 32) (l : List UInt8) : arr 8 (addTo (rounds K (w0 l) H 64) H 8) = arr 8 (fun i => U (blk K H l i)) := arr_congr fun i hi => by
  rw [addTo, if_pos hi]; rfl
end Go.Dig
