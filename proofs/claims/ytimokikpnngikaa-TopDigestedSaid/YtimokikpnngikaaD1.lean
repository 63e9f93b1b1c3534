/- Plain facts for TopDigested: bits and words. No Go here. -/
import Derived.Test.YtimokikpnngikaaFm
namespace Go.Dig
open Go Go.Fw
/-! ### bits -/
def bi (b : Bool) : Int := if b then 1 else 0
theorem bi_bd (b : Bool) : 0 ≤ bi b ∧ bi b ≤ 1 := by cases b <;> simp [bi]
def bitOf (f : Nat → Bool) (i : Nat) : Value := .int .i64 (bi (f i))
/-- The first k bits, noughts behind. -/
def bitsTo (f : Nat → Bool) (k : Nat) (i : Nat) : Value := if i < k then bitOf f i else .int .i64 0
theorem bitsTo_one (f : Nat → Bool) (k : Nat) (i : Nat) : one (bitsTo f k i) = true := by unfold bitsTo; split <;> rfl
theorem bitsTo_zero (f : Nat → Bool) : bitsTo f 0 = fun _ => .int .i64 0 := by funext i; simp [bitsTo]
theorem bitsTo_t (f : Nat → Bool) (k : Nat) (v : Value) (h : v = bitOf f k) : upd (bitsTo f k) k v = bitsTo f (k + 1) := by
  subst h
  funext i
  unfold upd bitsTo
  by_cases h1 : i = k
  · subst h1; simp
  · rw [if_neg h1]
    by_cases h2 : i < k
    · rw [if_pos h2, if_pos (by omega)]
    · rw [if_neg h2, if_neg (by omega)]
theorem bitsTo_f (f : Nat → Bool) (k : Nat) (h : f k = false) : bitsTo f k = bitsTo f (k + 1) := by
  funext i
  unfold bitsTo
  by_cases h1 : i = k
  · subst h1; simp [bitOf, h, bi]
  · by_cases h2 : i < k
    · rw [if_pos h2, if_pos (by omega)]
    · rw [if_neg h2, if_neg (by omega)]
theorem bitsTo_all (f : Nat → Bool) : arr 32 (bitsTo f 32) = arr 32 (bitOf f) := arr_congr fun i h => by simp [bitsTo, h]
theorem bit_one (x : BitVec 32) (i : Nat) : (((x >>> i) &&& 1).toNat : Int) = bi (x.getLsbD i) := by
  have h : (x >>> i) &&& 1 = if x.getLsbD i then 1#32 else 0#32 := by
    apply BitVec.eq_of_getLsbD_eq
    intro j hj
    rw [BitVec.getLsbD_and, BitVec.getLsbD_ushiftRight]
    by_cases h0 : j = 0
    · subst h0; cases h : x.getLsbD i <;> simp
    · have : (1 : BitVec 32).getLsbD j = false := by
        show (1#32).getLsbD j = false
        rw [BitVec.getLsbD_one]; simp [h0]
      rw [this]; split <;> simp [h0]
  rw [h]
  cases x.getLsbD i <;> rfl
/-! ### a word out of bits -/
def wTo (f : Nat → Bool) : Nat → BitVec 32
  | 0 => 0
  | k + 1 => wTo f k ||| ((if f k then 1#32 else 0#32) <<< k)
theorem wTo_bit (f : Nat → Bool) (i : Nat) (hi : i < 32) : ∀ k, (wTo f k).getLsbD i = (decide (i < k) && f i)
  | 0 => by simp [wTo]
  | k + 1 => by
    rw [wTo, BitVec.getLsbD_or, wTo_bit f i hi k, BitVec.getLsbD_shiftLeft]
    by_cases h1 : i < k
    · simp [h1, Nat.lt_succ_of_lt h1]
    · by_cases h2 : i = k
      · subst h2
        cases h : f i <;> simp [hi]
      · have h3 : ¬ i < k + 1 := by omega
        have h4 : ¬ i - k = 0 := by omega
        cases f k <;> simp [h1, h3, h4]
def wordOf (f : Nat → Bool) : BitVec 32 := wTo f 32
theorem wordOf_bit (f : Nat → Bool) (i : Nat) (hi : i < 32) : (wordOf f).getLsbD i = f i := by
  unfold wordOf; rw [wTo_bit f i hi]; simp [hi]
theorem wordOf_eq (f : Nat → Bool) (x : BitVec 32) (h : ∀ i, i < 32 → f i = x.getLsbD i) : wordOf f = x := by
  apply BitVec.eq_of_getLsbD_eq
  intro i hi
  rw [wordOf_bit f i hi, h i hi]
def rotr (x : BitVec 32) (a : Nat) : BitVec 32 := (x >>> a) ||| (x <<< (32 - a))
theorem rotr_bit (x : BitVec 32) (a i : Nat) (ha : a ≤ 32) (hi : i < 32) : (rotr x a).getLsbD i = x.getLsbD ((i + a) % 32) := by
  unfold rotr
  rw [BitVec.getLsbD_or, BitVec.getLsbD_ushiftRight, BitVec.getLsbD_shiftLeft]
  by_cases h : i + a < 32
  · rw [Nat.mod_eq_of_lt h, show a + i = i + a by omega]
    have : i < 32 - a := by omega
    simp [this]
  · have h1 : (i + a) % 32 = i + a - 32 := by
      rw [Nat.mod_eq_sub_mod (by omega), Nat.mod_eq_of_lt (by omega)]
    rw [h1, BitVec.getLsbD_of_ge x (a + i) (by omega), show i - (32 - a) = i + a - 32 by omega]
    have : ¬ i < 32 - a := by omega
    simp [hi, this]
/-- The mixes. -/
def mixT (a b c : Nat) (x : BitVec 32) : BitVec 32 := rotr x a ^^^ rotr x b ^^^ rotr x c
def mixP (a b c : Nat) (x : BitVec 32) : BitVec 32 := rotr x a ^^^ rotr x b ^^^ (x >>> c)
def xT (x : BitVec 32) (a b c i : Nat) : Bool := Bool.xor (Bool.xor (x.getLsbD ((i + a) % 32)) (x.getLsbD ((i + b) % 32))) (x.getLsbD ((i + c) % 32))
def xP (x : BitVec 32) (a b c i : Nat) : Bool := Bool.xor (Bool.xor (x.getLsbD ((i + a) % 32)) (x.getLsbD ((i + b) % 32))) (x.getLsbD (i + c))
theorem word_xT (x : BitVec 32) (a b c : Nat) (ha : a ≤ 32) (hb : b ≤ 32) (hc : c ≤ 32) : wordOf (xT x a b c) = mixT a b c x :=
  wordOf_eq _ _ fun i hi => by
    unfold mixT xT
    rw [BitVec.getLsbD_xor, BitVec.getLsbD_xor, rotr_bit x a i ha hi, rotr_bit x b i hb hi, rotr_bit x c i hc hi]
theorem word_xP (x : BitVec 32) (a b c : Nat) (ha : a ≤ 32) (hb : b ≤ 32) : wordOf (xP x a b c) = mixP a b c x :=
  wordOf_eq _ _ fun i hi => by
    unfold mixP xP
    rw [BitVec.getLsbD_xor, BitVec.getLsbD_xor, rotr_bit x a i ha hi, rotr_bit x b i hb hi, BitVec.getLsbD_ushiftRight, Nat.add_comm c i]
theorem xor2 (a b : Bool) : (bi a + bi b) % 2 = bi (Bool.xor a b) := by cases a <;> cases b <;> rfl
theorem xor3 (a b c : Bool) : (bi a + bi b + bi c) % 2 = bi (Bool.xor (Bool.xor a b) c) := by cases a <;> cases b <;> cases c <;> rfl
/-! ### choosing -/
def chB (a b c : BitVec 32) (i : Nat) : Bool := if a.getLsbD i then b.getLsbD i else c.getLsbD i
def mjB (a b c : BitVec 32) (i : Nat) : Bool := decide (1 < bi (a.getLsbD i) + bi (b.getLsbD i) + bi (c.getLsbD i))
def chW (e f g : BitVec 32) : BitVec 32 := g ^^^ (e &&& (f ^^^ g))
def mjW (a b c : BitVec 32) : BitVec 32 := (a &&& c) ||| (b &&& (a ||| c))
theorem word_ch (a b c : BitVec 32) : wordOf (chB a b c) = chW a b c :=
  wordOf_eq _ _ fun i hi => by
    unfold chW chB
    simp only [BitVec.getLsbD_xor, BitVec.getLsbD_and]
    cases a.getLsbD i <;> cases b.getLsbD i <;> cases c.getLsbD i <;> rfl
theorem word_mj (a b c : BitVec 32) : wordOf (mjB a b c) = mjW a b c :=
  wordOf_eq _ _ fun i hi => by
    unfold mjW mjB
    simp only [BitVec.getLsbD_or, BitVec.getLsbD_and]
    cases a.getLsbD i <;> cases b.getLsbD i <;> cases c.getLsbD i <;> rfl
end Go.Dig
