/- Plain facts for TopDigested: reading digits. No Go here. -/
import Derived.Test.YtimokikpnngikaaD5
import Derived.Test.YtimokikpnngikaaFt
namespace Go.Dig
open Go Go.Fw
def hexOk (c : UInt8) : Bool := (decide (48 ≤ c.toNat) && decide (c.toNat ≤ 57)) || (decide (97 ≤ c.toNat) && decide (c.toNat ≤ 102))
def hv (c : UInt8) : Nat := if c.toNat ≤ 57 then c.toNat - 48 else c.toNat - 87
theorem hexOk_digit {c : UInt8} (h1 : 48 ≤ c.toNat) (h2 : c.toNat ≤ 57) : hexOk c = true ∧ hv c = c.toNat - 48 ∧ hv c < 16 := by
  unfold hexOk hv; rw [if_pos h2]; simp [h1, h2]; omega
theorem hexOk_letter {c : UInt8} (h1 : 97 ≤ c.toNat) (h2 : c.toNat ≤ 102) : hexOk c = true ∧ hv c = c.toNat - 87 ∧ hv c < 16 := by
  unfold hexOk hv; rw [if_neg (by omega)]; simp [h1, h2]; omega
theorem hexOk_none {c : UInt8} (h1 : ¬ (48 ≤ c.toNat ∧ c.toNat ≤ 57)) (h2 : ¬ (97 ≤ c.toNat ∧ c.toNat ≤ 102)) : hexOk c = false := by
  unfold hexOk
  by_cases a : 48 ≤ c.toNat <;> by_cases b : c.toNat ≤ 57 <;> by_cases d : 97 ≤ c.toNat <;> by_cases e : c.toNat ≤ 102 <;> simp_all
theorem hv_lt {c : UInt8} (h : hexOk c = true) : hv c < 16 := by
  by_cases h1 : 48 ≤ c.toNat ∧ c.toNat ≤ 57
  · exact (hexOk_digit h1.1 h1.2).2.2
  · by_cases h2 : 97 ≤ c.toNat ∧ c.toNat ≤ 102
    · exact (hexOk_letter h2.1 h2.2).2.2
    · rw [hexOk_none h1 h2] at h; exact absurd h (by decide)
/-- The bytes read from the first k digits. -/
def wantB (s : List UInt8) (k i : Nat) : UInt8 := if 2 * i + 1 < k then UInt8.ofNat (hv (byteAt s (2 * i)) * 16 + hv (byteAt s (2 * i + 1))) else if 2 * i < k then UInt8.ofNat (hv (byteAt s (2 * i))) else 0
theorem wantB_zero (s : List UInt8) : (fun i => B8 (wantB s 0 i)) = fun _ => B8 0 := by
  funext i
  unfold wantB
  rw [if_neg (by omega), if_neg (by omega)]
theorem wantB_step (s : List UInt8) (k : Nat) (hk : ∀ i, i < k → hexOk (byteAt s i) = true) : upd (fun i => B8 (wantB s k i)) (k / 2) (B8 (UInt8.ofNat ((wantB s k (k / 2)).toNat * 16 + hv (byteAt s k)))) = fun i => B8 (wantB s (k + 1) i) := by
  funext i
  unfold upd
  by_cases h : i = k / 2
  · subst h
    rw [if_pos rfl]
    congr 1
    unfold wantB
    by_cases he : k % 2 = 0
    · rw [if_neg (by omega), if_neg (by omega), if_neg (by omega), if_pos (by omega), show 2 * (k / 2) = k by omega]
      congr 1
      show 0 * 16 + _ = _
      omega
    · rw [if_neg (by omega), if_pos (by omega), if_pos (by omega), show 2 * (k / 2) + 1 = k by omega]
      have h1 := hv_lt (hk (2 * (k / 2)) (by omega))
      rw [UInt8.toNat_ofNat', Nat.mod_eq_of_lt (by omega)]
  · rw [if_neg h]
    show B8 (wantB s k i) = B8 (wantB s (k + 1) i)
    unfold wantB
    by_cases h1 : 2 * i + 1 < k
    · rw [if_pos h1, if_pos (by omega)]
    · rw [if_neg h1]
      by_cases h2 : 2 * i < k
      · exact absurd (show i = k / 2 by omega) h
      · rw [if_neg h2, if_neg (by omega), if_neg (by omega)]
def parsed (s : List UInt8) : Bool := decide (s.length = 64) && (List.range 64).all fun i => hexOk (byteAt s i)
theorem parsed_len {s : List UInt8} (h : s.length ≠ 64) : parsed s = false := by simp [parsed, h]
theorem parsed_at {s : List UInt8} {k : Nat} (hk : k < 64) (h : hexOk (byteAt s k) = false) : parsed s = false := by
  unfold parsed
  have : ((List.range 64).all fun i => hexOk (byteAt s i)) = false := by
    rw [List.all_eq_false]
    exact ⟨k, List.mem_range.2 hk, by simp [h]⟩
  rw [this, Bool.and_false]
theorem parsed_all {s : List UInt8} (h : s.length = 64) (ha : ∀ i, i < 64 → hexOk (byteAt s i) = true) : parsed s = true := by
  unfold parsed
  rw [decide_eq_true h, Bool.true_and, List.all_eq_true]
  exact fun i hi => ha i (List.mem_range.1 hi)
theorem or16a : ∀ c : Fin 256, ∀ d : Fin 16, (BitVec.ofNat 8 (c.val * 16 % 256) ||| BitVec.ofNat 8 d.val).toNat = (c.val * 16 + d.val) % 256 := by decide +kernel
theorem or16 (c : UInt8) (d : Nat) (hd : d < 16) : IntKind.u8.wrap (BitVec.ofInt 8 ((c.toNat * 16 % 256 : Nat) : Int) ||| BitVec.ofInt 8 (d : Int)).toNat = ((UInt8.ofNat (c.toNat * 16 + d)).toNat : Int) := by
  have h := or16a ⟨c.toNat, c.toNat_lt⟩ ⟨d, hd⟩
  rw [BitVec.ofInt_natCast, BitVec.ofInt_natCast, h, UInt8.toNat_ofNat', u8_wrap]
  dsimp only
  omega
theorem rune_of (s : List UInt8) (k : Nat) (hk : k < s.length) : ((dec s k).1 < 128 → dec s k = ((byteAt s k).toNat, 1)) ∧ (128 ≤ (dec s k).1 → hexOk (byteAt s k) = false) := by
  have hb : byteAt s k = s[k] := by simp [byteAt, List.getD_eq_getElem?_getD, hk]
  rw [hb]
  by_cases h : s[k].toNat < 128
  · rw [dec_ascii s k hk h]
    exact ⟨fun _ => rfl, fun h' => absurd h (Nat.not_lt.2 h')⟩
  · have := (dec_high s k hk (by omega)).1
    exact ⟨fun h' => by omega, fun _ => hexOk_none (by omega) (by omega)⟩
theorem nextP_one {s : List UInt8} {k : Nat} (hk : k < s.length) (h : (dec s k).1 < 128) : nextP s k = k + 1 := by
  unfold nextP
  rw [if_pos hk, ((rune_of s k hk).1 h)]
end Go.Dig
namespace Go.Dig
open Go Go.Fw
theorem bytes_arr (l : List UInt8) (N : Nat) (h : l.length = N) (i : Nat) (y : Value) (hy : (l.map B8)[i]? = some y) : (arr N fun i => B8 (byteAt l i))[0 + i]? = some y := by
  have hi := (List.getElem?_eq_some_iff.1 hy).1
  rw [List.length_map, h] at hi
  rw [List.getElem?_map, byteAt_get (by omega)] at hy
  rw [Nat.zero_add, arr_get _ hi, ← hy]
  rfl
theorem wantB_full (s : List UInt8) (k : Nat) (F : Nat → UInt8) (h : F = wantB s k) : (fun i => B8 (F i)) = fun i => B8 (wantB s k i) := by rw [h]
end Go.Dig
namespace Go.Dig
open Go Go.Fw
theorem B8_upd (f : Nat → UInt8) (k : Nat) (z : UInt8) : upd (fun i => B8 (f i)) k (B8 z) = fun i => B8 (upd f k z i) := by
  funext i
  unfold upd
  split <;> rfl
end Go.Dig
