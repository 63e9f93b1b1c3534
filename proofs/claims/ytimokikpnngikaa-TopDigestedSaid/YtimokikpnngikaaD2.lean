/- Plain facts for TopDigested: great numbers digit by digit, roots, primes. No Go here. -/
namespace Go.Dig
/-- What digits to the base 2^16 say, the lowest first. -/
def gv (D : Nat → Nat) : Nat → Nat
  | 0 => 0
  | k + 1 => gv D k + D k * 65536 ^ k
theorem gv_congr {D E : Nat → Nat} : ∀ k, (∀ i, i < k → D i = E i) → gv D k = gv E k
  | 0, _ => rfl
  | k + 1, h => by rw [gv, gv, gv_congr k (fun i hi => h i (by omega)), h k (by omega)]
theorem gv_lt (D : Nat → Nat) : ∀ k, (∀ i, i < k → D i < 65536) → gv D k < 65536 ^ k
  | 0, _ => by simp [gv]
  | k + 1, h => by
    have h1 := gv_lt D k (fun i hi => h i (by omega))
    have h2 := h k (by omega)
    rw [gv, Nat.pow_succ]
    have : D k * 65536 ^ k ≤ 65535 * 65536 ^ k := Nat.mul_le_mul_right _ (by omega)
    omega
def updN (D : Nat → Nat) (o v : Nat) : Nat → Nat := fun i => if i = o then v else D i
theorem gv_upd (D : Nat → Nat) (o v : Nat) : ∀ k, o < k → gv (updN D o v) k + D o * 65536 ^ o = gv D k + v * 65536 ^ o
  | 0, h => by omega
  | k + 1, h => by
    by_cases hk : o = k
    · subst hk
      rw [gv, gv, gv_congr (D := updN D o v) (E := D) o (fun i hi => by simp [updN]; omega)]
      simp only [updN, if_true]
      omega
    · have ih := gv_upd D o v k (by omega)
      rw [gv, gv]
      have : updN D o v k = D k := by simp [updN]; omega
      rw [this]
      omega
theorem gv_zero : ∀ k, gv (fun _ => 0) k = 0
  | 0 => rfl
  | k + 1 => by rw [gv, gv_zero k]; simp
theorem gv_le_of_le (D : Nat → Nat) : ∀ k m, k ≤ m → gv D k ≤ gv D m
  | k, 0, h => by rw [Nat.le_zero.1 h]; exact Nat.le_refl _
  | k, m + 1, h => by
    rcases Nat.lt_or_ge m k with h1 | h1
    · rw [show k = m + 1 by omega]; exact Nat.le_refl _
    · exact Nat.le_trans (gv_le_of_le D k m h1) (by rw [gv]; omega)
/-- From the top on: what is above decides. -/
theorem gv_above (D E : Nat → Nat) (hD : ∀ i, D i < 65536) (hE : ∀ i, E i < 65536) (k : Nat) : ∀ m, k < m → (∀ i, k < i → i < m → D i = E i) → E k < D k → gv E m < gv D m
  | 0, h, _, _ => by omega
  | m + 1, h, he, hlt => by
    rw [gv, gv]
    by_cases hk : k = m
    · subst hk
      have h1 := gv_lt E k (fun i _ => hE i)
      have h2 : (E k + 1) * 65536 ^ k ≤ D k * 65536 ^ k := Nat.mul_le_mul_right _ (by omega)
      rw [Nat.add_mul, Nat.one_mul] at h2
      omega
    · have ih := gv_above D E hD hE k m (by omega) (fun i h1 h2 => he i h1 (by omega)) hlt
      rw [he m (by omega) (by omega)]
      omega
/-- Bit by bit from above: the greatest number below 2^k that passes, if what passes is downward closed. -/
def rt (p : Nat → Bool) : Nat → Nat → Nat
  | 0, n => n
  | i + 1, n => rt p i (if p (n + 2 ^ i) then n + 2 ^ i else n)
theorem or_pow (n i : Nat) (h : n % 2 ^ (i + 1) = 0) : n ||| 2 ^ i = n + 2 ^ i := by
  obtain ⟨d, hd⟩ : ∃ d, n = 2 ^ (i + 1) * d := ⟨n / 2 ^ (i + 1), by have := Nat.div_add_mod n (2 ^ (i + 1)); omega⟩
  rw [hd, ← Nat.two_pow_add_eq_or_of_lt (Nat.pow_lt_pow_right (by omega) (by omega))]
/-- The primes, one by one. -/
def prl : Nat → List Nat
  | 0 => []
  | 1 => []
  | n + 2 => if (prl (n + 1)).all fun p => decide (0 < (n + 1) % p) then (if n + 1 < 2 then prl (n + 1) else prl (n + 1) ++ [n + 1]) else prl (n + 1)
end Go.Dig
namespace Go.Dig
theorem carry (D : Nat → Nat) (k M c : Nat) (hk : k < M) : gv (updN D k ((c + D k) % 65536)) M + (c + D k) / 65536 * 65536 ^ (k + 1) = gv D M + c * 65536 ^ k := by
  have h := gv_upd D k ((c + D k) % 65536) M hk
  have e := Nat.div_add_mod (c + D k) 65536
  generalize (c + D k) / 65536 = q at *
  generalize (c + D k) % 65536 = r at *
  rw [Nat.pow_succ]
  generalize 65536 ^ k = p at *
  have e1 : (65536 * q + r) * p = (c + D k) * p := by rw [e]
  rw [Nat.add_mul, Nat.add_mul, Nat.mul_assoc] at e1
  have e2 : q * (p * 65536) = 65536 * (q * p) := by rw [Nat.mul_comm p, ← Nat.mul_assoc, Nat.mul_comm q, Nat.mul_assoc]
  rw [e2]
  generalize q * p = z at *
  generalize r * p = y at *
  omega
theorem updN_lt {D : Nat → Nat} (h : ∀ i, D i < 65536) (o v : Nat) (hv : v < 65536) : ∀ i, updN D o v i < 65536 := by
  intro i; unfold updN; split
  · exact hv
  · exact h i
/-- The products in sight stay below what the digits can say. -/
theorem part_lt (A B : Nat → Nat) (na nb i j : Nat) (hA : ∀ i, A i < 65536) (hB : ∀ i, B i < 65536) (hi : i < na) (hj : j < nb) :
    gv A i * gv B nb + A i * 65536 ^ i * gv B (j + 1) < 65536 ^ (na + nb) := by
  have h1 : gv B (j + 1) ≤ gv B nb := gv_le_of_le B _ _ (by omega)
  have h2 : A i * 65536 ^ i * gv B (j + 1) ≤ A i * 65536 ^ i * gv B nb := Nat.mul_le_mul_left _ h1
  have h3 : gv A i * gv B nb + A i * 65536 ^ i * gv B nb = gv A (i + 1) * gv B nb := by rw [gv, Nat.add_mul]
  have h4 : gv A (i + 1) * gv B nb ≤ gv A na * gv B nb := Nat.mul_le_mul_right _ (gv_le_of_le A _ _ (by omega))
  have h5 : gv A na < 65536 ^ na := gv_lt A na fun i _ => hA i
  have h6 : gv B nb < 65536 ^ nb := gv_lt B nb fun i _ => hB i
  have h7 : gv A na * gv B nb < 65536 ^ na * 65536 ^ nb := Nat.mul_lt_mul'' h5 h6
  rw [Nat.pow_add]
  omega
theorem in_row (D : Nat → Nat) (k M c T : Nat) (h : gv D M + c * 65536 ^ k = T) (hT : T < 65536 ^ M) (hc : 0 < c) : k < M := by
  rcases Nat.lt_or_ge k M with h1 | h1
  · exact h1
  · have h2 : 65536 ^ M ≤ 65536 ^ k := Nat.pow_le_pow_right (by omega) h1
    have h3 : 1 * 65536 ^ k ≤ c * 65536 ^ k := Nat.mul_le_mul_right _ hc
    omega
end Go.Dig
namespace Go.Dig
/-- Digits, and noughts behind their end. -/
def ex (D : Nat → Nat) (m i : Nat) : Nat := if i < m then D i else 0
theorem ex_lt {D : Nat → Nat} (m : Nat) (h : ∀ i, D i < 65536) (i : Nat) : ex D m i < 65536 := by unfold ex; split; exact h i; omega
theorem gv_ex (D : Nat → Nat) (m : Nat) : ∀ k, m ≤ k → gv (ex D m) k = gv D m
  | 0, h => by rw [Nat.le_zero.1 h]; rfl
  | k + 1, h => by
    rcases Nat.lt_or_ge k m with h1 | h1
    · obtain rfl : m = k + 1 := by omega
      exact gv_congr _ fun i hi => by simp [ex, hi]
    · rw [gv, gv_ex D m k h1]
      have : ex D m k = 0 := by simp [ex]; omega
      rw [this]; simp
theorem top_decides (A B : Nat → Nat) (hA : ∀ i, A i < 65536) (hB : ∀ i, B i < 65536) (na nb m k : Nat) (h1 : na ≤ m) (h2 : nb ≤ m) (hk : k < m) (he : ∀ q, k < q → q < m → ex A na q = ex B nb q) (hne : ex A na k ≠ ex B nb k) :
    gv B nb < gv A na ↔ ex B nb k < ex A na k := by
  rw [← gv_ex A na m h1, ← gv_ex B nb m h2]
  rcases Nat.lt_or_gt_of_ne hne with h | h
  · have := gv_above (ex B nb) (ex A na) (ex_lt nb hB) (ex_lt na hA) k m hk (fun q a b => (he q a b).symm) h
    omega
  · have := gv_above (ex A na) (ex B nb) (ex_lt na hA) (ex_lt nb hB) k m hk he h
    omega
theorem all_same (A B : Nat → Nat) (na nb m : Nat) (h1 : na ≤ m) (h2 : nb ≤ m) (he : ∀ q, q < m → ex A na q = ex B nb q) : gv A na = gv B nb := by
  rw [← gv_ex A na m h1, ← gv_ex B nb m h2]
  exact gv_congr m he
end Go.Dig
namespace Go.Dig
def wd (k p : Nat) (i : Nat) : Nat := if i = k then p else 0
theorem gv_wd (k p : Nat) : gv (wd k p) (k + 1) = p * 65536 ^ k := by
  have h : ∀ m, m ≤ k → gv (wd k p) m = 0 := by
    intro m
    induction m with
    | zero => intro _; rfl
    | succ m ih =>
      intro hm
      rw [gv, ih (by omega)]
      have : wd k p m = 0 := by simp [wd]; omega
      rw [this]; simp
  rw [gv, h k (Nat.le_refl _)]
  simp [wd]
theorem wd_lt (k p : Nat) (hp : p < 65536) (i : Nat) : wd k p i < 65536 := by unfold wd; split <;> omega
def xd (M : Nat) (i : Nat) : Nat := if i = 0 then M % 65536 else if i = 1 then M / 65536 % 65536 else M / 2 ^ 32
theorem xd_lt (M : Nat) (hM : M < 2 ^ 38) (i : Nat) : xd M i < 65536 := by unfold xd; split; omega; split <;> omega
theorem gv_xd (M : Nat) : gv (xd M) 3 = M := by
  simp [gv, xd]
  omega
/-- Is a number's square, or its cube, at most so much? -/
def fits (cube : Bool) (p m : Nat) : Bool := if cube then decide (m * m * m ≤ p * 65536 ^ 6) else decide (m * m ≤ p * 65536 ^ 4)
def rootN (cube : Bool) (p : Nat) : Nat := rt (fits cube p) 38 0
theorem mod_half (n i : Nat) (h : n % 2 ^ (i + 1) = 0) : n % 2 ^ i = 0 ∧ (n + 2 ^ i) % 2 ^ i = 0 := by
  have hd : 2 ^ i ∣ n := Nat.dvd_trans (Nat.pow_dvd_pow 2 (Nat.le_succ i)) (Nat.dvd_of_mod_eq_zero h)
  exact ⟨Nat.mod_eq_zero_of_dvd hd, Nat.mod_eq_zero_of_dvd (Nat.dvd_add hd (Nat.dvd_refl _))⟩
theorem more_lt (n i : Nat) (h : n % 2 ^ (i + 1) = 0) (hi : i < 38) (hn : n < 2 ^ 38) : n + 2 ^ i < 2 ^ 38 := by
  obtain ⟨d, hd⟩ : ∃ d, n = 2 ^ (i + 1) * d := ⟨n / 2 ^ (i + 1), by have := Nat.div_add_mod n (2 ^ (i + 1)); omega⟩
  have e : (2 : Nat) ^ 38 = 2 ^ (i + 1) * 2 ^ (37 - i) := by rw [← Nat.pow_add]; congr 1; omega
  have hlt : d < 2 ^ (37 - i) := by
    rw [hd, e] at hn
    exact Nat.lt_of_mul_lt_mul_left hn
  have h1 : 2 ^ (i + 1) * (d + 1) ≤ 2 ^ (i + 1) * 2 ^ (37 - i) := Nat.mul_le_mul_left _ hlt
  have h2 : 2 ^ i < 2 ^ (i + 1) := Nat.pow_lt_pow_right (by omega) (by omega)
  rw [Nat.mul_add, Nat.mul_one] at h1
  omega
end Go.Dig
namespace Go.Dig
/-- The primes among the first numbers from 2 on. -/
def pr : Nat → List Nat
  | 0 => []
  | k + 1 => if (pr k).all (fun p => decide (0 < (k + 2) % p)) then pr k ++ [k + 2] else pr k
theorem pr_mono (k m : Nat) (h : k ≤ m) : (pr k).length ≤ (pr m).length := by
  induction m with
  | zero => rw [Nat.le_zero.1 h]; exact Nat.le_refl _
  | succ m ih =>
    rcases Nat.lt_or_ge m k with h1 | h1
    · rw [show k = m + 1 by omega]; exact Nat.le_refl _
    · refine Nat.le_trans (ih h1) ?_
      rw [pr]; split <;> simp
theorem pr_309 : (pr 309).length = 63 := by decide +kernel
theorem pr_310 : (pr 310).length = 64 := by decide +kernel
theorem pr_more (k : Nat) (hk : k ≤ 310) (h : (pr k).length < 64) : k < 310 := by
  rcases Nat.lt_or_ge k 310 with h1 | h1
  · exact h1
  · have : k = 310 := by omega
    rw [this, pr_310] at h; omega
theorem pr_done (k : Nat) (hk : k ≤ 310) (h : ¬ (pr k).length < 64) : k = 310 := by
  rcases Nat.lt_or_ge k 310 with h1 | h1
  · have := pr_mono k 309 (by omega)
    rw [pr_309] at this; omega
  · omega
theorem pr_pos (k : Nat) : ∀ p ∈ pr k, 0 < p ∧ p < k + 2 := by
  induction k with
  | zero => simp [pr]
  | succ k ih =>
    intro p hp
    rw [pr] at hp
    split at hp
    · rcases List.mem_append.1 hp with h | h
      · have := ih p h; omega
      · have : p = k + 2 := by simpa using h
        omega
    · have := ih p hp; omega
def allTo (l : List Nat) (n j : Nat) : Bool := (l.take j).all fun p => decide (0 < n % p)
theorem allTo_step (l : List Nat) (n j : Nat) (hj : j < l.length) : allTo l n (j + 1) = (allTo l n j && decide (0 < n % l[j])) := by
  unfold allTo
  rw [List.take_succ_eq_append_getElem hj, List.all_append]
  simp
theorem allTo_all (l : List Nat) (n : Nat) : allTo l n l.length = l.all fun p => decide (0 < n % p) := by simp [allTo]
/-- The tables. -/
def prime (i : Nat) : Nat := (pr 310).getD i 0
def kT (i : Nat) : BitVec 32 := BitVec.ofNat 32 (rootN true (prime i))
def hT (i : Nat) : BitVec 32 := BitVec.ofNat 32 (rootN false (prime i))
theorem prime_lt (i : Nat) : prime i < 65536 := by
  unfold prime
  by_cases h : i < (pr 310).length
  · have := pr_pos 310 (pr 310)[i] (List.getElem_mem h)
    rw [List.getD_eq_getElem?_getD, List.getElem?_eq_getElem h]
    simp only [Option.getD_some]
    omega
  · rw [List.getD_eq_getElem?_getD, List.getElem?_eq_none (by omega)]
    simp
end Go.Dig
