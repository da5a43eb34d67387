/- SETS OF NUMBERS AS WORDS OF 64 BITS: plain. A word list, the numbers in it, how many they are. No program in sight. -/
import Derived.Test.YtjjmoibnmdbpeaaBits
namespace Go.Proofs.Ytjjmoibnmdbpeaa.Ws
set_option linter.unusedVariables false
set_option linter.unusedSimpArgs false
open Go

/-! How many numbers below n have a property. -/
def cnt (p : Nat → Bool) : Nat → Nat
  | 0 => 0
  | n + 1 => cnt p n + (if p n then 1 else 0)

theorem cnt_congr {p q : Nat → Bool} : ∀ n, (∀ i, i < n → p i = q i) → cnt p n = cnt q n
  | 0, _ => rfl
  | n + 1, h => by simp only [cnt, cnt_congr n (fun i hi => h i (by omega)), h n (by omega)]
theorem cnt_zero : ∀ n, cnt (fun _ => false) n = 0
  | 0 => rfl
  | n + 1 => by simp [cnt, cnt_zero n]
theorem cnt_all {p : Nat → Bool} : ∀ n, (∀ i, i < n → p i = true) → cnt p n = n
  | 0, _ => rfl
  | n + 1, h => by simp [cnt, cnt_all n (fun i hi => h i (by omega)), h n (by omega)]
theorem cnt_le_self (p : Nat → Bool) : ∀ n, cnt p n ≤ n
  | 0 => Nat.le_refl _
  | n + 1 => by have := cnt_le_self p n; simp only [cnt]; split <;> omega
theorem cnt_le {p q : Nat → Bool} : ∀ n, (∀ i, i < n → p i = true → q i = true) → cnt p n ≤ cnt q n
  | 0, _ => Nat.le_refl _
  | n + 1, h => by
    have ih := cnt_le n (fun i hi => h i (by omega))
    have hn := h n (by omega)
    simp only [cnt]
    cases hp : p n <;> cases hq : q n <;> simp_all <;> omega
theorem cnt_eq {p q : Nat → Bool} : ∀ n, (∀ i, i < n → p i = true → q i = true) → cnt p n = cnt q n → ∀ i, i < n → p i = q i
  | 0, _, _, i, hi => by omega
  | n + 1, h, he, i, hi => by
    have ih := cnt_le n (fun i hi => h i (by omega))
    have hn := h n (by omega)
    simp only [cnt] at he
    have e1 : p n = q n ∧ cnt p n = cnt q n := by
      cases hp : p n <;> cases hq : q n <;> simp_all <;> omega
    by_cases e : i = n
    · subst e; exact e1.1
    · exact cnt_eq n (fun i hi => h i (by omega)) e1.2 i (by omega)
theorem cnt_add (p : Nat → Bool) (a : Nat) : ∀ b, cnt p (a + b) = cnt p a + cnt (fun i => p (a + i)) b
  | 0 => rfl
  | b + 1 => by rw [← Nat.add_assoc]; simp only [cnt, cnt_add p a b]; omega
theorem cnt_or_and (p q : Nat → Bool) : ∀ n, cnt (fun i => p i || q i) n + cnt (fun i => p i && q i) n = cnt p n + cnt q n
  | 0 => rfl
  | n + 1 => by
    have ih := cnt_or_and p q n
    simp only [cnt]
    rcases Bool.eq_false_or_eq_true (p n) with hp | hp <;> rcases Bool.eq_false_or_eq_true (q n) with hq | hq <;> simp [hp, hq] <;> omega

theorem pop_cnt : ∀ (k n : Nat), Bt.pop k n = cnt (fun i => n.testBit i) k
  | 0, n => rfl
  | k + 1, n => by
    rw [Nat.add_comm k 1, cnt_add]
    have h1 : Bt.pop (1 + k) n = n % 2 + Bt.pop k (n / 2) := by rw [Nat.add_comm 1 k]; rfl
    rw [h1, pop_cnt k (n / 2)]
    have h2 : cnt (fun i => n.testBit i) 1 = n % 2 := by
      simp only [cnt, Nat.testBit_zero]
      rcases Nat.mod_two_eq_zero_or_one n with h | h <;> simp [h]
    rw [h2]
    congr 1
    refine cnt_congr k fun i _ => ?_
    show (n / 2).testBit i = n.testBit (1 + i)
    rw [Nat.add_comm 1 i, Nat.testBit_succ]

/-! A word out of its bits. -/
def ofB (p : Nat → Bool) : Nat → Nat
  | 0 => 0
  | n + 1 => ofB p n ||| (if p n then 2 ^ n else 0)

theorem testBit_ofB (p : Nat → Bool) : ∀ n i, (ofB p n).testBit i = (decide (i < n) && p i)
  | 0, i => by simp [ofB]
  | n + 1, i => by
    simp only [ofB, Nat.testBit_or, testBit_ofB p n i]
    by_cases h : i < n
    · have h1 : n ≠ i := by omega
      have h2 : i < n + 1 := by omega
      split <;> simp [h, h1, h2, Nat.testBit_two_pow]
    · by_cases h1 : n = i
      · subst h1
        cases hp : p n <;> simp [hp]
      · have h2 : ¬ i < n + 1 := by omega
        split <;> simp [h, h1, h2, Nat.testBit_two_pow]
theorem ofB_lt (p : Nat → Bool) (n : Nat) : ofB p n < 2 ^ n := by
  apply Nat.lt_pow_two_of_testBit
  intro i hi
  rw [testBit_ofB]
  simp; omega

/-- The words' numbers. -/
def has (L : List Nat) (m : Nat) : Bool := ((L[m / 64]?).getD 0).testBit (m % 64)
/-- n words of the numbers that have a property. -/
def wordsOf (p : Nat → Bool) (n : Nat) : List Nat := (List.range n).map fun k => ofB (fun i => p (64 * k + i)) 64
/-- Each is a word. -/
def okW (L : List Nat) : Prop := ∀ x ∈ L, x < 2 ^ 64

theorem wordsOf_length (p : Nat → Bool) (n : Nat) : (wordsOf p n).length = n := by simp [wordsOf]
theorem wordsOf_ok (p : Nat → Bool) (n : Nat) : okW (wordsOf p n) := by
  intro x hx
  simp only [wordsOf, List.mem_map] at hx
  obtain ⟨k, _, rfl⟩ := hx
  exact ofB_lt _ _
theorem wordsOf_get {p : Nat → Bool} {n k : Nat} (h : k < n) : (wordsOf p n)[k]? = some (ofB (fun i => p (64 * k + i)) 64) := by
  simp [wordsOf, List.getElem?_range h]
theorem has_wordsOf (p : Nat → Bool) (n m : Nat) : has (wordsOf p n) m = (decide (m < 64 * n) && p m) := by
  unfold has
  by_cases h : m / 64 < n
  · rw [wordsOf_get h, Option.getD_some, testBit_ofB]
    have h1 : m % 64 < 64 := Nat.mod_lt _ (by omega)
    have h2 : 64 * (m / 64) + m % 64 = m := by omega
    have h3 : m < 64 * n := by omega
    simp [h1, h2, h3]
  · have h1 : (wordsOf p n)[m / 64]? = none := List.getElem?_eq_none (by rw [wordsOf_length]; omega)
    have h3 : ¬ m < 64 * n := by omega
    rw [h1]; simp [h3]
theorem has_over {L : List Nat} {m : Nat} (h : 64 * L.length ≤ m) : has L m = false := by
  unfold has
  rw [List.getElem?_eq_none (by omega)]
  simp
theorem has_at {L : List Nat} {k i : Nat} (hk : k < L.length) (hi : i < 64) : has L (64 * k + i) = (L[k]'hk).testBit i := by
  unfold has
  have h1 : (64 * k + i) / 64 = k := by omega
  have h2 : (64 * k + i) % 64 = i := by omega
  rw [h1, h2, List.getElem?_eq_getElem hk, Option.getD_some]

theorem words_ext {L M : List Nat} (hl : okW L) (hm : okW M) (hn : L.length = M.length) (h : ∀ m, m < 64 * L.length → has L m = has M m) : L = M := by
  apply List.ext_getElem hn
  intro k h1 h2
  apply Nat.eq_of_testBit_eq
  intro i
  by_cases hi : i < 64
  · rw [← has_at h1 hi, ← has_at h2 hi]
    exact h _ (by omega)
  · have a := hl _ (List.getElem_mem h1)
    have b := hm _ (List.getElem_mem h2)
    have c : 2 ^ 64 ≤ 2 ^ i := Nat.pow_le_pow_right (by omega) (by omega)
    rw [Nat.testBit_lt_two_pow (by omega), Nat.testBit_lt_two_pow (by omega)]
theorem words_of_has {L : List Nat} (hl : okW L) {p : Nat → Bool} (h : ∀ m, m < 64 * L.length → has L m = p m) : L = wordsOf p L.length := by
  refine words_ext hl (wordsOf_ok _ _) (by rw [wordsOf_length]) fun m hm => ?_
  rw [has_wordsOf, h m hm]; simp [hm]
theorem wordsOf_congr {p q : Nat → Bool} {n : Nat} (h : ∀ m, m < 64 * n → p m = q m) : wordsOf p n = wordsOf q n := by
  refine words_ext (wordsOf_ok _ _) (wordsOf_ok _ _) (by rw [wordsOf_length, wordsOf_length]) fun m hm => ?_
  rw [wordsOf_length] at hm
  rw [has_wordsOf, has_wordsOf, h m hm]

/-- A number more. -/
theorem wordsOf_set {p : Nat → Bool} {n m : Nat} (h : m < 64 * n) : (wordsOf p n).set (m / 64) (((wordsOf p n)[m / 64]?).getD 0 ||| 2 ^ (m % 64)) = wordsOf (fun j => p j || decide (j = m)) n := by
  have hk : m / 64 < n := by omega
  refine words_ext ?_ (wordsOf_ok _ _) (by rw [List.length_set, wordsOf_length, wordsOf_length]) fun j hj => ?_
  · intro x hx
    rcases List.mem_or_eq_of_mem_set hx with hx | rfl
    · exact wordsOf_ok _ _ x hx
    · rw [wordsOf_get hk, Option.getD_some]
      exact Nat.or_lt_two_pow (ofB_lt _ _) (Nat.pow_lt_pow_right (by omega) (Nat.mod_lt _ (by omega)))
  · rw [List.length_set, wordsOf_length] at hj
    rw [has_wordsOf]
    unfold has
    rw [List.getElem?_set]
    have hjk : j / 64 < n := by omega
    by_cases he : m / 64 = j / 64
    · rw [if_pos he, if_pos (by rw [wordsOf_length]; omega), Option.getD_some, wordsOf_get hk, Option.getD_some, Nat.testBit_or, testBit_ofB, Nat.testBit_two_pow, he]
      have h1 : j % 64 < 64 := Nat.mod_lt _ (by omega)
      have h2 : 64 * (j / 64) + j % 64 = j := by omega
      have h3 : (m % 64 = j % 64) ↔ (j = m) := by omega
      simp [h1, h2, hj, h3]
    · rw [if_neg he, wordsOf_get hjk, Option.getD_some, testBit_ofB]
      have h1 : j % 64 < 64 := Nat.mod_lt _ (by omega)
      have h2 : 64 * (j / 64) + j % 64 = j := by omega
      have h3 : ¬ j = m := fun h => he (by rw [h])
      simp [h1, h2, hj, h3]

/-- How many numbers the words have. -/
def size (L : List Nat) : Nat := cnt (has L) (64 * L.length)
theorem has_append_left {L M : List Nat} {m : Nat} (h : m < 64 * L.length) : has (L ++ M) m = has L m := by
  unfold has
  rw [List.getElem?_append_left (by omega)]
theorem size_snoc (L : List Nat) (x : Nat) : size (L ++ [x]) = size L + Bt.pop 64 x := by
  unfold size
  rw [List.length_append, List.length_singleton, Nat.mul_add, Nat.mul_one, cnt_add, pop_cnt]
  congr 1
  · exact cnt_congr _ fun i hi => has_append_left hi
  · refine cnt_congr _ fun i hi => ?_
    show has (L ++ [x]) (64 * L.length + i) = x.testBit i
    rw [has_at (by simp) hi]
    simp
theorem size_nil : size [] = 0 := rfl
theorem size_le (L : List Nat) : size L ≤ 64 * L.length := cnt_le_self _ _

end Go.Proofs.Ytjjmoibnmdbpeaa.Ws
