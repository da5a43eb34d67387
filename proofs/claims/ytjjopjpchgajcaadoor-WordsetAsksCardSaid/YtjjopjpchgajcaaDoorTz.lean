/- PLAIN LAWS: the lowest bit of a word, as math/bits.TrailingZeros64 finds it; the list of a word's bits. -/
import Derived.Test.YtjjopjpchgajcaaDoorWordsg
namespace Go.Proofs.YtjjopjpchgajcaaDoor.Ws
set_option linter.unusedVariables false
set_option linter.unusedSimpArgs false
open Go

/-- A number's lowest bit. -/
theorem low_ex : ∀ x : Nat, 0 < x → ∃ k m, x = 2 ^ k * (2 * m + 1) := by
  intro x
  induction x using Nat.strongRecOn with
  | _ x ih =>
    intro hx
    rcases Nat.mod_two_eq_zero_or_one x with h | h
    · obtain ⟨k, m, e⟩ := ih (x / 2) (by omega) (by omega)
      refine ⟨k + 1, m, ?_⟩
      have : x = 2 * (x / 2) := by omega
      rw [this, e, Nat.pow_succ]
      simp only [Nat.mul_comm, Nat.mul_left_comm, Nat.mul_assoc]
    · exact ⟨0, x / 2, by omega⟩

theorem low_bits (k m i : Nat) : (2 ^ k * (2 * m + 1)).testBit i = (if i < k then false else if i = k then true else m.testBit (i - k - 1)) := by
  rw [Nat.testBit_two_pow_mul]
  by_cases h : i < k
  · have h0 : ¬ k ≤ i := by omega
    simp [h, h0]
  · have h1 : k ≤ i := by omega
    rw [if_neg h]
    simp only [h1, decide_true, Bool.true_and]
    by_cases h2 : i = k
    · subst h2
      simp
    · rw [if_neg h2]
      obtain ⟨j, hj⟩ : ∃ j, i - k = j + 1 := ⟨i - k - 1, by omega⟩
      rw [hj, Nat.testBit_succ]
      have : (2 * m + 1) / 2 = m := by omega
      rw [this]
      simp

theorem low_pred (k m i : Nat) : (2 ^ k * (2 * m + 1) - 1).testBit i = (if i < k then true else if i = k then false else m.testBit (i - k - 1)) := by
  have hp := Nat.two_pow_pos k
  have e : 2 ^ k * (2 * m + 1) - 1 = 2 ^ k * (2 * m) + (2 ^ k - 1) := by
    rw [Nat.mul_add, Nat.mul_one]; omega
  rw [e, Nat.testBit_two_pow_mul_add _ (by omega)]
  by_cases h : i < k
  · simp [h]
  · rw [if_neg h, if_neg h]
    by_cases h2 : i = k
    · subst h2
      simp
    · rw [if_neg h2]
      obtain ⟨j, hj⟩ : ∃ j, i - k = j + 1 := ⟨i - k - 1, by omega⟩
      rw [hj, Nat.testBit_succ]
      have : (2 * m) / 2 = m := by omega
      rw [this]
      simp

theorem low_and (k m : Nat) (hx : 2 ^ k * (2 * m + 1) < 18446744073709551616) : (2 ^ k * (2 * m + 1)) &&& (18446744073709551616 - 2 ^ k * (2 * m + 1)) = 2 ^ k := by
  have hp := Nat.two_pow_pos k
  have hpos : 0 < 2 ^ k * (2 * m + 1) := Nat.mul_pos hp (by omega)
  apply Nat.eq_of_testBit_eq
  intro i
  have e : 18446744073709551616 - 2 ^ k * (2 * m + 1) = 2 ^ 64 - ((2 ^ k * (2 * m + 1) - 1) + 1) := by
    have : (2 : Nat) ^ 64 = 18446744073709551616 := by kernel_rfl
    rw [this]; omega
  have hb : 2 ^ k * (2 * m + 1) - 1 < 2 ^ 64 := by
    have : (2 : Nat) ^ 64 = 18446744073709551616 := by kernel_rfl
    rw [this]; omega
  rw [Nat.testBit_and, e, Nat.testBit_two_pow_sub_succ hb, low_bits, low_pred, Nat.testBit_two_pow]
  have hk : k < 64 := by
    rcases Nat.lt_or_ge k 64 with h | h
    · exact h
    · have h1 : 2 ^ 64 ≤ 2 ^ k := Nat.pow_le_pow_right (by omega) h
      have h2 : 2 ^ k ≤ 2 ^ k * (2 * m + 1) := Nat.le_mul_of_pos_right _ (by omega)
      have : (2 : Nat) ^ 64 = 18446744073709551616 := by kernel_rfl
      omega
  by_cases h : i < k
  · have h3 : ¬ k = i := by omega
    simp [h, h3]
  · by_cases h2 : i = k
    · subst h2
      simp [hk]
    · have h3 : ¬ k = i := by omega
      simp [h, h2, h3]
      try (intro a _; exact a)

/-- The place of a word's lowest bit. -/
noncomputable def tz (x : Nat) : Nat := if h : 0 < x then Classical.choose (low_ex x h) else 64
theorem tz_spec {x : Nat} (h : 0 < x) : ∃ m, x = 2 ^ tz x * (2 * m + 1) := by
  unfold tz
  rw [dif_pos h]
  exact Classical.choose_spec (low_ex x h)
theorem tz_lt {x : Nat} (h : 0 < x) (hx : x < 18446744073709551616) : tz x < 64 := by
  obtain ⟨m, e⟩ := tz_spec h
  rcases Nat.lt_or_ge (tz x) 64 with h | h
  · exact h
  · have h1 : 2 ^ 64 ≤ 2 ^ tz x := Nat.pow_le_pow_right (by omega) h
    have h2 : 2 ^ tz x ≤ 2 ^ tz x * (2 * m + 1) := Nat.le_mul_of_pos_right _ (by omega)
    have : (2 : Nat) ^ 64 = 18446744073709551616 := by kernel_rfl
    omega
theorem tz_and {x : Nat} (h : 0 < x) (hx : x < 18446744073709551616) : x &&& (18446744073709551616 - x) = 2 ^ tz x := by
  obtain ⟨m, e⟩ := tz_spec h
  generalize hk : tz x = k at e ⊢
  subst e
  exact low_and k m hx
theorem tz_bit {x : Nat} (h : 0 < x) (i : Nat) : x.testBit i = (decide (i = tz x) || (x &&& (x - 1)).testBit i) ∧ (i ≤ tz x → (x &&& (x - 1)).testBit i = false) := by
  obtain ⟨m, e⟩ := tz_spec h
  generalize tz x = k at e ⊢
  subst e
  rw [Nat.testBit_and, low_bits, low_pred]
  by_cases h : i < k
  · have : ¬ i = k := by omega
    simp [h, this]
  · by_cases h2 : i = k
    · subst h2; simp
    · have h3 : ¬ i ≤ k := by omega
      simp [h, h2, h3]

/-- The table. -/
def tzTab : List Nat := [0, 1, 56, 2, 57, 49, 28, 3, 61, 58, 42, 50, 38, 29, 17, 4, 62, 47, 59, 36, 45, 43, 51, 22, 53, 39, 33, 30, 24, 18, 12, 5, 63, 55, 48, 27, 60, 41, 37, 16, 46, 35, 44, 21, 52, 32, 23, 11, 54, 26, 40, 15, 34, 20, 31, 10, 25, 14, 19, 9, 13, 8, 7, 6]
theorem tzTab_all : ((List.range 64).all fun k => ((2 ^ k * 285870213051353865 % 18446744073709551616) / 288230376151711744 < 64) && (tzTab[(2 ^ k * 285870213051353865 % 18446744073709551616) / 288230376151711744]? == some k)) = true := by kernel_rfl
theorem tzTab_at {k : Nat} (h : k < 64) : (2 ^ k * 285870213051353865 % 18446744073709551616) / 288230376151711744 < 64 ∧ tzTab[(2 ^ k * 285870213051353865 % 18446744073709551616) / 288230376151711744]? = some k := by
  have := List.all_eq_true.1 tzTab_all k (List.mem_range.2 h)
  simp only [Bool.and_eq_true, decide_eq_true_eq, beq_iff_eq] at this
  exact this

/-- A word's bits, ascending. -/
def bitsL (x : Nat) : List Nat := (List.range 64).filter fun i => x.testBit i
theorem bitsL_zero : bitsL 0 = [] := by simp [bitsL]
theorem range_split {k : Nat} (h : k < 64) : List.range 64 = List.range k ++ k :: List.range' (k + 1) (63 - k) := by
  rw [List.range_eq_range', List.range_eq_range', show 64 = k + ((63 - k) + 1) by omega, ← List.range'_append_1, List.range'_succ]
  simp
theorem bitsL_step {x : Nat} (h : 0 < x) (hx : x < 18446744073709551616) : bitsL x = tz x :: bitsL (x &&& (x - 1)) := by
  have hk := tz_lt h hx
  have hb := fun i => tz_bit h i
  unfold bitsL
  generalize tz x = k at hk hb ⊢
  generalize x &&& (x - 1) = y at hb ⊢
  rw [range_split hk, List.filter_append, List.filter_append]
  have e1 : (List.range k).filter (fun i => x.testBit i) = [] := by
    rw [List.filter_eq_nil_iff]
    intro i hi
    have hi' := List.mem_range.1 hi
    have := hb i
    rw [this.1, this.2 (by omega)]
    simp; omega
  have e2 : (List.range k).filter (fun i => y.testBit i) = [] := by
    rw [List.filter_eq_nil_iff]
    intro i hi
    have hi' := List.mem_range.1 hi
    rw [(hb i).2 (by omega)]
    simp
  have e3 : x.testBit k = true := by rw [(hb k).1]; simp
  have e4 : y.testBit k = false := (hb k).2 (Nat.le_refl _)
  rw [e1, e2, List.nil_append, List.nil_append, List.filter_cons_of_pos (by simpa using e3), List.filter_cons_of_neg (by simp [e4])]
  congr 1
  apply List.filter_congr
  intro i hi
  obtain ⟨j, hj, rfl⟩ := List.mem_range'.1 hi
  have := (hb (k + 1 + 1 * j)).1
  rw [this]
  have hne : ¬ k + 1 + j = k := by omega
  simp [hne]

theorem and_pred_lt {x : Nat} (h : 0 < x) : x &&& (x - 1) < x := by
  have : x &&& (x - 1) ≤ x - 1 := Nat.and_le_right
  omega

/-- The words' numbers from the k-th word on, whose rest is x. -/
def listFrom (L : List Nat) (k : Nat) (x : Nat) : List Int := (bitsL x).map (fun i : Nat => ((64 * k + i : Nat) : Int)) ++ (listW L (64 * L.length)).drop ((listW L (64 * (k + 1))).length)

theorem listW_add (L : List Nat) (a : Nat) : ∀ b, listW L (a + b) = listW L a ++ ((List.range b).filter (fun i => has L (a + i))).map fun i : Nat => ((a + i : Nat) : Int)
  | 0 => by simp
  | b + 1 => by
    rw [← Nat.add_assoc, listW_succ, listW_add L a b, List.range_succ, List.filter_append]
    by_cases h : has L (a + b) = true
    · simp [h]
    · simp [h]
theorem listW_word (L : List Nat) {k : Nat} (hk : k < L.length) : listW L (64 * (k + 1)) = listW L (64 * k) ++ (bitsL (L[k]'hk)).map fun i : Nat => ((64 * k + i : Nat) : Int) := by
  rw [show 64 * (k + 1) = 64 * k + 64 by omega, listW_add]
  congr 1
  unfold bitsL
  congr 1
  apply List.filter_congr
  intro i hi
  exact has_at hk (List.mem_range.1 hi)
theorem listW_prefix (L : List Nat) {a b : Nat} (h : a ≤ b) : listW L a <+: listW L b := by
  obtain ⟨c, rfl⟩ := Nat.exists_eq_add_of_le h
  rw [listW_add]
  exact List.prefix_append _ _
theorem listW_len_le (L : List Nat) (k : Nat) : (listW L k).length ≤ k := by rw [listW_length]; exact cnt_le_self _ _

end Go.Proofs.YtjjopjpchgajcaaDoor.Ws
