/- Layouts: the parts, address by address: the plain law. -/
import Derived.Test.YtjjmoibnmdbpeaaLaye
namespace Go.Proofs.Ytjjmoibnmdbpeaa.Pr
set_option linter.unusedVariables false
set_option linter.unusedSimpArgs false
open Go Go.RowKit

/-- m runs of n, each of its own number. -/
def blkN : Nat → Nat → List Int
  | 0, _ => []
  | m + 1, n => blkN m n ++ List.replicate n (m : Int)
theorem blkN_len : ∀ m n, (blkN m n).length = m * n
  | 0, n => by simp [blkN]
  | m + 1, n => by rw [blkN, List.length_append, blkN_len m n, List.length_replicate, Nat.succ_mul]
theorem blkN_get : ∀ (m n i : Nat), i < m * n → (blkN m n)[i]? = some ((i / n : Nat) : Int)
  | 0, n, i, h => by simp at h
  | m + 1, n, i, h => by
    rw [blkN]
    by_cases hi : i < m * n
    · rw [List.getElem?_append_left (by rw [blkN_len]; exact hi), blkN_get m n i hi]
    · rw [List.getElem?_append_right (by rw [blkN_len]; omega), blkN_len, List.getElem?_replicate]
      rw [Nat.succ_mul] at h
      rw [if_pos (by omega)]
      have : i / n = m := Nat.div_eq_of_lt_le (by omega) (by rw [Nat.succ_mul]; omega)
      rw [this]

def partP (n nodes k : Nat) : List Int := List.replicate (nodes * n) 1 ++ (List.replicate nodes 2 ++ (3 :: List.replicate (k * (2 + (nodes + 1))) 4))
def whoP (n nodes k : Nat) : List Int := blkN nodes n ++ (blkN nodes 1 ++ (0 :: blkN k (2 + (nodes + 1))))
def lenP (n nodes k : Nat) : Nat := nodes * n + nodes + 1 + k * (2 + (nodes + 1))
theorem partP_len (n nodes k : Nat) : (partP n nodes k).length = lenP n nodes k := by
  unfold partP lenP
  simp only [List.length_append, List.length_replicate, List.length_cons]
  omega
theorem whoP_len (n nodes k : Nat) : (whoP n nodes k).length = lenP n nodes k := by
  unfold whoP lenP
  simp only [List.length_append, blkN_len, List.length_cons]
  omega
theorem partP_at (n nodes k i : Nat) : (partP n nodes k)[i]? = if i < nodes * n then some 1 else if i - nodes * n < nodes then some 2 else if i - nodes * n - nodes < 1 then some 3 else if i - nodes * n - nodes - 1 < k * (2 + (nodes + 1)) then some 4 else none := by
  unfold partP
  by_cases h1 : i < nodes * n
  · rw [if_pos h1, List.getElem?_append_left (by simpa using h1), List.getElem?_replicate, if_pos h1]
  rw [if_neg h1, List.getElem?_append_right (by simp; omega), List.length_replicate]
  by_cases h2 : i - nodes * n < nodes
  · rw [if_pos h2, List.getElem?_append_left (by simpa using h2), List.getElem?_replicate, if_pos h2]
  rw [if_neg h2, List.getElem?_append_right (by simp; omega), List.length_replicate]
  by_cases h3 : i - nodes * n - nodes < 1
  · have h4 : i - nodes * n - nodes = 0 := by omega
    rw [if_pos h3, h4]; rfl
  rw [if_neg h3]
  obtain ⟨j, hj⟩ : ∃ j, i - nodes * n - nodes = j + 1 := ⟨i - nodes * n - nodes - 1, by omega⟩
  rw [hj, List.getElem?_cons_succ, List.getElem?_replicate, Nat.add_sub_cancel]
theorem whoP_at (n nodes k i : Nat) : (whoP n nodes k)[i]? = if i < nodes * n then some ((i / n : Nat) : Int) else if i - nodes * n < nodes then some ((i - nodes * n : Nat) : Int) else if i - nodes * n - nodes < 1 then some 0 else if i - nodes * n - nodes - 1 < k * (2 + (nodes + 1)) then some (((i - nodes * n - nodes - 1) / (2 + (nodes + 1)) : Nat) : Int) else none := by
  unfold whoP
  by_cases h1 : i < nodes * n
  · rw [if_pos h1, List.getElem?_append_left (by rw [blkN_len]; exact h1), blkN_get _ _ _ h1]
  rw [if_neg h1, List.getElem?_append_right (by rw [blkN_len]; omega), blkN_len]
  by_cases h2 : i - nodes * n < nodes
  · rw [if_pos h2, List.getElem?_append_left (by rw [blkN_len]; omega), blkN_get _ _ _ (by omega), Nat.div_one]
  rw [if_neg h2, List.getElem?_append_right (by rw [blkN_len]; omega), blkN_len, Nat.mul_one]
  by_cases h3 : i - nodes * n - nodes < 1
  · have h4 : i - nodes * n - nodes = 0 := by omega
    rw [if_pos h3, h4]; rfl
  rw [if_neg h3]
  obtain ⟨j, hj⟩ : ∃ j, i - nodes * n - nodes = j + 1 := ⟨i - nodes * n - nodes - 1, by omega⟩
  rw [hj, List.getElem?_cons_succ, Nat.add_sub_cancel]
  by_cases h4 : j < k * (2 + (nodes + 1))
  · rw [if_pos h4, blkN_get _ _ _ h4]
  · rw [if_neg h4, List.getElem?_eq_none (by rw [blkN_len]; omega)]
theorem parts_at (n nodes k i : Nat) (hi : i < lenP n nodes k) : (partP n nodes k)[i]? = some (partY n nodes k i).1 ∧ (whoP n nodes k)[i]? = some (partY n nodes k i).2 := by
  unfold lenP at hi
  have e1 : ((nodes : Int) * (n : Int)) = ((nodes * n : Nat) : Int) := by simp
  have e2 : ((k : Int) * (2 + ((nodes : Int) + 1))) = ((k * (2 + (nodes + 1)) : Nat) : Int) := by simp
  have e3 : (2 + ((nodes : Int) + 1)) = ((2 + (nodes + 1) : Nat) : Int) := by simp
  have e5 : ∀ m : Nat, (i : Int) / (m : Int) = ((i / m : Nat) : Int) := fun m => by simp
  have h0 : ¬ (i : Int) < 0 := by omega
  rw [partP_at, whoP_at]
  generalize hq : nodes * n = q at *
  generalize hs : k * (2 + (nodes + 1)) = s at *
  by_cases h1 : i < q
  · have hY : partY n nodes k i = (1, ((i / n : Nat) : Int)) := by unfold partY; rw [if_neg h0, e1, if_pos (by omega), e5]
    rw [if_pos h1, if_pos h1, hY]
    exact ⟨rfl, rfl⟩
  rw [if_neg h1, if_neg h1]
  by_cases h2 : i - q < nodes
  · have hY : partY n nodes k i = (2, (i : Int) - q) := by unfold partY; rw [if_neg h0, e1, if_neg (by omega), if_pos (by omega)]
    rw [if_pos h2, if_pos h2, hY]
    refine ⟨rfl, ?_⟩
    show some _ = some _
    congr 1; omega
  rw [if_neg h2, if_neg h2]
  by_cases h3 : i - q - nodes < 1
  · have hY : partY n nodes k i = (3, (i : Int) - q - nodes) := by unfold partY; rw [if_neg h0, e1, if_neg (by omega), if_neg (by omega), if_pos (by omega)]
    rw [if_pos h3, if_pos h3, hY]
    refine ⟨rfl, ?_⟩
    show some _ = some _
    congr 1; omega
  have e4 : ((i : Int) - (q : Int) - (nodes : Int) - 1) = ((i - q - nodes - 1 : Nat) : Int) := by omega
  have hY : partY n nodes k i = (4, ((i : Int) - q - nodes - 1) / (2 + ((nodes : Int) + 1))) := by unfold partY; rw [if_neg h0, e1, e2, if_neg (by omega), if_neg (by omega), if_neg (by omega), if_pos (by omega)]
  rw [if_neg h3, if_neg h3, if_pos (by omega), if_pos (by omega), hY]
  refine ⟨rfl, ?_⟩
  show some _ = some _
  rw [e3, e4]
  simp

theorem parts_out (n nodes k : Nat) (a : Int) (ha : a < 0 ∨ (lenP n nodes k : Int) ≤ a) : partY n nodes k a = (0, 0) := by
  unfold lenP at ha
  have e1 : ((nodes : Int) * (n : Int)) = ((nodes * n : Nat) : Int) := by simp
  have e2 : ((k : Int) * (2 + ((nodes : Int) + 1))) = ((k * (2 + (nodes + 1)) : Nat) : Int) := by simp
  unfold partY
  rw [e1, e2]
  generalize nodes * n = q at *
  generalize k * (2 + (nodes + 1)) = s at *
  by_cases h0 : a < 0
  · rw [if_pos h0]
  rw [if_neg h0, if_neg (by omega), if_neg (by omega), if_neg (by omega), if_neg (by omega)]

end Go.Proofs.Ytjjmoibnmdbpeaa.Pr
