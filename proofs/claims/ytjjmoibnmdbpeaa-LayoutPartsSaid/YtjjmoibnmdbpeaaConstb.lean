/- WALKS of package constant and of its reference soughref11, second part: Is, norm, Join, Below, Rank, Text. -/
import Derived.Test.YtjjmoibnmdbpeaaConst
namespace Go.Proofs.Ytjjmoibnmdbpeaa
set_option linter.unusedVariables false
set_option linter.unusedSimpArgs false
open Go.RowKit Flo

def isB (n : Int) : Bool := decide (isN n) || n == 0 || n == 1

theorem isN_0 : ¬ isN 0 := by decide
theorem isN_1 : ¬ isN 1 := by decide
theorem isB_N {n : Int} (h : isN n) : isB n = true := by unfold isB; simp [h]
theorem isB_X {n : Int} (h : ¬ isN n) (h0 : n ≠ 0) (h1 : n ≠ 1) : isB n = false := by unfold isB; simp [h, h0, h1]
theorem isN_pos {n : Int} (h : isN n) : n ≠ 0 ∧ n ≠ 1 := by unfold isN at h; omega
theorem normW_N {n : Int} (h : isN n) : normW n = n := by unfold normW; rw [if_neg (isN_pos h).1, if_pos h]
theorem normW_X {n : Int} (h : ¬ isN n) (h0 : n ≠ 0) : normW n = 1 := by unfold normW; rw [if_neg h0, if_neg h]
theorem normW_0 : normW 0 = 0 := rfl
theorem normW_1 : normW 1 = 1 := by decide
theorem normW_lo (n : Int) (h : 0 ≤ n) : 0 ≤ normW n := by unfold normW; split; omega; split <;> omega
theorem normW_hi (n : Int) (h : n < 18446744073709551616) : normW n < 18446744073709551616 := by unfold normW; split; omega; split <;> omega

theorem is_word (n : Int) (h0 : 0 ≤ n) (h1 : n < 18446744073709551616) (w : World) :
    Calls Try.prog 102 #[.int .u64 n] w fun e w' => e = .returned (.bool (isB n)) ∧ Below w.heap.size w w' := by
  by_cases h : isN n
  · rw [isB_N h]
    obtain ⟨e0, e1⟩ := isN_pos h
    go_enter Try.func102, Try.ntmps102
    go_wp2_with (first | (go_at_call 132; refine' Calls.aft _ _ (cnum_yes n h0 h1 h _) _; rotate_left 2; (first | (with_reducible exact After.below _; rfl) | (with_reducible exact below_drew (After.below _); rfl) | (with_reducible exact below_set (After.below _) _ _; (go_simp; rfl)) | (with_reducible exact below_set (below_set (After.below _) _ _) _ _; (go_simp; rfl)) | (with_reducible exact below_set (below_set (below_set (After.below _) _ _) _ _) _ _; (go_simp; rfl)) | (with_reducible exact below_set (below_set (below_set (below_set (After.below _) _ _) _ _) _ _) _ _; (go_simp; rfl)) | (exact Below.refl _ _; rfl)); intro x; have hle := After.le x; (try simp at hle)))
    go_ret
    refine ⟨rfl, ?_⟩
    (repeat (first | exact Below.refl _ _ | apply Below.drew | refine Below.alloc ?_ ?_ _ | refine Below.setCell ?_ ?_ _ | refine Below.trans ?_ (Below.mono (After.below _) ?_))); (all_goals (first | (simp; done) | (simp; omega) | omega))
  · by_cases e0 : n = 0
    · subst e0
      rw [show isB 0 = true from rfl]
      go_enter Try.func102, Try.ntmps102
      go_wp2_with (first | (go_at_call 132; refine' Calls.aft _ _ (cnum_no 0 h0 h1 h _) _; rotate_left 2; (first | (with_reducible exact After.below _; rfl) | (with_reducible exact below_drew (After.below _); rfl) | (with_reducible exact below_set (After.below _) _ _; (go_simp; rfl)) | (with_reducible exact below_set (below_set (After.below _) _ _) _ _; (go_simp; rfl)) | (with_reducible exact below_set (below_set (below_set (After.below _) _ _) _ _) _ _; (go_simp; rfl)) | (with_reducible exact below_set (below_set (below_set (below_set (After.below _) _ _) _ _) _ _) _ _; (go_simp; rfl)) | (exact Below.refl _ _; rfl)); intro x; have hle := After.le x; (try simp at hle)))
      go_ret
      refine ⟨rfl, ?_⟩
      (repeat (first | exact Below.refl _ _ | apply Below.drew | refine Below.alloc ?_ ?_ _ | refine Below.setCell ?_ ?_ _ | refine Below.trans ?_ (Below.mono (After.below _) ?_))); (all_goals (first | (simp; done) | (simp; omega) | omega))
    · by_cases e1 : n = 1
      · subst e1
        rw [show isB 1 = true from rfl]
        go_enter Try.func102, Try.ntmps102
        go_wp2_with (first | (go_at_call 132; refine' Calls.aft _ _ (cnum_no 1 h0 h1 h _) _; rotate_left 2; (first | (with_reducible exact After.below _; rfl) | (with_reducible exact below_drew (After.below _); rfl) | (with_reducible exact below_set (After.below _) _ _; (go_simp; rfl)) | (with_reducible exact below_set (below_set (After.below _) _ _) _ _; (go_simp; rfl)) | (with_reducible exact below_set (below_set (below_set (After.below _) _ _) _ _) _ _; (go_simp; rfl)) | (with_reducible exact below_set (below_set (below_set (below_set (After.below _) _ _) _ _) _ _) _ _; (go_simp; rfl)) | (exact Below.refl _ _; rfl)); intro x; have hle := After.le x; (try simp at hle)))
        go_ret
        refine ⟨rfl, ?_⟩
        (repeat (first | exact Below.refl _ _ | apply Below.drew | refine Below.alloc ?_ ?_ _ | refine Below.setCell ?_ ?_ _ | refine Below.trans ?_ (Below.mono (After.below _) ?_))); (all_goals (first | (simp; done) | (simp; omega) | omega))
      · rw [isB_X h e0 e1]
        have f0 : (n == 0) = false := by simp [e0]
        have f1 : (n == 1) = false := by simp [e1]
        go_enter Try.func102, Try.ntmps102
        go_wp2_with (first | (go_at_call 132; refine' Calls.aft _ _ (cnum_no n h0 h1 h _) _; rotate_left 2; (first | (with_reducible exact After.below _; rfl) | (with_reducible exact below_drew (After.below _); rfl) | (with_reducible exact below_set (After.below _) _ _; (go_simp; rfl)) | (with_reducible exact below_set (below_set (After.below _) _ _) _ _; (go_simp; rfl)) | (with_reducible exact below_set (below_set (below_set (After.below _) _ _) _ _) _ _; (go_simp; rfl)) | (with_reducible exact below_set (below_set (below_set (below_set (After.below _) _ _) _ _) _ _) _ _; (go_simp; rfl)) | (exact Below.refl _ _; rfl)); intro x; have hle := After.le x; (try simp at hle)))
        go_ret
        refine ⟨rfl, ?_⟩
        (repeat (first | exact Below.refl _ _ | apply Below.drew | refine Below.alloc ?_ ?_ _ | refine Below.setCell ?_ ?_ _ | refine Below.trans ?_ (Below.mono (After.below _) ?_))); (all_goals (first | (simp; done) | (simp; omega) | omega))

theorem norm_of (n : Int) (h : isB n = true) : normW n = n := by
  by_cases h1 : isN n
  · exact normW_N h1
  · unfold isB at h
    simp [h1] at h
    rcases h with rfl | rfl <;> decide
theorem norm_not (n : Int) (h : isB n = false) : normW n = 1 := by
  unfold isB at h
  simp at h
  exact normW_X h.1.1 h.1.2

theorem rnorm_any (n : Int) (h0 : 0 ≤ n) (h1 : n < 18446744073709551616) (w : World) :
    Calls Try.prog 112 #[.int .u64 n] w fun e w' => e = .returned (.int .u64 (normW n)) ∧ Below w.heap.size w w' := by
  by_cases h : isN n
  · rw [normW_N h]
    obtain ⟨e0, e1⟩ := isN_pos h
    have f0 : (n == 0) = false := by simp [e0]
    have f1 : (n != 0) = true := by simp [e0]
    clear e0 e1
    go_enter Try.func112, Try.ntmps112
    go_wp2_with (first | (go_at_call 137; refine' Calls.aft _ _ (rnum_yes n h0 h1 h _) _; rotate_left 2; (first | (with_reducible exact After.below _; rfl) | (with_reducible exact below_drew (After.below _); rfl) | (with_reducible exact below_set (After.below _) _ _; (go_simp; rfl)) | (with_reducible exact below_set (below_set (After.below _) _ _) _ _; (go_simp; rfl)) | (with_reducible exact below_set (below_set (below_set (After.below _) _ _) _ _) _ _; (go_simp; rfl)) | (with_reducible exact below_set (below_set (below_set (below_set (After.below _) _ _) _ _) _ _) _ _; (go_simp; rfl)) | (exact Below.refl _ _; rfl)); intro x; have hle := After.le x; (try simp at hle)))
    go_ret
    refine ⟨rfl, ?_⟩
    (repeat (first | exact Below.refl _ _ | apply Below.drew | refine Below.alloc ?_ ?_ _ | refine Below.setCell ?_ ?_ _ | refine Below.trans ?_ (Below.mono (After.below _) ?_))); (all_goals (first | (simp; done) | (simp; omega) | omega))
  · by_cases e0 : n = 0
    · subst e0
      rw [normW_0]
      go_enter Try.func112, Try.ntmps112
      go_wp2_with (first | (go_at_call 137; refine' Calls.aft _ _ (rnum_no 0 h0 h1 h _) _; rotate_left 2; (first | (with_reducible exact After.below _; rfl) | (with_reducible exact below_drew (After.below _); rfl) | (with_reducible exact below_set (After.below _) _ _; (go_simp; rfl)) | (with_reducible exact below_set (below_set (After.below _) _ _) _ _; (go_simp; rfl)) | (with_reducible exact below_set (below_set (below_set (After.below _) _ _) _ _) _ _; (go_simp; rfl)) | (with_reducible exact below_set (below_set (below_set (below_set (After.below _) _ _) _ _) _ _) _ _; (go_simp; rfl)) | (exact Below.refl _ _; rfl)); intro x; have hle := After.le x; (try simp at hle)))
      go_ret
      refine ⟨rfl, ?_⟩
      (repeat (first | exact Below.refl _ _ | apply Below.drew | refine Below.alloc ?_ ?_ _ | refine Below.setCell ?_ ?_ _ | refine Below.trans ?_ (Below.mono (After.below _) ?_))); (all_goals (first | (simp; done) | (simp; omega) | omega))
    · rw [normW_X h e0]
      have f0 : (n == 0) = false := by simp [e0]
      have f1 : (n != 0) = true := by simp [e0]
      clear e0
      go_enter Try.func112, Try.ntmps112
      go_wp2_with (first | (go_at_call 137; refine' Calls.aft _ _ (rnum_no n h0 h1 h _) _; rotate_left 2; (first | (with_reducible exact After.below _; rfl) | (with_reducible exact below_drew (After.below _); rfl) | (with_reducible exact below_set (After.below _) _ _; (go_simp; rfl)) | (with_reducible exact below_set (below_set (After.below _) _ _) _ _; (go_simp; rfl)) | (with_reducible exact below_set (below_set (below_set (After.below _) _ _) _ _) _ _; (go_simp; rfl)) | (with_reducible exact below_set (below_set (below_set (below_set (After.below _) _ _) _ _) _ _) _ _; (go_simp; rfl)) | (exact Below.refl _ _; rfl)); intro x; have hle := After.le x; (try simp at hle)))
      go_ret
      refine ⟨rfl, ?_⟩
      (repeat (first | exact Below.refl _ _ | apply Below.drew | refine Below.alloc ?_ ?_ _ | refine Below.setCell ?_ ?_ _ | refine Below.trans ?_ (Below.mono (After.below _) ?_))); (all_goals (first | (simp; done) | (simp; omega) | omega))

/-- The less known of two words that count. -/
def joinN (x y : Int) : Int := if x = y then x else if y = 0 then x else if x = 0 then y else 1
def joinW (a b : Int) : Int := joinN (normW a) (normW b)

end Go.Proofs.Ytjjmoibnmdbpeaa
