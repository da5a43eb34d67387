/- WALKS of package lattice and its reference: is, Words, Height; what they tell. -/
import Derived.Test.YtjjopjpchgajcaaWordsf
import Derived.Test.YtjjopjpchgajcaaConstc
namespace Go.Proofs.Ytjjopjpchgajcaa.Ws
set_option linter.unusedVariables false
set_option linter.unusedSimpArgs false
open Go Go.RowKit

/-- Whether there is such a lattice. -/
def isL (what width : Int) : Bool := (decide (what = 1) || decide (what = 2) || decide (what = 3)) && (decide (0 ≤ width) && decide (width ≤ 1024))
/-- How many words a value has. -/
def wordsN (what width : Int) : Nat := if isL what width then (if what = 3 then width.toNat else sizeN width) else 0
def heightN (what width : Int) : Nat := if isL what width then (if what = 3 then 2 * width.toNat else width.toNat) else 0

theorem isL_facts {what width : Int} (h : isL what width = true) : (what = 1 ∨ what = 2 ∨ what = 3) ∧ 0 ≤ width ∧ width ≤ 1024 := by
  simpa [isL, or_assoc] using h
theorem wordsN_le (what width : Int) : wordsN what width ≤ 1024 := by
  unfold wordsN
  split
  · have := isL_facts (by assumption)
    have := sizeN_le width
    split <;> omega
  · omega

theorem is_any (what width : Int) (w : World) : Calls Try.prog 74 #[.int .i64 what, .int .i64 width] w fun e w' => e = .returned (.bool (isL what width)) ∧ w = w' := by
  go_enter Try.func74, Try.ntmps74
  go_wp2_with fail
  all_goals (go_ret; refine ⟨?_, rfl⟩; refine congrArg (fun b => Ending.returned (Value.bool b)) (?_ : (_ : Bool) = _); rw [Bool.eq_iff_iff]; simp [isL] <;> omega)

theorem ris_any (what width : Int) (w : World) : Calls Try.prog 63 #[.int .i64 what, .int .i64 width] w fun e w' => e = .returned (.bool (isL what width)) ∧ w = w' := by
  go_enter Try.func63, Try.ntmps63
  go_wp2_with fail
  all_goals (go_ret; refine ⟨?_, rfl⟩; refine congrArg (fun b => Ending.returned (Value.bool b)) (?_ : (_ : Bool) = _); rw [Bool.eq_iff_iff]; simp [isL] <;> omega)

theorem words_any (what width : Int) (w : World) : Calls Try.prog 48 #[.int .i64 what, .int .i64 width] w fun e w' => e = .returned (.int .i64 (wordsN what width)) ∧ w = w' := by
  have h0 := is_any what width
  cases hL : isL what width
  · rw [hL] at h0
    have hw : wordsN what width = 0 := by simp [wordsN, hL]
    rw [hw]
    go_enter Try.func48, Try.ntmps48
    go_wp2_with (first | (go_at_call 74; refine Calls.same (h0 _) ?_))
    go_ret
    exact ⟨rfl, rfl⟩
  · rw [hL] at h0
    obtain ⟨h1, h2, h3⟩ := isL_facts hL
    have hs := size_any width
    rcases h1 with rfl | rfl | rfl
    · have hw : wordsN 1 width = sizeN width := by simp [wordsN, hL]
      rw [hw]
      go_enter Try.func48, Try.ntmps48
      go_wp2_with (first | (go_at_call 74; refine Calls.same (h0 _) ?_) | (go_at_call 75; refine Calls.same (hs _) ?_))
      go_ret
      exact ⟨rfl, rfl⟩
    · have hw : wordsN 2 width = sizeN width := by simp [wordsN, hL]
      rw [hw]
      go_enter Try.func48, Try.ntmps48
      go_wp2_with (first | (go_at_call 74; refine Calls.same (h0 _) ?_) | (go_at_call 75; refine Calls.same (hs _) ?_))
      go_ret
      exact ⟨rfl, rfl⟩
    · have hw : ((wordsN 3 width : Nat) : Int) = width := by simp [wordsN, hL]; omega
      rw [hw]
      go_enter Try.func48, Try.ntmps48
      go_wp2_with (first | (go_at_call 74; refine Calls.same (h0 _) ?_) | (go_at_call 75; refine Calls.same (hs _) ?_))
      go_ret
      exact ⟨rfl, rfl⟩

theorem rwords_any (what width : Int) (w : World) : Calls Try.prog 49 #[.int .i64 what, .int .i64 width] w fun e w' => e = .returned (.int .i64 (wordsN what width)) ∧ w = w' := by
  have h0 := ris_any what width
  cases hL : isL what width
  · rw [hL] at h0
    have hw : wordsN what width = 0 := by simp [wordsN, hL]
    rw [hw]
    go_enter Try.func49, Try.ntmps49
    go_wp2_with (first | (go_at_call 63; refine Calls.same (h0 _) ?_))
    go_ret
    exact ⟨rfl, rfl⟩
  · rw [hL] at h0
    obtain ⟨h1, h2, h3⟩ := isL_facts hL
    have hs := rsize_any width
    by_cases h4 : what = 3
    · have hw : ((wordsN what width : Nat) : Int) = width := by unfold wordsN; rw [hL, if_pos rfl, if_pos h4]; omega
      rw [hw]
      have f4 : (what == 3) = true := by simp [h4]
      clear h4 hL h1
      go_enter Try.func49, Try.ntmps49
      go_wp2_with (first | (go_at_call 63; refine Calls.same (h0 _) ?_) | (go_at_call 76; refine Calls.same (hs _) ?_))
      go_ret
      exact ⟨rfl, rfl⟩
    · have hw : wordsN what width = sizeN width := by simp [wordsN, hL, h4]
      rw [hw]
      have f4 : (what == 3) = false := by simp [h4]
      clear h4 hL h1
      go_enter Try.func49, Try.ntmps49
      go_wp2_with (first | (go_at_call 63; refine Calls.same (h0 _) ?_) | (go_at_call 76; refine Calls.same (hs _) ?_))
      go_ret
      exact ⟨rfl, rfl⟩

theorem height_any (what width : Int) (w : World) : Calls Try.prog 57 #[.int .i64 what, .int .i64 width] w fun e w' => e = .returned (.int .i64 (heightN what width)) ∧ w = w' := by
  have h0 := is_any what width
  cases hL : isL what width
  · rw [hL] at h0
    have hw : heightN what width = 0 := by simp [heightN, hL]
    rw [hw]
    go_enter Try.func57, Try.ntmps57
    go_wp2_with (first | (go_at_call 74; refine Calls.same (h0 _) ?_))
    go_ret
    exact ⟨rfl, rfl⟩
  · rw [hL] at h0
    obtain ⟨h1, h2, h3⟩ := isL_facts hL
    by_cases h4 : what = 3
    · have hw : ((heightN what width : Nat) : Int) = 2 * width := by unfold heightN; rw [hL, if_pos rfl, if_pos h4]; omega
      rw [hw]
      have f4 : (what == 3) = true := by simp [h4]
      clear h4 hL h1
      go_enter Try.func57, Try.ntmps57
      go_wp2_with (first | (go_at_call 74; refine Calls.same (h0 _) ?_))
      go_ret
      exact ⟨rfl, rfl⟩
    · have hw : ((heightN what width : Nat) : Int) = width := by simp [heightN, hL, h4]; omega
      rw [hw]
      have f4 : (what == 3) = false := by simp [h4]
      clear h4 hL h1
      go_enter Try.func57, Try.ntmps57
      go_wp2_with (first | (go_at_call 74; refine Calls.same (h0 _) ?_))
      go_ret
      exact ⟨rfl, rfl⟩

theorem rheight_any (what width : Int) (w : World) : Calls Try.prog 58 #[.int .i64 what, .int .i64 width] w fun e w' => e = .returned (.int .i64 (heightN what width)) ∧ w = w' := by
  have h0 := ris_any what width
  cases hL : isL what width
  · rw [hL] at h0
    have hw : heightN what width = 0 := by simp [heightN, hL]
    rw [hw]
    go_enter Try.func58, Try.ntmps58
    go_wp2_with (first | (go_at_call 63; refine Calls.same (h0 _) ?_))
    go_ret
    exact ⟨rfl, rfl⟩
  · rw [hL] at h0
    obtain ⟨h1, h2, h3⟩ := isL_facts hL
    by_cases h4 : what = 3
    · have hw : ((heightN what width : Nat) : Int) = 2 * width := by unfold heightN; rw [hL, if_pos rfl, if_pos h4]; omega
      rw [hw]
      have f4 : (what == 3) = true := by simp [h4]
      clear h4 hL h1
      go_enter Try.func58, Try.ntmps58
      go_wp2_with (first | (go_at_call 63; refine Calls.same (h0 _) ?_))
      go_ret
      exact ⟨rfl, rfl⟩
    · have hw : ((heightN what width : Nat) : Int) = width := by simp [heightN, hL, h4]; omega
      rw [hw]
      have f4 : (what == 3) = false := by simp [h4]
      clear h4 hL h1
      go_enter Try.func58, Try.ntmps58
      go_wp2_with (first | (go_at_call 63; refine Calls.same (h0 _) ?_))
      go_ret
      exact ⟨rfl, rfl⟩

end Go.Proofs.Ytjjopjpchgajcaa.Ws
