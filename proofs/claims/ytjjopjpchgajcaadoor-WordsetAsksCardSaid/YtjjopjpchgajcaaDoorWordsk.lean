/- soughlaw10.awake. -/
import Derived.Test.YtjjopjpchgajcaaDoorWordsj
namespace Go.Proofs.YtjjopjpchgajcaaDoor.Ws
set_option linter.unusedVariables false
set_option linter.unusedSimpArgs false
open Go Go.RowKit

theorem below_after {w W : World} (h : Below w.heap.size w W) (x : After W) : Below w.heap.size w x.val := h.trans (Below.mono x.below h.size)

theorem of70 : wordsOf (inB [1, 69, 70] (cutN 70)) (sizeN 70) = [2, 32] := by decide +kernel
theorem size70 : sizeN 70 = 2 := by decide +kernel
theorem list70 : listW [2, 32] 128 = [1, 69] := by decide +kernel
theorem full70 : fullW 70 = [18446744073709551615, 63] := by decide +kernel
theorem len70 : size [18446744073709551615, 63] = 70 := by decide +kernel

theorem awake10_any (w : World) (hT : Tab w) : Calls Tryd.prog 6 #[] w fun e w' => e = .returned (.bool true) ∧ Below w.heap.size w w' := by
  have hT0 := hT.lt
  have hof : ∀ w1 : World, Calls Tryd.prog 11 #[.int .i64 70, .slice (some ⟨w1.heap.size, 0, none⟩) 3 3] (w1.alloc (.cells #[.int .i64 1, .int .i64 69, .int .i64 70] 3)) fun e w' => ∃ v', e = .returned v' ∧ w'.ownsRow (w1.alloc (.cells #[.int .i64 1, .int .i64 69, .int .i64 70] 3)).heap.size 39 1 v' 2 (([2, 32] : List Nat).flatMap encW) ∧ Below (w1.alloc (.cells #[.int .i64 1, .int .i64 69, .int .i64 70] 3)).heap.size (w1.alloc (.cells #[.int .i64 1, .int .i64 69, .int .i64 70] 3)) w' := fun w1 => by
    have h := wof_any 70 [1, 69, 70] (by decide) (.slice (some ⟨w1.heap.size, 0, none⟩) 3 3) (w1.alloc (.cells #[.int .i64 1, .int .i64 69, .int .i64 70] 3)) ⟨w1.heap.size, 0, _, 3, rfl, fun _ => rfl, fun j u hu => by
      rw [Nat.zero_add, cell_alloc_at rfl]
      simpa [encI] using hu⟩
    rw [of70, size70] at h
    exact h
  have hli := fun v w1 h h' => list_any [2, 32] (by intro x hx; simp at hx; omega) (by decide) v w1 h h'
  have e128 : 64 * ([2, 32] : List Nat).length = 128 := rfl
  rw [e128, list70] at hli
  have hfu := full_any 70
  rw [full70, size70] at hfu
  have hln := fun v w1 h => len_any [18446744073709551615, 63] (by intro x hx; simp at hx; omega) (by decide) v w1 h
  rw [len70] at hln
  have hF := And.intro True.intro hfu
  clear hfu
  have hG := And.intro True.intro hli
  clear hli
  have hB0 := (Below.refl w.heap.size w).alloc (Nat.le_refl _) (.cells #[.int .i64 1, .int .i64 69, .int .i64 70] 3)
  go_enter Tryd.func6, Tryd.ntmps6
  go_wp2_with (first | (go_at_call 11; refine' Calls.aftS _ _ (hof _) _; rotate_left 2; (exact Below.refl _ _; rfl); intro v1 x1 ho1; have hle := After.le x1; (try simp at hle)) | ((go_at_call 26; refine' Calls.aftS _ _ (hG.2 _ _ (Sl.of_own ho1) (hT.below hT0 (by repeat (first | exact hB0 | refine below_after ?_ _)))) _; rotate_left 2; (exact Below.refl _ _; rfl); intro v2 x2 ho2; have hle := After.le x2; (try simp at hle)); obtain ⟨g, cap, rfl, hgb, hgl⟩ := own_some ho2 (by decide); have c0 := ho2.cellAt 1 (by decide); rw [flat_ints] at c0; simp at c0) | (go_at_call 7; refine' Calls.aftS _ _ (hF.2 _) _; rotate_left 2; (exact Below.refl _ _; rfl); intro v3 x3 ho3; have hle := After.le x3; (try simp at hle)) | (go_at_call 13; refine Calls.same (hln _ _ (Sl.of_own ho3)) ?_))
  go_ret
  exact ⟨rfl, (by repeat (first | exact hB0 | refine below_after ?_ _))⟩

end Go.Proofs.YtjjopjpchgajcaaDoor.Ws
