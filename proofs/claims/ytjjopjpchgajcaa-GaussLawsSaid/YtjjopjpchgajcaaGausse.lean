/- THE WALK of the law GaussLaws: true, for any numbers. -/
import Derived.Test.YtjjopjpchgajcaaGaussp
namespace Go.Proofs.Ytjjopjpchgajcaa
set_option linter.unusedVariables false
set_option linter.unusedSimpArgs false
open Go.RowKit Flo

set_option maxRecDepth 100000 in
set_option maxHeartbeats 4000000 in
theorem gaussLaws_any (a1 a2 b1 b2 c1 c2 : Int) (w : World) :
    Calls Try.prog 3 #[.agg #[.int .i64 a1, .int .i64 a2], .agg #[.int .i64 b1, .int .i64 b2], .agg #[.int .i64 c1, .int .i64 c2]] w fun e w' => e = .returned (.bool true) ∧ Below w.heap.size w w' := by
  have f1 := add_comm_b a1 b1
  have f2 := add_comm_b a2 b2
  have f3 := re_comm_b a1 a2 b1 b2
  have f4 := im_comm_b a1 a2 b1 b2
  have f5 := add_assoc_b a1 b1 c1
  have f6 := add_assoc_b a2 b2 c2
  have f7 := re_assoc_b a1 a2 b1 b2 c1 c2
  have f8 := im_assoc_b a1 a2 b1 b2 c1 c2
  have f9 := re_dist_b a1 a2 b1 b2 c1 c2
  have f10 := im_dist_b a1 a2 b1 b2 c1 c2
  have f11 := re_conj_b a1 a2 b1 b2
  have f12 := im_conj_b a1 a2 b1 b2
  have f13 := sub_add_b a1 b1
  have f14 := sub_add_b a2 b2
  go_enter Try.func3, Try.ntmps3
  go_wp2_with (first | (go_at_call 13; refine' Calls.aft _ _ (awake_any _) _; rotate_left 2; (first | (with_reducible exact After.below _; rfl) | (with_reducible exact below_set (After.below _) _ _; (go_simp; rfl)) | (with_reducible exact below_set (below_set (After.below _) _ _) _ _; (go_simp; rfl)) | (with_reducible exact below_set (below_set (below_set (After.below _) _ _) _ _) _ _; (go_simp; rfl)) | (with_reducible exact below_set (below_set (below_set (below_set (After.below _) _ _) _ _) _ _) _ _; (go_simp; rfl)) | (exact Below.refl _ _; rfl)); intro x))
  refine' region_whole _ _ (by kernel_rfl) (by kernel_rfl) _; rotate_left 2; (first | (with_reducible exact After.below _; rfl) | (with_reducible exact below_set (After.below _) _ _; (go_simp; rfl)) | (with_reducible exact below_set (below_set (After.below _) _ _) _ _; (go_simp; rfl)) | (with_reducible exact below_set (below_set (below_set (After.below _) _ _) _ _) _ _; (go_simp; rfl)) | (with_reducible exact below_set (below_set (below_set (below_set (After.below _) _ _) _ _) _ _) _ _; (go_simp; rfl)) | (exact Below.refl _ _; rfl)); (repeat (go_big_quiet_step (first | (go_at_call 14; exact Calls.after_of (add_any _ _ _ _ _)) | (go_at_call 15; exact Calls.after_of (mul_any _ _ _ _ _))))); refine wpQuiet_nil ?_; intro z
  go_wp2_with fail
  refine' region_whole _ _ (by kernel_rfl) (by kernel_rfl) _; rotate_left 2; (first | (with_reducible exact After.below _; rfl) | (with_reducible exact below_set (After.below _) _ _; (go_simp; rfl)) | (with_reducible exact below_set (below_set (After.below _) _ _) _ _; (go_simp; rfl)) | (with_reducible exact below_set (below_set (below_set (After.below _) _ _) _ _) _ _; (go_simp; rfl)) | (with_reducible exact below_set (below_set (below_set (below_set (After.below _) _ _) _ _) _ _) _ _; (go_simp; rfl)) | (exact Below.refl _ _; rfl)); (repeat (go_big_quiet_step (first | (go_at_call 14; exact Calls.after_of (add_any _ _ _ _ _)) | (go_at_call 15; exact Calls.after_of (mul_any _ _ _ _ _)) | (go_at_call 17; exact Calls.after_of (sub_any _ _ _ _ _)) | (go_at_call 16; exact Calls.after_of (conj_any _ _ _)) | (go_at_call 18; exact Calls.after_of (of_any _ _ _))))); refine wpQuiet_nil ?_; intro z
  go_wp2
  go_ret
  refine ⟨rfl, ?_⟩
  have hx := z.le; simp at hx
  (repeat (first | exact Below.refl _ _ | apply Below.drew | refine Below.alloc ?_ ?_ _ | refine Below.setCell ?_ ?_ _ | refine Below.trans ?_ (Below.mono (After.below _) ?_))); (all_goals (first | (simp; done) | (simp; omega) | omega))
end Go.Proofs.Ytjjopjpchgajcaa
