/- THE WALK of the law GaussOps: true, for any numbers and any operation. -/
import Derived.Test.YtjjopjpchgajcaaGaussp
namespace Go.Proofs.Ytjjopjpchgajcaa
set_option linter.unusedVariables false
set_option linter.unusedSimpArgs false
open Go.RowKit Flo

set_option maxRecDepth 100000 in
set_option maxHeartbeats 8000000 in
theorem gaussOps_with (a1 a2 b1 b2 op : Int) (w : World) (e : Bool) (n : Int) (hE : opE op = e) (hn : opN op = n) (h1 : e = true ∧ n = 0 ∨ e = false ∧ n = 10) :
    Calls Try.prog 5 #[.agg #[.int .i64 a1, .int .i64 a2], .agg #[.int .i64 b1, .int .i64 b2], .int .i64 op] w fun e w' => e = .returned (.bool true) ∧ Below w.heap.size w w' := by
  have q1 : opA 1 a1 a2 b1 b2 = addR a1 b1 := rfl
  have q2 : opB 1 a1 a2 b1 b2 = addR a2 b2 := rfl
  have q3 : opA 2 a1 a2 b1 b2 = subR a1 b1 := rfl
  have q4 : opB 2 a1 a2 b1 b2 = subR a2 b2 := rfl
  have q5 : opA 3 a1 a2 b1 b2 = mulRe a1 a2 b1 b2 := rfl
  have q6 : opB 3 a1 a2 b1 b2 = mulIm a1 a2 b1 b2 := rfl
  have q7 : opA 4 a1 a2 b1 b2 = wr (wr a1) := rfl
  have q8 : opB 4 a1 a2 b1 b2 = negR a2 := rfl
  rcases h1 with ⟨rfl, rfl⟩ | ⟨rfl, rfl⟩
  all_goals
    go_enter Try.func5, Try.ntmps5
    go_wp2_with (first | (go_at_call 13; refine' Calls.aft _ _ (awake_any _) _; rotate_left 2; (first | (with_reducible exact After.below _; rfl) | (with_reducible exact below_set (After.below _) _ _; (go_simp; rfl)) | (with_reducible exact below_set (below_set (After.below _) _ _) _ _; (go_simp; rfl)) | (with_reducible exact below_set (below_set (below_set (After.below _) _ _) _ _) _ _; (go_simp; rfl)) | (with_reducible exact below_set (below_set (below_set (below_set (After.below _) _ _) _ _) _ _) _ _; (go_simp; rfl)) | (exact Below.refl _ _; rfl)); intro x; have hle := After.le x; (try simp at hle)) | (go_at_call 26; refine' Calls.aft _ _ (op_any _ _ _ _ _ _) _; rotate_left 2; (first | (with_reducible exact After.below _; rfl) | (with_reducible exact below_set (After.below _) _ _; (go_simp; rfl)) | (with_reducible exact below_set (below_set (After.below _) _ _) _ _; (go_simp; rfl)) | (with_reducible exact below_set (below_set (below_set (After.below _) _ _) _ _) _ _; (go_simp; rfl)) | (with_reducible exact below_set (below_set (below_set (below_set (After.below _) _ _) _ _) _ _) _ _; (go_simp; rfl)) | (exact Below.refl _ _; rfl)); intro x; have hle := After.le x; (try simp at hle)) | (go_at_call 27; refine' Calls.aft _ _ (rop_any _ _ _ _ _ _) _; rotate_left 2; (first | (with_reducible exact After.below _; rfl) | (with_reducible exact below_set (After.below _) _ _; (go_simp; rfl)) | (with_reducible exact below_set (below_set (After.below _) _ _) _ _; (go_simp; rfl)) | (with_reducible exact below_set (below_set (below_set (After.below _) _ _) _ _) _ _; (go_simp; rfl)) | (with_reducible exact below_set (below_set (below_set (below_set (After.below _) _ _) _ _) _ _) _ _; (go_simp; rfl)) | (exact Below.refl _ _; rfl)); intro x; have hle := After.le x; (try simp at hle)))
    refine' region_whole _ _ (by kernel_rfl) (by kernel_rfl) _; rotate_left 2; (first | (with_reducible exact After.below _; rfl) | (with_reducible exact below_set (After.below _) _ _; (go_simp; rfl)) | (with_reducible exact below_set (below_set (After.below _) _ _) _ _; (go_simp; rfl)) | (with_reducible exact below_set (below_set (below_set (After.below _) _ _) _ _) _ _; (go_simp; rfl)) | (with_reducible exact below_set (below_set (below_set (below_set (After.below _) _ _) _ _) _ _) _ _; (go_simp; rfl)) | (exact Below.refl _ _; rfl)); (repeat (go_big_quiet_step (first | (go_at_call 25; exact Calls.after_of (is_any _ _ _)) | (go_at_call 19; exact Calls.after_of (rof_any _ _ _))))); refine wpQuiet_nil ?_; intro z
    have hz := z.le; simp at hz
    go_wp2_with fail
    refine' region_whole _ _ (by kernel_rfl) (by kernel_rfl) _; rotate_left 2; (first | (with_reducible exact After.below _; rfl) | (with_reducible exact below_set (After.below _) _ _; (go_simp; rfl)) | (with_reducible exact below_set (below_set (After.below _) _ _) _ _; (go_simp; rfl)) | (with_reducible exact below_set (below_set (below_set (After.below _) _ _) _ _) _ _; (go_simp; rfl)) | (with_reducible exact below_set (below_set (below_set (below_set (After.below _) _ _) _ _) _ _) _ _; (go_simp; rfl)) | (exact Below.refl _ _; rfl)); (repeat (go_big_quiet_step (first | (go_at_call 14; exact Calls.after_of (add_any _ _ _ _ _)) | (go_at_call 15; exact Calls.after_of (mul_any _ _ _ _ _)) | (go_at_call 17; exact Calls.after_of (sub_any _ _ _ _ _)) | (go_at_call 16; exact Calls.after_of (conj_any _ _ _)) | (go_at_call 18; exact Calls.after_of (of_any _ _ _)) | (go_at_call 19; exact Calls.after_of (rof_any _ _ _)) | (go_at_call 28; exact Calls.after_of (Calls.behind (wrap_any _ _))) | (go_at_call 29; exact Calls.after_of (Calls.behind (rwrap_any _ _)))))); refine wpQuiet_nil ?_; intro z
    go_wp2
    go_ret
    refine ⟨rfl, ?_⟩
    have hx := z.le; simp at hx
    (repeat (first | exact Below.refl _ _ | apply Below.drew | refine Below.alloc ?_ ?_ _ | refine Below.setCell ?_ ?_ _ | refine Below.trans ?_ (Below.mono (After.below _) ?_))); (all_goals (first | (simp; done) | (simp; omega) | omega))

theorem gaussOps_any (a1 a2 b1 b2 op : Int) (w : World) :
    Calls Try.prog 5 #[.agg #[.int .i64 a1, .int .i64 a2], .agg #[.int .i64 b1, .int .i64 b2], .int .i64 op] w fun e w' => e = .returned (.bool true) ∧ Below w.heap.size w w' := by
  refine gaussOps_with a1 a2 b1 b2 op w (opE op) (opN op) rfl rfl ?_
  unfold opN
  cases opE op <;> simp
end Go.Proofs.Ytjjopjpchgajcaa
