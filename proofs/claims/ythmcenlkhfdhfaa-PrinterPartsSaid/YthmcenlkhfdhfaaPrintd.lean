/- WALKS of package printer: Stmt. -/
import Derived.Test.YthmcenlkhfdhfaaPrintc
namespace Go.Proofs.Ythmcenlkhfdhfaa
set_option linter.unusedVariables false
set_option linter.unusedSimpArgs false
open Go.RowKit Flo

set_option maxRecDepth 100000 in
set_option maxHeartbeats 1000000 in
theorem stmt_1 (v op) (v1 v2 : ByteArray) (a1 b1 a2 b2 : Int) (hv : v.size ≤ 1000) (hl : v1.size ≤ 1000) (hl2 : v2.size ≤ 1000) (w : World) :
    Calls Try.prog 20 #[.agg #[.int .i64 1, .string v, .int .i64 op, .string v1, .int .i64 a1, .int .i64 b1, .string v2, .int .i64 a2, .int .i64 b2]] w fun e w' => e = .returned (.string (v ++ ⟨#[32, 61, 32]⟩ ++ exprT op v1 a1 b1 v2 a2 b2 ++ ⟨#[59]⟩)) ∧ Below w.heap.size w w' := by
  have hx := exprT_size op v1 v2 a1 b1 a2 b2 hl hl2
  have i1 : ¬ (9223372036854775807 < v.size + 3) := by omega
  have i2 : ¬ (9223372036854775807 < v.size + 3 + (exprT op v1 a1 b1 v2 a2 b2).size) := by omega
  have i3 : ¬ (9223372036854775807 < v.size + 3 + (exprT op v1 a1 b1 v2 a2 b2).size + 1) := by omega
  clear hx
  go_enter Try.func20, Try.ntmps20
  go_wp2_with refine' region_whole _ _ (by kernel_rfl) (by kernel_rfl) _; rotate_left 2; (first | (with_reducible exact After.below _; rfl) | (with_reducible exact below_drew (After.below _); rfl) | (with_reducible exact below_set (After.below _) _ _; (go_simp; rfl)) | (with_reducible exact below_set (below_set (After.below _) _ _) _ _; (go_simp; rfl)) | (with_reducible exact below_set (below_set (below_set (After.below _) _ _) _ _) _ _; (go_simp; rfl)) | (with_reducible exact below_set (below_set (below_set (below_set (After.below _) _ _) _ _) _ _) _ _; (go_simp; rfl)) | (exact Below.refl _ _; rfl)); (repeat (go_big_quiet_step (first | (go_at_call 18; exact Calls.after_of (expr_any _ _ _ _ _ _ _ hl hl2 _))))); refine wpQuiet_nil ?_; intro z
  go_wp2_with fail
  go_ret
  refine ⟨rfl, ?_⟩
  have hz := z.le
  (try simp at hz)
  (repeat (first | exact Below.refl _ _ | apply Below.drew | refine Below.alloc ?_ ?_ _ | refine Below.setCell ?_ ?_ _ | refine Below.trans ?_ (Below.mono (After.below _) ?_))); (all_goals (first | (simp; done) | (simp; omega) | omega))

set_option maxRecDepth 100000 in
set_option maxHeartbeats 1000000 in
theorem stmt_2 (v op) (v1 v2 : ByteArray) (a1 b1 a2 b2 : Int) (hv : v.size ≤ 1000) (w : World) :
    Calls Try.prog 20 #[.agg #[.int .i64 2, .string v, .int .i64 op, .string v1, .int .i64 a1, .int .i64 b1, .string v2, .int .i64 a2, .int .i64 b2]] w fun e w' => e = .returned (.string (⟨#[105, 110, 32]⟩ ++ v ++ ⟨#[59]⟩)) ∧ Below w.heap.size w w' := by
  have i1 : ¬ (9223372036854775807 < 3 + v.size) := by omega
  have i2 : ¬ (9223372036854775807 < 3 + v.size + 1) := by omega
  go_enter Try.func20, Try.ntmps20
  go_wp2_with fail
  go_ret
  refine ⟨rfl, ?_⟩
  (repeat (first | exact Below.refl _ _ | apply Below.drew | refine Below.alloc ?_ ?_ _ | refine Below.setCell ?_ ?_ _ | refine Below.trans ?_ (Below.mono (After.below _) ?_))); (all_goals (first | (simp; done) | (simp; omega) | omega))

set_option maxRecDepth 100000 in
set_option maxHeartbeats 1000000 in
theorem stmt_3 (v op) (v1 v2 : ByteArray) (a1 b1 a2 b2 : Int) (hl : v1.size ≤ 1000) (hl2 : v2.size ≤ 1000) (w : World) :
    Calls Try.prog 20 #[.agg #[.int .i64 3, .string v, .int .i64 op, .string v1, .int .i64 a1, .int .i64 b1, .string v2, .int .i64 a2, .int .i64 b2]] w fun e w' => e = .returned (.string (⟨#[111, 117, 116, 32]⟩ ++ exprT op v1 a1 b1 v2 a2 b2 ++ ⟨#[59]⟩)) ∧ Below w.heap.size w w' := by
  have hx := exprT_size op v1 v2 a1 b1 a2 b2 hl hl2
  have i2 : ¬ (9223372036854775807 < 4 + (exprT op v1 a1 b1 v2 a2 b2).size) := by omega
  have i3 : ¬ (9223372036854775807 < 4 + (exprT op v1 a1 b1 v2 a2 b2).size + 1) := by omega
  clear hx
  go_enter Try.func20, Try.ntmps20
  go_wp2_with (go_at_call 18; refine' Calls.aft _ _ (expr_any _ _ _ _ _ _ _ hl hl2 _) _; rotate_left 2; (first | (with_reducible exact After.below _; rfl) | (with_reducible exact below_drew (After.below _); rfl) | (with_reducible exact below_set (After.below _) _ _; (go_simp; rfl)) | (with_reducible exact below_set (below_set (After.below _) _ _) _ _; (go_simp; rfl)) | (with_reducible exact below_set (below_set (below_set (After.below _) _ _) _ _) _ _; (go_simp; rfl)) | (with_reducible exact below_set (below_set (below_set (below_set (After.below _) _ _) _ _) _ _) _ _; (go_simp; rfl)) | (exact Below.refl _ _; rfl)); intro x; have hle := After.le x; (try simp at hle))
  go_ret
  refine ⟨rfl, ?_⟩
  (repeat (first | exact Below.refl _ _ | apply Below.drew | refine Below.alloc ?_ ?_ _ | refine Below.setCell ?_ ?_ _ | refine Below.trans ?_ (Below.mono (After.below _) ?_))); (all_goals (first | (simp; done) | (simp; omega) | omega))

set_option maxRecDepth 100000 in
set_option maxHeartbeats 1000000 in
theorem stmt_else (k v op) (v1 v2 : ByteArray) (a1 b1 a2 b2 : Int) (h1 : (k == 1) = false) (h2 : (k == 2) = false) (h3 : (k == 3) = false) (w : World) :
    Calls Try.prog 20 #[.agg #[.int .i64 k, .string v, .int .i64 op, .string v1, .int .i64 a1, .int .i64 b1, .string v2, .int .i64 a2, .int .i64 b2]] w fun e w' => e = .returned (.string ⟨#[]⟩) ∧ Below w.heap.size w w' := by
  go_enter Try.func20, Try.ntmps20
  go_wp2_with fail
  go_ret
  refine ⟨rfl, ?_⟩
  (repeat (first | exact Below.refl _ _ | apply Below.drew | refine Below.alloc ?_ ?_ _ | refine Below.setCell ?_ ?_ _ | refine Below.trans ?_ (Below.mono (After.below _) ?_))); (all_goals (first | (simp; done) | (simp; omega) | omega))

end Go.Proofs.Ythmcenlkhfdhfaa
