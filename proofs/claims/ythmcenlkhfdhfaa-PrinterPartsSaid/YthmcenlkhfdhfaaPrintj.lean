/- WALK of soughlaw05.PrinterParts: where no text is too long. -/
import Derived.Test.YthmcenlkhfdhfaaPrinti
namespace Go.Proofs.Ythmcenlkhfdhfaa
set_option linter.unusedVariables false
set_option linter.unusedSimpArgs false
open Go.RowKit Flo

set_option maxRecDepth 100000 in
set_option maxHeartbeats 2000000 in
theorem parts_short (v : ByteArray) (a b : Int) (op : Int) (v1 v2 : ByteArray) (a1 b1 a2 b2 : Int) (k : Int) (s : ByteArray) (sop : Int) (s1 s2 : ByteArray) (c1 d1 c2 d2 : Int) (tk : Int) (tv : ByteArray) (ta tb : Int) (tt te : ByteArray)
    (w1 : IntKind.i64.wrap ((v.size : Int) + v1.size) = (v.size : Int) + v1.size) (w2 : IntKind.i64.wrap ((v.size : Int) + v1.size + v2.size) = (v.size : Int) + v1.size + v2.size) (f1 : decide (200 < (v.size : Int) + v1.size + v2.size) = false) (w3 : IntKind.i64.wrap ((s.size : Int) + s1.size) = (s.size : Int) + s1.size) (w4 : IntKind.i64.wrap ((s.size : Int) + s1.size + s2.size) = (s.size : Int) + s1.size + s2.size) (f2 : decide (200 < (s.size : Int) + s1.size + s2.size) = false) (w5 : IntKind.i64.wrap ((tt.size : Int) + te.size) = (tt.size : Int) + te.size) (w6 : IntKind.i64.wrap ((tt.size : Int) + te.size + tv.size) = (tt.size : Int) + te.size + tv.size) (f3 : decide (200 < (tt.size : Int) + te.size + tv.size) = false) (l1 : v1.size ≤ 1000) (l2 : v2.size ≤ 1000) (l3 : s.size ≤ 1000) (l4 : s1.size ≤ 1000) (l5 : s2.size ≤ 1000) (l6 : tv.size ≤ 1000) (l7 : tt.size ≤ 1000) (l8 : te.size ≤ 1000) (w : World) :
    Calls Try.prog 3 #[.agg #[.string v, .int .i64 a, .int .i64 b], .agg #[.int .i64 op, .string v1, .int .i64 a1, .int .i64 b1, .string v2, .int .i64 a2, .int .i64 b2],
      .agg #[.int .i64 k, .string s, .int .i64 sop, .string s1, .int .i64 c1, .int .i64 d1, .string s2, .int .i64 c2, .int .i64 d2], .agg #[.int .i64 tk, .string tv, .int .i64 ta, .int .i64 tb, .string tt, .string te]] w
      fun e w' => e = .returned (.bool true) ∧ Below w.heap.size w w' := by
  go_enter Try.func3, Try.ntmps3
  go_wp2_with ((first | (go_at_call 15; refine' Calls.aft _ _ (p_awake _) _; rotate_left 2; (first | (with_reducible exact After.below _; rfl) | (with_reducible exact below_drew (After.below _); rfl) | (with_reducible exact below_set (After.below _) _ _; (go_simp; rfl)) | (with_reducible exact below_set (below_set (After.below _) _ _) _ _; (go_simp; rfl)) | (with_reducible exact below_set (below_set (below_set (After.below _) _ _) _ _) _ _; (go_simp; rfl)) | (with_reducible exact below_set (below_set (below_set (below_set (After.below _) _ _) _ _) _ _) _ _; (go_simp; rfl)) | (exact Below.refl _ _; rfl)); intro x; have hle := After.le x; (try simp at hle)) | (refine' region_whole _ _ (by kernel_rfl) (by kernel_rfl) _; rotate_left 2; (first | (with_reducible exact After.below _; rfl) | (with_reducible exact below_drew (After.below _); rfl) | (with_reducible exact below_set (After.below _) _ _; (go_simp; rfl)) | (with_reducible exact below_set (below_set (After.below _) _ _) _ _; (go_simp; rfl)) | (with_reducible exact below_set (below_set (below_set (After.below _) _ _) _ _) _ _; (go_simp; rfl)) | (with_reducible exact below_set (below_set (below_set (below_set (After.below _) _ _) _ _) _ _) _ _; (go_simp; rfl)) | (exact Below.refl _ _; rfl)); (repeat (go_big_quiet_step (first | first | (go_at_call 16; exact Calls.after_of (atom_any _ _ _ _)) | (go_at_call 17; exact Calls.after_of (ratom_any _ _ _ _)) | (go_at_call 18; exact Calls.after_of (expr_any _ _ _ _ _ _ _ l1 l2 _)) | (go_at_call 19; exact Calls.after_of (rexpr_any _ _ _ _ _ _ _ l1 l2 _)) | (go_at_call 20; exact Calls.after_of (stmt_any _ _ _ _ _ _ _ _ _ l3 l4 l5 _)) | (go_at_call 21; exact Calls.after_of (rstmt_any _ _ _ _ _ _ _ _ _ l3 l4 l5 _)) | (go_at_call 22; exact Calls.after_of (term_any _ _ _ _ _ _ l6 l7 l8 _)) | (go_at_call 23; exact Calls.after_of (rterm_any _ _ _ _ _ _ l6 l7 l8 _))))); refine wpQuiet_nil ?_; intro z)))
  go_wp2_with fail
  go_ret
  refine ⟨rfl, ?_⟩
  have hz := z.le
  (try simp at hz)
  (repeat (first | exact Below.refl _ _ | apply Below.drew | refine Below.alloc ?_ ?_ _ | refine Below.setCell ?_ ?_ _ | refine Below.trans ?_ (Below.mono (After.below _) ?_))); (all_goals (first | (simp; done) | (simp; omega) | omega))

end Go.Proofs.Ythmcenlkhfdhfaa
