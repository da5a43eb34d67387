/- GrammarExprs: it answers true. WALK of the law. -/
import Derived.Test.YtmnplnhblniimaaPge
import Derived.Test.YtmnplnhblniimaaLaw
namespace Go.Proofs.Ytmnplnhblniimaa.Gr
set_option linter.unusedVariables false
set_option linter.unusedSimpArgs false
open Go Go.RowKit

set_option maxRecDepth 100000 in
set_option maxHeartbeats 2000000 in
theorem grammarExprs_any (s : ByteArray) (w : World) : Calls Try.prog 5 #[.string s] w fun e w' => e = .returned (.bool true) ∧ Below w.heap.size w w' := by
  have f0 := awake3_any w
  have f1 := fun (W : World) => gexpr_any s W
  have f2 := fun (W : World) => prexpr_any s W
  generalize pexpr s = R at f1 f2
  obtain ⟨⟨xo, ⟨xv, xa, xb⟩, ⟨yv, ya, yb⟩⟩, e, p⟩ := R
  simp only at f1 f2
  by_cases q1 : 2000 < s.size ∧ s.size ≤ 16384
  · have q2 : (2000 : Int) < s.size := by omega
    have q3 : (s.size : Int) ≤ 16384 := by omega
    go_enter Try.func5, Try.ntmps5
    go_wp2_with (go_at_call 8; refine' Calls.aft _ _ (f0) _; rotate_left 2; (exact Below.refl _ _; rfl); intro x1; have hle := After.le x1; (try simp at hle))
    go_ret
    exact ⟨rfl, x1.below⟩
  · have q2 : (2000 : Int) < s.size → ¬ (s.size : Int) ≤ 16384 := by omega
    have f3 := fun (W : World) => Tk.fault_any e p e p W
    have he : (e == e && p == p) = true := by simp
    rw [he] at f3
    go_enter Try.func5, Try.ntmps5
    go_wp2_with (first | (go_at_call 8; refine' Calls.aft _ _ (f0) _; rotate_left 2; (exact Below.refl _ _; rfl); intro x1; have hle := After.le x1; (try simp at hle)) | (go_at_call 14; refine' Calls.aft _ _ (f1 _) _; rotate_left 2; (exact Below.refl _ _; rfl); intro x2; have hle := After.le x2; (try simp at hle)) | (go_at_call 15; refine' Calls.aft _ _ (f2 _) _; rotate_left 2; (exact Below.refl _ _; rfl); intro x3; have hle := After.le x3; (try simp at hle)) | (go_at_call 11; refine' Calls.aft _ _ (f3 _) _; rotate_left 2; (exact Below.refl _ _; rfl); intro x4; have hle := After.le x4; (try simp at hle)))
    all_goals (go_ret; refine ⟨rfl, ?_⟩; (repeat (first | exact Below.refl _ _ | apply Below.drew | refine Below.alloc ?_ ?_ _ | refine Below.setCell ?_ ?_ _ | refine Below.trans ?_ (Below.mono (After.below _) ?_))); (all_goals (first | (simp; done) | (simp; omega) | omega)))

end Go.Proofs.Ytmnplnhblniimaa.Gr
