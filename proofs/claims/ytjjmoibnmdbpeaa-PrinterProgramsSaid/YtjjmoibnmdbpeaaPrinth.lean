/- WALK of soughlaw05.awake. -/
import Derived.Test.YtjjmoibnmdbpeaaPrintg
namespace Go.Proofs.Ytjjmoibnmdbpeaa
set_option linter.unusedVariables false
set_option linter.unusedSimpArgs false
open Go.RowKit Flo

theorem p_awake (w : World) : Calls Try.prog 27 #[] w fun e w' => e = .returned (.bool true) ∧ Below w.heap.size w w' := by
  have e1 : stmtT 1 ⟨#[120]⟩ 1 ⟨#[121]⟩ 0 0 ⟨#[]⟩ 1 0 = ⟨#[120, 32, 61, 32, 121, 32, 43, 32, 49, 59]⟩ := by first | decide +kernel | rfl | decide
  go_enter Try.func27, Try.ntmps27
  go_wp2_with ((go_at_call 51; refine' Calls.aft _ _ (stmt_any _ _ _ _ _ _ _ _ _ (by decide) (by decide) (by decide) _) _; rotate_left 2; (first | (with_reducible exact After.below _; rfl) | (with_reducible exact below_drew (After.below _); rfl) | (with_reducible exact below_set (After.below _) _ _; (go_simp; rfl)) | (with_reducible exact below_set (below_set (After.below _) _ _) _ _; (go_simp; rfl)) | (with_reducible exact below_set (below_set (below_set (After.below _) _ _) _ _) _ _; (go_simp; rfl)) | (with_reducible exact below_set (below_set (below_set (below_set (After.below _) _ _) _ _) _ _) _ _; (go_simp; rfl)) | (exact Below.refl _ _; rfl)); intro x; have hle := After.le x; (try simp at hle)))
  go_ret
  refine ⟨by first | rfl | simp [e1], ?_⟩
  (repeat (first | exact Below.refl _ _ | apply Below.drew | refine Below.alloc ?_ ?_ _ | refine Below.setCell ?_ ?_ _ | refine Below.trans ?_ (Below.mono (After.below _) ?_))); (all_goals (first | (simp; done) | (simp; omega) | omega))

end Go.Proofs.Ytjjmoibnmdbpeaa
