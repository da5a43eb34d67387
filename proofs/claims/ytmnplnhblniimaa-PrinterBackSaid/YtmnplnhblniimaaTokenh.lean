/- token.Of of a text that is too long. -/
import Derived.Test.YtmnplnhblniimaaTokenb
namespace Go.Proofs.Ytmnplnhblniimaa.Tk
set_option linter.unusedVariables false
set_option linter.unusedSimpArgs false
open Go Go.RowKit

set_option maxRecDepth 100000 in
theorem of_long (s : ByteArray) (h : 16384 < s.size) (w : World) :
    Calls Try.prog 29 #[.string s] w fun e w' => e = .returned (.tuple #[.slice none 0 0, .agg #[.int .i64 6, .int .i64 0]]) ∧ Below w.heap.size w w' := by
  have h' : (16384 : Int) < s.size := by omega
  go_enter Try.func29, Try.ntmps29
  go_wp2_with fail
  refine wp_scope_straight ?_
  go_wp2_with fail
  (try rw [Exit.noGoto_ret])
  refine bodyPost_ret (v := .tuple #[.slice none 0 0, .agg #[.int .i64 6, .int .i64 0]]) (by simp only [results, Try.results29]; go_simp) rfl ⟨rfl, ?_⟩
  (repeat (first | exact Below.refl _ _ | apply Below.drew | refine Below.alloc ?_ ?_ _ | refine Below.setCell ?_ ?_ _ | refine Below.trans ?_ (Below.mono (After.below _) ?_))); (all_goals (first | (simp; done) | (simp; omega) | omega))

end Go.Proofs.Ytmnplnhblniimaa.Tk
