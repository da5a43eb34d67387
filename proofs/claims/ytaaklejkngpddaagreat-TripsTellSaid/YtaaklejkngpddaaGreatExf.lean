/- WALKS of exec.Block, exec.Go. WALK of exec.Go. -/
import Derived.Test.YtaaklejkngpddaaGreatRunc
import Derived.Test.YtaaklejkngpddaaGreatExd
namespace Go.Proofs.YtaaklejkngpddaaGreat.Pr
set_option linter.unusedVariables false
set_option linter.unusedSimpArgs false
open Go Go.RowKit

theorem chk_ok {P : List Bl} {b i : Int} {n : Nat} (h : ChkS P b n i = 0) : checkOf P = 0 ∧ 0 ≤ b ∧ b < P.length ∧ n = (vars P).length ∧ 0 ≤ i := by
  unfold ChkS at h
  split at h
  · rename_i h0
    split at h
    · cases h
    · rename_i h1
      refine ⟨h0, by omega, by omega, ?_, by omega⟩
      by_cases e : n = (vars P).length
      · exact e
      · exact absurd (.inr (.inr (.inl e))) h1
  · rename_i h0
    exact absurd h h0
theorem chk_of {P : List Bl} {b i : Int} {n : Nat} (h0 : checkOf P = 0) (h1 : 0 ≤ b) (h2 : b < P.length) (h3 : n = (vars P).length) (h4 : 0 ≤ i) : ChkS P b n i = 0 := by
  unfold ChkS
  rw [if_pos h0, if_neg]
  rintro (h | h | h | h)
  · omega
  · omega
  · exact h h3
  · omega

def zS : Value := .agg #[.int .i64 0, .slice none 0 0, .int .i64 0, .slice none 0 0]

end Go.Proofs.YtaaklejkngpddaaGreat.Pr

namespace Go.Proofs.YtaaklejkngpddaaGreat.Pr
set_option linter.unusedVariables false
set_option linter.unusedSimpArgs false
open Go Go.RowKit

end Go.Proofs.YtaaklejkngpddaaGreat.Pr
