/- PROGRAMS as arguments: their slice is no longer than its room. -/
import Derived.Test.YtjjmoibnmdbpeaaChkf
namespace Go.Proofs.Ytjjmoibnmdbpeaa
set_option linter.unusedVariables false
set_option linter.unusedSimpArgs false
open Go Go.ChangeShapes Go.WideShapes Go.ChangeAt Go.RowKit Go.Joins

section
variable {H : Type} {enc : TypeId × Value → H} {W : World} {base : Nat} {v : Value} {d : DataW H} {p : List MemPlace}

theorem slice_cap {t e : TypeId} {fuel : Nat} {cs : List Value} {y : DataW H × List MemPlace} (ht : Try.prog.underlying t = some (.slice e))
    (h : DataW.trod enc Try.prog W 0 (fun _ => true) true fuel t cs = some y) : ∃ v, cs = [v] ∧ Pr.CapOk v := by
  rcases Go.Deep.open_slice ht h with ⟨rfl, _⟩ | ⟨a, len, cap, m, n, D, Pl, rfl, _, hlc, _⟩
  · exact ⟨_, rfl, fun p n c e => by cases e; exact Nat.le_refl _⟩
  · exact ⟨_, rfl, fun p n c e => by cases e; exact hlc⟩

set_option maxRecDepth 100000 in
theorem open_prog2 (hv : Value.okWide Try.prog W .any base 57 v) (h : DataW.Trod enc Try.prog W 0 (fun _ => true) true 57 v d p) :
    ∃ (pv : Value) (P : List Bl), v = .agg #[pv] ∧ Pg W pv P ∧ Pr.CapOk pv := by
  obtain ⟨pv, P, hv1, hP⟩ := open_prog hv h
  refine ⟨pv, P, hv1, hP, ?_⟩
  subst hv1
  obtain ⟨fuel, hf⟩ := h
  obtain ⟨y0, m, _, hl, h0⟩ := trod_struct1 Try.underlying57 hf
  obtain ⟨v, e0, hc⟩ := slice_cap Try.underlying55 h0
  have k1 : Try.prog.cellsOf 55 = 1 := by kernel_rfl
  rw [k1] at e0
  simp [Value.cells] at e0
  subst e0
  exact hc
end

end Go.Proofs.Ytjjmoibnmdbpeaa
