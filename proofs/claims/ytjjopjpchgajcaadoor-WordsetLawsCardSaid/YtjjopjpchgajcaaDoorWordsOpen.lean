/- ARGUMENTS that are slices of words: the cells that stand behind them. -/
import Derived.Test.YtjjopjpchgajcaaDoorLaw
import Derived.Test.YtjjopjpchgajcaaDoorWordsb
namespace Go.Proofs.YtjjopjpchgajcaaDoor.Ws
set_option linter.unusedVariables false
set_option linter.unusedSimpArgs false
open Go Go.ChangeShapes Go.WideShapes Go.ChangeAt Go.RowKit

section
variable {H : Type} {enc : TypeId × Value → H} {W : World} {base : Nat} {v : Value} {d : DataW H} {p : List MemPlace}

set_option maxRecDepth 100000 in
theorem open_words (hv : Value.okWide Tryd.prog W .any base 23 v) (h : DataW.Trod enc Tryd.prog W 0 (fun _ => true) true 23 v d p) :
    ∃ L : List Nat, okW L ∧ Sl W v encW L := by
  obtain ⟨a, len, cap, rfl⟩ := okWide_slice Tryd.underlying23 hv
  obtain ⟨fuel, hf⟩ := h
  have k0 : Tryd.prog.cellsOf 39 = 1 := by kernel_rfl
  rcases Go.Deep.open_slice Tryd.underlying23 hf with ⟨e, _⟩ | ⟨a', len', cap', m, n, D, Pl, e, _, hlc, _, hm, _, hx⟩
  · simp [Value.cells] at e
    obtain ⟨rfl, rfl, rfl⟩ := e
    exact ⟨[], fun x hx => by simp at hx, Sl.nil⟩
  · simp [Value.cells] at e
    obtain ⟨rfl, rfl, rfl⟩ := e
    rw [k0] at hx
    have hw : ∀ i, i < len → ∃ x : Nat, x < 2 ^ 64 ∧ W.cells? 0 (a'.add (i * 1)) 1 = some (encW x) := fun i hi => by
      obtain ⟨cs', h1, h2⟩ := hx i (by simp at hm; omega)
      obtain ⟨q, e0, _, hwf⟩ := DataW.trod_int Tryd.underlying39 h2
      have hb : 0 ≤ q ∧ q ≤ 18446744073709551615 := by simpa [Lit.wf, IntKind.min, IntKind.max, IntKind.signed, IntKind.bits] using hwf
      refine ⟨q.toNat, by omega, ?_⟩
      rw [h1, e0, encW, Int.toNat_of_nonneg hb.1]
    obtain ⟨T, hT⟩ := Go.Deep.choose_lt (p := fun i x => x < 2 ^ 64 ∧ W.cells? 0 (a'.add (i * 1)) 1 = some (encW x)) hw
    have hS : ∃ L : List Nat, L = (List.range len).map T := ⟨_, rfl⟩
    obtain ⟨L, hL, hS⟩ := Sl.of_cells (enc := encW) (k := 1) (base := 0) (a := a') (len := len) (cap := cap) (w := W) (fun _ => rfl) (by omega) (fun i hi => ⟨T i, (hT i hi).2⟩)
    refine ⟨L, fun x hx => ?_, hS⟩
    obtain ⟨i, hi, rfl⟩ := List.mem_iff_getElem.1 hx
    have hil : i < len := by rw [← hL]; exact hi
    obtain ⟨b, off, p, cap2, hv, hp, hc⟩ := Sl.words hS
    have c1 := hc i hi
    have hpp := hp (by omega)
    simp only [Value.slice.injEq, Option.some.injEq] at hv
    obtain ⟨rfl, rfl, rfl⟩ := hv
    cases hpp
    have c2 := (World.cells?_some (hT i hil).2).2.2 0 (by omega)
    rw [Go.Deep.add_add, Nat.mul_one, Nat.add_zero, Go.WideShapes.add_plain] at c2
    rw [c1] at c2
    simp [encW] at c2
    have := (hT i hil).1
    omega
end

end Go.Proofs.YtjjopjpchgajcaaDoor.Ws
