/- THE WORDSET LAWS' CONDITION: what the laid table gives a walk; a world that meets it; a slice of ints that is an argument. -/
import Derived.Test.YtjjopjpchgajcaaDoorWordsOpen
import Derived.Test.YtjjopjpchgajcaaDoorWordsi
import Derived.ProofKit
import Derived.LaidMore
import Derived.OpenShut
import Derived.Stop.Joined
namespace Go.Proofs.YtjjopjpchgajcaaDoor.Ws
set_option linter.unusedVariables false
set_option linter.unusedSimpArgs false
open Go Go.ChangeShapes Go.WideShapes Go.ChangeAt Go.WideElems Go.RowKit

theorem gTab : Tryd.prog.globalNamed "math/bits.deBruijn64tab" = some 0 := by kernel_rfl
theorem tTab : (Tryd.prog.globals[0]?).map (·.type) = some 50 := by kernel_rfl
def laidL : List (String × DataW Unit) := [("math/bits.deBruijn64tab", Rows.laid_math_bits_deBruijn64tab)]

theorem door_met (os : Os) (args : Array Value) : laidMetH Tryd.prog laidL ((World.doorLaid Tryd.prog 14 os).forCall (fun _ _ => 0) ⟨#[], args, []⟩).memory :=
  laidMetH_of_parts3 (fuel := 8) (laidMet_of_run' 8 (by kernel_rfl) (by kernel_rfl)) (by kernel_rfl) (by kernel_rfl)

theorem laid_tab {H : Type} : (Rows.laid_math_bits_deBruijn64tab : DataW H) = .agg (tzTab.map fun k : Nat => .lit (.int .u8 (k : Int))) := rfl

theorem tab_of_laid {W : World} (h : laidMetH Tryd.prog laidL W) : Tab W := by
  rw [MakeChecks.laidMetH_plain _ _ _ (by kernel_rfl)] at h
  obtain ⟨ps, ⟨g0, t0, cs0, f0, p0, q0, hg0, ht0, hv0, hd0, _, _⟩, _⟩ := h
  obtain rfl := Option.some.inj (gTab.symm.trans hg0)
  obtain rfl := Option.some.inj (tTab.symm.trans ht0)
  obtain ⟨xs, m1, rfl, hx1, hlen, hn3, hel⟩ := DataW.trod_array Tryd.underlying50 hd0
  have c1 : Tryd.prog.cellsOf 5 = 1 := by kernel_rfl
  rw [laid_tab] at hx1
  simp only [Prod.mk.injEq, DataW.agg.injEq] at hx1
  have hx := hx1.1
  intro i k hk
  have hi : i < 64 := by
    have : i < tzTab.length := (List.getElem?_eq_some_iff.1 hk).1
    exact this
  have he := hel i hi
  obtain ⟨x, hxi⟩ : ∃ x, xs[i]? = some x := ⟨_, List.getElem?_eq_getElem (by omega)⟩
  rw [hxi, c1] at he
  obtain ⟨n, e1, e2, _⟩ := DataW.trod_int Tryd.underlying5 he
  have h2 : (xs.map (·.1))[i]? = some (.lit (.int .u8 n)) := by rw [List.getElem?_map, hxi, e2]; rfl
  rw [← hx, List.getElem?_map, hk] at h2
  simp at h2
  have hc := World.var?_cell hg0 hv0 i
  rw [hc, h2]
  obtain ⟨l⟩ := cs0
  have h3 : (l.drop (i * 1)).take 1 = [.int .u8 n] := e1
  have h4 := congrArg (fun z => z[0]?) h3
  simp at h4
  simpa using h4

section
variable {H : Type} {enc : TypeId × Value → H} {W : World} {base : Nat} {v : Value} {d : DataW H} {p : List MemPlace}

set_option maxRecDepth 100000 in
theorem open_ints (hv : Value.okWide Tryd.prog W .any base 22 v) (h : DataW.Trod enc Tryd.prog W 0 (fun _ => true) true 22 v d p) :
    ∃ L : List Int, Sl W v encI L := by
  obtain ⟨a, len, cap, rfl⟩ := okWide_slice Tryd.underlying22 hv
  obtain ⟨fuel, hf⟩ := h
  have k0 : Tryd.prog.cellsOf 3 = 1 := by kernel_rfl
  rcases Go.Deep.open_slice Tryd.underlying22 hf with ⟨e, _⟩ | ⟨a', len', cap', m, n, D, Pl, e, _, hlc, _, hm, _, hx⟩
  · simp [Value.cells] at e
    obtain ⟨rfl, rfl, rfl⟩ := e
    exact ⟨[], Sl.nil⟩
  · simp [Value.cells] at e
    obtain ⟨rfl, rfl, rfl⟩ := e
    rw [k0] at hx
    have hw : ∀ i, i < len → ∃ x : Int, W.cells? 0 (a'.add (i * 1)) 1 = some (encI x) := fun i hi => by
      obtain ⟨cs', h1, h2⟩ := hx i (by simp at hm; omega)
      obtain ⟨q, e0, _, hwf⟩ := DataW.trod_int Tryd.underlying3 h2
      exact ⟨q, by rw [h1, e0, encI]⟩
    obtain ⟨L, hL, hS⟩ := Sl.of_cells (enc := encI) (k := 1) (base := 0) (a := a') (len := len) (cap := cap) (w := W) (fun _ => rfl) (by omega) hw
    exact ⟨L, hS⟩
end

end Go.Proofs.YtjjopjpchgajcaaDoor.Ws
