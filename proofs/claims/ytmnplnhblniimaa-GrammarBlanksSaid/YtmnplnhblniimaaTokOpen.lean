/- ARGUMENTS that are tokens, and slices of tokens: the cells that stand behind them. -/
import Derived.Test.YtmnplnhblniimaaLaw
import Derived.Test.YtmnplnhblniimaaSl
import Derived.Test.YtmnplnhblniimaaTok
import Derived.Deep.Strs
import Derived.Lib.SmallJoins
namespace Go.Proofs.Ytmnplnhblniimaa.Tk
set_option linter.unusedVariables false
set_option linter.unusedSimpArgs false
open Go Go.ChangeShapes Go.WideShapes Go.ChangeAt Go.RowKit Go.Joins

theorem list4 {cs : List Value} (h : cs.length = 4) : ∃ c0 c1 c2 c3, cs = [c0, c1, c2, c3] := by
  match cs, h with
  | [c0, c1, c2, c3], _ => exact ⟨c0, c1, c2, c3, rfl⟩

instance : Inhabited Tok := ⟨⟨0, 0, ⟨#[]⟩, 0⟩⟩

theorem cells_tok {H : Type} {enc : TypeId × Value → H} {W : World} {b0 : Nat} {sp : Nat → Bool} {hd : Bool} {n : Nat} {cs : List Value} {y : DataW H × List MemPlace}
    (h : DataW.trod enc Try.prog W b0 sp hd n 39 cs = some y) : ∃ t : Tok, cs = t.cells := by
  obtain ⟨y0, y1, y2, y3, m, rfl, hl, h0, h1, h2, h3⟩ := trod_struct4 Try.underlying39 h
  obtain ⟨a, e0, _, _⟩ := DataW.trod_int Try.underlying3 h0
  obtain ⟨b, e1, _, _⟩ := DataW.trod_int Try.underlying3 h1
  obtain ⟨s, e2, _, _⟩ := DataW.trod_string Try.underlying9 h2
  obtain ⟨c, e3, _, _⟩ := DataW.trod_int Try.underlying3 h3
  have k0 : Try.prog.cellsOf 39 = 4 := by kernel_rfl
  have k1 : Try.prog.cellsOf 3 = 1 := by kernel_rfl
  have k2 : Try.prog.cellsOf 9 = 1 := by kernel_rfl
  rw [k0] at hl
  obtain ⟨c0, c1, c2, c3, rfl⟩ := list4 hl
  simp only [k1, k2] at e0 e1 e2 e3
  simp at e0 e1 e2 e3
  subst e0 e1 e2 e3
  exact ⟨⟨a, b, s, c⟩, rfl⟩

section
variable {H : Type} {enc : TypeId × Value → H} {W : World} {base : Nat} {v : Value} {d : DataW H} {p : List MemPlace}

set_option maxRecDepth 100000 in
theorem open_tok (hv : Value.okWide Try.prog W .any base 39 v) (h : DataW.Trod enc Try.prog W 0 (fun _ => true) true 39 v d p) :
    ∃ (k p : Int) (s : ByteArray) (n : Int), v = .agg #[.int .i64 k, .int .i64 p, .string s, .int .i64 n] := by
  obtain ⟨cs, rfl, hsz⟩ := okWide_struct Try.underlying39 hv
  obtain ⟨fuel, hf⟩ := h
  obtain ⟨t, e⟩ := cells_tok hf
  simp only [Value.cells, Tok.cells] at e
  exact ⟨t.kind, t.pos, t.s, t.n, by rw [← e]⟩

set_option maxRecDepth 100000 in
theorem open_toks (hv : Value.okWide Try.prog W .any base 36 v) (h : DataW.Trod enc Try.prog W 0 (fun _ => true) true 36 v d p) :
    ∃ L : List Tok, Sl W v Tok.cells L := by
  obtain ⟨a, len, cap, rfl⟩ := okWide_slice Try.underlying36 hv
  obtain ⟨fuel, hf⟩ := h
  have k0 : Try.prog.cellsOf 39 = 4 := by kernel_rfl
  rcases Go.Deep.open_slice Try.underlying36 hf with ⟨e, _⟩ | ⟨a', len', cap', m, n, D, Pl, e, _, hlc, _, hm, _, hx⟩
  · simp [Value.cells] at e
    obtain ⟨rfl, rfl, rfl⟩ := e
    exact ⟨[], Sl.nil⟩
  · simp [Value.cells] at e
    obtain ⟨rfl, rfl, rfl⟩ := e
    rw [k0] at hx
    obtain ⟨L, hL, hS⟩ := Sl.of_cells (enc := Tok.cells) (k := 4) (base := 0) (a := a') (len := len) (cap := cap) (w := W) (fun _ => rfl) (by omega) (fun i hi => by
      obtain ⟨cs', h1, h2⟩ := hx i (by simp at hm; omega)
      obtain ⟨t, rfl⟩ := cells_tok h2
      exact ⟨t, h1⟩)
    exact ⟨L, hS⟩
end

end Go.Proofs.Ytmnplnhblniimaa.Tk
