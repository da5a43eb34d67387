/- ARGUMENTS that are atoms: the cells that stand behind them. -/
import Derived.Test.YtjjmoibnmdbpeaaLaw
import Derived.Deep.Strs
import Derived.SizedLaws
import Derived.Lib.SmallJoins
namespace Go.Proofs.Ytjjmoibnmdbpeaa
set_option linter.unusedVariables false
set_option linter.unusedSimpArgs false
open Go.ChangeShapes Go.WideShapes Go.ChangeAt Go.RowKit Go.Joins

theorem list2 {cs : List Value} (h : cs.length = 2) : ∃ c0 c1, cs = [c0, c1] := by
  match cs, h with
  | [c0, c1], _ => exact ⟨c0, c1, rfl⟩

theorem list3 {cs : List Value} (h : cs.length = 3) : ∃ c0 c1 c2, cs = [c0, c1, c2] := by
  match cs, h with
  | [c0, c1, c2], _ => exact ⟨c0, c1, c2, rfl⟩

theorem cells_num {H : Type} {enc : TypeId × Value → H} {W : World} {b0 : Nat} {sp : Nat → Bool} {hd : Bool} {n : Nat} {cs : List Value} {y : DataW H × List MemPlace}
    (h : DataW.trod enc Try.prog W b0 sp hd n 69 cs = some y) :
    ∃ a b : Int, cs = [.int .i64 a, .int .i64 b] := by
  obtain ⟨y0, y1, m, rfl, hl, h0, h1⟩ := trod_struct2 Try.underlying69 h
  obtain ⟨a, e0, _, _⟩ := DataW.trod_int Try.underlying3 h0
  obtain ⟨b, e1, _, _⟩ := DataW.trod_int Try.underlying3 h1
  have k : Try.prog.cellsOf 69 = 2 := by kernel_rfl
  have k1 : Try.prog.cellsOf 3 = 1 := by kernel_rfl
  rw [k] at hl
  obtain ⟨c0, c1, rfl⟩ := list2 hl
  simp only [k1] at e0 e1
  simp at e0 e1
  subst e0 e1
  exact ⟨a, b, rfl⟩

theorem cells_atom {H : Type} {enc : TypeId × Value → H} {W : World} {b0 : Nat} {sp : Nat → Bool} {hd : Bool} {n : Nat} {cs : List Value} {y : DataW H × List MemPlace}
    (h : DataW.trod enc Try.prog W b0 sp hd n 71 cs = some y) :
    ∃ (v : ByteArray) (a b : Int) (d : DataW H), cs = [.string v, .int .i64 a, .int .i64 b] ∧ y.1 = .agg [.lit (.string v.data.toList), d] := by
  obtain ⟨y0, y1, m, rfl, hl, h0, h1⟩ := trod_struct2 Try.underlying71 h
  obtain ⟨v, e0, g0, _⟩ := DataW.trod_string Try.underlying9 h0
  obtain ⟨a, b, e1⟩ := cells_num h1
  have k : Try.prog.cellsOf 71 = 3 := by kernel_rfl
  have k1 : Try.prog.cellsOf 9 = 1 := by kernel_rfl
  have k2 : Try.prog.cellsOf 69 = 2 := by kernel_rfl
  rw [k] at hl
  obtain ⟨c0, c1, c2, rfl⟩ := list3 hl
  simp only [k1, k2] at e0 e1
  simp at e0 e1
  obtain ⟨e1, e2⟩ := e1
  subst e0 e1 e2
  exact ⟨v, a, b, y1.1, rfl, by rw [g0]⟩

theorem list7 {cs : List Value} (h : cs.length = 7) : ∃ c0 c1 c2 c3 c4 c5 c6, cs = [c0, c1, c2, c3, c4, c5, c6] := by
  match cs, h with
  | [c0, c1, c2, c3, c4, c5, c6], _ => exact ⟨c0, c1, c2, c3, c4, c5, c6, rfl⟩

theorem cells_expr {H : Type} {enc : TypeId × Value → H} {W : World} {b0 : Nat} {sp : Nat → Bool} {hd : Bool} {n : Nat} {cs : List Value} {y : DataW H × List MemPlace}
    (h : DataW.trod enc Try.prog W b0 sp hd n 73 cs = some y) :
    ∃ (op : Int) (v1 : ByteArray) (a1 b1 : Int) (v2 : ByteArray) (a2 b2 : Int) (d0 d1 d2 : DataW H), cs = [.int .i64 op, .string v1, .int .i64 a1, .int .i64 b1, .string v2, .int .i64 a2, .int .i64 b2] ∧
      y.1 = .agg [d0, .agg [.lit (.string v1.data.toList), d1], .agg [.lit (.string v2.data.toList), d2]] := by
  obtain ⟨y0, y1, y2, m, rfl, hl, h0, h1, h2⟩ := Go.Deep.trod_struct3 Try.underlying73 h
  obtain ⟨op, e0, _, _⟩ := DataW.trod_int Try.underlying3 h0
  obtain ⟨v1, a1, b1, d1, e1, g1⟩ := cells_atom h1
  obtain ⟨v2, a2, b2, d2, e2, g2⟩ := cells_atom h2
  have k : Try.prog.cellsOf 73 = 7 := by kernel_rfl
  have k1 : Try.prog.cellsOf 3 = 1 := by kernel_rfl
  have k2 : Try.prog.cellsOf 71 = 3 := by kernel_rfl
  rw [k] at hl
  obtain ⟨c0, c1, c2, c3, c4, c5, c6, rfl⟩ := list7 hl
  simp only [k1, k2] at e0 e1 e2
  simp at e0 e1 e2
  obtain ⟨e1, e3, e4⟩ := e1
  obtain ⟨e2, e5, e6⟩ := e2
  subst e0 e1 e2 e3 e4 e5 e6
  exact ⟨op, v1, a1, b1, v2, a2, b2, y0.1, d1, d2, rfl, by rw [g1, g2]⟩

theorem list9 {cs : List Value} (h : cs.length = 9) : ∃ c0 c1 c2 c3 c4 c5 c6 c7 c8, cs = [c0, c1, c2, c3, c4, c5, c6, c7, c8] := by
  match cs, h with
  | [c0, c1, c2, c3, c4, c5, c6, c7, c8], _ => exact ⟨c0, c1, c2, c3, c4, c5, c6, c7, c8, rfl⟩

theorem list6 {cs : List Value} (h : cs.length = 6) : ∃ c0 c1 c2 c3 c4 c5, cs = [c0, c1, c2, c3, c4, c5] := by
  match cs, h with
  | [c0, c1, c2, c3, c4, c5], _ => exact ⟨c0, c1, c2, c3, c4, c5, rfl⟩

theorem cells_stmt {H : Type} {enc : TypeId × Value → H} {W : World} {b0 : Nat} {sp : Nat → Bool} {hd : Bool} {n : Nat} {cs : List Value} {y : DataW H × List MemPlace}
    (h : DataW.trod enc Try.prog W b0 sp hd n 86 cs = some y) :
    ∃ (k : Int) (s : ByteArray) (op : Int) (v1 : ByteArray) (a1 b1 : Int) (v2 : ByteArray) (a2 b2 : Int) (d d0 d1 d2 : DataW H), cs = [.int .i64 k, .string s, .int .i64 op, .string v1, .int .i64 a1, .int .i64 b1, .string v2, .int .i64 a2, .int .i64 b2] ∧
      y.1 = .agg [d, .lit (.string s.data.toList), .agg [d0, .agg [.lit (.string v1.data.toList), d1], .agg [.lit (.string v2.data.toList), d2]]] := by
  obtain ⟨y0, y1, y2, m, rfl, hl, h0, h1, h2⟩ := Go.Deep.trod_struct3 Try.underlying86 h
  obtain ⟨k, e0, _, _⟩ := DataW.trod_int Try.underlying3 h0
  obtain ⟨s, e1, g1, _⟩ := DataW.trod_string Try.underlying9 h1
  obtain ⟨op, v1, a1, b1, v2, a2, b2, d0, d1, d2, e2, g2⟩ := cells_expr h2
  have k0 : Try.prog.cellsOf 86 = 9 := by kernel_rfl
  have k1 : Try.prog.cellsOf 3 = 1 := by kernel_rfl
  have k2 : Try.prog.cellsOf 9 = 1 := by kernel_rfl
  have k3 : Try.prog.cellsOf 73 = 7 := by kernel_rfl
  rw [k0] at hl
  obtain ⟨c0, c1, c2, c3, c4, c5, c6, c7, c8, rfl⟩ := list9 hl
  simp only [k1, k2, k3] at e0 e1 e2
  simp at e0 e1 e2
  obtain ⟨e2, e3, e4, e5, e6, e7, e8⟩ := e2
  subst e0 e1 e2 e3 e4 e5 e6 e7 e8
  exact ⟨k, s, op, v1, a1, b1, v2, a2, b2, y0.1, d0, d1, d2, rfl, by rw [g1, g2]⟩

theorem cells_term {H : Type} {enc : TypeId × Value → H} {W : World} {b0 : Nat} {sp : Nat → Bool} {hd : Bool} {n : Nat} {cs : List Value} {y : DataW H × List MemPlace}
    (h : DataW.trod enc Try.prog W b0 sp hd n 89 cs = some y) :
    ∃ (k : Int) (v : ByteArray) (a b : Int) (t e : ByteArray) (d d1 : DataW H), cs = [.int .i64 k, .string v, .int .i64 a, .int .i64 b, .string t, .string e] ∧
      y.1 = .agg [d, .agg [.lit (.string v.data.toList), d1], .lit (.string t.data.toList), .lit (.string e.data.toList)] := by
  obtain ⟨y0, y1, y2, y3, m, rfl, hl, h0, h1, h2, h3⟩ := trod_struct4 Try.underlying89 h
  obtain ⟨k, e0, _, _⟩ := DataW.trod_int Try.underlying3 h0
  obtain ⟨v, a, b, d1, e1, g1⟩ := cells_atom h1
  obtain ⟨t, e2, g2, _⟩ := DataW.trod_string Try.underlying9 h2
  obtain ⟨e, e3, g3, _⟩ := DataW.trod_string Try.underlying9 h3
  have k0 : Try.prog.cellsOf 89 = 6 := by kernel_rfl
  have k1 : Try.prog.cellsOf 3 = 1 := by kernel_rfl
  have k2 : Try.prog.cellsOf 9 = 1 := by kernel_rfl
  have k3 : Try.prog.cellsOf 71 = 3 := by kernel_rfl
  rw [k0] at hl
  obtain ⟨c0, c1, c2, c3, c4, c5, rfl⟩ := list6 hl
  simp only [k1, k2, k3] at e0 e1 e2 e3
  simp at e0 e1 e2 e3
  obtain ⟨e1, e4, e5⟩ := e1
  subst e0 e1 e2 e3 e4 e5
  exact ⟨k, v, a, b, t, e, y0.1, d1, rfl, by rw [g1, g2, g3]⟩

/-! The arguments, opened: the value's cells and the bounds of its strings. -/
section
variable {H : Type} {enc : TypeId × Value → H} {W : World} {base : Nat} {v : Value} {d : DataW H} {p : List MemPlace}

set_option maxRecDepth 100000 in
theorem open_atom (hv : Value.okWide Try.prog W .any base 71 v) (h : DataW.Trod enc Try.prog W 0 (fun _ => true) true 71 v d p)
    (hs : ∀ n ∈ d.weights Try.prog 71, n ≤ reachBytes) :
    ∃ (s : ByteArray) (a b : Int), v = .agg #[.string s, .int .i64 a, .int .i64 b] ∧ s.size ≤ reachBytes := by
  obtain ⟨cs, rfl, hsz⟩ := okWide_struct Try.underlying71 hv
  obtain ⟨fuel, hf⟩ := h
  obtain ⟨s, a, b, d1, e, g⟩ := cells_atom hf
  simp only [Value.cells] at e g
  subst g
  refine ⟨s, a, b, by rw [← e], ?_⟩
  exact hs _ (by simp [DataW.weights, DataW.weightsEach, Try.underlying71])

set_option maxRecDepth 100000 in
theorem open_expr (hv : Value.okWide Try.prog W .any base 73 v) (h : DataW.Trod enc Try.prog W 0 (fun _ => true) true 73 v d p)
    (hs : ∀ n ∈ d.weights Try.prog 73, n ≤ reachBytes) :
    ∃ (op : Int) (v1 : ByteArray) (a1 b1 : Int) (v2 : ByteArray) (a2 b2 : Int), v = .agg #[.int .i64 op, .string v1, .int .i64 a1, .int .i64 b1, .string v2, .int .i64 a2, .int .i64 b2] ∧ v1.size ≤ reachBytes ∧ v2.size ≤ reachBytes := by
  obtain ⟨cs, rfl, hsz⟩ := okWide_struct Try.underlying73 hv
  obtain ⟨fuel, hf⟩ := h
  obtain ⟨op, v1, a1, b1, v2, a2, b2, d0, d1, d2, e, g⟩ := cells_expr hf
  simp only [Value.cells] at e g
  subst g
  refine ⟨op, v1, a1, b1, v2, a2, b2, by rw [← e], hs _ ?_, hs _ ?_⟩ <;>
  · simp [DataW.weights, DataW.weightsEach, Try.underlying71, Try.underlying73]

set_option maxRecDepth 100000 in
theorem open_stmt (hv : Value.okWide Try.prog W .any base 86 v) (h : DataW.Trod enc Try.prog W 0 (fun _ => true) true 86 v d p)
    (hs : ∀ n ∈ d.weights Try.prog 86, n ≤ reachBytes) :
    ∃ (k : Int) (s : ByteArray) (op : Int) (v1 : ByteArray) (a1 b1 : Int) (v2 : ByteArray) (a2 b2 : Int), v = .agg #[.int .i64 k, .string s, .int .i64 op, .string v1, .int .i64 a1, .int .i64 b1, .string v2, .int .i64 a2, .int .i64 b2] ∧
      s.size ≤ reachBytes ∧ v1.size ≤ reachBytes ∧ v2.size ≤ reachBytes := by
  obtain ⟨cs, rfl, hsz⟩ := okWide_struct Try.underlying86 hv
  obtain ⟨fuel, hf⟩ := h
  obtain ⟨k, s, op, v1, a1, b1, v2, a2, b2, d, d0, d1, d2, e, g⟩ := cells_stmt hf
  simp only [Value.cells] at e g
  subst g
  refine ⟨k, s, op, v1, a1, b1, v2, a2, b2, by rw [← e], hs _ ?_, hs _ ?_, hs _ ?_⟩ <;>
  · simp [DataW.weights, DataW.weightsEach, Try.underlying71, Try.underlying73, Try.underlying86]

set_option maxRecDepth 100000 in
theorem open_term (hv : Value.okWide Try.prog W .any base 89 v) (h : DataW.Trod enc Try.prog W 0 (fun _ => true) true 89 v d p)
    (hs : ∀ n ∈ d.weights Try.prog 89, n ≤ reachBytes) :
    ∃ (k : Int) (s : ByteArray) (a b : Int) (t e : ByteArray), v = .agg #[.int .i64 k, .string s, .int .i64 a, .int .i64 b, .string t, .string e] ∧
      s.size ≤ reachBytes ∧ t.size ≤ reachBytes ∧ e.size ≤ reachBytes := by
  obtain ⟨cs, rfl, hsz⟩ := okWide_struct Try.underlying89 hv
  obtain ⟨fuel, hf⟩ := h
  obtain ⟨k, s, a, b, t, e, d, d1, h1, g⟩ := cells_term hf
  simp only [Value.cells] at h1 g
  subst g
  refine ⟨k, s, a, b, t, e, by rw [← h1], hs _ ?_, hs _ ?_, hs _ ?_⟩ <;>
  · simp [DataW.weights, DataW.weightsEach, Try.underlying71, Try.underlying89]

end

end Go.Proofs.Ytjjmoibnmdbpeaa
