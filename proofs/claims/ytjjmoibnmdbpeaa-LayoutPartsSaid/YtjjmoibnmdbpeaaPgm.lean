/- PROGRAMS: the plain ones; how they lie in memory; an argument that is one. -/
import Derived.Test.YtjjmoibnmdbpeaaAtomOpen
import Derived.Test.YtjjmoibnmdbpeaaOwn
namespace Go.Proofs.Ytjjmoibnmdbpeaa
set_option linter.unusedVariables false
set_option linter.unusedSimpArgs false
open Go Go.ChangeShapes Go.WideShapes Go.ChangeAt Go.RowKit Go.Joins

/-! Plain programs. A block bears the value of its statements' slice. -/
structure At where
  v : ByteArray
  a : Int
  b : Int
deriving DecidableEq, Inhabited
structure Ex where
  op : Int
  x : At
  y : At
deriving DecidableEq, Inhabited
structure St where
  k : Int
  v : ByteArray
  e : Ex
deriving DecidableEq, Inhabited
structure Te where
  k : Int
  x : At
  t : ByteArray
  e : ByteArray
deriving DecidableEq, Inhabited
structure Bl where
  n : ByteArray
  l : List St
  t : Te
  lv : Value

instance : Inhabited Bl := ⟨⟨default, [], default, .int .i64 0⟩⟩

def At.cs (x : At) : List Value := [.string x.v, .int .i64 x.a, .int .i64 x.b]
def Ex.cs (x : Ex) : List Value := [.int .i64 x.op, .string x.x.v, .int .i64 x.x.a, .int .i64 x.x.b, .string x.y.v, .int .i64 x.y.a, .int .i64 x.y.b]
def St.cs (s : St) : List Value := [.int .i64 s.k, .string s.v, .int .i64 s.e.op, .string s.e.x.v, .int .i64 s.e.x.a, .int .i64 s.e.x.b, .string s.e.y.v, .int .i64 s.e.y.a, .int .i64 s.e.y.b]
def Te.cs (t : Te) : List Value := [.int .i64 t.k, .string t.x.v, .int .i64 t.x.a, .int .i64 t.x.b, .string t.t, .string t.e]
def Bl.cs (b : Bl) : List Value := [.string b.n, b.lv, .int .i64 b.t.k, .string b.t.x.v, .int .i64 b.t.x.a, .int .i64 b.t.x.b, .string b.t.t, .string b.t.e]

theorem St.cs_len (s : St) : s.cs.length = 9 := rfl
theorem Bl.cs_len (b : Bl) : b.cs.length = 8 := rfl

/-- v is a slice of the blocks P; each block's statements lie where its slice says. -/
def Pg (w : World) (v : Value) (P : List Bl) : Prop := Sl w v Bl.cs P ∧ ∀ b ∈ P, Sl w b.lv St.cs b.l

theorem Pg.below {w w' : World} {v : Value} {P : List Bl} (h : Pg w v P) (hB : Below w.heap.size w w') : Pg w' v P :=
  ⟨h.1.below hB, fun b hb => (h.2 b hb).below hB⟩

theorem Sl.of_T {α : Type} {enc : α → List Value} {w : World} {k base : Nat} (hk : ∀ x, (enc x).length = k) (hk0 : 0 < k) {a : Addr} {len cap : Nat} (T : Nat → α)
    (hT : ∀ i, i < len → w.cells? base (a.add (i * k)) k = some (enc (T i))) : Sl w (.slice (some a) len cap) enc ((List.range len).map T) := by
  refine ⟨a.block, a.off, some a, cap, by simp, fun h0 => ?_, fun j u hu => ?_⟩
  · have h0' : 0 < len := by simpa using h0
    have h1 := (World.cells?_some (hT 0 h0')).2.2 0 hk0
    have h2 : (enc (T 0))[0]? = some ((enc (T 0))[0]'(by rw [hk]; exact hk0)) := List.getElem?_eq_getElem _
    rw [h2] at h1
    have := spot_none h1
    rw [Nat.zero_mul, Go.Deep.add_add] at this
    have e : a.add (0 + 0) = a := by unfold Addr.add; simp
    rw [e] at this
    cases a; simp_all
  · have hj : j < ((List.range len).map T).length * k := by
      rw [← flat_length hk]
      exact (List.getElem?_eq_some_iff.1 hu).1
    simp only [List.length_map, List.length_range] at hj
    have hi : j / k < len := Nat.div_lt_of_lt_mul (by rwa [Nat.mul_comm])
    have hr : j % k < k := Nat.mod_lt _ hk0
    have hjd : j / k * k + j % k = j := by rw [Nat.mul_comm]; exact Nat.div_add_mod j k
    have hu' := hu
    rw [← hjd, flat_get hk _ _ _ hr] at hu'
    simp only [List.getElem?_map, List.getElem?_range hi, Option.map_some, Option.bind_some] at hu'
    have h1 := (World.cells?_some (hT _ hi)).2.2 (j % k) hr
    rw [hu', Go.Deep.add_add, hjd] at h1
    have hs := spot_none h1
    by_cases h0 : j = 0
    · subst h0
      have e : a.add 0 = a := by unfold Addr.add; simp
      rw [e] at h1 hs
      have : a = ⟨a.block, a.off + 0, none⟩ := by cases a; simp_all
      rw [← this]; exact h1
    · have e : a.add j = ⟨a.block, a.off + j, none⟩ := by unfold Addr.add; rw [if_neg h0]
      rw [e] at h1; exact h1

section
variable {H : Type} {enc : TypeId × Value → H} {W : World} {base : Nat} {v : Value} {d : DataW H} {p : List MemPlace}

/-- A slice's elements: for each index a plain one. -/
theorem slice_T {α : Type} [Inhabited α] {ec : α → List Value} {t e : TypeId} {k fuel : Nat} {cs : List Value} {y : DataW H × List MemPlace} (ht : Try.prog.underlying t = some (.slice e)) (k0 : Try.prog.cellsOf e = k) (hk : ∀ x, (ec x).length = k) (hk0 : 0 < k) (Q : α → Prop)
    (hcell : ∀ n cs' y', DataW.trod enc Try.prog W 0 (fun _ => true) true n e cs' = some y' → ∃ x, cs' = ec x ∧ Q x)
    (h : DataW.trod enc Try.prog W 0 (fun _ => true) true fuel t cs = some y) : ∃ L : List α, (∃ v, cs = [v] ∧ Sl W v ec L) ∧ ∀ x ∈ L, Q x := by
  rcases Go.Deep.open_slice ht h with ⟨rfl, _⟩ | ⟨a, len, cap, m, n, D, Pl, rfl, _, hlc, _, hm, _, hx⟩
  · exact ⟨[], ⟨_, rfl, Sl.nil⟩, fun x hx => by simp at hx⟩
  · rw [k0] at hx
    have hw : ∀ i, i < len → ∃ x : α, W.cells? 0 (a.add (i * k)) k = some (ec x) ∧ Q x := fun i hi => by
      obtain ⟨cs', h1, h2⟩ := hx i (by simp at hm; omega)
      obtain ⟨x, rfl, hq⟩ := hcell _ _ _ h2
      exact ⟨x, h1, hq⟩
    obtain ⟨T, hT⟩ := Go.Deep.choose_lt hw
    refine ⟨(List.range len).map T, ⟨_, rfl, Sl.of_T hk hk0 T fun i hi => (hT i hi).1⟩, fun x hx => ?_⟩
    obtain ⟨i, hi, rfl⟩ := List.mem_map.1 hx
    exact (hT i (List.mem_range.1 hi)).2

theorem cells_St {n : Nat} {cs : List Value} {y : DataW H × List MemPlace} (h : DataW.trod enc Try.prog W 0 (fun _ => true) true n 86 cs = some y) : ∃ s : St, cs = s.cs ∧ True := by
  obtain ⟨k, s, op, v1, a1, b1, v2, a2, b2, d, d0, d1, d2, e, _⟩ := cells_stmt h
  exact ⟨⟨k, s, ⟨op, ⟨v1, a1, b1⟩, ⟨v2, a2, b2⟩⟩⟩, e, trivial⟩

theorem list8 {cs : List Value} (h : cs.length = 8) : ∃ c0 c1 c2 c3 c4 c5 c6 c7, cs = [c0, c1, c2, c3, c4, c5, c6, c7] := by
  match cs, h with
  | [c0, c1, c2, c3, c4, c5, c6, c7], _ => exact ⟨c0, c1, c2, c3, c4, c5, c6, c7, rfl⟩

theorem cells_Bl {n : Nat} {cs : List Value} {y : DataW H × List MemPlace} (h : DataW.trod enc Try.prog W 0 (fun _ => true) true n 91 cs = some y) : ∃ b : Bl, cs = b.cs ∧ Sl W b.lv St.cs b.l := by
  obtain ⟨y0, y1, y2, m, rfl, hl, h0, h1, h2⟩ := Go.Deep.trod_struct3 Try.underlying91 h
  obtain ⟨s, e0, _, _⟩ := DataW.trod_string Try.underlying9 h0
  obtain ⟨k, v, a, b, t, e, _, _, e2, _⟩ := cells_term h2
  obtain ⟨L, ⟨lv, e1, hS⟩, _⟩ := slice_T (ec := St.cs) (k := 9) Try.underlying87 (by kernel_rfl) St.cs_len (by decide) (fun _ => True) (fun n cs' y' h => cells_St h) h1
  have k0 : Try.prog.cellsOf 91 = 8 := by kernel_rfl
  have k1 : Try.prog.cellsOf 9 = 1 := by kernel_rfl
  have k2 : Try.prog.cellsOf 87 = 1 := by kernel_rfl
  have k3 : Try.prog.cellsOf 89 = 6 := by kernel_rfl
  rw [k0] at hl
  obtain ⟨c0, c1, c2, c3, c4, c5, c6, c7, rfl⟩ := list8 hl
  simp only [k1, k2, k3] at e0 e1 e2
  simp at e0 e1 e2
  obtain ⟨e2, e3, e4, e5, e6, e7⟩ := e2
  subst e0 e1 e2 e3 e4 e5 e6 e7
  exact ⟨⟨s, L, ⟨k, ⟨v, a, b⟩, t, e⟩, _⟩, rfl, hS⟩

set_option maxRecDepth 100000 in
theorem open_prog (hv : Value.okWide Try.prog W .any base 57 v) (h : DataW.Trod enc Try.prog W 0 (fun _ => true) true 57 v d p) :
    ∃ (pv : Value) (P : List Bl), v = .agg #[pv] ∧ Pg W pv P := by
  obtain ⟨cs, rfl, hsz⟩ := okWide_struct Try.underlying57 hv
  obtain ⟨fuel, hf⟩ := h
  obtain ⟨y0, m, _, hl, h0⟩ := trod_struct1 Try.underlying57 hf
  obtain ⟨P, ⟨pv, e0, hS⟩, hQ⟩ := slice_T (ec := Bl.cs) (k := 8) (α := Bl) Try.underlying55 (by kernel_rfl) Bl.cs_len (by decide) (fun b => Sl W b.lv St.cs b.l) (fun n cs' y' h => cells_Bl h) h0
  have k1 : Try.prog.cellsOf 55 = 1 := by kernel_rfl
  have k2 : Try.prog.cellsOf 57 = 1 := by kernel_rfl
  rw [k2] at hl
  rw [k1] at e0
  simp only [Value.cells] at hl e0
  obtain ⟨l⟩ := cs
  match l, hl with
  | [c], _ =>
    simp at e0
    subst e0
    exact ⟨_, P, rfl, hS, hQ⟩
end

end Go.Proofs.Ytjjmoibnmdbpeaa
