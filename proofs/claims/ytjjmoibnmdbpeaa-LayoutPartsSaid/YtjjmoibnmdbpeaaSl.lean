/- SLICES THAT ARE READ: a slice's value and the cells of its elements, wherever it came from. -/
import Derived.Test.YtjjmoibnmdbpeaaAfter
import Derived.Deep.Slices
import Derived.Laws.AppendOwn
import Derived.Laws.OwnMore
namespace Go.Proofs.Ytjjmoibnmdbpeaa
set_option linter.unusedVariables false
set_option linter.unusedSimpArgs false
open Go Go.RowKit

/-- v is a slice whose elements are those of L, each laid as enc says. -/
def Sl {α : Type} (w : World) (v : Value) (enc : α → List Value) (L : List α) : Prop :=
  ∃ (b off : Nat) (p : Option Addr) (cap : Nat), v = .slice p L.length cap ∧ (0 < L.length → p = some ⟨b, off, none⟩) ∧ ∀ j u, (L.flatMap enc)[j]? = some u → w.cell? ⟨b, off + j, none⟩ = some u

theorem flat_get {α : Type} {enc : α → List Value} {k : Nat} (hk : ∀ x, (enc x).length = k) : ∀ (L : List α) (i r : Nat), r < k → (L.flatMap enc)[i * k + r]? = (L[i]?).bind fun x => (enc x)[r]?
  | [], i, r, hr => by simp
  | x :: L, 0, r, hr => by
    simp only [List.flatMap_cons, Nat.zero_mul, Nat.zero_add, List.getElem?_cons_zero, Option.bind_some]
    exact List.getElem?_append_left (by rw [hk]; exact hr)
  | x :: L, i + 1, r, hr => by
    have ih := flat_get hk L i r hr
    simp only [List.flatMap_cons, List.getElem?_cons_succ]
    rw [List.getElem?_append_right (by rw [hk, Nat.add_mul]; omega), hk, show (i + 1) * k + r - k = i * k + r by rw [Nat.add_mul]; omega]
    exact ih

theorem flat_length {α : Type} {enc : α → List Value} {k : Nat} (hk : ∀ x, (enc x).length = k) (L : List α) : (L.flatMap enc).length = L.length * k := by
  induction L with
  | nil => simp
  | cons x L ih => rw [List.flatMap_cons, List.length_append, ih, hk, List.length_cons, Nat.add_mul]; omega

theorem spot_none {w : World} {a : Addr} {v : Value} (h : w.cell? a = some v) : a.spot = none := by
  unfold World.cell? at h
  cases hs : a.spot with
  | none => rfl
  | some x => exfalso; revert h; cases w.heap[a.block]? with
    | none => simp
    | some o => cases o <;> simp [hs]

section
variable {α : Type} {enc : α → List Value} {w w' : World} {v : Value} {L : List α}

/-- Opened: element i's cell r. -/
theorem Sl.open (h : Sl w v enc L) {k : Nat} (hk : ∀ x, (enc x).length = k) :
    ∃ (b off : Nat) (p : Option Addr) (cap : Nat), v = .slice p L.length cap ∧ (0 < L.length → p = some ⟨b, off, none⟩) ∧
      ∀ (i : Nat) (hi : i < L.length) (r : Nat) (u : Value), (enc (L[i]'hi))[r]? = some u → w.cell? ⟨b, off + (i * k + r), none⟩ = some u := by
  obtain ⟨b, off, p, cap, hv, hp, hc⟩ := h
  refine ⟨b, off, p, cap, hv, hp, fun i hi r u hu => hc _ u ?_⟩
  have hr : r < k := by
    rw [← hk (L[i]'hi)]
    exact (List.getElem?_eq_some_iff.1 hu).1
  rw [flat_get hk L i r hr, List.getElem?_eq_getElem hi]
  exact hu

theorem Sl.below (h : Sl w v enc L) (hB : Below w.heap.size w w') : Sl w' v enc L := by
  obtain ⟨b, off, p, cap, hv, hp, hc⟩ := h
  exact ⟨b, off, p, cap, hv, hp, fun j u hu => (hB.cell (p := ⟨b, off + j, none⟩) (World.block_lt_of_cell? _ _ (hc j u hu))).trans (hc j u hu)⟩

theorem Sl.of_own {base : Nat} {e : TypeId} {size : Nat} (h : w.ownsRow base e size v L.length (L.flatMap enc)) : Sl w v enc L := by
  have ha : ∀ g j, (⟨g, 0, none⟩ : Addr).add j = ⟨g, 0 + j, none⟩ := fun g j => by unfold Addr.add; split <;> simp_all
  rcases h.2 with ⟨rfl, hn⟩ | ⟨g, cap, cur, rfl, _⟩
  · have : L = [] := List.eq_nil_of_length_eq_zero hn
    subst this
    exact ⟨0, 0, none, 0, rfl, fun h => by simp at h, fun j u hu => by simp at hu⟩
  · refine ⟨g, 0, _, cap, rfl, fun _ => rfl, fun j u hu => ?_⟩
    have := h.cells (g := g) rfl j u hu
    rwa [ha] at this

/-- A slice that came in. -/
theorem Sl.of_cells {k base : Nat} (hk : ∀ x, (enc x).length = k) (hk0 : 0 < k) [Inhabited α] {a : Addr} {len cap : Nat}
    (h : ∀ i, i < len → ∃ x, w.cells? base (a.add (i * k)) k = some (enc x)) : ∃ L : List α, L.length = len ∧ Sl w (.slice (some a) len cap) enc L := by
  obtain ⟨T, hT⟩ := Go.Deep.choose_lt h
  refine ⟨(List.range len).map T, by simp, a.block, a.off, some a, cap, by simp, fun h0 => ?_, fun j u hu => ?_⟩
  · have h0' : 0 < len := by simpa using h0
    have h1 := (World.cells?_some (hT 0 h0')).2.2 0 hk0
    have h2 : (enc (T 0))[0]? = some ((enc (T 0))[0]'(by rw [hk]; exact hk0)) := List.getElem?_eq_getElem _
    rw [h2] at h1
    have := spot_none h1
    rw [Nat.zero_mul, Go.Deep.add_add] at this
    have e : a.add (0 + 0) = a := by unfold Addr.add; simp
    rw [e] at this
    cases a; simp_all
  · have hj : j < ((List.range len).map T).length * k := by
      rw [← flat_length hk]
      exact (List.getElem?_eq_some_iff.1 hu).1
    simp only [List.length_map, List.length_range] at hj
    have hi : j / k < len := Nat.div_lt_of_lt_mul (by rwa [Nat.mul_comm])
    have hr : j % k < k := Nat.mod_lt _ hk0
    have hjd : j / k * k + j % k = j := by rw [Nat.mul_comm]; exact Nat.div_add_mod j k
    have hu' := hu
    rw [← hjd, flat_get hk _ _ _ hr] at hu'
    simp only [List.getElem?_map, List.getElem?_range hi, Option.map_some, Option.bind_some] at hu'
    have h1 := (World.cells?_some (hT _ hi)).2.2 (j % k) hr
    rw [hu', Go.Deep.add_add, hjd] at h1
    have hs := spot_none h1
    by_cases h0 : j = 0
    · subst h0
      have e : a.add 0 = a := by unfold Addr.add; simp
      rw [e] at h1 hs
      have : a = ⟨a.block, a.off + 0, none⟩ := by cases a; simp_all
      rw [← this]; exact h1
    · have e : a.add j = ⟨a.block, a.off + j, none⟩ := by unfold Addr.add; rw [if_neg h0]
      rw [e] at h1; exact h1

theorem Sl.nil {cap : Nat} {p : Option Addr} : Sl w (.slice p 0 cap) enc [] :=
  ⟨0, 0, p, cap, rfl, fun h => by simp at h, fun j u hu => by simp at hu⟩
end

end Go.Proofs.Ytjjmoibnmdbpeaa
