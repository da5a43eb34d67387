/- WHAT A CLONE IS while its names and kinds are written over. -/
import Derived.Test.YtekpkhgpjpgcbaaClone
namespace Go.Proofs.Ytekpkhgpjpgcbaa.Pr
set_option linter.unusedVariables false
set_option linter.unusedSimpArgs false
open Go Go.RowKit

theorem own_any_set {w : World} {base h o : Nat} {e : TypeId} {size n : Nat} {v u : Value} {ys : List Value} (hv : w.ownsRow base e size v n ys) : ∃ ys', (w.setCell ⟨h, o, none⟩ u).ownsRow base e size v n ys' := by
  by_cases hb : v.ownBlock = some h
  · rcases hv.2 with ⟨rfl, _⟩ | ⟨g, cap, cur, rfl, _⟩
    · cases hb
    · have : g = h := by injection hb
      subst this
      exact ⟨_, (hv.stored o u).1⟩
  · exact ⟨_, ownsRow_setCell_other hv hb u⟩

structure Mu (D : Nat) (dv : Value) (P : List Bl) (k : Nat) (W5 w : World) : Prop where
  box : w.heap[D]? = some (.cells #[dv] 24 (0, 0))
  row : ∃ xs, w.ownsRow W5.heap.size 108 8 dv P.length xs ∧ ∀ i (hi : i < P.length), (∃ s, xs[i * 8]? = some (.string s) ∧ (k ≤ i → s.size ≤ 40)) ∧ xs[i * 8 + 1]? = some (P[i]'hi).lv
  sts : ∀ b ∈ P, ∃ ys, w.ownsRow W5.heap.size 110 9 b.lv b.l.length ys
  bel : Below W5.heap.size W5 w

theorem own_not_of {w : World} {base D : Nat} {e t : TypeId} {size n : Nat} {v : Value} {xs : List Value} {cs : Array Value} (h : w.ownsRow base e size v n xs) (hD : w.heap[D]? = some (.cells cs t (0, 0))) (ht : e ≠ t) : v.ownBlock ≠ some D := by
  intro he
  rcases h.2 with ⟨rfl, _⟩ | ⟨g, cap, cur, rfl, _, hg, _⟩
  · cases he
  · have : g = D := by injection he
    subst this
    rw [hg] at hD
    injection hD with h1
    injection h1 with _ h2
    exact ht h2

theorem Mu.drew {D : Nat} {dv : Value} {P : List Bl} {k : Nat} {W5 w : World} (h : Mu D dv P k W5 w) : Mu D dv P k W5 w.drew := ⟨h.box, h.row, h.sts, h.bel.drew⟩

theorem Mu.name {D g cap k : Nat} {P : List Bl} {W5 w : World} {t : ByteArray} (h : Mu D (.slice (some ⟨g, 0, none⟩) P.length cap) P k W5 w) (hk : k < P.length) :
    Mu D (.slice (some ⟨g, 0, none⟩) P.length cap) P (k + 1) W5 (w.setCell ⟨g, k * 8, none⟩ (.string t)) := by
  obtain ⟨xs, ho, hx⟩ := h.row
  have hgD := own_not_of ho h.box (by decide)
  have hst := (ho.stored (k * 8) (.string t)).1
  have hgb : W5.heap.size ≤ g := (ho.lt g rfl).1
  refine ⟨(Below.heap_setCell _ _ _ _ (fun e => hgD (by rw [e]; rfl))).trans h.box, ⟨_, hst, fun i hi => ?_⟩, fun b hb => ?_, h.bel.setCell (p := ⟨g, k * 8, none⟩) hgb _⟩
  · obtain ⟨⟨s, hs, hs40⟩, hl⟩ := hx i hi
    refine ⟨?_, by rw [List.getElem?_set_ne (by omega)]; exact hl⟩
    by_cases hik : i = k
    · subst hik
      refine ⟨t, ?_, fun h => by omega⟩
      rw [List.getElem?_set_self (List.getElem?_eq_some_iff.1 hs).1]
    · exact ⟨s, by rw [List.getElem?_set_ne (by omega)]; exact hs, fun h => hs40 (by omega)⟩
  · obtain ⟨ys, hy⟩ := h.sts b hb
    exact own_any_set hy

theorem Mu.kind {D k o hh len cap : Nat} {dv u : Value} {P : List Bl} {W5 w : World} {b : Bl} (h : Mu D dv P k W5 w) (hb : b ∈ P) (hlv : b.lv = .slice (some ⟨hh, 0, none⟩) len cap) :
    Mu D dv P k W5 (w.setCell ⟨hh, o, none⟩ u) := by
  obtain ⟨xs, ho, hx⟩ := h.row
  obtain ⟨ys, hy⟩ := h.sts b hb
  have h1 : b.lv.ownBlock = some hh := by rw [hlv]; rfl
  have h2 := own_not_of hy h.box (by decide)
  have h3 := own_types ho hy (by decide)
  have h4 : dv.ownBlock ≠ some hh := by
    rcases h3 with h3 | h3
    · rw [h3]; intro he; cases he
    · rw [← h1]; exact h3
  have hhb : W5.heap.size ≤ hh := (hy.lt hh h1).1
  refine ⟨(Below.heap_setCell _ _ _ _ (fun e => h2 (by rw [h1, e]))).trans h.box, ⟨xs, ownsRow_setCell_other ho h4 _, hx⟩, fun c hc => ?_, h.bel.setCell (p := ⟨hh, o, none⟩) hhb _⟩
  obtain ⟨zs, hz⟩ := h.sts c hc
  exact own_any_set hz

/-- What a walk asks of block k: its name's cell, its statements' slice. -/
theorem Mu.at {D k g cap : Nat} {P : List Bl} {W5 w : World} (h : Mu D (.slice (some ⟨g, 0, none⟩) P.length cap) P k W5 w) {i : Nat} (hi : i < P.length) :
    ∃ s, w.cell? ⟨g, i * 8, none⟩ = some (.string s) ∧ (k ≤ i → s.size ≤ 40) ∧ w.cell? ⟨g, i * 8 + 1, none⟩ = some (P[i]'hi).lv ∧ w.frozen? ⟨g, i * 8, none⟩ = false ∧ g < w.heap.size := by
  obtain ⟨xs, ho, hx⟩ := h.row
  obtain ⟨⟨s, hs, h40⟩, hl⟩ := hx i hi
  have hlen := ho.1
  refine ⟨s, ?_, h40, ?_, ho.frozenAt _, (ho.lt g rfl).2⟩
  · rw [ho.cellAt (i * 8) (by omega), hs]
  · rw [ho.cellAt (i * 8 + 1) (by omega), hl]

theorem Mu.stmt {D k : Nat} {dv : Value} {P : List Bl} {W5 w : World} (h : Mu D dv P k W5 w) {b : Bl} (hb : b ∈ P) {hh cap j : Nat} (hlv : b.lv = .slice (some ⟨hh, 0, none⟩) b.l.length cap) (hj : j < b.l.length) :
    ∃ u, w.cell? ⟨hh, j * 9, none⟩ = some u ∧ w.frozen? ⟨hh, j * 9, none⟩ = false ∧ hh < w.heap.size := by
  obtain ⟨ys, hy⟩ := h.sts b hb
  rw [hlv] at hy
  have hlen := hy.1
  have hjl : j * 9 < ys.length := by omega
  exact ⟨ys[j * 9]'hjl, by rw [hy.cellAt (j * 9) (by omega), List.getElem?_eq_getElem hjl], hy.frozenAt _, (hy.lt hh rfl).2⟩

end Go.Proofs.Ytekpkhgpjpgcbaa.Pr
