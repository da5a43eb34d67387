/- A slice that was written out; how long small programs are. -/
import Derived.Test.YtjjmoibnmdbpeaaSmall
namespace Go.Proofs.Ytjjmoibnmdbpeaa.Pr
set_option linter.unusedVariables false
set_option linter.unusedSimpArgs false
open Go Go.RowKit

theorem Sl.lit {α : Type} {enc : α → List Value} {w : World} {b c n : Nat} {t : TypeId} {cs : Array Value} (L : List α) (hn : n = L.length) (hcs : cs.toList = L.flatMap enc) (h : w.heap[b]? = some (.cells cs t (0, 0))) : Sl w (.slice (some ⟨b, 0, none⟩) n c) enc L := by
  subst hn
  refine ⟨b, 0, _, c, rfl, fun _ => rfl, fun j u hu => ?_⟩
  rw [Nat.zero_add, cell_of_row w b j cs t (0, 0) h, ← hu, ← hcs]
  simp

def namesOf (P : List Bl) : List ByteArray := P.map fun b => b.n
theorem small_len {P : List Bl} (h : smallB P = true) : P.length ≤ 12 ∧ (∀ b ∈ P, b.l.length ≤ 12) ∧ ∀ b ∈ P, b.n.size ≤ 40 := by
  simp only [smallB, Bool.and_eq_true, decide_eq_true_eq, List.all_eq_true] at h
  refine ⟨h.1, fun b hb => ?_, fun b hb => ?_⟩
  · have := h.2 b hb
    simp only [blSmall, Bool.and_eq_true, decide_eq_true_eq] at this
    exact this.1
  · have := h.2 b hb
    simp only [blSmall, Bool.and_eq_true, decide_eq_true_eq] at this
    exact this.2.1

end Go.Proofs.Ytjjmoibnmdbpeaa.Pr
