/- soughlaw06.awake, TablesPlaces: they answer true. -/
import Derived.Test.YtaaklejkngpddaaTabk
import Derived.Test.YtaaklejkngpddaaTabi
import Derived.Test.YtaaklejkngpddaaSmall
namespace Go.Proofs.Ytaaklejkngpddaa.Pr
set_option linter.unusedVariables false
set_option linter.unusedSimpArgs false
open Go Go.RowKit

theorem Sl.lit {α : Type} {enc : α → List Value} {w : World} {b c n : Nat} {t : TypeId} {cs : Array Value} (L : List α) (hn : n = L.length) (hcs : cs.toList = L.flatMap enc) (h : w.heap[b]? = some (.cells cs t (0, 0))) : Sl w (.slice (some ⟨b, 0, none⟩) n c) enc L := by
  subst hn
  refine ⟨b, 0, _, c, rfl, fun _ => rfl, fun j u hu => ?_⟩
  rw [Nat.zero_add, cell_of_row w b j cs t (0, 0) h, ← hu, ← hcs]
  simp

def zA : At := ⟨⟨#[]⟩, 0, 0⟩
def zE : Ex := ⟨0, zA, zA⟩
/-- The example's program; its statements' slice. -/
def P0 (lv : Value) : List Bl := [⟨⟨#[97]⟩, [⟨1, ⟨#[120]⟩, zE⟩], ⟨3, zA, ⟨#[]⟩, ⟨#[]⟩⟩, lv⟩]
theorem P0_sites (lv : Value) : sitesOf (P0 lv) = [⟨-1, 0, ⟨#[120]⟩⟩, ⟨0, 0, ⟨#[120]⟩⟩] := by
  have e : vars (P0 lv) = [⟨#[120]⟩] := by
    show putS (putS (putS (putS [] ⟨#[120]⟩) ⟨#[]⟩) ⟨#[]⟩) ⟨#[]⟩ = _
    decide +kernel
  rw [sitesOf, e]
  rfl
theorem P0_name (lv : Value) : nameOf (P0 lv) ⟨0, 0, ⟨#[120]⟩⟩ = ⟨#[120, 64, 97, 46, 48]⟩ := by
  rw [nameOf, if_neg (by decide), P0_sites, if_pos (by decide)]
  have : digS 0 = ⟨#[48]⟩ := by rw [digS, digN, dif_pos (by decide)]; rfl
  rw [show ((⟨0, 0, ⟨#[120]⟩⟩ : Si).k).toNat = 0 from rfl, this]
  rfl

/-- The world behind the example's literal. -/
def O1 : Obj := .cells #[Value.int IntKind.i64 1, Value.string { data := #[120] }, Value.int IntKind.i64 0, Value.string { data := #[] }, Value.int IntKind.i64 0, Value.int IntKind.i64 0, Value.string { data := #[] }, Value.int IntKind.i64 0, Value.int IntKind.i64 0] 90
def O2 (w : World) : Obj := .cells #[Value.string { data := #[97] }, Value.slice (some { block := w.heap.size, off := 0 }) 1 1, Value.int IntKind.i64 3, Value.string { data := #[] }, Value.int IntKind.i64 0, Value.int IntKind.i64 0, Value.string { data := #[] }, Value.string { data := #[] }] 95
def O3 (w : World) : Obj := .cells #[Value.slice (some { block := w.heap.size + 1, off := 0 }) 1 1] 24
def W3 (w : World) : World := ((w.alloc O1).alloc (O2 w)).alloc (O3 w)
theorem W3_1 (w : World) : (W3 w).heap[w.heap.size]? = some O1 := by
  unfold W3
  rw [heap_alloc_old _ _ (by simp; omega), heap_alloc_old _ _ (by simp), heap_alloc_new]
theorem W3_2 (w : World) : (W3 w).heap[w.heap.size + 1]? = some (O2 w) := by
  unfold W3
  rw [heap_alloc_old _ _ (by simp), show w.heap.size + 1 = (w.alloc O1).heap.size by simp]
  exact heap_alloc_new _ _
theorem W3_3 (w : World) : (W3 w).heap[w.heap.size + 1 + 1]? = some (O3 w) := by
  unfold W3
  rw [show w.heap.size + 1 + 1 = ((w.alloc O1).alloc (O2 w)).heap.size by simp]
  exact heap_alloc_new _ _
theorem W3_pg (w : World) : Pg (W3 w) (.slice (some ⟨w.heap.size + 1, 0, none⟩) 1 1) (P0 (.slice (some ⟨w.heap.size, 0, none⟩) 1 1)) := by
  refine ⟨Sl.lit (P0 (.slice (some ⟨w.heap.size, 0, none⟩) 1 1)) rfl rfl (W3_2 w), fun b hb => ?_⟩
  have : b = ⟨⟨#[97]⟩, [⟨1, ⟨#[120]⟩, zE⟩], ⟨3, zA, ⟨#[]⟩, ⟨#[]⟩⟩, .slice (some ⟨w.heap.size, 0, none⟩) 1 1⟩ := by simpa [P0] using hb
  subst this
  exact Sl.lit ([⟨1, ⟨#[120]⟩, zE⟩] : List St) rfl rfl (W3_1 w)

theorem small_len {P : List Bl} (h : smallB P = true) : P.length ≤ 12 ∧ (∀ b ∈ P, b.l.length ≤ 12) ∧ ∀ b ∈ P, b.n.size ≤ 40 := by
  simp only [smallB, Bool.and_eq_true, decide_eq_true_eq, List.all_eq_true] at h
  refine ⟨h.1, fun b hb => ?_, fun b hb => ?_⟩
  · have := h.2 b hb
    simp only [blSmall, Bool.and_eq_true, decide_eq_true_eq] at this
    exact this.1
  · have := h.2 b hb
    simp only [blSmall, Bool.and_eq_true, decide_eq_true_eq] at this
    exact this.2.1

end Go.Proofs.Ytaaklejkngpddaa.Pr
