/- soughlaw06.awake, TablesPlaces: they answer true. -/
import Derived.Test.YtjjmoibnmdbpeaaTabk
import Derived.Test.YtjjmoibnmdbpeaaTabi
import Derived.Test.YtjjmoibnmdbpeaaSmall
namespace Go.Proofs.Ytjjmoibnmdbpeaa.Pr
set_option linter.unusedVariables false
set_option linter.unusedSimpArgs false
open Go Go.RowKit

theorem Sl.lit {α : Type} {enc : α → List Value} {w : World} {b c n : Nat} {t : TypeId} {cs : Array Value} (L : List α) (hn : n = L.length) (hcs : cs.toList = L.flatMap enc) (h : w.heap[b]? = some (.cells cs t (0, 0))) : Sl w (.slice (some ⟨b, 0, none⟩) n c) enc L := by
  subst hn
  refine ⟨b, 0, _, c, rfl, fun _ => rfl, fun j u hu => ?_⟩
  rw [Nat.zero_add, cell_of_row w b j cs t (0, 0) h, ← hu, ← hcs]
  simp

def zA : At := ⟨⟨#[]⟩, 0, 0⟩
def zE : Ex := ⟨0, zA, zA⟩
/-- The example's program; its statements' slice. -/
def P0 (lv : Value) : List Bl := [⟨⟨#[97]⟩, [⟨1, ⟨#[120]⟩, zE⟩], ⟨3, zA, ⟨#[]⟩, ⟨#[]⟩⟩, lv⟩]
theorem P0_sites (lv : Value) : sitesOf (P0 lv) = [⟨-1, 0, ⟨#[120]⟩⟩, ⟨0, 0, ⟨#[120]⟩⟩] := by
  have e : vars (P0 lv) = [⟨#[120]⟩] := by
    show putS (putS (putS (putS [] ⟨#[120]⟩) ⟨#[]⟩) ⟨#[]⟩) ⟨#[]⟩ = _
    decide +kernel
  rw [sitesOf, e]
  rfl
theorem P0_name (lv : Value) : nameOf (P0 lv) ⟨0, 0, ⟨#[120]⟩⟩ = ⟨#[120, 64, 97, 46, 48]⟩ := by
  rw [nameOf, if_neg (by decide), P0_sites, if_pos (by decide)]
  have : digS 0 = ⟨#[48]⟩ := by rw [digS, digN, dif_pos (by decide)]; rfl
  rw [show ((⟨0, 0, ⟨#[120]⟩⟩ : Si).k).toNat = 0 from rfl, this]
  rfl

/-- The world behind the example's literal. -/
def O1 : Obj := .cells #[Value.int IntKind.i64 1, Value.string { data := #[120] }, Value.int IntKind.i64 0, Value.string { data := #[] }, Value.int IntKind.i64 0, Value.int IntKind.i64 0, Value.string { data := #[] }, Value.int IntKind.i64 0, Value.int IntKind.i64 0] 86
def O2 (w : World) : Obj := .cells #[Value.string { data := #[97] }, Value.slice (some { block := w.heap.size, off := 0 }) 1 1, Value.int IntKind.i64 3, Value.string { data := #[] }, Value.int IntKind.i64 0, Value.int IntKind.i64 0, Value.string { data := #[] }, Value.string { data := #[] }] 91
def O3 (w : World) : Obj := .cells #[Value.slice (some { block := w.heap.size + 1, off := 0 }) 1 1] 57
def W3 (w : World) : World := ((w.alloc O1).alloc (O2 w)).alloc (O3 w)
theorem W3_1 (w : World) : (W3 w).heap[w.heap.size]? = some O1 := by
  unfold W3
  rw [heap_alloc_old _ _ (by simp; omega), heap_alloc_old _ _ (by simp), heap_alloc_new]
theorem W3_2 (w : World) : (W3 w).heap[w.heap.size + 1]? = some (O2 w) := by
  unfold W3
  rw [heap_alloc_old _ _ (by simp), show w.heap.size + 1 = (w.alloc O1).heap.size by simp]
  exact heap_alloc_new _ _
theorem W3_3 (w : World) : (W3 w).heap[w.heap.size + 1 + 1]? = some (O3 w) := by
  unfold W3
  rw [show w.heap.size + 1 + 1 = ((w.alloc O1).alloc (O2 w)).heap.size by simp]
  exact heap_alloc_new _ _
theorem W3_pg (w : World) : Pg (W3 w) (.slice (some ⟨w.heap.size + 1, 0, none⟩) 1 1) (P0 (.slice (some ⟨w.heap.size, 0, none⟩) 1 1)) := by
  refine ⟨Sl.lit (P0 (.slice (some ⟨w.heap.size, 0, none⟩) 1 1)) rfl rfl (W3_2 w), fun b hb => ?_⟩
  have : b = ⟨⟨#[97]⟩, [⟨1, ⟨#[120]⟩, zE⟩], ⟨3, zA, ⟨#[]⟩, ⟨#[]⟩⟩, .slice (some ⟨w.heap.size, 0, none⟩) 1 1⟩ := by simpa [P0] using hb
  subst this
  exact Sl.lit ([⟨1, ⟨#[120]⟩, zE⟩] : List St) rfl rfl (W3_1 w)

set_option maxRecDepth 100000 in
theorem awake_any (w : World) : Calls Try.prog 20 #[] w fun e w' => e = .returned (.bool true) ∧ Below w.heap.size w w' := by
  have hP := W3_pg w
  have hv := tsites_any _ _ _ hP (by simp [P0]) (by simp [P0])
  rw [P0_sites] at hv
  have hn := fun (W : World) (hB : Below (W3 w).heap.size (W3 w) W) => tname_any _ 0 0 ⟨#[120]⟩ _ W (hP.below hB) (by simp [P0]) (by simp [P0]) (by simp [P0]; decide) (by decide)
  rw [P0_name] at hn
  have hsz : (W3 w).heap.size = w.heap.size + 1 + 1 + 1 := by simp [W3]
  have hBW : Below w.heap.size w (W3 w) := (((Below.refl _ _).alloc (Nat.le_refl _) _).alloc (by simp) _).alloc (by simp; omega) _
  have hbx : (W3 w).cell? ⟨w.heap.size + 1 + 1, 0, none⟩ = some (.slice (some ⟨w.heap.size + 1, 0, none⟩) 1 1) := cell_of_row (W3 w) _ 0 _ _ (0, 0) (W3_3 w)
  go_enter Try.func20, Try.ntmps20
  go_wp2_with (go_at_call 23; refine (hv).mono ?_; rintro e W1 ⟨v, rfl, ho, hB1⟩; obtain ⟨vb, voff, vp, vcap, rfl, hvp, hvc⟩ := ho.open Si.cs_len; obtain rfl := hvp (by decide))
  have b0 := (hB1.cell (p := ⟨w.heap.size + 1 + 1, 0, none⟩) (by show w.heap.size + 1 + 1 < _; omega)).trans hbx
  have c0 : W1.cell? ⟨vb, voff, none⟩ = some (.int .i64 (-1)) := hvc 0 (by decide) 0 _ rfl
  have c3 : W1.cell? ⟨vb, voff + 3, none⟩ = some (.int .i64 0) := hvc 1 (by decide) 0 _ rfl
  have c4 : W1.cell? ⟨vb, voff + 3 + 1, none⟩ = some (.int .i64 0) := hvc 1 (by decide) 1 _ rfl
  have c5 : W1.cell? ⟨vb, voff + 3 + 2, none⟩ = some (.string ⟨#[120]⟩) := hvc 1 (by decide) 2 _ rfl
  have hl1 := World.block_lt_of_cell? _ _ c0
  have hl2 := World.block_lt_of_cell? _ _ b0
  have hn2 := fun (x : After W1) => hn x.val (hB1.trans (x.below.mono hB1.size))
  have hB2 : Below w.heap.size w W1 := hBW.trans (hB1.mono hBW.size)
  clear hn hvc ho hvp hbx hsz hv
  go_wp2_with fail
  refine' region_whole _ _ (by kernel_rfl) (by kernel_rfl) _; rotate_left 2; (exact Below.refl _ _; rfl); (repeat (go_big_quiet_step (first | (go_at_call 25; exact Calls.after_of (hn2 _))))); refine wpQuiet_nil ?_; intro z
  go_wp2_with fail
  go_ret
  exact ⟨rfl, hB2.trans (z.below.mono hB2.size)⟩

theorem small_len {P : List Bl} (h : smallB P = true) : P.length ≤ 12 ∧ (∀ b ∈ P, b.l.length ≤ 12) ∧ ∀ b ∈ P, b.n.size ≤ 40 := by
  simp only [smallB, Bool.and_eq_true, decide_eq_true_eq, List.all_eq_true] at h
  refine ⟨h.1, fun b hb => ?_, fun b hb => ?_⟩
  · have := h.2 b hb
    simp only [blSmall, Bool.and_eq_true, decide_eq_true_eq] at this
    exact this.1
  · have := h.2 b hb
    simp only [blSmall, Bool.and_eq_true, decide_eq_true_eq] at this
    exact this.2.1

end Go.Proofs.Ytjjmoibnmdbpeaa.Pr
