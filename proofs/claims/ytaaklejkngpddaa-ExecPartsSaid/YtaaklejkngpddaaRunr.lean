/- ExecParts: it answers true. -/
import Derived.Test.YtaaklejkngpddaaExg
import Derived.Deep.RegionHeld3
import Derived.Deep.RegionHeldLaw
namespace Go.Proofs.Ytaaklejkngpddaa.Pr
set_option linter.unusedVariables false
set_option linter.unusedSimpArgs false
open Go Go.RowKit

def frameP (w : World) (ev : Value) (nb wb : Nat) (k : Int) (is : Bool) (u : Nat → Value) : Act := { tmps := #[u 0, ev, u 2, .pointer (some ⟨w.heap.size, 0, none⟩), u 4, .pointer (some ⟨w.heap.size + 1, 0, none⟩), u 6, .pointer (some ⟨nb, 0, none⟩), .int .i64 k, .pointer (some ⟨wb, 0, none⟩), .bool is, u 11, u 12, u 13, u 14, u 15, u 16, u 17, u 18, u 19, u 20, u 21, u 22, u 23, u 24, u 25, u 26, u 27, u 28, u 29, u 30, u 31, u 32, u 33, u 34, u 35, u 36, u 37, u 38, u 39, u 40, u 41, u 42, u 43, u 44, u 45, u 46, u 47, u 48, u 49, u 50, u 51, u 52, u 53, u 54, u 55, u 56, u 57, u 58, u 59, u 60, u 61, u 62, u 63, u 64, u 65, u 66, u 67, u 68, u 69, u 70, u 71, u 72, u 73, u 74, u 75, u 76], defers := [] }

/-- The cells of a world, as another one has them. -/
theorem slCells {α : Type} {enc : α → List Value} {W q : World} {v : Value} {L : List α} (h : Sl W v enc L) (hq : ∀ b o, b < W.heap.size → q.cell? ⟨b, o, none⟩ = W.cell? ⟨b, o, none⟩) : Sl q v enc L := by
  obtain ⟨b, off, p, cap, hv, hp, hc⟩ := h
  exact ⟨b, off, p, cap, hv, hp, fun j u hu => (hq b _ (World.block_lt_of_cell? _ _ (hc j u hu))).trans (hc j u hu)⟩
theorem pgCells {W q : World} {v : Value} {P : List Bl} (h : Pg W v P) (hq : ∀ b o, b < W.heap.size → q.cell? ⟨b, o, none⟩ = W.cell? ⟨b, o, none⟩) : Pg q v P := ⟨slCells h.1 hq, fun b hb => slCells (h.2 b hb) hq⟩

set_option maxRecDepth 100000 in
set_option maxHeartbeats 4000000 in
theorem execParts_any (P : List Bl) (E : List Nu) (op : Int) (v1 : ByteArray) (a1 b1 : Int) (v2 : ByteArray) (a2' b2 : Int) (pv : Value) (hcp : CapOk pv) (ev : Value) (hz : NilOk ev) (w : World) (h : Pg w pv P) (hE : Sl w ev Nu.cs E) :
    Calls Try.prog 3 #[.agg #[pv], ev, .agg #[.int .i64 op, .string v1, .int .i64 a1, .int .i64 b1, .string v2, .int .i64 a2', .int .i64 b2]] w fun e w' => e = .returned (.bool true) ∧ Below w.heap.size w w' := by
  obtain ⟨p, cap, rfl⟩ : ∃ p cap, pv = .slice p P.length cap := by obtain ⟨b, off, p, cap, hv, _⟩ := h.1; exact ⟨p, cap, hv⟩
  have hfw := fun (W : World) (hB : Below w.heap.size w W) => few_any P E [] _ ev (.slice none 0 0) hcp W (h.below hB) (hE.below hB) Sl.nil
  have hev := fun (h12 : P.length ≤ 12) (hl12 : ∀ b ∈ P, b.l.length ≤ 12) (W : World) (hB : Below w.heap.size w W) => eval_any P E ⟨op, ⟨v1, a1, b1⟩, ⟨v2, a2', b2⟩⟩ _ ev W (h.below hB) h12 hl12 (hE.below hB)
  have hvl := fun (h12 : P.length ≤ 12) (hl12 : ∀ b ∈ P, b.l.length ≤ 12) x a b (W : World) (hB : Below w.heap.size w W) => value_any P E x a b _ ev W (h.below hB) h12 hl12 (hE.below hB)
  have hrv := fun (h12 : P.length ≤ 12) (hl12 : ∀ b ∈ P, b.l.length ≤ 12) x a b (W : World) (hB : Below w.heap.size w W) => rvalue_any P E x a b _ ev W (h.below hB) h12 hl12 (hE.below hB)
  have hs1 := fun (h12 : P.length ≤ 12) (hl12 : ∀ b ∈ P, b.l.length ≤ 12) (W : World) (hB : Below w.heap.size w W) => start_any P _ W (h.below hB) h12 hl12
  have hs2 := fun (h12 : P.length ≤ 12) (hl12 : ∀ b ∈ P, b.l.length ≤ 12) (W : World) (hB : Below w.heap.size w W) => rstart_any P _ W (h.below hB) h12 hl12
  have hvl64 : fewB P E [] = true → P.length ≤ 12 ∧ (∀ b ∈ P, b.l.length ≤ 12) ∧ E.length ≤ 70 := fun hf => by
    simp only [fewB, Bool.and_eq_true, decide_eq_true_eq] at hf
    exact ⟨(small_len hf.1.1).1, (small_len hf.1.1).2.1, hf.1.2⟩
  obtain ⟨ep, ec, rfl⟩ : ∃ p cap, ev = .slice p E.length cap := by obtain ⟨b, off, p, cap, hv, _⟩ := hE; exact ⟨p, cap, hv⟩
  have hb2 : Below w.heap.size w ((w.alloc (.cells #[.slice p P.length cap] 24)).alloc (.cells #[.int .i64 op, .string v1, .int .i64 a1, .int .i64 b1, .string v2, .int .i64 a2', .int .i64 b2] 31)) := ((Below.refl _ _).alloc (Nat.le_refl _) _).alloc (by simp) _
  have hH := And.intro True.intro (And.intro h hE)
  clear h hE hcp hz
  cases hf : fewB P E []
  · rw [hf] at hfw
    clear hev hvl hrv hs1 hs2 hvl64
    go_enter Try.func3, Try.ntmps3
    go_wp2_with (first | (go_at_call 9; refine' Calls.aft _ _ (awake8_any _) _; rotate_left 2; (first | (with_reducible exact After.below _; rfl) | (with_reducible exact below_drew (After.below _); rfl) | (with_reducible exact below_set (After.below _) _ _; (go_simp; rfl)) | (with_reducible exact below_set (below_set (After.below _) _ _) _ _; (go_simp; rfl)) | (with_reducible exact below_set (below_set (below_set (After.below _) _ _) _ _) _ _; (go_simp; rfl)) | (with_reducible exact below_set (below_set (below_set (below_set (After.below _) _ _) _ _) _ _) _ _; (go_simp; rfl)) | (exact Below.refl _ _; rfl)); intro x1; have hle := After.le x1; (try simp at hle)) | (go_at_call 10; refine' Calls.aft _ _ (hfw _ (hb2.trans (x1.below.mono hb2.size))) _; rotate_left 2; (first | (with_reducible exact After.below _; rfl) | (with_reducible exact below_drew (After.below _); rfl) | (with_reducible exact below_set (After.below _) _ _; (go_simp; rfl)) | (with_reducible exact below_set (below_set (After.below _) _ _) _ _; (go_simp; rfl)) | (with_reducible exact below_set (below_set (below_set (After.below _) _ _) _ _) _ _; (go_simp; rfl)) | (with_reducible exact below_set (below_set (below_set (below_set (After.below _) _ _) _ _) _ _) _ _; (go_simp; rfl)) | (exact Below.refl _ _; rfl)); intro x2; have hle := After.le x2; (try simp at hle)))
    go_ret
    refine ⟨rfl, ?_⟩
    (repeat (first | exact Below.refl _ _ | apply Below.drew | refine Below.alloc ?_ ?_ _ | refine Below.setCell ?_ ?_ _ | refine Below.trans ?_ (Below.mono (After.below _) ?_))); (all_goals (first | (simp; done) | (simp; omega) | omega))
  rw [hf] at hfw
  obtain ⟨h12, hl12, hEl⟩ := hvl64 hf
  have hev := hev h12 hl12
  have hvl := hvl h12 hl12
  have hrv := hrv h12 hl12
  have hs1 := hs1 h12 hl12
  have hs2 := hs2 h12 hl12
  clear hf
  go_enter Try.func3, Try.ntmps3
  go_wp2_with (first | (go_at_call 9; refine' Calls.aft _ _ (awake8_any _) _; rotate_left 2; (first | (with_reducible exact After.below _; rfl) | (with_reducible exact below_drew (After.below _); rfl) | (with_reducible exact below_set (After.below _) _ _; (go_simp; rfl)) | (with_reducible exact below_set (below_set (After.below _) _ _) _ _; (go_simp; rfl)) | (with_reducible exact below_set (below_set (below_set (After.below _) _ _) _ _) _ _; (go_simp; rfl)) | (with_reducible exact below_set (below_set (below_set (below_set (After.below _) _ _) _ _) _ _) _ _; (go_simp; rfl)) | (exact Below.refl _ _; rfl)); intro x1; have hle := After.le x1; (try simp at hle)) | (go_at_call 10; refine' Calls.aft _ _ (hfw _ (hb2.trans (x1.below.mono hb2.size))) _; rotate_left 2; (first | (with_reducible exact After.below _; rfl) | (with_reducible exact below_drew (After.below _); rfl) | (with_reducible exact below_set (After.below _) _ _; (go_simp; rfl)) | (with_reducible exact below_set (below_set (After.below _) _ _) _ _; (go_simp; rfl)) | (with_reducible exact below_set (below_set (below_set (After.below _) _ _) _ _) _ _; (go_simp; rfl)) | (with_reducible exact below_set (below_set (below_set (below_set (After.below _) _ _) _ _) _ _) _ _; (go_simp; rfl)) | (exact Below.refl _ _; rfl)); intro x2; have hle := After.le x2; (try simp at hle)) | (go_at_call 11; refine' Calls.aft _ _ (hev _ (hb2.trans (x2.below.mono hb2.size))) _; rotate_left 2; (first | (with_reducible exact After.below _; rfl) | (with_reducible exact below_drew (After.below _); rfl) | (with_reducible exact below_set (After.below _) _ _; (go_simp; rfl)) | (with_reducible exact below_set (below_set (After.below _) _ _) _ _; (go_simp; rfl)) | (with_reducible exact below_set (below_set (below_set (After.below _) _ _) _ _) _ _; (go_simp; rfl)) | (with_reducible exact below_set (below_set (below_set (below_set (After.below _) _ _) _ _) _ _) _ _; (go_simp; rfl)) | (exact Below.refl _ _; rfl)); intro x3; have hle := After.le x3; (try simp at hle)))
  rename_i K hK
  obtain ⟨nb, hnb⟩ : ∃ nb, nb = x3.val.heap.size := ⟨_, rfl⟩
  have hB3 : Below w.heap.size w x3.val := hb2.trans (x3.below.mono hb2.size)
  have y0 := (x3.below.cell (p := ⟨w.heap.size, 0, none⟩) (by simp; omega)).trans (by simp : _ = some (Value.slice p P.length cap))
  have z0 := (x3.below.cell (p := ⟨w.heap.size + 1, 0, none⟩) (by simp)).trans (by simp : _ = some (Value.int .i64 op))
  have z1 := (x3.below.cell (p := ⟨w.heap.size + 1, 1, none⟩) (by simp)).trans (by simp : _ = some (Value.string v1))
  have z2 := (x3.below.cell (p := ⟨w.heap.size + 1, 2, none⟩) (by simp)).trans (by simp : _ = some (Value.int .i64 a1))
  have z3 := (x3.below.cell (p := ⟨w.heap.size + 1, 3, none⟩) (by simp)).trans (by simp : _ = some (Value.int .i64 b1))
  have z4 := (x3.below.cell (p := ⟨w.heap.size + 1, 4, none⟩) (by simp)).trans (by simp : _ = some (Value.string v2))
  have z5 := (x3.below.cell (p := ⟨w.heap.size + 1, 5, none⟩) (by simp)).trans (by simp : _ = some (Value.int .i64 a2'))
  have z6 := (x3.below.cell (p := ⟨w.heap.size + 1, 6, none⟩) (by simp)).trans (by simp : _ = some (Value.int .i64 b2))
  show Code.wp _ _ _ _ (x3.val.alloc (.cells #[.int .i64 (evalE P E ⟨op, ⟨v1, a1, b1⟩, ⟨v2, a2', b2⟩⟩).a, .int .i64 (evalE P E ⟨op, ⟨v1, a1, b1⟩, ⟨v2, a2', b2⟩⟩).b] 27))
  obtain ⟨W3, hW3⟩ : ∃ W3, W3 = x3.val.alloc (.cells #[.int .i64 (evalE P E ⟨op, ⟨v1, a1, b1⟩, ⟨v2, a2', b2⟩⟩).a, .int .i64 (evalE P E ⟨op, ⟨v1, a1, b1⟩, ⟨v2, a2', b2⟩⟩).b] 27) := ⟨_, rfl⟩
  have hBa : Below x3.val.heap.size x3.val W3 := by rw [hW3]; exact (Below.refl _ _).alloc (Nat.le_refl _) _
  have n0 : W3.cell? ⟨nb, 0, none⟩ = some (.int .i64 (evalE P E ⟨op, ⟨v1, a1, b1⟩, ⟨v2, a2', b2⟩⟩).a) := by rw [hW3, hnb]; exact (World.cell?_alloc_new _ _ _ _).trans rfl
  have n1 : W3.cell? ⟨nb, 1, none⟩ = some (.int .i64 (evalE P E ⟨op, ⟨v1, a1, b1⟩, ⟨v2, a2', b2⟩⟩).b) := by rw [hW3, hnb]; exact (World.cell?_alloc_new _ _ _ _).trans rfl
  have y0 := nextC hBa y0
  have z0 := nextC hBa z0
  have z1 := nextC hBa z1
  have z2 := nextC hBa z2
  have z3 := nextC hBa z3
  have z4 := nextC hBa z4
  have z5 := nextC hBa z5
  have z6 := nextC hBa z6
  have hBW := nextB hBa hB3
  rw [← hW3, ← hnb]
  clear hW3 hnb hBa
  have yl := World.block_lt_of_cell? _ _ y0
  have zl := World.block_lt_of_cell? _ _ z0
  have nl := World.block_lt_of_cell? _ _ n0
  have hP3 := hH.2.1.below hBW
  have hE3 := hH.2.2.below hBW
  clear hrv hvl hs1 hs2 hfw hev hH
  have hrv := fun x a b (W : World) (hS : ∀ b o, b < W3.heap.size → W.cell? ⟨b, o, none⟩ = W3.cell? ⟨b, o, none⟩) => rvalue_any P E x a b _ _ W (pgCells hP3 hS) h12 hl12 (slCells hE3 hS)
  have hK2 : ∀ (a2 : Act) (q : World) (wb : Nat), a2 = frameP w (.slice ep E.length ec) nb wb (opN op) (opE op) (fun i => a2.tmps.getD i undef) → Below W3.heap.size W3 q → q.cell? ⟨wb, 0, none⟩ = some (.int .i64 (evalE P E ⟨op, ⟨v1, a1, b1⟩, ⟨v2, a2', b2⟩⟩).a) → q.cell? ⟨wb, 1, none⟩ = some (.int .i64 (evalE P E ⟨op, ⟨v1, a1, b1⟩, ⟨v2, a2', b2⟩⟩).b) → K a2 q := by
    intro a2 q wb ha hq c0 c1
    obtain ⟨u, hu⟩ : ∃ u : Nat → Value, (fun i => a2.tmps.getD i undef) = u := ⟨_, rfl⟩
    rw [hu] at ha
    clear hu
    subst ha
    refine hK _ _ ?_
    simp only [frameP]
    have y0 := nextC hq y0
    have z0 := nextC hq z0
    have z1 := nextC hq z1
    have z2 := nextC hq z2
    have z3 := nextC hq z3
    have z4 := nextC hq z4
    have z5 := nextC hq z5
    have z6 := nextC hq z6
    have n0 := nextC hq n0
    have n1 := nextC hq n1
    have yl := World.block_lt_of_cell? _ _ y0
    have zl := World.block_lt_of_cell? _ _ z0
    have nl := World.block_lt_of_cell? _ _ n0
    have wl := World.block_lt_of_cell? _ _ c0
    have hPq := hP3.below hq
    have hEq := hE3.below hq
    have hBq := nextB hq hBW
    have hon : opN op = if opE op then 0 else 10 := rfl
    unfold evalE at c0 c1 n0 n1
    generalize opA op (valA P E ⟨v1, a1, b1⟩).a (valA P E ⟨v1, a1, b1⟩).b (valA P E ⟨v2, a2', b2⟩).a (valA P E ⟨v2, a2', b2⟩).b = A at c0 n0
    generalize opB op (valA P E ⟨v1, a1, b1⟩).a (valA P E ⟨v1, a1, b1⟩).b (valA P E ⟨v2, a2', b2⟩).a (valA P E ⟨v2, a2', b2⟩).b = B at c1 n1
    have hvl := fun (W : World) (hS : ∀ b o, b < q.heap.size → W.cell? ⟨b, o, none⟩ = q.cell? ⟨b, o, none⟩) => value_any P E v1 a1 b1 _ _ W (pgCells hPq hS) h12 hl12 (slCells hEq hS)
    have hrv := fun (W : World) (hS : ∀ b o, b < q.heap.size → W.cell? ⟨b, o, none⟩ = q.cell? ⟨b, o, none⟩) => rvalue_any P E v1 a1 b1 _ _ W (pgCells hPq hS) h12 hl12 (slCells hEq hS)
    generalize valA P E ⟨v1, a1, b1⟩ = n at hvl hrv
    have hst : ∀ (W : World) (hS : ∀ b o, b < q.heap.size → W.cell? ⟨b, o, none⟩ = q.cell? ⟨b, o, none⟩), Calls Try.prog 17 #[.agg #[.slice p P.length cap]] W fun e w' => ∃ ev, e = .returned (.agg #[.int .i64 0, ev, .int .i64 0, .slice none 0 0]) ∧ Sl w' ev Nu.cs (List.replicate (vars P).length zN) ∧ Below W.heap.size W w' := fun W hS => (start_any P _ W (pgCells hPq hS) h12 hl12).mono fun e w' ⟨ev, he, ho, hb⟩ => ⟨ev, he, Sl.of_own (base := W.heap.size) (e := 27) (size := 2) (by rw [List.length_replicate]; exact ho), hb⟩
    have hrst : ∀ (W : World) (hS : ∀ b o, b < q.heap.size → W.cell? ⟨b, o, none⟩ = q.cell? ⟨b, o, none⟩), Calls Try.prog 18 #[.agg #[.slice p P.length cap]] W fun e w' => ∃ ev, e = .returned (.agg #[.int .i64 0, ev, .int .i64 0, .slice none 0 0]) ∧ Sl w' ev Nu.cs (List.replicate (vars P).length zN) ∧ Below W.heap.size W w' := fun W hS => (rstart_any P _ W (pgCells hPq hS) h12 hl12).mono fun e w' ⟨ev, he, ho, hb⟩ => ⟨ev, he, Sl.of_own (base := W.heap.size) (e := 27) (size := 2) (by rw [List.length_replicate]; exact ho), hb⟩
    have hzl : (List.replicate (vars P).length zN).length ≤ 1000000 := by rw [List.length_replicate]; have := blVars_len hl12 P.length; show (blVars P P.length).length ≤ _; omega
    generalize List.replicate (vars P).length zN = Z at hst hrst hzl
    have hsm : ∀ (W : World) p1 c1 p2 c2, Sl W (.slice p1 Z.length c1) Nu.cs Z → Sl W (.slice p2 Z.length c2) Nu.cs Z → Calls Try.prog 15 #[.agg #[.int .i64 0, .slice p1 Z.length c1, .int .i64 0, .slice none 0 0], .agg #[.int .i64 0, .slice p2 Z.length c2, .int .i64 0, .slice none 0 0]] W fun e w' => e = .returned (.bool true) ∧ Below W.heap.size W w' := fun W p1 c1 p2 c2 g1 g2 => by
      have := sameS_any 0 0 0 0 Z [] Z [] hzl (by simp) hzl (by simp) _ (.slice none 0 0) _ (.slice none 0 0) W g1 Sl.nil g2 Sl.nil
      have e : sameSt 0 0 Z [] 0 0 Z [] = true := by unfold sameSt; simp
      rwa [e] at this
    have hSl : ∀ (W : World) v, Sl W v Nu.cs Z → ∃ p c, v = .slice p Z.length c := fun W v h => by obtain ⟨b, off, p, cap, hv, _⟩ := h; exact ⟨p, cap, hv⟩
    clear hzl hP3 hE3 hPq hEq hK hB3
    rw [hon]
    generalize opE op = is
    cases is
    all_goals (
      simp only [if_true, if_false, Bool.false_eq_true]
      go_wp2_with fail
      first | (go_region_held_law (fun w' => ∀ b o, b < q.heap.size → w'.cell? ⟨b, o, none⟩ = q.cell? ⟨b, o, none⟩)
        (((try dsimp only); intro b9 o9 h9; refine Below.cell (B := q.heap.size) (w := q) ?_ h9; clear h9; (repeat (first | exact Below.refl _ _ | apply Below.drew | refine Below.alloc ?_ ?_ _ | refine Below.setCell ?_ ?_ _ | refine Below.trans ?_ (Below.mono (After.below _) ?_))); (all_goals (first | (simp; done) | (simp; omega) | omega))))
        (first | (go_at_call 14; refine' Calls.aft _ _ (hvl _ (by assumption)) _; rotate_left 2; (exact Below.refl _ _; rfl); intro x3; have hle := After.le x3; (try simp at hle)) | (go_at_call 13; refine' Calls.aft _ _ (hrv _ (by assumption)) _; rotate_left 2; (exact Below.refl _ _; rfl); intro x4; have hle := After.le x4; (try simp at hle)) | ((go_at_call 17; refine' Calls.aftS _ _ (hst _ (by assumption)) _; rotate_left 2; (exact Below.refl _ _; rfl); intro v5 x5 ho5; have hle := After.le x5; (try simp at hle)); obtain ⟨sp5, sc5, rfl⟩ := hSl _ _ ho5) | (go_at_call 16; refine' Calls.aft _ _ (back_any _ _ _ _ _ _ _ _ _) _; rotate_left 2; (exact Below.refl _ _; rfl); intro x6; have hle := After.le x6; (try simp at hle)) | ((go_at_call 18; refine' Calls.aftS _ _ (hrst _ (by assumption)) _; rotate_left 2; (exact Below.refl _ _; rfl); intro v7 x7 ho7; have hle := After.le x7; (try simp at hle)); obtain ⟨sp7, sc7, rfl⟩ := hSl _ _ ho7) | (go_at_call 15; refine' Calls.aft _ _ (hsm _ _ _ _ _ ((ho5.below x6.below).below x7.below) ho7) _; rotate_left 2; (exact Below.refl _ _; rfl); intro x8; have hle := After.le x8; (try simp at hle)))) | fail
      all_goals (
        go_wp2_with fail
        go_ret
        refine ⟨rfl, hBq.trans (Below.mono (?_ : Below q.heap.size q _) hBq.size)⟩
        (repeat (first | exact Below.refl _ _ | apply Below.drew | refine Below.alloc ?_ ?_ _ | refine Below.setCell ?_ ?_ _ | refine Below.trans ?_ (Below.mono (After.below _) ?_))); (all_goals (first | (simp; done) | (simp; omega) | omega))))
  have hKK := And.intro True.intro hK2
  clear hK hK2
  unfold evalE at hKK
  go_region_held3 (fun w' => ∀ b o, b < W3.heap.size → w'.cell? ⟨b, o, none⟩ = W3.cell? ⟨b, o, none⟩)
    (((try dsimp only); intro b9 o9 h9; refine Below.cell (B := W3.heap.size) (w := W3) ?_ h9; clear h9; (repeat (first | exact Below.refl _ _ | apply Below.drew | refine Below.alloc ?_ ?_ _ | refine Below.setCell ?_ ?_ _ | refine Below.trans ?_ (Below.mono (After.below _) ?_))); (all_goals (first | (simp; done) | (simp; omega) | omega))))
    (first | (go_at_call 13; refine' Calls.aft _ _ (hrv _ _ _ _ (by assumption)) _; rotate_left 2; (first | (with_reducible exact After.below _; rfl) | (with_reducible exact below_drew (After.below _); rfl) | (with_reducible exact below_set (After.below _) _ _; (go_simp; rfl)) | (with_reducible exact below_set (below_set (After.below _) _ _) _ _; (go_simp; rfl)) | (with_reducible exact below_set (below_set (below_set (After.below _) _ _) _ _) _ _; (go_simp; rfl)) | (with_reducible exact below_set (below_set (below_set (below_set (After.below _) _ _) _ _) _ _) _ _; (go_simp; rfl)) | (exact Below.refl _ _; rfl)); intro zz; have hle := After.le zz; (try simp at hle)) | (go_at_call 12; refine' Calls.aft _ _ (rop_any _ _ _ _ _ _) _; rotate_left 2; (first | (with_reducible exact After.below _; rfl) | (with_reducible exact below_drew (After.below _); rfl) | (with_reducible exact below_set (After.below _) _ _; (go_simp; rfl)) | (with_reducible exact below_set (below_set (After.below _) _ _) _ _; (go_simp; rfl)) | (with_reducible exact below_set (below_set (below_set (After.below _) _ _) _ _) _ _; (go_simp; rfl)) | (with_reducible exact below_set (below_set (below_set (below_set (After.below _) _ _) _ _) _ _) _ _; (go_simp; rfl)) | (exact Below.refl _ _; rfl)); intro zo; have hle := After.le zo; (try simp at hle)))
  all_goals (
    refine hKK.2 _ _ _ rfl ?_ ?_ ?_
    · (repeat (first | exact Below.refl _ _ | apply Below.drew | refine Below.alloc ?_ ?_ _ | refine Below.setCell ?_ ?_ _ | refine Below.trans ?_ (Below.mono (After.below _) ?_))); (all_goals (first | (simp; done) | (simp; omega) | omega))
    · go_simp
    · go_simp)

end Go.Proofs.Ytaaklejkngpddaa.Pr
