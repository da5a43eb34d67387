/- THE READER: WALKS of part, atom and expr. -/
import Derived.Test.YtmnplnhblniimaaGre
import Derived.Test.YtmnplnhblniimaaGauss
namespace Go.Proofs.Ytmnplnhblniimaa.Gr
set_option linter.unusedVariables false
set_option linter.unusedSimpArgs false
open Go Go.RowKit

/-- A text's tokens. -/
structure Lok (L : List Tok) : Prop where
  len : L.length ≤ 1000000
  num : ∀ t ∈ L, 0 ≤ t.n ∧ t.n ≤ 32768
  fin : ∀ i (hi : i < L.length), (L[i]'hi).kind = 0 ↔ i + 1 = L.length

theorem now_in {L : List Tok} {r : R} (h : r.i < L.length) : now L r = L[r.i]'h := by unfold now; rw [List.getD_eq_getElem?_getD, List.getElem?_eq_getElem h]; rfl
theorem isB_kind {L : List Tok} {r : R} {k : Int} {s : ByteArray} (h : isB L r k s = true) : (now L r).kind = k := by
  unfold isB at h
  simp only [Bool.and_eq_true, beq_iff_eq] at h
  exact h.2.1
theorem tok_n {L : List Tok} {r : R} (hL : Lok L) (h : r.i < L.length) (k : Int) (s : ByteArray) : 0 ≤ (tokn L r k s).n ∧ (tokn L r k s).n ≤ 32768 := by
  unfold tokn
  split
  · rw [now_in h]; exact hL.num _ (List.getElem_mem h)
  · exact ⟨by decide, by decide⟩
theorem took_i {L : List Tok} {r : R} (hL : Lok L) (h : r.i < L.length) (k : Int) (s : ByteArray) : (took L r k s).i < L.length ∧ r.i ≤ (took L r k s).i := by
  unfold took fail
  split
  · rename_i hb
    split
    · exact ⟨h, Nat.le_refl _⟩
    · rename_i hk
      have h1 := isB_kind hb
      rw [now_in h] at h1
      have h3 : ¬ r.i + 1 = L.length := fun he => hk (h1.symm.trans ((hL.fin _ h).2 he))
      exact ⟨by show r.i + 1 < L.length; omega, Nat.le_succ _⟩
  · split <;> exact ⟨h, Nat.le_refl _⟩
theorem Ok.took {L : List Tok} {r : R} (h : Ok L r) (hL : Lok L) (k : Int) (s : ByteArray) : Ok L (Gr.took L r k s) := by
  obtain ⟨h1, h2, h3⟩ := h
  have hv := (took_vs L r k s).1
  exact ⟨(took_i hL h1 k s).1, by rw [hv]; exact h2, fun he => by rw [hv]; exact h3 (took_e L r k s he).2.2⟩
theorem Ok.fail {L : List Tok} {r : R} (h : Ok L r) (e p : Int) (he : e ≠ 0) : Ok L (Gr.fail r e p) := by
  unfold Gr.fail
  split
  · exact ⟨h.i, h.v, fun hh => absurd hh he⟩
  · exact h
theorem Ok.less {L : List Tok} {r : R} (h : Ok L r) (hL : Lok L) : Ok L (Gr.less L r) := by
  unfold Gr.less
  split
  · exact h.took hL _ _
  · exact h
theorem Ok.part {L : List Tok} {r : R} (h : Ok L r) (hL : Lok L) : Ok L (partR L r) := by
  unfold partR
  split
  · exact ((h.less hL).took hL _ _).fail _ _ (by decide)
  · exact (h.less hL).took hL _ _
theorem Ok.var {L : List Tok} {r : R} (h : Ok L r) (hL : Lok L) : Ok L (varR L r) := by
  have ht := h.took hL 1 (st [])
  unfold varR
  split
  · rename_i h0
    have := ht.ev h0
    split
    · exact ht
    · split
      · unfold Gr.fail
        split
        · refine ⟨ht.i, ?_, fun hh => absurd (show (6 : Int) = 0 from hh) (by decide)⟩
          show ((Gr.took L r 1 (st [])).vs ++ [(now L r).s]).length ≤ 65
          rw [List.length_append]
          have h1 : [(now L r).s].length = 1 := rfl
          omega
        · rename_i h2
          exact absurd h0 h2
      · rename_i h2
        refine ⟨ht.i, ?_, fun _ => ?_⟩
        · show ((Gr.took L r 1 (st [])).vs ++ [(now L r).s]).length ≤ 65
          rw [List.length_append]
          have h1 : [(now L r).s].length = 1 := rfl
          omega
        · show ((Gr.took L r 1 (st [])).vs ++ [(now L r).s]).length ≤ 64
          rw [List.length_append]
          have h1 : [(now L r).s].length = 1 := rfl
          omega
  · exact ht
theorem Ok.atom {L : List Tok} {r : R} (h : Ok L r) (hL : Lok L) : Ok L (atomR L r) := by
  unfold atomR
  split
  · exact h.var hL
  · split
    · exact ((((h.took hL _ _).part hL).took hL _ _).part hL).took hL _ _
    · exact h.part hL
theorem Ok.expr {L : List Tok} {r : R} (h : Ok L r) (hL : Lok L) : Ok L (exprR L r) := by
  unfold exprR
  split
  · exact (h.took hL _ _).atom hL
  · split
    · exact ((h.atom hL).took hL _ _).atom hL
    · split
      · exact ((h.atom hL).took hL _ _).atom hL
      · split
        · exact ((h.atom hL).took hL _ _).atom hL
        · exact h.atom hL

section
variable {b : Nat} {L : List Tok} {lv vv tv bv : Value} {w : World} {r : R}

theorem wr_in {n : Int} (h0 : -32768 ≤ n) (h1 : n ≤ 32767) : wr n = n := by unfold wr; omega

set_option maxRecDepth 100000 in
set_option maxHeartbeats 1000000 in
theorem part_any (h : Gx b L lv vv tv bv w r) (hk : Ok L r) (hL : Lok L) :
    Calls Try.prog 90 #[.pointer (some ⟨b, 0, none⟩)] w fun e w' => e = .returned (.int .i64 (partN L r)) ∧ Gx b L lv vv tv bv w' (partR L r) ∧ Keep b [] w w' := by
  have f0 := is_any h hk.i 3 (st [45])
  have f1 := fun (W : World) (hB : Below w.heap.size w W) => sign_any (h.below hB) hk.i hL.len (st [45])
  have f2 := fun (W : World) (r2 : R) (h2 : Gx b L lv vv tv bv W r2) (k2 : Ok L r2) => take_any h2 k2.i hL.len 2 (st [])
  have hn := tok_n hL (hk.less hL).i 2 (st [])
  have k1 := hk.less hL
  have yl := lt_blk h.box
  unfold partR partN less at *
  cases hc : isB L r 3 (st [45]) with
  | true =>
    rw [hc] at f0 hn k1
    simp only [if_true, Bool.true_eq_false, false_and, if_false] at hn k1 ⊢
    have fx := fun (W : World) (h2 : Gx b L lv vv tv bv W (took L r 3 (st [45]))) => f2 W _ h2 k1
    generalize took L r 3 (st [45]) = r2 at f1 hn k1 fx ⊢
    generalize tokn L r2 2 (st []) = t at hn fx ⊢
    generalize took L r2 2 (st []) = r3 at fx ⊢
    obtain ⟨tk, tp, ts, tn⟩ := t
    simp only at hn fx ⊢
    have hw := wr_in (n := -tn) (by omega) (by omega)
    clear f2 hk k1 hc
    have hH := And.intro True.intro h
    clear h
    go_enter Try.func90, Try.ntmps90
    go_wp2_with (first | (go_at_call 23; refine' Calls.aft _ _ (f0) _; rotate_left 2; (exact Below.refl _ _; rfl); intro x1; have hle := After.le x1; (try simp at hle)) | (go_at_call 46; refine (f1 _ x1.below).mono ?_; rintro e9 W2 ⟨rfl, hG2, hK2⟩) | (go_at_call 31; refine (fx _ hG2).mono ?_; rintro e9 W3 ⟨rfl, hG3, hK3⟩) | (go_at_call 101; refine Calls.same (wrap_any _ _) ?_; rw [hw]))
    refine bodyPost_ret (v := .int .i64 (-tn)) (by simp only [results, Try.results90]; go_simp) rfl ⟨rfl, ?_⟩
    exact ⟨hG3.below ((Below.refl _ _).alloc (Nat.le_refl _) _), (((Keep.of_below x1.below).trans hK2).trans hK3).alloc _⟩
  | false =>
    rw [hc] at f0 hn k1
    simp only [if_false, Bool.false_eq_true, true_and] at hn k1 ⊢
    have fx := fun (W : World) (hB : Below w.heap.size w W) => f2 W _ (h.below hB) k1
    generalize tokn L r 2 (st []) = t at hn fx ⊢
    generalize took L r 2 (st []) = r3 at fx ⊢
    obtain ⟨tk, tp, ts, tn⟩ := t
    simp only at hn fx ⊢
    clear f2 hk k1 hc f1
    have hH := And.intro True.intro h
    clear h
    by_cases q0 : 32767 < tn
    · simp only [q0, if_true]
      have hw : wr tn = -32768 := by unfold wr; omega
      have hne : (tn != -32768) = true := by simp; omega
      go_enter Try.func90, Try.ntmps90
      go_wp2_with (first | (go_at_call 23; refine' Calls.aft _ _ (f0) _; rotate_left 2; (exact Below.refl _ _; rfl); intro x1; have hle := After.le x1; (try simp at hle)) | (go_at_call 31; refine (fx _ x1.below).mono ?_; rintro e9 W3 ⟨rfl, hG3, hK3⟩; have hG4 := hG3.below ((Below.refl _ _).alloc (Nat.le_refl _) (.cells #[.int .i64 tk, .int .i64 tp, .string ts, .int .i64 tn] 39)); have f3 := fail_any hG4 6 tk tp tn ts) | (go_at_call 101; refine Calls.same (wrap_any _ _) ?_; rw [hw]) | (go_at_call 43; refine f3.mono ?_; rintro e9 W4 ⟨rfl, hG5, hK5⟩))
      refine bodyPost_ret (v := .int .i64 tn) (by simp only [results, Try.results90]; go_simp) rfl ⟨rfl, ?_⟩
      exact ⟨hG5, (((Keep.of_below x1.below).trans hK3).alloc _).trans hK5⟩
    · simp only [q0, if_false]
      have hw := wr_in (n := tn) (by omega) (by omega)
      go_enter Try.func90, Try.ntmps90
      go_wp2_with (first | (go_at_call 23; refine' Calls.aft _ _ (f0) _; rotate_left 2; (exact Below.refl _ _; rfl); intro x1; have hle := After.le x1; (try simp at hle)) | (go_at_call 31; refine (fx _ x1.below).mono ?_; rintro e9 W3 ⟨rfl, hG3, hK3⟩) | (go_at_call 101; refine Calls.same (wrap_any _ _) ?_; rw [hw]))
      refine bodyPost_ret (v := .int .i64 tn) (by simp only [results, Try.results90]; go_simp) rfl ⟨rfl, ?_⟩
      exact ⟨hG3.below ((Below.refl _ _).alloc (Nat.le_refl _) _), (((Keep.of_below x1.below).trans hK3)).alloc _⟩

/-- Two new blocks. -/
theorem two (w : World) (O1 O2 : Obj) : Below w.heap.size w ((w.alloc O1).alloc O2) ∧ ((w.alloc O1).alloc O2).heap[w.heap.size]? = some O1 ∧ ((w.alloc O1).alloc O2).heap[w.heap.size + 1]? = some O2 := by
  refine ⟨((Below.refl _ _).alloc (Nat.le_refl _) _).alloc (by simp) _, blkN ((Below.refl _ _).alloc (Nat.le_refl _) _) (heap_alloc_new _ _), ?_⟩
  have := heap_alloc_new (w.alloc O1) O2
  rw [show (w.alloc O1).heap.size = w.heap.size + 1 by simp] at this
  exact this
/-- A box of three, seven cells. -/
theorem row3 {B : Nat} {v0 v1 v2 : Value} {t : TypeId} (h : w.heap[B]? = some (.cells #[v0, v1, v2] t (0, 0))) :
    w.cell? ⟨B, 0, none⟩ = some v0 ∧ w.cell? ⟨B, 1, none⟩ = some v1 ∧ w.cell? ⟨B, 2, none⟩ = some v2 ∧ (∀ j, w.frozen? ⟨B, j, none⟩ = false) ∧ B < w.heap.size :=
  ⟨(cell_of_row w B 0 _ t (0, 0) h).trans rfl, (cell_of_row w B 1 _ t (0, 0) h).trans rfl, (cell_of_row w B 2 _ t (0, 0) h).trans rfl, fun j => frozen_of_row w B j _ t h, lt_blk h⟩
theorem row7 {B : Nat} {v0 v1 v2 v3 v4 v5 v6 : Value} {t : TypeId} (h : w.heap[B]? = some (.cells #[v0, v1, v2, v3, v4, v5, v6] t (0, 0))) :
    w.cell? ⟨B, 0, none⟩ = some v0 ∧ w.cell? ⟨B, 1, none⟩ = some v1 ∧ w.cell? ⟨B, 2, none⟩ = some v2 ∧ w.cell? ⟨B, 3, none⟩ = some v3 ∧ w.cell? ⟨B, 4, none⟩ = some v4 ∧ w.cell? ⟨B, 5, none⟩ = some v5 ∧ w.cell? ⟨B, 6, none⟩ = some v6 ∧ (∀ j, w.frozen? ⟨B, j, none⟩ = false) ∧ B < w.heap.size :=
  ⟨(cell_of_row w B 0 _ t (0, 0) h).trans rfl, (cell_of_row w B 1 _ t (0, 0) h).trans rfl, (cell_of_row w B 2 _ t (0, 0) h).trans rfl, (cell_of_row w B 3 _ t (0, 0) h).trans rfl, (cell_of_row w B 4 _ t (0, 0) h).trans rfl, (cell_of_row w B 5 _ t (0, 0) h).trans rfl, (cell_of_row w B 6 _ t (0, 0) h).trans rfl, fun j => frozen_of_row w B j _ t h, lt_blk h⟩

set_option maxRecDepth 100000 in
set_option maxHeartbeats 1000000 in
theorem atom_any (h : Gx b L lv vv tv bv w r) (hk : Ok L r) (hL : Lok L) :
    Calls Try.prog 61 #[.pointer (some ⟨b, 0, none⟩)] w fun e w' => e = .returned (.agg #[.string (atomA L r).v, .int .i64 (atomA L r).a, .int .i64 (atomA L r).b]) ∧ (∃ v6, Gx b L lv v6 tv bv w' (atomR L r)) ∧ Keep b [9] w w' := by
  have f0 := fun (W : World) (hB : Below w.heap.size w W) => is_any (h.below hB) hk.i 1 (st [])
  have f1 := fun (W : World) (hB : Below w.heap.size w W) => is_any (h.below hB) hk.i 3 (st [40])
  have f2 := fun (W : World) (hB : Below w.heap.size w W) => variable_any (h.below hB) hk hL.len
  have f3 := fun (W : World) (r2 : R) (h2 : Gx b L lv vv tv bv W r2) (k2 : Ok L r2) => part_any h2 k2 hL
  have f4 := fun (W : World) (r2 : R) (h2 : Gx b L lv vv tv bv W r2) (k2 : Ok L r2) (s : ByteArray) => sign_any h2 k2.i hL.len s
  have yl := lt_blk h.box
  obtain ⟨hB1, hR1, hA1⟩ := two w (.cells #[.string ⟨#[]⟩, .int .i64 0, .int .i64 0] 46) (.cells #[.string ⟨#[]⟩, .int .i64 0, .int .i64 0] 46)
  unfold atomA atomR
  cases hc : isB L r 1 (st []) with
  | true =>
    rw [hc] at f0
    simp only [if_true]
    clear f1 f3 f4 hc
    generalize varS L r = vs at f2 ⊢
    generalize varR L r = r2 at f2 ⊢
    go_enter Try.func61, Try.ntmps61
    go_wp2_with fail
    refine scope_forward 0 rfl ?_
    go_wp2_with (first | (go_at_call 23; refine' Calls.aft _ _ (f0 _ hB1) _; rotate_left 2; (exact Below.refl _ _; rfl); intro x1; have hle := After.le x1; (try simp at hle)) | (go_at_call 77; refine (f2 _ (nextB x1.below hB1)).mono ?_; rintro e9 W2 ⟨rfl, ⟨v6, hG2⟩, hK2⟩; have hR2 := hK2.blk (blkN x1.below hR1) (by omega) (by decide); have hA2 := hK2.blk (blkN x1.below hA1) (by omega) (by decide); obtain ⟨a0, a1, a2, af, al⟩ := row3 hA2; obtain ⟨b0, b1, b2, bf, bl⟩ := row3 hR2))
    go_step3; (try simp only [then_goto, block_goto]); refine And.intro (rfl : (0 : Nat) = 0) ?_; go_wp2_with fail; rw [Exit.noGoto_ret]
    refine bodyPost_ret (v := .agg #[.string vs, .int .i64 0, .int .i64 0]) (by simp only [results, Try.results61]; go_simp) rfl ⟨rfl, ?_⟩
    have t1 := ty_of hR2
    have t2 := ty_of hA2
    have hK9 := (Keep.of_below (b := b) (T := [9]) (nextB x1.below hB1)).trans hK2
    refine ⟨⟨v6, ?_⟩, ?_⟩
    · (repeat (first | (with_reducible exact hG2) | (refine Gx.setT ?_ _ (by omega) (by (try simp only [ty_set]); assumption) (by decide) (by decide))))
    · (repeat (first | (with_reducible exact hK9) | (refine Keep.set ?_ _ (by first | exact Or.inl rfl | exact Or.inr (Nat.le_refl _) | (right; omega))) | (refine Keep.alloc ?_ _)))
  | false =>
    rw [hc] at f0
    simp only [if_false, Bool.false_eq_true]
    clear f2 hc
    cases hd : isB L r 3 (st [40]) with
    | true =>
      rw [hd] at f1
      simp only [if_true]
      have k1 := hk.took hL 3 (st [40])
      have k2 := k1.part hL
      have k3 := k2.took hL 3 (st [44])
      have k4 := k3.part hL
      have g1 := fun (W : World) (hB : Below w.heap.size w W) => f4 W r (h.below hB) hk (st [40])
      have g2 := fun (W : World) (h2 : Gx b L lv vv tv bv W _) => f3 W _ h2 k1
      have g3 := fun (W : World) (h2 : Gx b L lv vv tv bv W _) => f4 W _ h2 k2 (st [44])
      have g4 := fun (W : World) (h2 : Gx b L lv vv tv bv W _) => f3 W _ h2 k3
      have g5 := fun (W : World) (h2 : Gx b L lv vv tv bv W _) => f4 W _ h2 k4 (st [41])
      clear f3 f4 hd k1 k2 k3 k4 hk
      generalize took L r 3 (st [40]) = r1 at g1 g2 g3 g4 g5 ⊢
      generalize partN L r1 = n1 at g2 ⊢
      generalize partR L r1 = r2 at g2 g3 g4 g5 ⊢
      generalize took L r2 3 (st [44]) = r3 at g3 g4 g5 ⊢
      generalize partN L r3 = n2 at g4 ⊢
      generalize partR L r3 = r4 at g4 g5 ⊢
      generalize took L r4 3 (st [41]) = r5 at g5 ⊢
      clear h
      go_enter Try.func61, Try.ntmps61
      go_wp2_with fail
      refine scope_forward 0 rfl ?_
      go_wp2_with (first | (go_at_call 23; first | (with_reducible refine' Calls.aft _ _ (f0 _ hB1) _; rotate_left 2; (exact Below.refl _ _; rfl); intro x1; have hle := After.le x1; (try simp at hle)) | (with_reducible refine' Calls.aft _ _ (f1 _ (nextB x1.below hB1)) _; rotate_left 2; (exact Below.refl _ _; rfl); intro x2; have hle := After.le x2; (try simp at hle))) | (go_at_call 46; first | (with_reducible refine (g1 _ (nextB x2.below (nextB x1.below hB1))).mono ?_; rintro e9 W2 ⟨rfl, hG2, hK2⟩; have hR2 := hK2.blk (blkN x2.below (blkN x1.below hR1)) (by omega) (by decide); have hA2 := hK2.blk (blkN x2.below (blkN x1.below hA1)) (by omega) (by decide)) | (with_reducible refine (g3 _ (hG3.setT _ (by omega) (ty_of hA3) (by decide) (by decide))).mono ?_; rintro e9 W4 ⟨rfl, hG4, hK4⟩; have hR4 := hK4.blk ((heap_setCell_other _ _ _ _ (by show w.heap.size ≠ w.heap.size + 1; omega)).trans hR3) (by omega) (by decide); have hA4 : W4.heap[w.heap.size + 1]? = some (.cells #[.string ⟨#[]⟩, .int .i64 n1, .int .i64 0] 46 (0, 0)) := hK4.blk (heap_setCell_same _ _ 1 _ _ _ hA3) (by omega) (by decide)) | (with_reducible refine (g5 _ (hG5.setT _ (by omega) (ty_of hA5) (by decide) (by decide))).mono ?_; rintro e9 W6 ⟨rfl, hG6, hK6⟩; have hR6 := hK6.blk ((heap_setCell_other _ _ _ _ (by show w.heap.size ≠ w.heap.size + 1; omega)).trans hR5) (by omega) (by decide); have hA6 : W6.heap[w.heap.size + 1]? = some (.cells #[.string ⟨#[]⟩, .int .i64 n1, .int .i64 n2] 46 (0, 0)) := hK6.blk (heap_setCell_same _ _ 2 _ _ _ hA5) (by omega) (by decide); obtain ⟨a0, a1, a2, af, al⟩ := row3 hA6; obtain ⟨b0, b1, b2, bf, bl⟩ := row3 hR6)) | (go_at_call 90; first | (with_reducible refine (g2 _ hG2).mono ?_; rintro e9 W3 ⟨rfl, hG3, hK3⟩; have hR3 := hK3.blk hR2 (by omega) (by decide); have hA3 := hK3.blk hA2 (by omega) (by decide); obtain ⟨c0, c1, c2, cf, cl⟩ := row3 hA3) | (with_reducible refine (g4 _ hG4).mono ?_; rintro e9 W5 ⟨rfl, hG5, hK5⟩; have hR5 := hK5.blk hR4 (by omega) (by decide); have hA5 := hK5.blk hA4 (by omega) (by decide); obtain ⟨d0, d1, d2, df, dl⟩ := row3 hA5)))
      go_step3
      go_wp2_with fail
      (try simp only [Exit.jump])
      (try rw [Exit.noGoto_ret])
      refine bodyPost_ret (v := .agg #[.string ⟨#[]⟩, .int .i64 n1, .int .i64 n2]) (by simp only [results, Try.results61]; go_simp) rfl ⟨rfl, ?_⟩
      have t1 := ty_of hR6
      have hK9 := ((((Keep.of_below (b := b) (T := [9]) (nextB x2.below (nextB x1.below hB1))).trans (hK2.mono (by simp))).trans (hK3.mono (by simp)))).set (k := w.heap.size + 1) (j := 1) (.int .i64 n1) (by right; omega)
      have hK8 := ((hK9.trans (hK4.mono (by simp))).trans (hK5.mono (by simp))).set (k := w.heap.size + 1) (j := 2) (.int .i64 n2) (by right; omega)
      have hK7 := hK8.trans (hK6.mono (by simp))
      refine ⟨⟨vv, ?_⟩, ?_⟩
      · (repeat (first | (with_reducible exact hG6) | (refine Gx.setT ?_ _ (by omega) (by (try simp only [ty_set]); assumption) (by decide) (by decide))))
      · (repeat (first | (with_reducible exact hK7) | (refine Keep.set ?_ _ (by first | exact Or.inl rfl | exact Or.inr (Nat.le_refl _) | (right; omega))) | (refine Keep.alloc ?_ _)))
    | false =>
      rw [hd] at f1
      simp only [if_false, Bool.false_eq_true]
      have g1 := fun (W : World) (hB : Below w.heap.size w W) => f3 W r (h.below hB) hk
      clear f3 f4 hd hk
      generalize partN L r = n1 at g1 ⊢
      generalize partR L r = r2 at g1 ⊢
      clear h
      go_enter Try.func61, Try.ntmps61
      go_wp2_with fail
      refine scope_forward 0 rfl ?_
      go_wp2_with (first | (go_at_call 23; first | (with_reducible refine' Calls.aft _ _ (f0 _ hB1) _; rotate_left 2; (exact Below.refl _ _; rfl); intro x1; have hle := After.le x1; (try simp at hle)) | (with_reducible refine' Calls.aft _ _ (f1 _ (nextB x1.below hB1)) _; rotate_left 2; (exact Below.refl _ _; rfl); intro x2; have hle := After.le x2; (try simp at hle))) | (go_at_call 90; refine (g1 _ (nextB x2.below (nextB x1.below hB1))).mono ?_; rintro e9 W2 ⟨rfl, hG2, hK2⟩; have hR2 := hK2.blk (blkN x2.below (blkN x1.below hR1)) (by omega) (by decide); have hA2 := hK2.blk (blkN x2.below (blkN x1.below hA1)) (by omega) (by decide); obtain ⟨a0, a1, a2, af, al⟩ := row3 hA2; obtain ⟨b0, b1, b2, bf, bl⟩ := row3 hR2))
      go_step3; (try simp only [then_goto, block_goto]); refine And.intro (rfl : (0 : Nat) = 0) ?_; go_wp2_with fail; rw [Exit.noGoto_ret]
      refine bodyPost_ret (v := .agg #[.string ⟨#[]⟩, .int .i64 n1, .int .i64 0]) (by simp only [results, Try.results61]; go_simp) rfl ⟨rfl, ?_⟩
      have t1 := ty_of hR2
      have t2 := ty_of hA2
      have hK9 := (Keep.of_below (b := b) (T := [9]) (nextB x2.below (nextB x1.below hB1))).trans (hK2.mono (by simp))
      refine ⟨⟨vv, ?_⟩, ?_⟩
      · (repeat (first | (with_reducible exact hG2) | (refine Gx.setT ?_ _ (by omega) (by (try simp only [ty_set]); assumption) (by decide) (by decide))))
      · (repeat (first | (with_reducible exact hK9) | (refine Keep.set ?_ _ (by first | exact Or.inl rfl | exact Or.inr (Nat.le_refl _) | (right; omega))) | (refine Keep.alloc ?_ _)))
end

end Go.Proofs.Ytmnplnhblniimaa.Gr
