/- THE PAGE'S READER: WALK of Expr (printed by tools/gen_pgd.py). -/
import Derived.Test.YtmnplnhblniimaaPgc
namespace Go.Proofs.Ytmnplnhblniimaa.Gr
set_option linter.unusedVariables false
set_option linter.unusedSimpArgs false
open Go Go.RowKit

theorem isB_other {L : List Tok} {r : R} {k : Int} {s u : ByteArray} (h : isB L r k s = true) (h1 : s.toList.isEmpty = false) (h2 : u.toList.isEmpty = false) (h3 : (s.toList == u.toList) = false) : isB L r k u = false := by
  unfold isB at h ⊢
  rw [h1] at h
  simp only [Bool.and_eq_true, beq_iff_eq, Bool.false_or] at h
  rw [h2, h.2.2, h3]
  simp
theorem took_sign {L : List Tok} {r : R} {k : Int} {s : ByteArray} (h : isB L r k s = true) : took L r k s = took L r k (st []) := by
  have h2 : isB L r k (st []) = true := by
    unfold isB at h ⊢
    simp only [Bool.and_eq_true, beq_iff_eq] at h
    simp [h.1, h.2.1]
  unfold took
  rw [h, h2]

section
variable {b : Nat} {L : List Tok} {lv vv tv bv : Value} {w : World} {r : R}

set_option maxRecDepth 100000 in
set_option maxHeartbeats 4000000 in
theorem pgexpr_any (h : Px b L lv vv tv bv w r) (hk : Ok L r) (hL : Lok L) :
    Calls Try.prog 32 #[.pointer (some ⟨b, 0, none⟩)] w fun e w' => e = .returned (.agg #[.int .i64 (exprE L r).op, .string (exprE L r).x.v, .int .i64 (exprE L r).x.a, .int .i64 (exprE L r).x.b, .string (exprE L r).y.v, .int .i64 (exprE L r).y.a, .int .i64 (exprE L r).y.b]) ∧ (∃ v6, Px b L lv v6 tv bv w' (exprR L r)) ∧ Keep b [9] w w' := by
  have f0 := fun (W : World) (hB : Below w.heap.size w W) => pis_any (h.below hB) hk.i 4 conjS
  have yl := lt_blk h.box
  obtain ⟨hB1, hR1, hX1⟩ := two w (.cells #[.int .i64 0, .string ⟨#[]⟩, .int .i64 0, .int .i64 0, .string ⟨#[]⟩, .int .i64 0, .int .i64 0] 48) (.cells #[.int .i64 0, .string ⟨#[]⟩, .int .i64 0, .int .i64 0, .string ⟨#[]⟩, .int .i64 0, .int .i64 0] 48)
  have hK1 := Keep.of_below (b := b) (T := [9]) hB1
  unfold exprR exprE
  cases hc : isB L r 4 conjS with
  | true =>
    rw [hc] at f0
    simp only [if_true]
    have f1 := fun (W : World) (hB : Below w.heap.size w W) => eat_any (h.below hB) hk.i hL 4 conjS
    have f2 := fun (W : World) (h2 : Px b L lv vv tv bv W (took L r 4 conjS)) => patom_any h2 (hk.took hL 4 conjS) hL
    generalize atomA L (took L r 4 conjS) = A at f2 ⊢
    generalize atomR L (took L r 4 conjS) = r2 at f2 ⊢
    generalize tokn L r 4 conjS = e1 at f1
    generalize took L r 4 conjS = r1 at f1 f2
    obtain ⟨av, aa, ab⟩ := A
    simp only at f2 ⊢
    clear h hk hc
    go_enter Try.func32, Try.ntmps32
    go_wp2_with (first | (go_at_call 27; refine' Calls.aft _ _ (f0 _ hB1) _; rotate_left 2; (exact Below.refl _ _; rfl); intro x1; have hle := After.le x1; (try simp at hle)) | (go_at_call 33; refine (f1 _ (nextB x1.below hB1)).mono ?_; rintro e9 W2 ⟨rfl, hG2, hK2⟩; have hX2 := hK2.blk (blkN x1.below hX1) (by omega) (by decide); have hR2 := hK2.blk (blkN x1.below hR1) (by omega) (by decide); obtain ⟨m0, m1, m2, m3, m4, m5, m6, mf, ml⟩ := row7 hX2; have tm := ty_of hX2) | (go_at_call 62; refine (f2 _ ?gg).mono ?_; (case gg => (repeat (first | (with_reducible exact hG2) | (refine Px.setT ?_ _ (by omega) (by (try simp only [ty_set]); assumption) (by decide) (by decide))))); rintro e9 W3 ⟨rfl, ⟨v6, hG3⟩, hK3⟩; have hX3 : W3.heap[w.heap.size + 1]? = some (.cells #[.int .i64 4, .string ⟨#[]⟩, .int .i64 0, .int .i64 0, .string ⟨#[]⟩, .int .i64 0, .int .i64 0] 48 (0, 0)) := hK3.blk (heap_setCell_same _ _ 0 _ _ _ hX2) (by omega) (by decide); have hR3 : W3.heap[w.heap.size]? = some (.cells #[.int .i64 0, .string ⟨#[]⟩, .int .i64 0, .int .i64 0, .string ⟨#[]⟩, .int .i64 0, .int .i64 0] 48 (0, 0)) := hK3.blk (by repeat (first | (with_reducible exact hR2) | refine setO ?_ (by omega))) (by omega) (by decide); obtain ⟨b0, b1, b2, b3, b4, b5, b6, bf, bl⟩ := row7 hR3; obtain ⟨m0, m1, m2, m3, m4, m5, m6, mf, ml⟩ := row7 hX3))
    refine bodyPost_ret (v := .agg #[.int .i64 4, .string av, .int .i64 aa, .int .i64 ab, .string ⟨#[]⟩, .int .i64 0, .int .i64 0]) (by simp only [results, Try.results32]; go_simp) rfl ⟨rfl, ?_⟩
    have t1 := ty_of hR3
    have t2 := ty_of hX3
    have hK9 := ((hK1.next x1.below).trans (hK2.mono (by simp))).set (k := w.heap.size + 1) (j := 0) (.int .i64 4) (by right; omega)
    have hK8 := hK9.trans hK3
    refine ⟨⟨v6, ?_⟩, ?_⟩
    · (repeat (first | (with_reducible exact hG3) | (refine Px.setT ?_ _ (by omega) (by (try simp only [ty_set]); assumption) (by decide) (by decide))))
    · (repeat (first | (with_reducible exact hK8) | (refine Keep.set ?_ _ (by first | exact Or.inl rfl | exact Or.inr (Nat.le_refl _) | (right; omega))) | (refine Keep.alloc ?_ _)))
  | false =>
    rw [hc] at f0
    simp only [if_false, Bool.false_eq_true]
    have f1 := fun (W : World) (hB : Below w.heap.size w W) => patom_any (h.below hB) hk hL
    have k1 := hk.atom hL
    cases cP : isB L (atomR L r) 3 (st [43]) with
    | true =>
      have cM : isB L (atomR L r) 3 (st [45]) = false := isB_other cP (by kernel_rfl) (by kernel_rfl) (by kernel_rfl)
      have cT : isB L (atomR L r) 3 (st [42]) = false := isB_other cP (by kernel_rfl) (by kernel_rfl) (by kernel_rfl)
      have qP := fun (v6 : Value) (W : World) (h2 : Px b L lv v6 tv bv W (atomR L r)) => pis_any h2 k1.i 3 (st [43])
      rw [cP] at qP
      have qM := fun (v6 : Value) (W : World) (h2 : Px b L lv v6 tv bv W (atomR L r)) => pis_any h2 k1.i 3 (st [45])
      rw [cM] at qM
      have qT := fun (v6 : Value) (W : World) (h2 : Px b L lv v6 tv bv W (atomR L r)) => pis_any h2 k1.i 3 (st [42])
      rw [cT] at qT
      have fs := fun (v6 : Value) (W : World) (h2 : Px b L lv v6 tv bv W (atomR L r)) => eat_any h2 k1.i hL 3 (st [])
      rw [← took_sign cP] at fs
      have fa := fun (v6 : Value) (W : World) (h2 : Px b L lv v6 tv bv W (took L (atomR L r) 3 (st [43]))) => patom_any h2 (k1.took hL 3 (st [43])) hL
      simp only [if_true, if_false, Bool.false_eq_true]
      generalize atomA L (took L (atomR L r) 3 (st [43])) = B at fa ⊢
      generalize atomR L (took L (atomR L r) 3 (st [43])) = r3 at fa ⊢
      generalize took L (atomR L r) 3 (st [43]) = r2 at fs fa
      generalize tokn L (atomR L r) 3 (st []) = e1 at fs
      generalize atomA L r = A at f1 ⊢
      clear cP cM cT k1 h hk hc
      generalize atomR L r = r1 at f1 fs qP qM qT
      obtain ⟨av, aa, ab⟩ := A
      obtain ⟨ev, ea, eb⟩ := B
      simp only at f1 fa ⊢
      go_enter Try.func32, Try.ntmps32
      go_wp2_with (first | (go_at_call 27; first | (with_reducible refine' Calls.aft _ _ (f0 _ hB1) _; rotate_left 2; (exact Below.refl _ _; rfl); intro x1; have hle := After.le x1; (try simp at hle)) | ((with_reducible refine' Calls.aft _ _ (qP _ _ hG2s) _; rotate_left 2; (exact Below.refl _ _; rfl); intro y1; have hle := After.le y1; (try simp at hle)); have hX3a := blkN y1.below hX2s; have hG3a := hG2s.below y1.below; have hG3s : Px b L lv v6 tv bv (y1.val.setCell ⟨w.heap.size + 1, 0, none⟩ (.int .i64 1)) r1 := hG3a.setT _ (by omega) (ty_of hX3a) (by decide) (by decide); have hX3s : (y1.val.setCell ⟨w.heap.size + 1, 0, none⟩ (.int .i64 1)).heap[w.heap.size + 1]? = some (.cells #[.int .i64 1, .string av, .int .i64 aa, .int .i64 ab, .string ⟨#[]⟩, .int .i64 0, .int .i64 0] 48 (0, 0)) := heap_setCell_same _ _ 0 _ _ _ hX3a; have hR3s : (y1.val.setCell ⟨w.heap.size + 1, 0, none⟩ (.int .i64 1)).heap[w.heap.size]? = some (.cells #[.int .i64 0, .string ⟨#[]⟩, .int .i64 0, .int .i64 0, .string ⟨#[]⟩, .int .i64 0, .int .i64 0] 48 (0, 0)) := (heap_setCell_other _ _ _ _ (by show w.heap.size ≠ w.heap.size + 1; omega)).trans (blkN y1.below hR2s); have hK3s : Keep b [9] w (y1.val.setCell ⟨w.heap.size + 1, 0, none⟩ (.int .i64 1)) := (hK2s.next y1.below).set _ (by right; omega); obtain ⟨m0, m1, m2, m3, m4, m5, m6, mf, ml⟩ := row7 hX3a) | ((with_reducible refine' Calls.aft _ _ (qM _ _ hG3s) _; rotate_left 2; (exact Below.refl _ _; rfl); intro y2; have hle := After.le y2; (try simp at hle)); have hX4s := blkN y2.below hX3s; have hG4s := hG3s.below y2.below; have hR4s := blkN y2.below hR3s; have hK4s := hK3s.next y2.below; obtain ⟨m0, m1, m2, m3, m4, m5, m6, mf, ml⟩ := row7 hX4s) | ((with_reducible refine' Calls.aft _ _ (qT _ _ hG4s) _; rotate_left 2; (exact Below.refl _ _; rfl); intro y3; have hle := After.le y3; (try simp at hle)); have hX5s := blkN y3.below hX4s; have hG5s := hG4s.below y3.below; have hR5s := blkN y3.below hR4s; have hK5s := hK4s.next y3.below; obtain ⟨m0, m1, m2, m3, m4, m5, m6, mf, ml⟩ := row7 hX5s)) | (go_at_call 62; first | (with_reducible refine (f1 _ (nextB x1.below hB1)).mono ?_; rintro e9 W2 ⟨rfl, ⟨v6, hG2⟩, hK2⟩; have hX2 := hK2.blk (blkN x1.below hX1) (by omega) (by decide); have hR2 := hK2.blk (blkN x1.below hR1) (by omega) (by decide); have hlx := lt_blk hX2; obtain ⟨m0, m1, m2, m3, m4, m5, m6, mf, ml⟩ := row7 hX2; have tm := ty_of hX2; have hG2s : Px b L lv v6 tv bv (((W2.setCell ⟨w.heap.size + 1, 1, none⟩ (.string av)).setCell ⟨w.heap.size + 1, 2, none⟩ (.int .i64 aa)).setCell ⟨w.heap.size + 1, 3, none⟩ (.int .i64 ab)) r1 := (by (repeat (first | (with_reducible exact hG2) | (refine Px.setT ?_ _ (by omega) (by (try simp only [ty_set]); assumption) (by decide) (by decide))))); have hX2s : (((W2.setCell ⟨w.heap.size + 1, 1, none⟩ (.string av)).setCell ⟨w.heap.size + 1, 2, none⟩ (.int .i64 aa)).setCell ⟨w.heap.size + 1, 3, none⟩ (.int .i64 ab)).heap[w.heap.size + 1]? = some (.cells #[.int .i64 0, .string av, .int .i64 aa, .int .i64 ab, .string ⟨#[]⟩, .int .i64 0, .int .i64 0] 48 (0, 0)) := heap_setCell_same _ _ 3 _ _ _ (heap_setCell_same _ _ 2 _ _ _ (heap_setCell_same _ _ 1 _ _ _ (hX2))); have hR2s : (((W2.setCell ⟨w.heap.size + 1, 1, none⟩ (.string av)).setCell ⟨w.heap.size + 1, 2, none⟩ (.int .i64 aa)).setCell ⟨w.heap.size + 1, 3, none⟩ (.int .i64 ab)).heap[w.heap.size]? = some (.cells #[.int .i64 0, .string ⟨#[]⟩, .int .i64 0, .int .i64 0, .string ⟨#[]⟩, .int .i64 0, .int .i64 0] 48 (0, 0)) := (by repeat (first | (with_reducible exact hR2) | refine setO ?_ (by omega))); have hK2s : Keep b [9] w (((W2.setCell ⟨w.heap.size + 1, 1, none⟩ (.string av)).setCell ⟨w.heap.size + 1, 2, none⟩ (.int .i64 aa)).setCell ⟨w.heap.size + 1, 3, none⟩ (.int .i64 ab)) := Keep.set (Keep.set (Keep.set ((hK1.next x1.below).trans hK2) _ (by right; omega)) _ (by right; omega)) _ (by right; omega)) | (with_reducible refine (fa _ _ hG6).mono ?_; rintro e9 W7 ⟨rfl, ⟨v7, hG7⟩, hK7⟩; have hR7 := hK7.blk hR6 (by omega) (by decide); have hX7 := hK7.blk hX6 (by omega) (by decide); have hK7a := hK6a.trans hK7; obtain ⟨b0, b1, b2, b3, b4, b5, b6, bf, bl⟩ := row7 hR7; obtain ⟨m0, m1, m2, m3, m4, m5, m6, mf, ml⟩ := row7 hX7)) | (go_at_call 33; refine (fs _ _ hG5s).mono ?_; rintro e9 W6 ⟨rfl, hG6, hK6⟩; have hR6 := hK6.blk hR5s (by omega) (by decide); have hX6 := hK6.blk hX5s (by omega) (by decide); have hK6a := hK5s.trans (hK6.mono (T' := [9]) (by simp))))
      refine bodyPost_ret (v := .agg #[.int .i64 1, .string av, .int .i64 aa, .int .i64 ab, .string ev, .int .i64 ea, .int .i64 eb]) (by simp only [results, Try.results32]; go_simp) rfl ⟨rfl, ?_⟩
      have t1 := ty_of hR7
      have t2 := ty_of hX7
      refine ⟨⟨v7, ?_⟩, ?_⟩
      · (repeat (first | (with_reducible exact hG7) | (refine Px.setT ?_ _ (by omega) (by (try simp only [ty_set]); assumption) (by decide) (by decide))))
      · (repeat (first | (with_reducible exact hK7a) | (refine Keep.set ?_ _ (by first | exact Or.inl rfl | exact Or.inr (Nat.le_refl _) | (right; omega))) | (refine Keep.alloc ?_ _)))
    | false =>
      cases cM : isB L (atomR L r) 3 (st [45]) with
      | true =>
        have cT : isB L (atomR L r) 3 (st [42]) = false := isB_other cM (by kernel_rfl) (by kernel_rfl) (by kernel_rfl)
        have qP := fun (v6 : Value) (W : World) (h2 : Px b L lv v6 tv bv W (atomR L r)) => pis_any h2 k1.i 3 (st [43])
        rw [cP] at qP
        have qM := fun (v6 : Value) (W : World) (h2 : Px b L lv v6 tv bv W (atomR L r)) => pis_any h2 k1.i 3 (st [45])
        rw [cM] at qM
        have qT := fun (v6 : Value) (W : World) (h2 : Px b L lv v6 tv bv W (atomR L r)) => pis_any h2 k1.i 3 (st [42])
        rw [cT] at qT
        have fs := fun (v6 : Value) (W : World) (h2 : Px b L lv v6 tv bv W (atomR L r)) => eat_any h2 k1.i hL 3 (st [])
        rw [← took_sign cM] at fs
        have fa := fun (v6 : Value) (W : World) (h2 : Px b L lv v6 tv bv W (took L (atomR L r) 3 (st [45]))) => patom_any h2 (k1.took hL 3 (st [45])) hL
        simp only [if_true, if_false, Bool.false_eq_true]
        generalize atomA L (took L (atomR L r) 3 (st [45])) = B at fa ⊢
        generalize atomR L (took L (atomR L r) 3 (st [45])) = r3 at fa ⊢
        generalize took L (atomR L r) 3 (st [45]) = r2 at fs fa
        generalize tokn L (atomR L r) 3 (st []) = e1 at fs
        generalize atomA L r = A at f1 ⊢
        clear cP cM cT k1 h hk hc
        generalize atomR L r = r1 at f1 fs qP qM qT
        obtain ⟨av, aa, ab⟩ := A
        obtain ⟨ev, ea, eb⟩ := B
        simp only at f1 fa ⊢
        go_enter Try.func32, Try.ntmps32
        go_wp2_with (first | (go_at_call 27; first | (with_reducible refine' Calls.aft _ _ (f0 _ hB1) _; rotate_left 2; (exact Below.refl _ _; rfl); intro x1; have hle := After.le x1; (try simp at hle)) | ((with_reducible refine' Calls.aft _ _ (qP _ _ hG2s) _; rotate_left 2; (exact Below.refl _ _; rfl); intro y1; have hle := After.le y1; (try simp at hle)); have hX3s := blkN y1.below hX2s; have hG3s := hG2s.below y1.below; have hR3s := blkN y1.below hR2s; have hK3s := hK2s.next y1.below; obtain ⟨m0, m1, m2, m3, m4, m5, m6, mf, ml⟩ := row7 hX3s) | ((with_reducible refine' Calls.aft _ _ (qM _ _ hG3s) _; rotate_left 2; (exact Below.refl _ _; rfl); intro y2; have hle := After.le y2; (try simp at hle)); have hX4a := blkN y2.below hX3s; have hG4a := hG3s.below y2.below; have hG4s : Px b L lv v6 tv bv (y2.val.setCell ⟨w.heap.size + 1, 0, none⟩ (.int .i64 2)) r1 := hG4a.setT _ (by omega) (ty_of hX4a) (by decide) (by decide); have hX4s : (y2.val.setCell ⟨w.heap.size + 1, 0, none⟩ (.int .i64 2)).heap[w.heap.size + 1]? = some (.cells #[.int .i64 2, .string av, .int .i64 aa, .int .i64 ab, .string ⟨#[]⟩, .int .i64 0, .int .i64 0] 48 (0, 0)) := heap_setCell_same _ _ 0 _ _ _ hX4a; have hR4s : (y2.val.setCell ⟨w.heap.size + 1, 0, none⟩ (.int .i64 2)).heap[w.heap.size]? = some (.cells #[.int .i64 0, .string ⟨#[]⟩, .int .i64 0, .int .i64 0, .string ⟨#[]⟩, .int .i64 0, .int .i64 0] 48 (0, 0)) := (heap_setCell_other _ _ _ _ (by show w.heap.size ≠ w.heap.size + 1; omega)).trans (blkN y2.below hR3s); have hK4s : Keep b [9] w (y2.val.setCell ⟨w.heap.size + 1, 0, none⟩ (.int .i64 2)) := (hK3s.next y2.below).set _ (by right; omega); obtain ⟨m0, m1, m2, m3, m4, m5, m6, mf, ml⟩ := row7 hX4a) | ((with_reducible refine' Calls.aft _ _ (qT _ _ hG4s) _; rotate_left 2; (exact Below.refl _ _; rfl); intro y3; have hle := After.le y3; (try simp at hle)); have hX5s := blkN y3.below hX4s; have hG5s := hG4s.below y3.below; have hR5s := blkN y3.below hR4s; have hK5s := hK4s.next y3.below; obtain ⟨m0, m1, m2, m3, m4, m5, m6, mf, ml⟩ := row7 hX5s)) | (go_at_call 62; first | (with_reducible refine (f1 _ (nextB x1.below hB1)).mono ?_; rintro e9 W2 ⟨rfl, ⟨v6, hG2⟩, hK2⟩; have hX2 := hK2.blk (blkN x1.below hX1) (by omega) (by decide); have hR2 := hK2.blk (blkN x1.below hR1) (by omega) (by decide); have hlx := lt_blk hX2; obtain ⟨m0, m1, m2, m3, m4, m5, m6, mf, ml⟩ := row7 hX2; have tm := ty_of hX2; have hG2s : Px b L lv v6 tv bv (((W2.setCell ⟨w.heap.size + 1, 1, none⟩ (.string av)).setCell ⟨w.heap.size + 1, 2, none⟩ (.int .i64 aa)).setCell ⟨w.heap.size + 1, 3, none⟩ (.int .i64 ab)) r1 := (by (repeat (first | (with_reducible exact hG2) | (refine Px.setT ?_ _ (by omega) (by (try simp only [ty_set]); assumption) (by decide) (by decide))))); have hX2s : (((W2.setCell ⟨w.heap.size + 1, 1, none⟩ (.string av)).setCell ⟨w.heap.size + 1, 2, none⟩ (.int .i64 aa)).setCell ⟨w.heap.size + 1, 3, none⟩ (.int .i64 ab)).heap[w.heap.size + 1]? = some (.cells #[.int .i64 0, .string av, .int .i64 aa, .int .i64 ab, .string ⟨#[]⟩, .int .i64 0, .int .i64 0] 48 (0, 0)) := heap_setCell_same _ _ 3 _ _ _ (heap_setCell_same _ _ 2 _ _ _ (heap_setCell_same _ _ 1 _ _ _ (hX2))); have hR2s : (((W2.setCell ⟨w.heap.size + 1, 1, none⟩ (.string av)).setCell ⟨w.heap.size + 1, 2, none⟩ (.int .i64 aa)).setCell ⟨w.heap.size + 1, 3, none⟩ (.int .i64 ab)).heap[w.heap.size]? = some (.cells #[.int .i64 0, .string ⟨#[]⟩, .int .i64 0, .int .i64 0, .string ⟨#[]⟩, .int .i64 0, .int .i64 0] 48 (0, 0)) := (by repeat (first | (with_reducible exact hR2) | refine setO ?_ (by omega))); have hK2s : Keep b [9] w (((W2.setCell ⟨w.heap.size + 1, 1, none⟩ (.string av)).setCell ⟨w.heap.size + 1, 2, none⟩ (.int .i64 aa)).setCell ⟨w.heap.size + 1, 3, none⟩ (.int .i64 ab)) := Keep.set (Keep.set (Keep.set ((hK1.next x1.below).trans hK2) _ (by right; omega)) _ (by right; omega)) _ (by right; omega)) | (with_reducible refine (fa _ _ hG6).mono ?_; rintro e9 W7 ⟨rfl, ⟨v7, hG7⟩, hK7⟩; have hR7 := hK7.blk hR6 (by omega) (by decide); have hX7 := hK7.blk hX6 (by omega) (by decide); have hK7a := hK6a.trans hK7; obtain ⟨b0, b1, b2, b3, b4, b5, b6, bf, bl⟩ := row7 hR7; obtain ⟨m0, m1, m2, m3, m4, m5, m6, mf, ml⟩ := row7 hX7)) | (go_at_call 33; refine (fs _ _ hG5s).mono ?_; rintro e9 W6 ⟨rfl, hG6, hK6⟩; have hR6 := hK6.blk hR5s (by omega) (by decide); have hX6 := hK6.blk hX5s (by omega) (by decide); have hK6a := hK5s.trans (hK6.mono (T' := [9]) (by simp))))
        refine bodyPost_ret (v := .agg #[.int .i64 2, .string av, .int .i64 aa, .int .i64 ab, .string ev, .int .i64 ea, .int .i64 eb]) (by simp only [results, Try.results32]; go_simp) rfl ⟨rfl, ?_⟩
        have t1 := ty_of hR7
        have t2 := ty_of hX7
        refine ⟨⟨v7, ?_⟩, ?_⟩
        · (repeat (first | (with_reducible exact hG7) | (refine Px.setT ?_ _ (by omega) (by (try simp only [ty_set]); assumption) (by decide) (by decide))))
        · (repeat (first | (with_reducible exact hK7a) | (refine Keep.set ?_ _ (by first | exact Or.inl rfl | exact Or.inr (Nat.le_refl _) | (right; omega))) | (refine Keep.alloc ?_ _)))
      | false =>
        cases cT : isB L (atomR L r) 3 (st [42]) with
        | true =>
          have qP := fun (v6 : Value) (W : World) (h2 : Px b L lv v6 tv bv W (atomR L r)) => pis_any h2 k1.i 3 (st [43])
          rw [cP] at qP
          have qM := fun (v6 : Value) (W : World) (h2 : Px b L lv v6 tv bv W (atomR L r)) => pis_any h2 k1.i 3 (st [45])
          rw [cM] at qM
          have qT := fun (v6 : Value) (W : World) (h2 : Px b L lv v6 tv bv W (atomR L r)) => pis_any h2 k1.i 3 (st [42])
          rw [cT] at qT
          have fs := fun (v6 : Value) (W : World) (h2 : Px b L lv v6 tv bv W (atomR L r)) => eat_any h2 k1.i hL 3 (st [])
          rw [← took_sign cT] at fs
          have fa := fun (v6 : Value) (W : World) (h2 : Px b L lv v6 tv bv W (took L (atomR L r) 3 (st [42]))) => patom_any h2 (k1.took hL 3 (st [42])) hL
          simp only [if_true, if_false, Bool.false_eq_true]
          generalize atomA L (took L (atomR L r) 3 (st [42])) = B at fa ⊢
          generalize atomR L (took L (atomR L r) 3 (st [42])) = r3 at fa ⊢
          generalize took L (atomR L r) 3 (st [42]) = r2 at fs fa
          generalize tokn L (atomR L r) 3 (st []) = e1 at fs
          generalize atomA L r = A at f1 ⊢
          clear cP cM cT k1 h hk hc
          generalize atomR L r = r1 at f1 fs qP qM qT
          obtain ⟨av, aa, ab⟩ := A
          obtain ⟨ev, ea, eb⟩ := B
          simp only at f1 fa ⊢
          go_enter Try.func32, Try.ntmps32
          go_wp2_with (first | (go_at_call 27; first | (with_reducible refine' Calls.aft _ _ (f0 _ hB1) _; rotate_left 2; (exact Below.refl _ _; rfl); intro x1; have hle := After.le x1; (try simp at hle)) | ((with_reducible refine' Calls.aft _ _ (qP _ _ hG2s) _; rotate_left 2; (exact Below.refl _ _; rfl); intro y1; have hle := After.le y1; (try simp at hle)); have hX3s := blkN y1.below hX2s; have hG3s := hG2s.below y1.below; have hR3s := blkN y1.below hR2s; have hK3s := hK2s.next y1.below; obtain ⟨m0, m1, m2, m3, m4, m5, m6, mf, ml⟩ := row7 hX3s) | ((with_reducible refine' Calls.aft _ _ (qM _ _ hG3s) _; rotate_left 2; (exact Below.refl _ _; rfl); intro y2; have hle := After.le y2; (try simp at hle)); have hX4s := blkN y2.below hX3s; have hG4s := hG3s.below y2.below; have hR4s := blkN y2.below hR3s; have hK4s := hK3s.next y2.below; obtain ⟨m0, m1, m2, m3, m4, m5, m6, mf, ml⟩ := row7 hX4s) | ((with_reducible refine' Calls.aft _ _ (qT _ _ hG4s) _; rotate_left 2; (exact Below.refl _ _; rfl); intro y3; have hle := After.le y3; (try simp at hle)); have hX5a := blkN y3.below hX4s; have hG5a := hG4s.below y3.below; have hG5s : Px b L lv v6 tv bv (y3.val.setCell ⟨w.heap.size + 1, 0, none⟩ (.int .i64 3)) r1 := hG5a.setT _ (by omega) (ty_of hX5a) (by decide) (by decide); have hX5s : (y3.val.setCell ⟨w.heap.size + 1, 0, none⟩ (.int .i64 3)).heap[w.heap.size + 1]? = some (.cells #[.int .i64 3, .string av, .int .i64 aa, .int .i64 ab, .string ⟨#[]⟩, .int .i64 0, .int .i64 0] 48 (0, 0)) := heap_setCell_same _ _ 0 _ _ _ hX5a; have hR5s : (y3.val.setCell ⟨w.heap.size + 1, 0, none⟩ (.int .i64 3)).heap[w.heap.size]? = some (.cells #[.int .i64 0, .string ⟨#[]⟩, .int .i64 0, .int .i64 0, .string ⟨#[]⟩, .int .i64 0, .int .i64 0] 48 (0, 0)) := (heap_setCell_other _ _ _ _ (by show w.heap.size ≠ w.heap.size + 1; omega)).trans (blkN y3.below hR4s); have hK5s : Keep b [9] w (y3.val.setCell ⟨w.heap.size + 1, 0, none⟩ (.int .i64 3)) := (hK4s.next y3.below).set _ (by right; omega); obtain ⟨m0, m1, m2, m3, m4, m5, m6, mf, ml⟩ := row7 hX5a)) | (go_at_call 62; first | (with_reducible refine (f1 _ (nextB x1.below hB1)).mono ?_; rintro e9 W2 ⟨rfl, ⟨v6, hG2⟩, hK2⟩; have hX2 := hK2.blk (blkN x1.below hX1) (by omega) (by decide); have hR2 := hK2.blk (blkN x1.below hR1) (by omega) (by decide); have hlx := lt_blk hX2; obtain ⟨m0, m1, m2, m3, m4, m5, m6, mf, ml⟩ := row7 hX2; have tm := ty_of hX2; have hG2s : Px b L lv v6 tv bv (((W2.setCell ⟨w.heap.size + 1, 1, none⟩ (.string av)).setCell ⟨w.heap.size + 1, 2, none⟩ (.int .i64 aa)).setCell ⟨w.heap.size + 1, 3, none⟩ (.int .i64 ab)) r1 := (by (repeat (first | (with_reducible exact hG2) | (refine Px.setT ?_ _ (by omega) (by (try simp only [ty_set]); assumption) (by decide) (by decide))))); have hX2s : (((W2.setCell ⟨w.heap.size + 1, 1, none⟩ (.string av)).setCell ⟨w.heap.size + 1, 2, none⟩ (.int .i64 aa)).setCell ⟨w.heap.size + 1, 3, none⟩ (.int .i64 ab)).heap[w.heap.size + 1]? = some (.cells #[.int .i64 0, .string av, .int .i64 aa, .int .i64 ab, .string ⟨#[]⟩, .int .i64 0, .int .i64 0] 48 (0, 0)) := heap_setCell_same _ _ 3 _ _ _ (heap_setCell_same _ _ 2 _ _ _ (heap_setCell_same _ _ 1 _ _ _ (hX2))); have hR2s : (((W2.setCell ⟨w.heap.size + 1, 1, none⟩ (.string av)).setCell ⟨w.heap.size + 1, 2, none⟩ (.int .i64 aa)).setCell ⟨w.heap.size + 1, 3, none⟩ (.int .i64 ab)).heap[w.heap.size]? = some (.cells #[.int .i64 0, .string ⟨#[]⟩, .int .i64 0, .int .i64 0, .string ⟨#[]⟩, .int .i64 0, .int .i64 0] 48 (0, 0)) := (by repeat (first | (with_reducible exact hR2) | refine setO ?_ (by omega))); have hK2s : Keep b [9] w (((W2.setCell ⟨w.heap.size + 1, 1, none⟩ (.string av)).setCell ⟨w.heap.size + 1, 2, none⟩ (.int .i64 aa)).setCell ⟨w.heap.size + 1, 3, none⟩ (.int .i64 ab)) := Keep.set (Keep.set (Keep.set ((hK1.next x1.below).trans hK2) _ (by right; omega)) _ (by right; omega)) _ (by right; omega)) | (with_reducible refine (fa _ _ hG6).mono ?_; rintro e9 W7 ⟨rfl, ⟨v7, hG7⟩, hK7⟩; have hR7 := hK7.blk hR6 (by omega) (by decide); have hX7 := hK7.blk hX6 (by omega) (by decide); have hK7a := hK6a.trans hK7; obtain ⟨b0, b1, b2, b3, b4, b5, b6, bf, bl⟩ := row7 hR7; obtain ⟨m0, m1, m2, m3, m4, m5, m6, mf, ml⟩ := row7 hX7)) | (go_at_call 33; refine (fs _ _ hG5s).mono ?_; rintro e9 W6 ⟨rfl, hG6, hK6⟩; have hR6 := hK6.blk hR5s (by omega) (by decide); have hX6 := hK6.blk hX5s (by omega) (by decide); have hK6a := hK5s.trans (hK6.mono (T' := [9]) (by simp))))
          refine bodyPost_ret (v := .agg #[.int .i64 3, .string av, .int .i64 aa, .int .i64 ab, .string ev, .int .i64 ea, .int .i64 eb]) (by simp only [results, Try.results32]; go_simp) rfl ⟨rfl, ?_⟩
          have t1 := ty_of hR7
          have t2 := ty_of hX7
          refine ⟨⟨v7, ?_⟩, ?_⟩
          · (repeat (first | (with_reducible exact hG7) | (refine Px.setT ?_ _ (by omega) (by (try simp only [ty_set]); assumption) (by decide) (by decide))))
          · (repeat (first | (with_reducible exact hK7a) | (refine Keep.set ?_ _ (by first | exact Or.inl rfl | exact Or.inr (Nat.le_refl _) | (right; omega))) | (refine Keep.alloc ?_ _)))
        | false =>
          have qP := fun (v6 : Value) (W : World) (h2 : Px b L lv v6 tv bv W (atomR L r)) => pis_any h2 k1.i 3 (st [43])
          rw [cP] at qP
          have qM := fun (v6 : Value) (W : World) (h2 : Px b L lv v6 tv bv W (atomR L r)) => pis_any h2 k1.i 3 (st [45])
          rw [cM] at qM
          have qT := fun (v6 : Value) (W : World) (h2 : Px b L lv v6 tv bv W (atomR L r)) => pis_any h2 k1.i 3 (st [42])
          rw [cT] at qT
          simp only [if_false, Bool.false_eq_true]
          generalize atomA L r = A at f1 ⊢
          clear cP cM cT k1 h hk hc
          generalize atomR L r = r1 at f1 qP qM qT ⊢
          obtain ⟨av, aa, ab⟩ := A
          simp only at f1 ⊢
          go_enter Try.func32, Try.ntmps32
          go_wp2_with (first | (go_at_call 27; first | (with_reducible refine' Calls.aft _ _ (f0 _ hB1) _; rotate_left 2; (exact Below.refl _ _; rfl); intro x1; have hle := After.le x1; (try simp at hle)) | ((with_reducible refine' Calls.aft _ _ (qP _ _ hG2s) _; rotate_left 2; (exact Below.refl _ _; rfl); intro y1; have hle := After.le y1; (try simp at hle)); have hX3s := blkN y1.below hX2s; have hG3s := hG2s.below y1.below; have hR3s := blkN y1.below hR2s; have hK3s := hK2s.next y1.below; obtain ⟨m0, m1, m2, m3, m4, m5, m6, mf, ml⟩ := row7 hX3s) | ((with_reducible refine' Calls.aft _ _ (qM _ _ hG3s) _; rotate_left 2; (exact Below.refl _ _; rfl); intro y2; have hle := After.le y2; (try simp at hle)); have hX4s := blkN y2.below hX3s; have hG4s := hG3s.below y2.below; have hR4s := blkN y2.below hR3s; have hK4s := hK3s.next y2.below; obtain ⟨m0, m1, m2, m3, m4, m5, m6, mf, ml⟩ := row7 hX4s) | ((with_reducible refine' Calls.aft _ _ (qT _ _ hG4s) _; rotate_left 2; (exact Below.refl _ _; rfl); intro y3; have hle := After.le y3; (try simp at hle)); have hX5s := blkN y3.below hX4s; have hG5s := hG4s.below y3.below; have hR5s := blkN y3.below hR4s; have hK5s := hK4s.next y3.below; obtain ⟨m0, m1, m2, m3, m4, m5, m6, mf, ml⟩ := row7 hX5s; obtain ⟨b0, b1, b2, b3, b4, b5, b6, bf, bl⟩ := row7 hR5s)) | (go_at_call 62; (with_reducible refine (f1 _ (nextB x1.below hB1)).mono ?_; rintro e9 W2 ⟨rfl, ⟨v6, hG2⟩, hK2⟩; have hX2 := hK2.blk (blkN x1.below hX1) (by omega) (by decide); have hR2 := hK2.blk (blkN x1.below hR1) (by omega) (by decide); have hlx := lt_blk hX2; obtain ⟨m0, m1, m2, m3, m4, m5, m6, mf, ml⟩ := row7 hX2; have tm := ty_of hX2; have hG2s : Px b L lv v6 tv bv (((W2.setCell ⟨w.heap.size + 1, 1, none⟩ (.string av)).setCell ⟨w.heap.size + 1, 2, none⟩ (.int .i64 aa)).setCell ⟨w.heap.size + 1, 3, none⟩ (.int .i64 ab)) r1 := (by (repeat (first | (with_reducible exact hG2) | (refine Px.setT ?_ _ (by omega) (by (try simp only [ty_set]); assumption) (by decide) (by decide))))); have hX2s : (((W2.setCell ⟨w.heap.size + 1, 1, none⟩ (.string av)).setCell ⟨w.heap.size + 1, 2, none⟩ (.int .i64 aa)).setCell ⟨w.heap.size + 1, 3, none⟩ (.int .i64 ab)).heap[w.heap.size + 1]? = some (.cells #[.int .i64 0, .string av, .int .i64 aa, .int .i64 ab, .string ⟨#[]⟩, .int .i64 0, .int .i64 0] 48 (0, 0)) := heap_setCell_same _ _ 3 _ _ _ (heap_setCell_same _ _ 2 _ _ _ (heap_setCell_same _ _ 1 _ _ _ (hX2))); have hR2s : (((W2.setCell ⟨w.heap.size + 1, 1, none⟩ (.string av)).setCell ⟨w.heap.size + 1, 2, none⟩ (.int .i64 aa)).setCell ⟨w.heap.size + 1, 3, none⟩ (.int .i64 ab)).heap[w.heap.size]? = some (.cells #[.int .i64 0, .string ⟨#[]⟩, .int .i64 0, .int .i64 0, .string ⟨#[]⟩, .int .i64 0, .int .i64 0] 48 (0, 0)) := (by repeat (first | (with_reducible exact hR2) | refine setO ?_ (by omega))); have hK2s : Keep b [9] w (((W2.setCell ⟨w.heap.size + 1, 1, none⟩ (.string av)).setCell ⟨w.heap.size + 1, 2, none⟩ (.int .i64 aa)).setCell ⟨w.heap.size + 1, 3, none⟩ (.int .i64 ab)) := Keep.set (Keep.set (Keep.set ((hK1.next x1.below).trans hK2) _ (by right; omega)) _ (by right; omega)) _ (by right; omega))))
          refine bodyPost_ret (v := .agg #[.int .i64 0, .string av, .int .i64 aa, .int .i64 ab, .string ⟨#[]⟩, .int .i64 0, .int .i64 0]) (by simp only [results, Try.results32]; go_simp) rfl ⟨rfl, ?_⟩
          have t1 := ty_of hR5s
          have t2 := ty_of hX5s
          refine ⟨⟨v6, ?_⟩, ?_⟩
          · (repeat (first | (with_reducible exact hG5s) | (refine Px.setT ?_ _ (by omega) (by (try simp only [ty_set]); assumption) (by decide) (by decide))))
          · (repeat (first | (with_reducible exact hK5s) | (refine Keep.set ?_ _ (by first | exact Or.inl rfl | exact Or.inr (Nat.le_refl _) | (right; omega))) | (refine Keep.alloc ?_ _)))
end

end Go.Proofs.Ytmnplnhblniimaa.Gr
