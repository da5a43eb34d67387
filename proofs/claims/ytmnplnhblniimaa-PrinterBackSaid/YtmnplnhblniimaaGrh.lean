/- THE READER: WALK of term. -/
import Derived.Test.YtmnplnhblniimaaGrg
namespace Go.Proofs.Ytmnplnhblniimaa.Gr
set_option linter.unusedVariables false
set_option linter.unusedSimpArgs false
open Go Go.RowKit

/-- What a step that reads no name of a block leaves alone. -/
structure Sm (r q : R) : Prop where
  tg : q.tg = r.tg
  bk : q.bk = r.bk
  n : q.n = r.n
  i : r.i ≤ q.i
  e : q.e = 0 → r.e = 0
theorem Sm.refl (r : R) : Sm r r := ⟨rfl, rfl, rfl, Nat.le_refl _, id⟩
theorem Sm.trans {a b c : R} (h : Sm a b) (k : Sm b c) : Sm a c := ⟨k.tg.trans h.tg, k.bk.trans h.bk, k.n.trans h.n, Nat.le_trans h.i k.i, fun x => h.e (k.e x)⟩
theorem sm_fail (r : R) (e p : Int) : Sm r (fail r e p) := by
  unfold fail
  split
  · rename_i h
    exact ⟨rfl, rfl, rfl, Nat.le_refl _, fun _ => h⟩
  · exact Sm.refl r
theorem sm_took (L : List Tok) (r : R) (k : Int) (s : ByteArray) : Sm r (took L r k s) :=
  ⟨(took_vs L r k s).2.1, (took_vs L r k s).2.2.1, (took_vs L r k s).2.2.2, by unfold took fail; split; (split <;> simp); (split <;> simp), fun h => (took_e L r k s h).2.2⟩
theorem sm_less (L : List Tok) (r : R) : Sm r (less L r) := by unfold less; split; exact sm_took _ _ _ _; exact Sm.refl _
theorem sm_part (L : List Tok) (r : R) : Sm r (partR L r) := by
  unfold partR
  split
  · exact ((sm_less L r).trans (sm_took _ _ _ _)).trans (sm_fail _ _ _)
  · exact (sm_less L r).trans (sm_took _ _ _ _)
theorem sm_var (L : List Tok) (r : R) : Sm r (varR L r) := by
  have h := sm_took L r 1 (st [])
  unfold varR
  split
  · split
    · exact h
    · split
      · exact Sm.trans (b := { took L r 1 (st []) with vs := (took L r 1 (st [])).vs ++ [(now L r).s] }) ⟨h.tg, h.bk, h.n, h.i, h.e⟩ (sm_fail _ _ _)
      · exact ⟨h.tg, h.bk, h.n, h.i, h.e⟩
  · exact h
theorem sm_atom (L : List Tok) (r : R) : Sm r (atomR L r) := by
  unfold atomR
  split
  · exact sm_var L r
  · split
    · exact ((((sm_took _ _ _ _).trans (sm_part _ _)).trans (sm_took _ _ _ _)).trans (sm_part _ _)).trans (sm_took _ _ _ _)
    · exact sm_part L r
theorem sm_expr (L : List Tok) (r : R) : Sm r (exprR L r) := by
  unfold exprR
  split
  · exact (sm_took _ _ _ _).trans (sm_atom _ _)
  · split
    · exact ((sm_atom L r).trans (sm_took _ _ _ _)).trans (sm_atom _ _)
    · split
      · exact ((sm_atom L r).trans (sm_took _ _ _ _)).trans (sm_atom _ _)
      · split
        · exact ((sm_atom L r).trans (sm_took _ _ _ _)).trans (sm_atom _ _)
        · exact sm_atom L r
theorem Ok.lbl {L : List Tok} {r : R} (h : Ok L r) (hL : Lok L) : Ok L (lblR L r) := ⟨(h.took hL _ _).i, (h.took hL _ _).v, (h.took hL _ _).ev⟩
theorem lbl_tg (L : List Tok) (r : R) : (lblR L r).tg.length = r.tg.length + 1 := by
  unfold lblR
  rw [List.length_append, (took_vs L r 1 (st [])).2.1]
  rfl

section
variable {b : Nat} {L : List Tok} {lv vv tv bv : Value} {w : World} {r : R}
theorem row6 {B : Nat} {v0 v1 v2 v3 v4 v5 : Value} {t : TypeId} (h : w.heap[B]? = some (.cells #[v0, v1, v2, v3, v4, v5] t (0, 0))) :
    w.cell? ⟨B, 0, none⟩ = some v0 ∧ w.cell? ⟨B, 1, none⟩ = some v1 ∧ w.cell? ⟨B, 2, none⟩ = some v2 ∧ w.cell? ⟨B, 3, none⟩ = some v3 ∧ w.cell? ⟨B, 4, none⟩ = some v4 ∧ w.cell? ⟨B, 5, none⟩ = some v5 ∧ (∀ j, w.frozen? ⟨B, j, none⟩ = false) ∧ B < w.heap.size :=
  ⟨(cell_of_row w B 0 _ t (0, 0) h).trans rfl, (cell_of_row w B 1 _ t (0, 0) h).trans rfl, (cell_of_row w B 2 _ t (0, 0) h).trans rfl, (cell_of_row w B 3 _ t (0, 0) h).trans rfl, (cell_of_row w B 4 _ t (0, 0) h).trans rfl, (cell_of_row w B 5 _ t (0, 0) h).trans rfl, fun j => frozen_of_row w B j _ t h, lt_blk h⟩

theorem setO {W : World} {k g j : Nat} {u : Value} {o : Obj} (h : W.heap[k]? = some o) (hk : k ≠ g) : (W.setCell ⟨g, j, none⟩ u).heap[k]? = some o := (heap_setCell_other _ _ _ _ hk).trans h

set_option maxRecDepth 100000 in
set_option maxHeartbeats 2000000 in
theorem term_any (h : Gx b L lv vv tv bv w r) (hk : Ok L r) (hL : Lok L) (htg : r.tg.length ≤ 90000) :
    Calls Try.prog 48 #[.pointer (some ⟨b, 0, none⟩)] w fun e w' => e = .returned (.agg #[.int .i64 (termT L r).k, .string (termT L r).x.v, .int .i64 (termT L r).x.a, .int .i64 (termT L r).x.b, .string (termT L r).t, .string (termT L r).e]) ∧ (∃ v6 t6, Gx b L lv v6 t6 bv w' (termR L r)) ∧ Keep b [9, 39] w w' := by
  have f0 := fun (W : World) (hB : Below w.heap.size w W) => is_any (h.below hB) hk.i 4 gotoS
  have f1 := fun (W : World) (hB : Below w.heap.size w W) => is_any (h.below hB) hk.i 4 ifS
  have yl := lt_blk h.box
  obtain ⟨hB1, hR1, hA1⟩ := two w (.cells #[.int .i64 0, .string ⟨#[]⟩, .int .i64 0, .int .i64 0, .string ⟨#[]⟩, .string ⟨#[]⟩] 58) (.cells #[.int .i64 0, .string ⟨#[]⟩, .int .i64 0, .int .i64 0, .string ⟨#[]⟩, .string ⟨#[]⟩] 58)
  have hK1 := Keep.of_below (b := b) (T := [9, 39]) hB1
  unfold termR termT
  cases hc : isB L r 4 gotoS with
  | true =>
    rw [hc] at f0
    simp only [if_true]
    have f2 := fun (W : World) (hB : Below w.heap.size w W) => wrd_any (h.below hB) hk.i hL.len gotoS
    have f3 := fun (W : World) (h2 : Gx b L lv vv tv bv W (took L r 4 gotoS)) => label_any h2 (hk.took hL 4 gotoS) hL.len (by rw [(sm_took L r 4 gotoS).tg]; omega)
    have f4 := fun (t6 : Value) (W : World) (h2 : Gx b L lv vv t6 bv W (lblR L (took L r 4 gotoS))) => sign_any h2 ((hk.took hL 4 gotoS).lbl hL).i hL.len (st [59])
    generalize varS L (took L r 4 gotoS) = A at f3 ⊢
    generalize took L (lblR L (took L r 4 gotoS)) 3 (st [59]) = r3 at f4 ⊢
    generalize lblR L (took L r 4 gotoS) = r2 at f3 f4
    generalize took L r 4 gotoS = r1 at f2 f3
    clear h hk hc f1
    go_enter Try.func48, Try.ntmps48
    go_wp2_with (first | (go_at_call 23; refine' Calls.aft _ _ (f0 _ hB1) _; rotate_left 2; (exact Below.refl _ _; rfl); intro x1; have hle := After.le x1; (try simp at hle)) | (go_at_call 45; refine (f2 _ (nextB x1.below hB1)).mono ?_; rintro e9 W2 ⟨rfl, hG2, hK2⟩; have hK2a := (hK1.next x1.below).trans (hK2.mono (by simp)); have hR2 := hK2.blk (blkN x1.below hR1) (by omega) (by decide); have hA2 := hK2.blk (blkN x1.below hA1) (by omega) (by decide)) | (go_at_call 80; refine (f3 _ hG2).mono ?_; rintro e9 W3 ⟨rfl, ⟨t6, hG3⟩, hK3⟩; have hK3a := hK2a.trans hK3; have hR3 := hK3.blk hR2 (by omega) (by decide); have hA3 := hK3.blk hA2 (by omega) (by decide); obtain ⟨b0, b1, b2, b3, b4, b5, bf, bl⟩ := row6 hR3; obtain ⟨d0, d1, d2, d3, d4, d5, df, dl⟩ := row6 hA3; have t2 := ty_of hA3) | (go_at_call 46; refine (f4 t6 _ ?gg).mono ?_; (case gg => (repeat (first | (with_reducible exact hG3) | (refine Gx.setT ?_ _ (by omega) (by (try simp only [ty_set]); assumption) (by decide) (by decide))))); rintro e9 W4 ⟨rfl, hG4, hK4⟩; have hR4 : W4.heap[w.heap.size]? = some (.cells #[.int .i64 0, .string ⟨#[]⟩, .int .i64 0, .int .i64 0, .string ⟨#[]⟩, .string ⟨#[]⟩] 58 (0, 0)) := hK4.blk (by repeat (first | (with_reducible exact hR3) | refine setO ?_ (by omega))) (by omega) (by decide); have hA4 : W4.heap[w.heap.size + 1]? = some (.cells #[.int .i64 1, .string ⟨#[]⟩, .int .i64 0, .int .i64 0, .string A, .string ⟨#[]⟩] 58 (0, 0)) := hK4.blk (heap_setCell_same _ _ 5 _ _ _ (heap_setCell_same _ _ 4 _ _ _ (heap_setCell_same _ _ 3 _ _ _ (heap_setCell_same _ _ 2 _ _ _ (heap_setCell_same _ _ 1 _ _ _ (heap_setCell_same _ _ 0 _ _ _ hA3)))))) (by omega) (by decide); obtain ⟨b0, b1, b2, b3, b4, b5, bf, bl⟩ := row6 hR4; obtain ⟨d0, d1, d2, d3, d4, d5, df, dl⟩ := row6 hA4))
    have hK4a : Keep b [9, 39] w W4 := Keep.trans (by (repeat (first | (with_reducible exact hK3a) | (refine Keep.set ?_ _ (by first | exact Or.inl rfl | exact Or.inr (Nat.le_refl _) | (right; omega))) | (refine Keep.alloc ?_ _)))) (hK4.mono (by simp))
    refine bodyPost_ret (v := .agg #[.int .i64 1, .string ⟨#[]⟩, .int .i64 0, .int .i64 0, .string A, .string ⟨#[]⟩]) (by simp only [results, Try.results48]; go_simp) rfl ⟨rfl, ?_⟩
    have t1 := ty_of hR4
    have t2 := ty_of hA4
    refine ⟨⟨vv, t6, ?_⟩, ?_⟩
    · (repeat (first | (with_reducible exact hG4) | (refine Gx.setT ?_ _ (by omega) (by (try simp only [ty_set]); assumption) (by decide) (by decide))))
    · (repeat (first | (with_reducible exact hK4a) | (refine Keep.set ?_ _ (by first | exact Or.inl rfl | exact Or.inr (Nat.le_refl _) | (right; omega))) | (refine Keep.alloc ?_ _)))
  | false =>
    rw [hc] at f0
    simp only [if_false, Bool.false_eq_true]
    clear hc
    cases hd : isB L r 4 ifS with
    | true =>
      rw [hd] at f1
      simp only [if_true]
      unfold ifB ifA
      have k1 := hk.took hL 4 ifS
      have k2 := k1.atom hL
      have k3 := k2.took hL 4 thenS
      have k4 := k3.lbl hL
      have k5 := k4.took hL 4 elseS
      have k6 := k5.lbl hL
      have m1 : (took L (atomR L (took L r 4 ifS)) 4 thenS).tg.length ≤ 90000 := by rw [(sm_took _ _ _ _).tg, (sm_atom _ _).tg, (sm_took _ _ _ _).tg]; exact htg
      have m2 : (took L (lblR L (took L (atomR L (took L r 4 ifS)) 4 thenS)) 4 elseS).tg.length ≤ 90001 := by rw [(sm_took _ _ _ _).tg, lbl_tg]; omega
      have g1 := fun (W : World) (hB : Below w.heap.size w W) => wrd_any (h.below hB) hk.i hL.len ifS
      have g2 := fun (W : World) (h2 : Gx b L lv vv tv bv W (took L r 4 ifS)) => atom_any h2 k1 hL
      have g3 := fun (v : Value) (W : World) (h2 : Gx b L lv v tv bv W _) => wrd_any h2 k2.i hL.len thenS
      have g4 := fun (v : Value) (W : World) (h2 : Gx b L lv v tv bv W _) => label_any h2 k3 hL.len (by omega)
      have g5 := fun (v t : Value) (W : World) (h2 : Gx b L lv v t bv W _) => wrd_any h2 k4.i hL.len elseS
      have g6 := fun (v t : Value) (W : World) (h2 : Gx b L lv v t bv W _) => label_any h2 k5 hL.len (by omega)
      have g7 := fun (v t : Value) (W : World) (h2 : Gx b L lv v t bv W _) => sign_any h2 k6.i hL.len (st [59])
      clear k1 k2 k3 k4 k5 k6 m1 m2 hk h hd htg
      generalize took L r 4 ifS = r1 at g1 g2 g3 g4 g5 g6 g7 ⊢
      generalize atomA L r1 = A at g2 ⊢
      generalize atomR L r1 = r2 at g2 g3 g4 g5 g6 g7 ⊢
      generalize took L r2 4 thenS = r3 at g3 g4 g5 g6 g7 ⊢
      generalize varS L r3 = T1 at g4 ⊢
      generalize lblR L r3 = r4 at g4 g5 g6 g7 ⊢
      generalize took L r4 4 elseS = r5 at g5 g6 g7 ⊢
      generalize varS L r5 = T2 at g6 ⊢
      generalize lblR L r5 = r6 at g6 g7 ⊢
      generalize took L r6 3 (st [59]) = r7 at g7 ⊢
      obtain ⟨av, aa, ab⟩ := A
      simp only at g2 ⊢
      go_enter Try.func48, Try.ntmps48
      go_wp2_with (first | (go_at_call 23; first | (with_reducible refine' Calls.aft _ _ (f0 _ hB1) _; rotate_left 2; (exact Below.refl _ _; rfl); intro x1; have hle := After.le x1; (try simp at hle)) | (with_reducible refine' Calls.aft _ _ (f1 _ (nextB x1.below hB1)) _; rotate_left 2; (exact Below.refl _ _; rfl); intro x2; have hle := After.le x2; (try simp at hle))) | (go_at_call 45; first | (with_reducible refine (g1 _ (nextB x2.below (nextB x1.below hB1))).mono ?_; rintro e9 W2 ⟨rfl, hG2, hK2⟩; have hK2a := ((hK1.next x1.below).next x2.below).trans (hK2.mono (by simp)); have hR2 := hK2.blk (blkN x2.below (blkN x1.below hR1)) (by omega) (by decide); have hA2 := hK2.blk (blkN x2.below (blkN x1.below hA1)) (by omega) (by decide)) | (refine (g3 v6 _ ?g3g).mono ?_; (case g3g => (repeat (first | (with_reducible exact hG3) | (refine Gx.setT ?_ _ (by omega) (by (try simp only [ty_set]); assumption) (by decide) (by decide))))); rintro e9 W4 ⟨rfl, hG4, hK4⟩; have hK4a : Keep b [9, 39] w W4 := Keep.trans (by (repeat (first | (with_reducible exact hK3a) | (refine Keep.set ?_ _ (by first | exact Or.inl rfl | exact Or.inr (Nat.le_refl _) | (right; omega))) | (refine Keep.alloc ?_ _)))) (hK4.mono (by simp)); have hR4 : W4.heap[w.heap.size]? = some (.cells #[.int .i64 0, .string ⟨#[]⟩, .int .i64 0, .int .i64 0, .string ⟨#[]⟩, .string ⟨#[]⟩] 58 (0, 0)) := hK4.blk (by repeat (first | (with_reducible exact hR3) | refine setO ?_ (by omega))) (by omega) (by decide); have hA4 : W4.heap[w.heap.size + 1]? = some (.cells #[.int .i64 2, .string av, .int .i64 aa, .int .i64 ab, .string ⟨#[]⟩, .string ⟨#[]⟩] 58 (0, 0)) := hK4.blk (heap_setCell_same _ _ 3 _ _ _ (heap_setCell_same _ _ 2 _ _ _ (heap_setCell_same _ _ 1 _ _ _ (heap_setCell_same _ _ 0 _ _ _ hA3)))) (by omega) (by decide)) | (refine (g5 v6 t6 _ ?g5g).mono ?_; (case g5g => (repeat (first | (with_reducible exact hG5) | (refine Gx.setT ?_ _ (by omega) (by (try simp only [ty_set]); assumption) (by decide) (by decide))))); rintro e9 W6 ⟨rfl, hG6, hK6⟩; have hK6a : Keep b [9, 39] w W6 := Keep.trans (by (repeat (first | (with_reducible exact hK5a) | (refine Keep.set ?_ _ (by first | exact Or.inl rfl | exact Or.inr (Nat.le_refl _) | (right; omega))) | (refine Keep.alloc ?_ _)))) (hK6.mono (by simp)); have hR6 : W6.heap[w.heap.size]? = some (.cells #[.int .i64 0, .string ⟨#[]⟩, .int .i64 0, .int .i64 0, .string ⟨#[]⟩, .string ⟨#[]⟩] 58 (0, 0)) := hK6.blk (by repeat (first | (with_reducible exact hR5) | refine setO ?_ (by omega))) (by omega) (by decide); have hA6 : W6.heap[w.heap.size + 1]? = some (.cells #[.int .i64 2, .string av, .int .i64 aa, .int .i64 ab, .string T1, .string ⟨#[]⟩] 58 (0, 0)) := hK6.blk (heap_setCell_same _ _ 4 _ _ _ hA5) (by omega) (by decide))) | (go_at_call 61; refine (g2 _ hG2).mono ?_; rintro e9 W3 ⟨rfl, ⟨v6, hG3⟩, hK3⟩; have hK3a := hK2a.trans (hK3.mono (by simp)); have hR3 := hK3.blk hR2 (by omega) (by decide); have hA3 := hK3.blk hA2 (by omega) (by decide); obtain ⟨d0, d1, d2, d3, d4, d5, df, dl⟩ := row6 hA3; have t2 := ty_of hA3) | (go_at_call 80; first | (with_reducible refine (g4 _ _ hG4).mono ?_; rintro e9 W5 ⟨rfl, ⟨t6, hG5⟩, hK5⟩; have hK5a := hK4a.trans hK5; have hR5 := hK5.blk hR4 (by omega) (by decide); have hA5 := hK5.blk hA4 (by omega) (by decide); obtain ⟨c0, c1, c2, c3, c4, c5, cf, cl⟩ := row6 hA5; have ht5 := ty_of hA5) | (with_reducible refine (g6 _ _ _ hG6).mono ?_; rintro e9 W7 ⟨rfl, ⟨t7, hG7⟩, hK7⟩; have hK7a := hK6a.trans hK7; have hR7 := hK7.blk hR6 (by omega) (by decide); have hA7 := hK7.blk hA6 (by omega) (by decide); obtain ⟨m0, m1, m2, m3, m4, m5, mf, ml⟩ := row6 hA7; have ht7 := ty_of hA7)) | (go_at_call 46; refine (g7 v6 t7 _ ?gg).mono ?_; (case gg => (repeat (first | (with_reducible exact hG7) | (refine Gx.setT ?_ _ (by omega) (by (try simp only [ty_set]); assumption) (by decide) (by decide))))); rintro e9 W8 ⟨rfl, hG8, hK8⟩; have hR8 : W8.heap[w.heap.size]? = some (.cells #[.int .i64 0, .string ⟨#[]⟩, .int .i64 0, .int .i64 0, .string ⟨#[]⟩, .string ⟨#[]⟩] 58 (0, 0)) := hK8.blk (by repeat (first | (with_reducible exact hR7) | refine setO ?_ (by omega))) (by omega) (by decide); have hA8 : W8.heap[w.heap.size + 1]? = some (.cells #[.int .i64 2, .string av, .int .i64 aa, .int .i64 ab, .string T1, .string T2] 58 (0, 0)) := hK8.blk (heap_setCell_same _ _ 5 _ _ _ hA7) (by omega) (by decide); obtain ⟨b0, b1, b2, b3, b4, b5, bf, bl⟩ := row6 hR8; obtain ⟨d0, d1, d2, d3, d4, d5, df, dl⟩ := row6 hA8))
      have hK8a : Keep b [9, 39] w W8 := Keep.trans (by (repeat (first | (with_reducible exact hK7a) | (refine Keep.set ?_ _ (by first | exact Or.inl rfl | exact Or.inr (Nat.le_refl _) | (right; omega))) | (refine Keep.alloc ?_ _)))) (hK8.mono (by simp))
      refine bodyPost_ret (v := .agg #[.int .i64 2, .string av, .int .i64 aa, .int .i64 ab, .string T1, .string T2]) (by simp only [results, Try.results48]; go_simp) rfl ⟨rfl, ?_⟩
      have t1 := ty_of hR8
      have t2 := ty_of hA8
      refine ⟨⟨v6, t7, ?_⟩, ?_⟩
      · (repeat (first | (with_reducible exact hG8) | (refine Gx.setT ?_ _ (by omega) (by (try simp only [ty_set]); assumption) (by decide) (by decide))))
      · (repeat (first | (with_reducible exact hK8a) | (refine Keep.set ?_ _ (by first | exact Or.inl rfl | exact Or.inr (Nat.le_refl _) | (right; omega))) | (refine Keep.alloc ?_ _)))
    | false =>
      rw [hd] at f1
      simp only [if_false, Bool.false_eq_true]
      have k1 := hk.took hL 4 retS
      have g1 := fun (W : World) (hB : Below w.heap.size w W) => wrd_any (h.below hB) hk.i hL.len retS
      have g2 := fun (W : World) (h2 : Gx b L lv vv tv bv W _) => sign_any h2 k1.i hL.len (st [59])
      clear k1 hk h hd htg
      generalize took L r 4 retS = r1 at g1 g2 ⊢
      generalize took L r1 3 (st [59]) = r2 at g2 ⊢
      go_enter Try.func48, Try.ntmps48
      go_wp2_with (first | (go_at_call 23; first | (with_reducible refine' Calls.aft _ _ (f0 _ hB1) _; rotate_left 2; (exact Below.refl _ _; rfl); intro x1; have hle := After.le x1; (try simp at hle)) | (with_reducible refine' Calls.aft _ _ (f1 _ (nextB x1.below hB1)) _; rotate_left 2; (exact Below.refl _ _; rfl); intro x2; have hle := After.le x2; (try simp at hle))) | (go_at_call 45; refine (g1 _ (nextB x2.below (nextB x1.below hB1))).mono ?_; rintro e9 W3 ⟨rfl, hG3, hK3⟩; have hK3a := ((hK1.next x1.below).next x2.below).trans (hK3.mono (by simp)); have hR3 := hK3.blk (blkN x2.below (blkN x1.below hR1)) (by omega) (by decide); have hA3 := hK3.blk (blkN x2.below (blkN x1.below hA1)) (by omega) (by decide); obtain ⟨d0, d1, d2, d3, d4, d5, df, dl⟩ := row6 hA3; have t2 := ty_of hA3) | (go_at_call 46; refine (g2 _ ?gg).mono ?_; (case gg => (repeat (first | (with_reducible exact hG3) | (refine Gx.setT ?_ _ (by omega) (by (try simp only [ty_set]); assumption) (by decide) (by decide))))); rintro e9 W4 ⟨rfl, hG4, hK4⟩; have hR4 : W4.heap[w.heap.size]? = some (.cells #[.int .i64 0, .string ⟨#[]⟩, .int .i64 0, .int .i64 0, .string ⟨#[]⟩, .string ⟨#[]⟩] 58 (0, 0)) := hK4.blk (by repeat (first | (with_reducible exact hR3) | refine setO ?_ (by omega))) (by omega) (by decide); have hA4 : W4.heap[w.heap.size + 1]? = some (.cells #[.int .i64 3, .string ⟨#[]⟩, .int .i64 0, .int .i64 0, .string ⟨#[]⟩, .string ⟨#[]⟩] 58 (0, 0)) := hK4.blk (heap_setCell_same _ _ 0 _ _ _ hA3) (by omega) (by decide); obtain ⟨b0, b1, b2, b3, b4, b5, bf, bl⟩ := row6 hR4; obtain ⟨d0, d1, d2, d3, d4, d5, df, dl⟩ := row6 hA4))
      have hK4a : Keep b [9, 39] w W4 := Keep.trans (by (repeat (first | (with_reducible exact hK3a) | (refine Keep.set ?_ _ (by first | exact Or.inl rfl | exact Or.inr (Nat.le_refl _) | (right; omega))) | (refine Keep.alloc ?_ _)))) (hK4.mono (by simp))
      refine bodyPost_ret (v := .agg #[.int .i64 3, .string ⟨#[]⟩, .int .i64 0, .int .i64 0, .string ⟨#[]⟩, .string ⟨#[]⟩]) (by simp only [results, Try.results48]; go_simp) rfl ⟨rfl, ?_⟩
      have t1 := ty_of hR4
      have t2 := ty_of hA4
      refine ⟨⟨vv, tv, ?_⟩, ?_⟩
      · (repeat (first | (with_reducible exact hG4) | (refine Gx.setT ?_ _ (by omega) (by (try simp only [ty_set]); assumption) (by decide) (by decide))))
      · (repeat (first | (with_reducible exact hK4a) | (refine Keep.set ?_ _ (by first | exact Or.inl rfl | exact Or.inr (Nat.le_refl _) | (right; omega))) | (refine Keep.alloc ?_ _)))
end

end Go.Proofs.Ytmnplnhblniimaa.Gr
