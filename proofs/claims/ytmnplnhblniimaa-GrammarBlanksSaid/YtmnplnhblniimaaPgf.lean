/- THE PAGE'S READER: WALK of End (printed by tools/gen_pgf.py). -/
import Derived.Test.YtmnplnhblniimaaPge
namespace Go.Proofs.Ytmnplnhblniimaa.Gr
set_option linter.unusedVariables false
set_option linter.unusedSimpArgs false
open Go Go.RowKit

section
variable {b : Nat} {L : List Tok} {lv vv tv bv : Value} {w : World} {r : R}
set_option maxRecDepth 100000 in
set_option maxHeartbeats 4000000 in
theorem pend_any (h : Px b L lv vv tv bv w r) (hk : Ok L r) (hL : Lok L) (htg : r.tg.length ≤ 90000) :
    Calls Try.prog 55 #[.pointer (some ⟨b, 0, none⟩)] w fun e w' => e = .returned (.agg #[.int .i64 (termT L r).k, .string (termT L r).x.v, .int .i64 (termT L r).x.a, .int .i64 (termT L r).x.b, .string (termT L r).t, .string (termT L r).e]) ∧ (∃ v6 t6, Px b L lv v6 t6 bv w' (termR L r)) ∧ Keep b [9, 39] w w' := by
  have f0 := fun (W : World) (hB : Below w.heap.size w W) => pis_any (h.below hB) hk.i 4 gotoS
  have f1 := fun (W : World) (hB : Below w.heap.size w W) => pis_any (h.below hB) hk.i 4 ifS
  have yl := lt_blk h.box
  obtain ⟨hB1, hR1, hA1⟩ := two w (.cells #[.int .i64 0, .string ⟨#[]⟩, .int .i64 0, .int .i64 0, .string ⟨#[]⟩, .string ⟨#[]⟩] 58) (.cells #[.int .i64 0, .string ⟨#[]⟩, .int .i64 0, .int .i64 0, .string ⟨#[]⟩, .string ⟨#[]⟩] 58)
  have hK1 := Keep.of_below (b := b) (T := [9, 39]) hB1
  unfold termR termT
  cases hc : isB L r 4 gotoS with
  | true =>
    rw [hc] at f0
    simp only [if_true]
    have f2 := fun (W : World) (hB : Below w.heap.size w W) => eat_any (h.below hB) hk.i hL 4 gotoS
    have f3 := fun (W : World) (h2 : Px b L lv vv tv bv W (took L r 4 gotoS)) => plabel_any h2 (hk.took hL 4 gotoS) hL (by rw [(sm_took L r 4 gotoS).tg]; omega)
    have f4 := fun (t6 : Value) (W : World) (h2 : Px b L lv vv t6 bv W (lblR L (took L r 4 gotoS))) => eat_any h2 ((hk.took hL 4 gotoS).lbl hL).i hL 3 (st [59])
    generalize varS L (took L r 4 gotoS) = A at f3 ⊢
    generalize tokn L (lblR L (took L r 4 gotoS)) 3 (st [59]) = e4 at f4
    generalize took L (lblR L (took L r 4 gotoS)) 3 (st [59]) = r3 at f4 ⊢
    generalize lblR L (took L r 4 gotoS) = r2 at f3 f4
    generalize tokn L r 4 gotoS = e2 at f2
    generalize took L r 4 gotoS = r1 at f2 f3
    clear h hk hc f1
    go_enter Try.func55, Try.ntmps55
    go_wp2_with (first | (go_at_call 27; refine' Calls.aft _ _ (f0 _ hB1) _; rotate_left 2; (exact Below.refl _ _; rfl); intro x1; have hle := After.le x1; (try simp at hle)) | (go_at_call 33; first | (with_reducible refine (f2 _ (nextB x1.below hB1)).mono ?_; rintro e9 W2 ⟨rfl, hG2, hK2⟩; have hR2 := hK2.blk (blkN x1.below hR1) (by omega) (by decide); have hA2 := hK2.blk (blkN x1.below hA1) (by omega) (by decide); have hK2a := (hK1.next x1.below).trans (hK2.mono (T' := [9, 39]) (by simp)); obtain ⟨d0, d1, d2, d3, d4, d5, df, dl⟩ := row6 hA2; have ty2 := ty_of hA2) | (refine (f4 t3 _ ?gg4).mono ?_; (case gg4 => (repeat (first | (with_reducible exact hG3) | (refine Px.setT ?_ _ (by omega) (by (try simp only [ty_set]); assumption) (by decide) (by decide))))); rintro e9 W4 ⟨rfl, hG4, hK4⟩; have hR4 : W4.heap[w.heap.size]? = some (.cells #[.int .i64 0, .string ⟨#[]⟩, .int .i64 0, .int .i64 0, .string ⟨#[]⟩, .string ⟨#[]⟩] 58 (0, 0)) := hK4.blk (by repeat (first | (with_reducible exact hR3) | refine setO ?_ (by omega))) (by omega) (by decide); have hA4 : W4.heap[w.heap.size + 1]? = some (.cells #[.int .i64 1, .string ⟨#[]⟩, .int .i64 0, .int .i64 0, .string A, .string ⟨#[]⟩] 58 (0, 0)) := hK4.blk (heap_setCell_same _ _ 4 _ _ _ (hA3)) (by omega) (by decide); have hK4a : Keep b [9, 39] w W4 := Keep.trans (by (repeat (first | (with_reducible exact hK3a) | (refine Keep.set ?_ _ (by first | exact Or.inl rfl | exact Or.inr (Nat.le_refl _) | (right; omega))) | (refine Keep.alloc ?_ _)))) (hK4.mono (by simp)); obtain ⟨d0, d1, d2, d3, d4, d5, df, dl⟩ := row6 hA4; have ty4 := ty_of hA4; obtain ⟨b0, b1, b2, b3, b4, b5, bf, bl⟩ := row6 hR4)) | (go_at_call 88; refine (f3 _ ?gg3).mono ?_; (case gg3 => (repeat (first | (with_reducible exact hG2) | (refine Px.setT ?_ _ (by omega) (by (try simp only [ty_set]); assumption) (by decide) (by decide))))); rintro e9 W3 ⟨rfl, ⟨t3, hG3⟩, hK3⟩; have hR3 : W3.heap[w.heap.size]? = some (.cells #[.int .i64 0, .string ⟨#[]⟩, .int .i64 0, .int .i64 0, .string ⟨#[]⟩, .string ⟨#[]⟩] 58 (0, 0)) := hK3.blk (by repeat (first | (with_reducible exact hR2) | refine setO ?_ (by omega))) (by omega) (by decide); have hA3 : W3.heap[w.heap.size + 1]? = some (.cells #[.int .i64 1, .string ⟨#[]⟩, .int .i64 0, .int .i64 0, .string ⟨#[]⟩, .string ⟨#[]⟩] 58 (0, 0)) := hK3.blk (heap_setCell_same _ _ 0 _ _ _ (hA2)) (by omega) (by decide); have hK3a : Keep b [9, 39] w W3 := Keep.trans (by (repeat (first | (with_reducible exact hK2a) | (refine Keep.set ?_ _ (by first | exact Or.inl rfl | exact Or.inr (Nat.le_refl _) | (right; omega))) | (refine Keep.alloc ?_ _)))) hK3; obtain ⟨d0, d1, d2, d3, d4, d5, df, dl⟩ := row6 hA3; have ty3 := ty_of hA3))
    refine bodyPost_ret (v := .agg #[.int .i64 1, .string ⟨#[]⟩, .int .i64 0, .int .i64 0, .string A, .string ⟨#[]⟩]) (by simp only [results, Try.results55]; go_simp) rfl ⟨rfl, ?_⟩
    have t1 := ty_of hR4
    have t2 := ty_of hA4
    refine ⟨⟨vv, t3, ?_⟩, ?_⟩
    · (repeat (first | (with_reducible exact hG4) | (refine Px.setT ?_ _ (by omega) (by (try simp only [ty_set]); assumption) (by decide) (by decide))))
    · (repeat (first | (with_reducible exact hK4a) | (refine Keep.set ?_ _ (by first | exact Or.inl rfl | exact Or.inr (Nat.le_refl _) | (right; omega))) | (refine Keep.alloc ?_ _)))
  | false =>
    rw [hc] at f0
    simp only [if_false, Bool.false_eq_true]
    clear hc
    cases hd : isB L r 4 ifS with
    | true =>
      rw [hd] at f1
      simp only [if_true]
      unfold ifB ifA
      have k1 := hk.took hL 4 ifS
      have k2 := k1.atom hL
      have k3 := k2.took hL 4 thenS
      have k4 := k3.lbl hL
      have k5 := k4.took hL 4 elseS
      have k6 := k5.lbl hL
      have m1 : (took L (atomR L (took L r 4 ifS)) 4 thenS).tg.length ≤ 90000 := by rw [(sm_took _ _ _ _).tg, (sm_atom _ _).tg, (sm_took _ _ _ _).tg]; exact htg
      have m2 : (took L (lblR L (took L (atomR L (took L r 4 ifS)) 4 thenS)) 4 elseS).tg.length ≤ 90001 := by rw [(sm_took _ _ _ _).tg, lbl_tg]; omega
      have g1 := fun (W : World) (hB : Below w.heap.size w W) => eat_any (h.below hB) hk.i hL 4 ifS
      have g2 := fun (W : World) (h2 : Px b L lv vv tv bv W (took L r 4 ifS)) => patom_any h2 k1 hL
      have g3 := fun (v : Value) (W : World) (h2 : Px b L lv v tv bv W _) => eat_any h2 k2.i hL 4 thenS
      have g4 := fun (v : Value) (W : World) (h2 : Px b L lv v tv bv W _) => plabel_any h2 k3 hL (by omega)
      have g5 := fun (v t : Value) (W : World) (h2 : Px b L lv v t bv W _) => eat_any h2 k4.i hL 4 elseS
      have g6 := fun (v t : Value) (W : World) (h2 : Px b L lv v t bv W _) => plabel_any h2 k5 hL (by omega)
      have g7 := fun (v t : Value) (W : World) (h2 : Px b L lv v t bv W _) => eat_any h2 k6.i hL 3 (st [59])
      clear k1 k2 k3 k4 k5 k6 m1 m2 hk h hd htg
      generalize tokn L r 4 ifS = u1 at g1
      generalize took L r 4 ifS = r1 at g1 g2 g3 g4 g5 g6 g7 ⊢
      generalize atomA L r1 = A at g2 ⊢
      generalize atomR L r1 = r2 at g2 g3 g4 g5 g6 g7 ⊢
      generalize tokn L r2 4 thenS = u2 at g3
      generalize took L r2 4 thenS = r3 at g3 g4 g5 g6 g7 ⊢
      generalize varS L r3 = T1 at g4 ⊢
      generalize lblR L r3 = r4 at g4 g5 g6 g7 ⊢
      generalize tokn L r4 4 elseS = u3 at g5
      generalize took L r4 4 elseS = r5 at g5 g6 g7 ⊢
      generalize varS L r5 = T2 at g6 ⊢
      generalize lblR L r5 = r6 at g6 g7 ⊢
      generalize tokn L r6 3 (st [59]) = u4 at g7
      generalize took L r6 3 (st [59]) = r7 at g7 ⊢
      obtain ⟨av, aa, ab⟩ := A
      simp only at g2 ⊢
      go_enter Try.func55, Try.ntmps55
      go_wp2_with (first | (go_at_call 27; first | (with_reducible refine' Calls.aft _ _ (f0 _ hB1) _; rotate_left 2; (exact Below.refl _ _; rfl); intro x1; have hle := After.le x1; (try simp at hle)) | (with_reducible refine' Calls.aft _ _ (f1 _ (nextB x1.below hB1)) _; rotate_left 2; (exact Below.refl _ _; rfl); intro x2; have hle := After.le x2; (try simp at hle))) | (go_at_call 33; first | (with_reducible refine (g1 _ (nextB x2.below (nextB x1.below hB1))).mono ?_; rintro e9 W2 ⟨rfl, hG2, hK2⟩; have hR2 := hK2.blk (blkN x2.below (blkN x1.below hR1)) (by omega) (by decide); have hA2 := hK2.blk (blkN x2.below (blkN x1.below hA1)) (by omega) (by decide); have hK2a := ((hK1.next x1.below).next x2.below).trans (hK2.mono (T' := [9, 39]) (by simp)); obtain ⟨d0, d1, d2, d3, d4, d5, df, dl⟩ := row6 hA2; have ty2 := ty_of hA2) | (with_reducible refine (g3 v3 _ ?gg4).mono ?_; (case gg4 => (repeat (first | (with_reducible exact hG3) | (refine Px.setT ?_ _ (by omega) (by (try simp only [ty_set]); assumption) (by decide) (by decide))))); rintro e9 W4 ⟨rfl, hG4, hK4⟩; have hR4 : W4.heap[w.heap.size]? = some (.cells #[.int .i64 0, .string ⟨#[]⟩, .int .i64 0, .int .i64 0, .string ⟨#[]⟩, .string ⟨#[]⟩] 58 (0, 0)) := hK4.blk (by repeat (first | (with_reducible exact hR3) | refine setO ?_ (by omega))) (by omega) (by decide); have hA4 : W4.heap[w.heap.size + 1]? = some (.cells #[.int .i64 2, .string av, .int .i64 aa, .int .i64 ab, .string ⟨#[]⟩, .string ⟨#[]⟩] 58 (0, 0)) := hK4.blk (heap_setCell_same _ _ 3 _ _ _ (heap_setCell_same _ _ 2 _ _ _ (heap_setCell_same _ _ 1 _ _ _ (hA3)))) (by omega) (by decide); have hK4a : Keep b [9, 39] w W4 := Keep.trans (by (repeat (first | (with_reducible exact hK3a) | (refine Keep.set ?_ _ (by first | exact Or.inl rfl | exact Or.inr (Nat.le_refl _) | (right; omega))) | (refine Keep.alloc ?_ _)))) (hK4.mono (by simp)); obtain ⟨d0, d1, d2, d3, d4, d5, df, dl⟩ := row6 hA4; have ty4 := ty_of hA4) | (with_reducible refine (g5 v3 t5 _ ?gg6).mono ?_; (case gg6 => (repeat (first | (with_reducible exact hG5) | (refine Px.setT ?_ _ (by omega) (by (try simp only [ty_set]); assumption) (by decide) (by decide))))); rintro e9 W6 ⟨rfl, hG6, hK6⟩; have hR6 : W6.heap[w.heap.size]? = some (.cells #[.int .i64 0, .string ⟨#[]⟩, .int .i64 0, .int .i64 0, .string ⟨#[]⟩, .string ⟨#[]⟩] 58 (0, 0)) := hK6.blk (by repeat (first | (with_reducible exact hR5) | refine setO ?_ (by omega))) (by omega) (by decide); have hA6 : W6.heap[w.heap.size + 1]? = some (.cells #[.int .i64 2, .string av, .int .i64 aa, .int .i64 ab, .string T1, .string ⟨#[]⟩] 58 (0, 0)) := hK6.blk (heap_setCell_same _ _ 4 _ _ _ (hA5)) (by omega) (by decide); have hK6a : Keep b [9, 39] w W6 := Keep.trans (by (repeat (first | (with_reducible exact hK5a) | (refine Keep.set ?_ _ (by first | exact Or.inl rfl | exact Or.inr (Nat.le_refl _) | (right; omega))) | (refine Keep.alloc ?_ _)))) (hK6.mono (by simp)); obtain ⟨d0, d1, d2, d3, d4, d5, df, dl⟩ := row6 hA6; have ty6 := ty_of hA6) | (with_reducible refine (g7 v3 t7 _ ?gg8).mono ?_; (case gg8 => (repeat (first | (with_reducible exact hG7) | (refine Px.setT ?_ _ (by omega) (by (try simp only [ty_set]); assumption) (by decide) (by decide))))); rintro e9 W8 ⟨rfl, hG8, hK8⟩; have hR8 : W8.heap[w.heap.size]? = some (.cells #[.int .i64 0, .string ⟨#[]⟩, .int .i64 0, .int .i64 0, .string ⟨#[]⟩, .string ⟨#[]⟩] 58 (0, 0)) := hK8.blk (by repeat (first | (with_reducible exact hR7) | refine setO ?_ (by omega))) (by omega) (by decide); have hA8 : W8.heap[w.heap.size + 1]? = some (.cells #[.int .i64 2, .string av, .int .i64 aa, .int .i64 ab, .string T1, .string T2] 58 (0, 0)) := hK8.blk (heap_setCell_same _ _ 5 _ _ _ (hA7)) (by omega) (by decide); have hK8a : Keep b [9, 39] w W8 := Keep.trans (by (repeat (first | (with_reducible exact hK7a) | (refine Keep.set ?_ _ (by first | exact Or.inl rfl | exact Or.inr (Nat.le_refl _) | (right; omega))) | (refine Keep.alloc ?_ _)))) (hK8.mono (by simp)); obtain ⟨d0, d1, d2, d3, d4, d5, df, dl⟩ := row6 hA8; have ty8 := ty_of hA8; obtain ⟨b0, b1, b2, b3, b4, b5, bf, bl⟩ := row6 hR8)) | (go_at_call 62; refine (g2 _ ?gg3).mono ?_; (case gg3 => (repeat (first | (with_reducible exact hG2) | (refine Px.setT ?_ _ (by omega) (by (try simp only [ty_set]); assumption) (by decide) (by decide))))); rintro e9 W3 ⟨rfl, ⟨v3, hG3⟩, hK3⟩; have hR3 : W3.heap[w.heap.size]? = some (.cells #[.int .i64 0, .string ⟨#[]⟩, .int .i64 0, .int .i64 0, .string ⟨#[]⟩, .string ⟨#[]⟩] 58 (0, 0)) := hK3.blk (by repeat (first | (with_reducible exact hR2) | refine setO ?_ (by omega))) (by omega) (by decide); have hA3 : W3.heap[w.heap.size + 1]? = some (.cells #[.int .i64 2, .string ⟨#[]⟩, .int .i64 0, .int .i64 0, .string ⟨#[]⟩, .string ⟨#[]⟩] 58 (0, 0)) := hK3.blk (heap_setCell_same _ _ 0 _ _ _ (hA2)) (by omega) (by decide); have hK3a : Keep b [9, 39] w W3 := Keep.trans (by (repeat (first | (with_reducible exact hK2a) | (refine Keep.set ?_ _ (by first | exact Or.inl rfl | exact Or.inr (Nat.le_refl _) | (right; omega))) | (refine Keep.alloc ?_ _)))) (hK3.mono (by simp)); obtain ⟨d0, d1, d2, d3, d4, d5, df, dl⟩ := row6 hA3; have ty3 := ty_of hA3) | (go_at_call 88; first | (with_reducible refine (g4 v3 _ ?gg5).mono ?_; (case gg5 => (repeat (first | (with_reducible exact hG4) | (refine Px.setT ?_ _ (by omega) (by (try simp only [ty_set]); assumption) (by decide) (by decide))))); rintro e9 W5 ⟨rfl, ⟨t5, hG5⟩, hK5⟩; have hR5 : W5.heap[w.heap.size]? = some (.cells #[.int .i64 0, .string ⟨#[]⟩, .int .i64 0, .int .i64 0, .string ⟨#[]⟩, .string ⟨#[]⟩] 58 (0, 0)) := hK5.blk (by repeat (first | (with_reducible exact hR4) | refine setO ?_ (by omega))) (by omega) (by decide); have hA5 : W5.heap[w.heap.size + 1]? = some (.cells #[.int .i64 2, .string av, .int .i64 aa, .int .i64 ab, .string ⟨#[]⟩, .string ⟨#[]⟩] 58 (0, 0)) := hK5.blk (hA4) (by omega) (by decide); have hK5a : Keep b [9, 39] w W5 := Keep.trans (by (repeat (first | (with_reducible exact hK4a) | (refine Keep.set ?_ _ (by first | exact Or.inl rfl | exact Or.inr (Nat.le_refl _) | (right; omega))) | (refine Keep.alloc ?_ _)))) hK5; obtain ⟨d0, d1, d2, d3, d4, d5, df, dl⟩ := row6 hA5; have ty5 := ty_of hA5) | (with_reducible refine (g6 v3 t5 _ ?gg7).mono ?_; (case gg7 => (repeat (first | (with_reducible exact hG6) | (refine Px.setT ?_ _ (by omega) (by (try simp only [ty_set]); assumption) (by decide) (by decide))))); rintro e9 W7 ⟨rfl, ⟨t7, hG7⟩, hK7⟩; have hR7 : W7.heap[w.heap.size]? = some (.cells #[.int .i64 0, .string ⟨#[]⟩, .int .i64 0, .int .i64 0, .string ⟨#[]⟩, .string ⟨#[]⟩] 58 (0, 0)) := hK7.blk (by repeat (first | (with_reducible exact hR6) | refine setO ?_ (by omega))) (by omega) (by decide); have hA7 : W7.heap[w.heap.size + 1]? = some (.cells #[.int .i64 2, .string av, .int .i64 aa, .int .i64 ab, .string T1, .string ⟨#[]⟩] 58 (0, 0)) := hK7.blk (hA6) (by omega) (by decide); have hK7a : Keep b [9, 39] w W7 := Keep.trans (by (repeat (first | (with_reducible exact hK6a) | (refine Keep.set ?_ _ (by first | exact Or.inl rfl | exact Or.inr (Nat.le_refl _) | (right; omega))) | (refine Keep.alloc ?_ _)))) hK7; obtain ⟨d0, d1, d2, d3, d4, d5, df, dl⟩ := row6 hA7; have ty7 := ty_of hA7)))
      refine bodyPost_ret (v := .agg #[.int .i64 2, .string av, .int .i64 aa, .int .i64 ab, .string T1, .string T2]) (by simp only [results, Try.results55]; go_simp) rfl ⟨rfl, ?_⟩
      have t1 := ty_of hR8
      have t2 := ty_of hA8
      refine ⟨⟨v3, t7, ?_⟩, ?_⟩
      · (repeat (first | (with_reducible exact hG8) | (refine Px.setT ?_ _ (by omega) (by (try simp only [ty_set]); assumption) (by decide) (by decide))))
      · (repeat (first | (with_reducible exact hK8a) | (refine Keep.set ?_ _ (by first | exact Or.inl rfl | exact Or.inr (Nat.le_refl _) | (right; omega))) | (refine Keep.alloc ?_ _)))
    | false =>
      rw [hd] at f1
      simp only [if_false, Bool.false_eq_true]
      have k1 := hk.took hL 4 retS
      have g1 := fun (W : World) (hB : Below w.heap.size w W) => eat_any (h.below hB) hk.i hL 4 retS
      have g2 := fun (W : World) (h2 : Px b L lv vv tv bv W _) => eat_any h2 k1.i hL 3 (st [59])
      clear k1 hk h hd htg
      generalize tokn L r 4 retS = u1 at g1
      generalize took L r 4 retS = r1 at g1 g2 ⊢
      generalize tokn L r1 3 (st [59]) = u2 at g2
      generalize took L r1 3 (st [59]) = r2 at g2 ⊢
      go_enter Try.func55, Try.ntmps55
      go_wp2_with (first | (go_at_call 27; first | (with_reducible refine' Calls.aft _ _ (f0 _ hB1) _; rotate_left 2; (exact Below.refl _ _; rfl); intro x1; have hle := After.le x1; (try simp at hle)) | (with_reducible refine' Calls.aft _ _ (f1 _ (nextB x1.below hB1)) _; rotate_left 2; (exact Below.refl _ _; rfl); intro x2; have hle := After.le x2; (try simp at hle))) | (go_at_call 33; first | (with_reducible refine (g1 _ (nextB x2.below (nextB x1.below hB1))).mono ?_; rintro e9 W2 ⟨rfl, hG2, hK2⟩; have hR2 := hK2.blk (blkN x2.below (blkN x1.below hR1)) (by omega) (by decide); have hA2 := hK2.blk (blkN x2.below (blkN x1.below hA1)) (by omega) (by decide); have hK2a := ((hK1.next x1.below).next x2.below).trans (hK2.mono (T' := [9, 39]) (by simp)); obtain ⟨d0, d1, d2, d3, d4, d5, df, dl⟩ := row6 hA2; have ty2 := ty_of hA2) | (with_reducible refine (g2 _ ?gg3).mono ?_; (case gg3 => (repeat (first | (with_reducible exact hG2) | (refine Px.setT ?_ _ (by omega) (by (try simp only [ty_set]); assumption) (by decide) (by decide))))); rintro e9 W3 ⟨rfl, hG3, hK3⟩; have hR3 : W3.heap[w.heap.size]? = some (.cells #[.int .i64 0, .string ⟨#[]⟩, .int .i64 0, .int .i64 0, .string ⟨#[]⟩, .string ⟨#[]⟩] 58 (0, 0)) := hK3.blk (by repeat (first | (with_reducible exact hR2) | refine setO ?_ (by omega))) (by omega) (by decide); have hA3 : W3.heap[w.heap.size + 1]? = some (.cells #[.int .i64 3, .string ⟨#[]⟩, .int .i64 0, .int .i64 0, .string ⟨#[]⟩, .string ⟨#[]⟩] 58 (0, 0)) := hK3.blk (heap_setCell_same _ _ 0 _ _ _ (hA2)) (by omega) (by decide); have hK3a : Keep b [9, 39] w W3 := Keep.trans (by (repeat (first | (with_reducible exact hK2a) | (refine Keep.set ?_ _ (by first | exact Or.inl rfl | exact Or.inr (Nat.le_refl _) | (right; omega))) | (refine Keep.alloc ?_ _)))) (hK3.mono (by simp)); obtain ⟨d0, d1, d2, d3, d4, d5, df, dl⟩ := row6 hA3; have ty3 := ty_of hA3; obtain ⟨b0, b1, b2, b3, b4, b5, bf, bl⟩ := row6 hR3)))
      refine bodyPost_ret (v := .agg #[.int .i64 3, .string ⟨#[]⟩, .int .i64 0, .int .i64 0, .string ⟨#[]⟩, .string ⟨#[]⟩]) (by simp only [results, Try.results55]; go_simp) rfl ⟨rfl, ?_⟩
      have t1 := ty_of hR3
      have t2 := ty_of hA3
      refine ⟨⟨vv, tv, ?_⟩, ?_⟩
      · (repeat (first | (with_reducible exact hG3) | (refine Px.setT ?_ _ (by omega) (by (try simp only [ty_set]); assumption) (by decide) (by decide))))
      · (repeat (first | (with_reducible exact hK3a) | (refine Keep.set ?_ _ (by first | exact Or.inl rfl | exact Or.inr (Nat.le_refl _) | (right; omega))) | (refine Keep.alloc ?_ _)))
end

end Go.Proofs.Ytmnplnhblniimaa.Gr
