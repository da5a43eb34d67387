/- THE PAGE'S READER: WALKS of Label, Atom and Expr. -/
import Derived.Test.YtmnplnhblniimaaPgb
namespace Go.Proofs.Ytmnplnhblniimaa.Gr
set_option linter.unusedVariables false
set_option linter.unusedSimpArgs false
open Go Go.RowKit

section
variable {b : Nat} {L : List Tok} {lv vv tv bv : Value} {w : World} {r : R}

set_option maxRecDepth 100000 in
set_option maxHeartbeats 1000000 in
theorem plabel_any (h : Px b L lv vv tv bv w r) (hk : Ok L r) (hL : Lok L) (htl : r.tg.length ≤ 100000) :
    Calls Try.prog 88 #[.pointer (some ⟨b, 0, none⟩)] w fun e w' => e = .returned (.string (varS L r)) ∧ (∃ t6, Px b L lv vv t6 bv w' (lblR L r)) ∧ Keep b [9, 39] w w' := by
  obtain ⟨i0, hi, hz0, hz1, hz2⟩ := info_parts t_info
  have f0 := eat_any h hk.i hL 1 (st [])
  have hV := (took_vs L r 1 (st [])).2.1
  unfold lblR varS
  generalize took L r 1 (st []) = q at f0 hV ⊢
  have yl := lt_blk h.box
  obtain ⟨vp, vc, rfl⟩ := own_len h.rows.t
  generalize tokn L r 1 (st []) = t at f0 ⊢
  obtain ⟨tk, tp, ts, tn⟩ := t
  obtain ⟨i, e, p, n, vs, tg, bk⟩ := q
  simp only at *
  subst hV
  clear hk h
  generalize r.tg = tg at f0 htl ⊢
  go_enter Try.func88, Try.ntmps88
  go_wp2_with (go_at_call 33; refine f0.mono ?_; rintro e9 W2 ⟨rfl, hG2, hK2⟩; obtain ⟨y0, y1, y2, y3, y4, y5, y6, y7, yf, yl2⟩ := row8 hG2.box)
  have hG3 := hG2.below ((Below.refl _ _).alloc (Nat.le_refl _) (.cells #[.int .i64 tk, .int .i64 tp, .string ts, .int .i64 tn] 39))
  have hG5 := (hG3.below ((Below.refl _ _).alloc (Nat.le_refl _) (.cells #[.int .i64 tk, .int .i64 tp, .string ts, .int .i64 tn] 39))).below (Below.refl _ _).drew
  have hT5 := blkN (Below.refl _ _).drew (blkN ((Below.refl _ _).alloc (Nat.le_refl _) (.cells #[.int .i64 tk, .int .i64 tp, .string ts, .int .i64 tn] 39)) (heap_alloc_new W2 (.cells #[.int .i64 tk, .int .i64 tp, .string ts, .int .i64 tn] 39)))
  have hK5 := (((hK2.mono (T' := [9, 39]) (by simp)).alloc (.cells #[.int .i64 tk, .int .i64 tp, .string ts, .int .i64 tn] 39)).alloc (.cells #[.int .i64 tk, .int .i64 tp, .string ts, .int .i64 tn] 39)).drew
  have hne : (Value.slice vp tg.length vc).ownBlock ≠ some W2.heap.size := fun he => Nat.lt_irrefl _ (hG2.rows.t.lt _ he).2
  (go_region_law (first | (refine step_append_tells rfl (.tmp 10) (.tmp 12) 36 rfl (b + 1) 39 i0 (.agg #[.int .i64 0, .int .i64 0, .string ⟨#[]⟩, .int .i64 0]) 4 40 Try.underlying36 hi hz0 hz1 hz2 rfl (by decide) _ tg.length (Tk.cells tg) rfl hG5.rows.t _ 1 1 [.int .i64 tk, .int .i64 tp, .string ts, .int .i64 tn] rfl rfl ?u10 (by intro u hu; simp at hu; rcases hu with rfl | rfl | rfl | rfl <;> rfl) (by unfold maxLen; omega) (by omega) (le_of_lt_blk hG5.box) (by decide) ?_; (case u10 => exact news_at (by simp)); intro v6 W6 ho6 hg6 hv6; have hG6 := hG5.growT hg6 ⟨tk, tp, ts, tn⟩ ho6 hv6; have hK6 := hK5.grown hg6 hG5.rows.t (Nat.lt_succ_self _) (by simp); have hT6 := (hg6.block _ (lt_blk hT5) (fun he => hne he.symm)).trans hT5; obtain ⟨p6, c6, rfl⟩ := own_len ho6; obtain ⟨z0, z1, z2, z3, zf, zl⟩ := row4 hT6; obtain ⟨x0, x1, x2, x3, x4, x5, x6, x7, xf, xl⟩ := row8 (keepB hg6 hG5.box hG5.rows.t))))
  all_goals (
    go_wp2_with fail
    refine bodyPost_ret (v := .string ts) (by simp only [results, Try.results88]; go_simp) rfl ⟨rfl, ?_⟩
    exact ⟨⟨_, hG6⟩, hK6.set _ (.inl rfl)⟩)

set_option maxRecDepth 100000 in
set_option maxHeartbeats 2000000 in
theorem patom_any (h : Px b L lv vv tv bv w r) (hk : Ok L r) (hL : Lok L) :
    Calls Try.prog 62 #[.pointer (some ⟨b, 0, none⟩)] w fun e w' => e = .returned (.agg #[.string (atomA L r).v, .int .i64 (atomA L r).a, .int .i64 (atomA L r).b]) ∧ (∃ v6, Px b L lv v6 tv bv w' (atomR L r)) ∧ Keep b [9] w w' := by
  have f0 := fun (W : World) (hB : Below w.heap.size w W) => pis_any (h.below hB) hk.i 1 (st [])
  have f1 := fun (W : World) (hB : Below w.heap.size w W) => pis_any (h.below hB) hk.i 3 (st [40])
  have f2 := fun (W : World) (hB : Below w.heap.size w W) => pvar_any (h.below hB) hk hL
  have f3 := fun (W : World) (r2 : R) (h2 : Px b L lv vv tv bv W r2) (k2 : Ok L r2) => ppart_any h2 k2 hL
  have f4 := fun (W : World) (r2 : R) (h2 : Px b L lv vv tv bv W r2) (k2 : Ok L r2) (s : ByteArray) => eat_any h2 k2.i hL 3 s
  have yl := lt_blk h.box
  have hR0 := heap_alloc_new w (.cells #[.string ⟨#[]⟩, .int .i64 0, .int .i64 0] 46)
  have hB0 : Below w.heap.size w (w.alloc (.cells #[.string ⟨#[]⟩, .int .i64 0, .int .i64 0] 46)) := (Below.refl _ _).alloc (Nat.le_refl _) _
  unfold atomA atomR
  cases hc : isB L r 1 (st []) with
  | true =>
    rw [hc] at f0
    simp only [if_true]
    clear f1 f3 f4 hc
    generalize varS L r = vs at f2 ⊢
    generalize varR L r = r2 at f2 ⊢
    go_enter Try.func62, Try.ntmps62
    go_wp2_with (first | (go_at_call 27; refine' Calls.aft _ _ (f0 _ hB0) _; rotate_left 2; (exact Below.refl _ _; rfl); intro x1; have hle := After.le x1; (try simp at hle)) | (go_at_call 87; refine (f2 _ (nextB x1.below hB0)).mono ?_; rintro e9 W2 ⟨rfl, ⟨v6, hG2⟩, hK2⟩; have hR2 := hK2.blk (blkN x1.below hR0) (by omega) (by decide); obtain ⟨b0, b1, b2, bf, bl⟩ := row3 hR2))
    refine bodyPost_ret (v := .agg #[.string vs, .int .i64 0, .int .i64 0]) (by simp only [results, Try.results62]; go_simp) rfl ⟨rfl, ?_⟩
    have t1 := ty_of hR2
    have hK9 := (Keep.of_below (b := b) (T := [9]) (nextB x1.below hB0)).trans hK2
    refine ⟨⟨v6, ?_⟩, ?_⟩
    · (repeat (first | (with_reducible exact hG2) | (refine Px.setT ?_ _ (by omega) (by (try simp only [ty_set]); assumption) (by decide) (by decide))))
    · (repeat (first | (with_reducible exact hK9) | (refine Keep.set ?_ _ (by first | exact Or.inl rfl | exact Or.inr (Nat.le_refl _) | (right; omega))) | (refine Keep.alloc ?_ _)))
  | false =>
    rw [hc] at f0
    simp only [if_false, Bool.false_eq_true]
    clear f2 hc
    cases hd : isB L r 3 (st [40]) with
    | true =>
      rw [hd] at f1
      simp only [if_true]
      have k1 := hk.took hL 3 (st [40])
      have k2 := k1.part hL
      have k3 := k2.took hL 3 (st [44])
      have k4 := k3.part hL
      have g1 := fun (W : World) (hB : Below w.heap.size w W) => f4 W r (h.below hB) hk (st [40])
      have g2 := fun (W : World) (h2 : Px b L lv vv tv bv W _) => f3 W _ h2 k1
      have g3 := fun (W : World) (h2 : Px b L lv vv tv bv W _) => f4 W _ h2 k2 (st [44])
      have g4 := fun (W : World) (h2 : Px b L lv vv tv bv W _) => f3 W _ h2 k3
      have g5 := fun (W : World) (h2 : Px b L lv vv tv bv W _) => f4 W _ h2 k4 (st [41])
      clear f3 f4 hd k1 k2 k3 k4 hk
      generalize tokn L r 3 (st [40]) = e1 at g1
      generalize took L r 3 (st [40]) = r1 at g1 g2 g3 g4 g5 ⊢
      generalize partN L r1 = n1 at g2 ⊢
      generalize partR L r1 = r2 at g2 g3 g4 g5 ⊢
      generalize tokn L r2 3 (st [44]) = e2 at g3
      generalize took L r2 3 (st [44]) = r3 at g3 g4 g5 ⊢
      generalize partN L r3 = n2 at g4 ⊢
      generalize partR L r3 = r4 at g4 g5 ⊢
      generalize tokn L r4 3 (st [41]) = e3 at g5
      generalize took L r4 3 (st [41]) = r5 at g5 ⊢
      clear h
      go_enter Try.func62, Try.ntmps62
      go_wp2_with (first | (go_at_call 27; first | (with_reducible refine' Calls.aft _ _ (f0 _ hB0) _; rotate_left 2; (exact Below.refl _ _; rfl); intro x1; have hle := After.le x1; (try simp at hle)) | ((with_reducible refine' Calls.aft _ _ (f1 _ (nextB x1.below hB0)) _; rotate_left 2; (exact Below.refl _ _; rfl); intro x2; have hle := After.le x2; (try simp at hle)); have hA0 := heap_alloc_new x2.val (.cells #[.string ⟨#[]⟩, .int .i64 0, .int .i64 0] 46); have hx2 := nextB x2.below (nextB x1.below hB0); have hxs := hx2.size; have hR1 := blkN ((Below.refl _ _).alloc (Nat.le_refl _) (.cells #[.string ⟨#[]⟩, .int .i64 0, .int .i64 0] 46)) (blkN x2.below (blkN x1.below hR0)); have hlr := lt_blk (blkN x2.below (blkN x1.below hR0)); have hxB : Below w.heap.size w (x2.val.alloc (.cells #[.string ⟨#[]⟩, .int .i64 0, .int .i64 0] 46)) := nextB ((Below.refl _ _).alloc (Nat.le_refl _) _) hx2)) | (go_at_call 33; first | (with_reducible refine (g1 _ hxB).mono ?_; rintro e9 W2 ⟨rfl, hG2, hK2⟩; have hR2 := hK2.blk hR1 (by omega) (by decide); have hA2 := hK2.blk hA0 (by omega) (by decide)) | (with_reducible refine (g3 _ (hG3.setT _ (by omega) (ty_of hA3) (by decide) (by decide))).mono ?_; rintro e9 W4 ⟨rfl, hG4, hK4⟩; have hR4 := hK4.blk ((heap_setCell_other _ _ _ _ (by show w.heap.size ≠ x2.val.heap.size; omega)).trans hR3) (by omega) (by decide); have hA4 : W4.heap[x2.val.heap.size]? = some (.cells #[.string ⟨#[]⟩, .int .i64 n1, .int .i64 0] 46 (0, 0)) := hK4.blk (heap_setCell_same _ _ 1 _ _ _ hA3) (by omega) (by decide)) | (with_reducible refine (g5 _ (hG5.setT _ (by omega) (ty_of hA5) (by decide) (by decide))).mono ?_; rintro e9 W6 ⟨rfl, hG6, hK6⟩; have hR6 := hK6.blk ((heap_setCell_other _ _ _ _ (by show w.heap.size ≠ x2.val.heap.size; omega)).trans hR5) (by omega) (by decide); have hA6 : W6.heap[x2.val.heap.size]? = some (.cells #[.string ⟨#[]⟩, .int .i64 n1, .int .i64 n2] 46 (0, 0)) := hK6.blk (heap_setCell_same _ _ 2 _ _ _ hA5) (by omega) (by decide); obtain ⟨a0, a1, a2, af, al⟩ := row3 hA6; obtain ⟨b0, b1, b2, bf, bl⟩ := row3 hR6)) | (go_at_call 91; first | (with_reducible refine (g2 _ hG2).mono ?_; rintro e9 W3 ⟨rfl, hG3, hK3⟩; have hR3 := hK3.blk hR2 (by omega) (by decide); have hA3 := hK3.blk hA2 (by omega) (by decide); obtain ⟨c0, c1, c2, cf, cl⟩ := row3 hA3) | (with_reducible refine (g4 _ hG4).mono ?_; rintro e9 W5 ⟨rfl, hG5, hK5⟩; have hR5 := hK5.blk hR4 (by omega) (by decide); have hA5 := hK5.blk hA4 (by omega) (by decide); obtain ⟨d0, d1, d2, df, dl⟩ := row3 hA5)))
      refine bodyPost_ret (v := .agg #[.string ⟨#[]⟩, .int .i64 n1, .int .i64 n2]) (by simp only [results, Try.results62]; go_simp) rfl ⟨rfl, ?_⟩
      have t1 := ty_of hR6
      have hK9 := ((((Keep.of_below (b := b) (T := [9]) hxB).trans (hK2.mono (by simp))).trans (hK3.mono (by simp)))).set (k := x2.val.heap.size) (j := 1) (.int .i64 n1) (by right; omega)
      have hK8 := ((hK9.trans (hK4.mono (by simp))).trans (hK5.mono (by simp))).set (k := x2.val.heap.size) (j := 2) (.int .i64 n2) (by right; omega)
      have hK7 := hK8.trans (hK6.mono (by simp))
      refine ⟨⟨vv, ?_⟩, ?_⟩
      · (repeat (first | (with_reducible exact hG6) | (refine Px.setT ?_ _ (by omega) (by (try simp only [ty_set]); assumption) (by decide) (by decide))))
      · (repeat (first | (with_reducible exact hK7) | (refine Keep.set ?_ _ (by first | exact Or.inl rfl | exact Or.inr (Nat.le_refl _) | (right; omega))) | (refine Keep.alloc ?_ _)))
    | false =>
      rw [hd] at f1
      simp only [if_false, Bool.false_eq_true]
      have g1 := fun (W : World) (hB : Below w.heap.size w W) => f3 W r (h.below hB) hk
      clear f3 f4 hd hk
      generalize partN L r = n1 at g1 ⊢
      generalize partR L r = r2 at g1 ⊢
      clear h
      go_enter Try.func62, Try.ntmps62
      go_wp2_with (first | (go_at_call 27; first | (with_reducible refine' Calls.aft _ _ (f0 _ hB0) _; rotate_left 2; (exact Below.refl _ _; rfl); intro x1; have hle := After.le x1; (try simp at hle)) | (with_reducible refine' Calls.aft _ _ (f1 _ (nextB x1.below hB0)) _; rotate_left 2; (exact Below.refl _ _; rfl); intro x2; have hle := After.le x2; (try simp at hle))) | (go_at_call 91; refine (g1 _ (nextB x2.below (nextB x1.below hB0))).mono ?_; rintro e9 W2 ⟨rfl, hG2, hK2⟩; have hR2 := hK2.blk (blkN x2.below (blkN x1.below hR0)) (by omega) (by decide); obtain ⟨b0, b1, b2, bf, bl⟩ := row3 hR2))
      refine bodyPost_ret (v := .agg #[.string ⟨#[]⟩, .int .i64 n1, .int .i64 0]) (by simp only [results, Try.results62]; go_simp) rfl ⟨rfl, ?_⟩
      have t1 := ty_of hR2
      have hK9 := (Keep.of_below (b := b) (T := [9]) (nextB x2.below (nextB x1.below hB0))).trans (hK2.mono (by simp))
      refine ⟨⟨vv, ?_⟩, ?_⟩
      · (repeat (first | (with_reducible exact hG2) | (refine Px.setT ?_ _ (by omega) (by (try simp only [ty_set]); assumption) (by decide) (by decide))))
      · (repeat (first | (with_reducible exact hK9) | (refine Keep.set ?_ _ (by first | exact Or.inl rfl | exact Or.inr (Nat.le_refl _) | (right; omega))) | (refine Keep.alloc ?_ _)))
end

end Go.Proofs.Ytmnplnhblniimaa.Gr
