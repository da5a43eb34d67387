/- THE PAGE'S READER: WALK of Stmt (printed by tools/gen_pgg.py). -/
import Derived.Test.YtmnplnhblniimaaPgf
namespace Go.Proofs.Ytmnplnhblniimaa.Gr
set_option linter.unusedVariables false
set_option linter.unusedSimpArgs false
open Go Go.RowKit

/-! Behind an error nothing is read. -/
theorem bad_is {L : List Tok} {r : R} (h : r.e ≠ 0) (k : Int) (s : ByteArray) : isB L r k s = false := by
  unfold isB
  have : (r.e == 0) = false := by simpa using h
  rw [this]
  rfl
theorem bad_fail {r : R} (h : r.e ≠ 0) (e p : Int) : fail r e p = r := if_neg h
theorem bad_took {L : List Tok} {r : R} (h : r.e ≠ 0) (k : Int) (s : ByteArray) : took L r k s = r := by
  unfold took
  rw [bad_is h, if_neg (by decide), bad_fail h]
theorem bad_var {L : List Tok} {r : R} (h : r.e ≠ 0) : varR L r = r := by
  unfold varR
  rw [bad_took h, if_neg h]
theorem bad_part {L : List Tok} {r : R} (h : r.e ≠ 0) : partR L r = r := by
  unfold partR less
  simp only [bad_is h, Bool.false_eq_true, if_false, bad_took h]
  split
  · exact bad_fail h _ _
  · rfl
theorem bad_atom {L : List Tok} {r : R} (h : r.e ≠ 0) : atomR L r = r := by
  unfold atomR
  rw [bad_is h, bad_is h, if_neg (by decide), if_neg (by decide), bad_part h]
theorem bad_expr {L : List Tok} {r : R} (h : r.e ≠ 0) : exprR L r = r := by
  unfold exprR
  simp only [bad_is h, bad_atom h, Bool.false_eq_true, if_false]
theorem bad_stmt {L : List Tok} {r : R} (h : (cntR L r).e ≠ 0) : stmtR L r = cntR L r := by
  unfold stmtR
  split
  · rw [bad_var h, bad_took h, bad_expr h, bad_took h]
  · split
    · rw [bad_took h, bad_var h, bad_took h]
    · rw [bad_took h, bad_atom h, bad_took h]

/-- What Stmt hands back. -/
def StOk (b : Nat) (L : List Tok) (lv tv bv : Value) (w : World) (r : R) (e : Ending) (w' : World) : Prop := ∃ S : St, e = .returned (.agg #[.int .i64 S.k, .string S.v, .int .i64 S.e.op, .string S.e.x.v, .int .i64 S.e.x.a, .int .i64 S.e.x.b, .string S.e.y.v, .int .i64 S.e.y.a, .int .i64 S.e.y.b]) ∧
  ((stmtR L r).e = 0 → S = stmtS L r) ∧ (∃ v6, Px b L lv v6 tv bv w' (stmtR L r)) ∧ Keep b [9] w w'

section
variable {b : Nat} {L : List Tok} {lv vv tv bv : Value} {w : World} {r : R}
set_option maxRecDepth 100000 in
set_option maxHeartbeats 4000000 in
theorem pstmt_any (h : Px b L lv vv tv bv w r) (hk : Ok L r) (hL : Lok L) (hn0 : 0 ≤ r.n) (hn1 : r.n ≤ 100000) (hs : isSt L r = true) :
    Calls Try.prog 54 #[.pointer (some ⟨b, 0, none⟩)] w (StOk b L lv tv bv w r) := by
  have he0 := isSt_e hs
  obtain ⟨lp, lc, rfl⟩ : ∃ p c, lv = .slice p L.length c := by obtain ⟨_, _, p, c, hv, _⟩ := h.rows.l; exact ⟨p, c, hv⟩
  have yl := lt_blk h.box
  have hz : (w.setCell ⟨b, 4, none⟩ (.int .i64 (r.n + 1))).heap.size = w.heap.size := by simp [World.setCell]
  obtain ⟨hB1, hR1s, hA1s⟩ := two (w.setCell ⟨b, 4, none⟩ (.int .i64 (r.n + 1))) (.cells #[.int .i64 0, .string ⟨#[]⟩, .int .i64 0, .string ⟨#[]⟩, .int .i64 0, .int .i64 0, .string ⟨#[]⟩, .int .i64 0, .int .i64 0] 76) (.cells #[.int .i64 0, .string ⟨#[]⟩, .int .i64 0, .string ⟨#[]⟩, .int .i64 0, .int .i64 0, .string ⟨#[]⟩, .int .i64 0, .int .i64 0] 76)
  rw [hz] at hR1s hA1s
  have hG1 := (h.put4 (r.n + 1)).below hB1
  obtain ⟨y0, y1, y2, y3, y4, y5, y6, y7, yf, yl1⟩ := row8 h.box
  have hK1s := (((Keep.refl b [9] w).set (j := 4) (.int .i64 (r.n + 1)) (.inl rfl)).alloc (.cells #[.int .i64 0, .string ⟨#[]⟩, .int .i64 0, .string ⟨#[]⟩, .int .i64 0, .int .i64 0, .string ⟨#[]⟩, .int .i64 0, .int .i64 0] 76)).alloc (.cells #[.int .i64 0, .string ⟨#[]⟩, .int .i64 0, .string ⟨#[]⟩, .int .i64 0, .int .i64 0, .string ⟨#[]⟩, .int .i64 0, .int .i64 0] 76)
  by_cases q0 : 512 < r.n + 1
  · have hcn : cntR L r = fail { r with n := r.n + 1 } 6 (now L r).pos := by unfold cntR; rw [if_pos q0]
    have kc := hk.cnt
    have hqe : (cntR L r).e ≠ 0 := by
      rw [hcn]
      unfold fail
      rw [if_pos (by exact he0)]
      exact (by decide : (6 : Int) ≠ 0)
    have hE3 := bad_stmt hqe
    obtain ⟨a, off, c, hlv, k0, k1, k2, k3⟩ := h.rows.tok hk.i
    cases hlv
    have hab : a < b := by have := h.rows.ll ⟨a, off, none⟩ _ _ rfl; have h7 : (⟨a, off, none⟩ : Addr).block = a := rfl; omega
    have hab1 : b ≠ a := by omega
    have hi2 : (r.i : Int) < L.length := by have := hk.i; omega
    have kl := World.block_lt_of_cell? _ _ k0
    have fb := bad_any (hG1.below (Below.refl _ _).drew) 6 (now L r).pos
    rw [← hcn] at fb
    have hRd := blkN (Below.refl _ _).drew hR1s
    have hAd := blkN (Below.refl _ _).drew hA1s
    have hKd := hK1s.drew
    clear hcn h
    generalize cntR L r = q at fb kc hqe hE3
    have g0 := fun (W : World) (h2 : Px b L (.slice (some ⟨a, off, none⟩) L.length lc) vv tv bv W q) (k : Int) (s : ByteArray) => pis_any h2 kc.i k s
    have g1 := fun (W : World) (h2 : Px b L (.slice (some ⟨a, off, none⟩) L.length lc) vv tv bv W q) => eat_any h2 kc.i hL 4 outS
    have g2 := fun (W : World) (h2 : Px b L (.slice (some ⟨a, off, none⟩) L.length lc) vv tv bv W q) => patom_any h2 kc hL
    have g3 := fun (v : Value) (W : World) (h2 : Px b L (.slice (some ⟨a, off, none⟩) L.length lc) v tv bv W q) => eat_any h2 kc.i hL 3 (st [59])
    simp only [bad_is hqe] at g0
    simp only [bad_took hqe] at g1 g3
    simp only [bad_atom hqe] at g2
    generalize tokn L q 4 outS = u1 at g1
    generalize tokn L q 3 (st [59]) = u2 at g3
    generalize atomA L q = E at g2
    obtain ⟨ev, ea, eb⟩ := E
    simp only at g2
    have hEV := And.intro True.intro (show (stmtR L r).e = 0 → (⟨3, st [], ⟨0, ⟨ev, ea, eb⟩, a0⟩⟩ : St) = stmtS L r from fun h0 => absurd (hE3 ▸ h0) hqe)
    have hE4 : Hid (stmtR L r = q) := hE3
    clear hE3
    go_enter Try.func54, Try.ntmps54
    go_wp2_with fail
    (go_region_law (first | (refine stepK rfl 53 #[.pointer (some ⟨b, 0, none⟩), .int .i64 6, .int .i64 (now L r).pos] (.tuple #[]) ?hopf fb ?_; (case hopf => (go_simp; done)); intro Wb hWb; obtain ⟨hGb, hKb⟩ := hWb; have hRb := hKb.blk hRd (by omega) (by simp); have hAb := hKb.blk hAd (by omega) (by simp); have hKb1 := hKd.trans (hKb.mono (by simp)))))
    all_goals (
      go_wp2_with (first | (go_at_call 27; first | ((with_reducible refine' Calls.aft _ _ (g0 _ hGb _ _) _; rotate_left 2; (exact Below.refl _ _; rfl); intro x1; have hle := After.le x1; (try simp at hle))) | ((with_reducible refine' Calls.aft _ _ (g0 _ (hGb.below x1.below) _ _) _; rotate_left 2; (exact Below.refl _ _; rfl); intro x2; have hle := After.le x2; (try simp at hle)); have hGx := (hGb.below x1.below).below x2.below; have hAx := blkN x2.below (blkN x1.below hAb); have hRx := blkN x2.below (blkN x1.below hRb); have hKx := (hKb1.next x1.below).next x2.below; obtain ⟨d0, d1, d2, d3, d4, d5, d6, d7, d8, df, dl⟩ := row9 hAx; have tyx := ty_of hAx)) | (go_at_call 62; refine (g2 _ ?gg3).mono ?_; (case gg3 => (repeat (first | (with_reducible exact hG2) | (refine Px.setT ?_ _ (by omega) (by (try simp only [ty_set]); assumption) (by decide) (by decide))))); rintro e9 W3 ⟨rfl, ⟨v3, hG3⟩, hK3⟩; have hR3 : W3.heap[w.heap.size]? = some (.cells #[.int .i64 0, .string ⟨#[]⟩, .int .i64 0, .string ⟨#[]⟩, .int .i64 0, .int .i64 0, .string ⟨#[]⟩, .int .i64 0, .int .i64 0] 76 (0, 0)) := hK3.blk (by repeat (first | (with_reducible exact hR2) | refine setO ?_ (by omega))) (by omega) (by decide); have hA3 : W3.heap[w.heap.size + 1]? = some (.cells #[.int .i64 3, .string ⟨#[]⟩, .int .i64 0, .string ⟨#[]⟩, .int .i64 0, .int .i64 0, .string ⟨#[]⟩, .int .i64 0, .int .i64 0] 76 (0, 0)) := hK3.blk (heap_setCell_same _ _ 0 _ _ _ (hA2)) (by omega) (by decide); have hK3a : Keep b [9] w W3 := Keep.trans (by (repeat (first | (with_reducible exact hK2a) | (refine Keep.set ?_ _ (by first | exact Or.inl rfl | exact Or.inr (Nat.le_refl _) | (right; omega))) | (refine Keep.alloc ?_ _)))) hK3; obtain ⟨d0, d1, d2, d3, d4, d5, d6, d7, d8, df, dl⟩ := row9 hA3; have ty3 := ty_of hA3) | (go_at_call 33; first | (with_reducible refine (g1 _ ?gg2).mono ?_; (case gg2 => (repeat (first | (with_reducible exact hGx) | (refine Px.setT ?_ _ (by omega) (by (try simp only [ty_set]); assumption) (by decide) (by decide))))); rintro e9 W2 ⟨rfl, hG2, hK2⟩; have hR2 : W2.heap[w.heap.size]? = some (.cells #[.int .i64 0, .string ⟨#[]⟩, .int .i64 0, .string ⟨#[]⟩, .int .i64 0, .int .i64 0, .string ⟨#[]⟩, .int .i64 0, .int .i64 0] 76 (0, 0)) := hK2.blk (by repeat (first | (with_reducible exact hRx) | refine setO ?_ (by omega))) (by omega) (by decide); have hA2 : W2.heap[w.heap.size + 1]? = some (.cells #[.int .i64 0, .string ⟨#[]⟩, .int .i64 0, .string ⟨#[]⟩, .int .i64 0, .int .i64 0, .string ⟨#[]⟩, .int .i64 0, .int .i64 0] 76 (0, 0)) := hK2.blk (hAx) (by omega) (by decide); have hK2a : Keep b [9] w W2 := Keep.trans (by (repeat (first | (with_reducible exact hKx) | (refine Keep.set ?_ _ (by first | exact Or.inl rfl | exact Or.inr (Nat.le_refl _) | (right; omega))) | (refine Keep.alloc ?_ _)))) (hK2.mono (by simp)); obtain ⟨d0, d1, d2, d3, d4, d5, d6, d7, d8, df, dl⟩ := row9 hA2; have ty2 := ty_of hA2) | (with_reducible refine (g3 v3 _ ?gg4).mono ?_; (case gg4 => (repeat (first | (with_reducible exact hG3) | (refine Px.setT ?_ _ (by omega) (by (try simp only [ty_set]); assumption) (by decide) (by decide))))); rintro e9 W4 ⟨rfl, hG4, hK4⟩; have hR4 : W4.heap[w.heap.size]? = some (.cells #[.int .i64 0, .string ⟨#[]⟩, .int .i64 0, .string ⟨#[]⟩, .int .i64 0, .int .i64 0, .string ⟨#[]⟩, .int .i64 0, .int .i64 0] 76 (0, 0)) := hK4.blk (by repeat (first | (with_reducible exact hR3) | refine setO ?_ (by omega))) (by omega) (by decide); have hA4 : W4.heap[w.heap.size + 1]? = some (.cells #[.int .i64 3, .string ⟨#[]⟩, .int .i64 0, .string ev, .int .i64 ea, .int .i64 eb, .string ⟨#[]⟩, .int .i64 0, .int .i64 0] 76 (0, 0)) := hK4.blk (heap_setCell_same _ _ 5 _ _ _ (heap_setCell_same _ _ 4 _ _ _ (heap_setCell_same _ _ 3 _ _ _ (hA3)))) (by omega) (by decide); have hK4a : Keep b [9] w W4 := Keep.trans (by (repeat (first | (with_reducible exact hK3a) | (refine Keep.set ?_ _ (by first | exact Or.inl rfl | exact Or.inr (Nat.le_refl _) | (right; omega))) | (refine Keep.alloc ?_ _)))) (hK4.mono (by simp)); obtain ⟨d0, d1, d2, d3, d4, d5, d6, d7, d8, df, dl⟩ := row9 hA4; have ty4 := ty_of hA4; obtain ⟨b0, b1, b2, b3, b4, b5, b6, b7, b8, bf, bl⟩ := row9 hR4)))
      have hE5 : stmtR L r = q := hE4
      have hG5s := hG4
      rw [← hE5] at hG5s
      refine bodyPost_ret (v := .agg #[.int .i64 3, .string ⟨#[]⟩, .int .i64 0, .string ev, .int .i64 ea, .int .i64 eb, .string ⟨#[]⟩, .int .i64 0, .int .i64 0]) (by simp only [results, Try.results54]; go_simp) rfl ?_
      unfold StOk
      have t1 := ty_of hR4
      have t2 := ty_of hA4
      refine ⟨⟨3, st [], ⟨0, ⟨ev, ea, eb⟩, a0⟩⟩, rfl, hEV.2, ⟨v3, ?_⟩, ?_⟩
      · (repeat (first | (with_reducible exact hG5s) | (refine Px.setT ?_ _ (by omega) (by (try simp only [ty_set]); assumption) (by decide) (by decide))))
      · (repeat (first | (with_reducible exact hK4a) | (refine Keep.set ?_ _ (by first | exact Or.inl rfl | exact Or.inr (Nat.le_refl _) | (right; omega))) | (refine Keep.alloc ?_ _))))
  · have hcn : cntR L r = { r with n := r.n + 1 } := by unfold cntR; rw [if_neg q0]
    have kc := hk.cnt
    rw [hcn] at kc
    have hne : ¬ (512 : Int) < r.n + 1 := q0
    have f0 := fun (W : World) (hB : Below _ _ W) => pis_any (hG1.below hB) hk.i 1 (st [])
    have f1 := fun (W : World) (hB : Below _ _ W) => pis_any (hG1.below hB) hk.i 4 inS
    have i0 : isB L { r with n := r.n + 1 } 1 (st []) = isB L r 1 (st []) := rfl
    have i1 : isB L { r with n := r.n + 1 } 4 inS = isB L r 4 inS := rfl
    rw [i0] at f0
    rw [i1] at f1
    have hE : stmtR L r = took L (if isB L r 1 (st []) then exprR L (took L (varR L (cntR L r)) 3 (st [61])) else if isB L r 4 inS then varR L (took L (cntR L r) 4 inS) else atomR L (took L (cntR L r) 4 outS)) 3 (st [59]) := rfl
    have hV : stmtS L r = if isB L r 1 (st []) then ⟨1, varS L (cntR L r), exprE L (took L (varR L (cntR L r)) 3 (st [61]))⟩ else if isB L r 4 inS then ⟨2, varS L (took L (cntR L r) 4 inS), ⟨0, a0, a0⟩⟩ else ⟨3, st [], ⟨0, atomA L (took L (cntR L r) 4 outS), a0⟩⟩ := rfl
    rw [hcn] at hE hV
    clear h i0 i1 hcn
    generalize { r with n := r.n + 1 } = q at hG1 kc f0 f1 hE hV
    cases c0 : isB L r 1 (st []) with
    | true =>
      rw [c0] at f0
      simp only [c0, if_true] at hE hV
      have g1 := fun (W : World) (h2 : Px b L (.slice lp L.length lc) vv tv bv W q) => pvar_any h2 kc hL
      have g2 := fun (v : Value) (W : World) (h2 : Px b L (.slice lp L.length lc) v tv bv W _) => eat_any h2 (kc.var hL).i hL 3 (st [61])
      have g3 := fun (v : Value) (W : World) (h2 : Px b L (.slice lp L.length lc) v tv bv W _) => pgexpr_any h2 ((kc.var hL).took hL 3 (st [61])) hL
      have g4 := fun (v : Value) (W : World) (h2 : Px b L (.slice lp L.length lc) v tv bv W _) => eat_any h2 (((kc.var hL).took hL 3 (st [61])).expr hL).i hL 3 (st [59])
      have hE2 : Hid (stmtR L r = _) := hE
      have hV2 : Hid (stmtS L r = _) := hV
      clear hE hV
      generalize varS L q = vs at g1 hV2
      generalize varR L q = r1 at g1 g2 g3 g4 hE2 hV2
      generalize tokn L r1 3 (st [61]) = u1 at g2
      generalize took L r1 3 (st [61]) = r2 at g2 g3 g4 hE2 hV2
      generalize exprE L r2 = E at g3 hV2
      generalize exprR L r2 = r3 at g3 g4 hE2
      generalize tokn L r3 3 (st [59]) = u2 at g4
      generalize took L r3 3 (st [59]) = r4 at g4 hE2
      obtain ⟨eo, ⟨ev, ea, eb⟩, ⟨gv, ga, gb⟩⟩ := E
      simp only at g3
      have hE3 : stmtR L r = r4 := hE2
      have hV3 : stmtS L r = ⟨1, vs, ⟨eo, ⟨ev, ea, eb⟩, ⟨gv, ga, gb⟩⟩⟩ := hV2
      have hEV := And.intro True.intro (fun (_ : (stmtR L r).e = 0) => hV3.symm)
      clear hE2 hV2 hV3
      have hE4 : Hid (stmtR L r = r4) := hE3
      clear hE3
      go_enter Try.func54, Try.ntmps54
      go_wp2_with (first | (go_at_call 27; first | ((with_reducible refine' Calls.aft _ _ (f0 _ (Below.refl _ _)) _; rotate_left 2; (exact Below.refl _ _; rfl); intro x1; have hle := After.le x1; (try simp at hle)); have hGx := hG1.below x1.below; have hAx := blkN x1.below hA1s; have hRx := blkN x1.below hR1s; have hKx := hK1s.next x1.below; obtain ⟨d0, d1, d2, d3, d4, d5, d6, d7, d8, df, dl⟩ := row9 hAx; have tyx := ty_of hAx)) | (go_at_call 87; refine (g1 _ ?gg2).mono ?_; (case gg2 => (repeat (first | (with_reducible exact hGx) | (refine Px.setT ?_ _ (by omega) (by (try simp only [ty_set]); assumption) (by decide) (by decide))))); rintro e9 W2 ⟨rfl, ⟨v2, hG2⟩, hK2⟩; have hR2 : W2.heap[w.heap.size]? = some (.cells #[.int .i64 0, .string ⟨#[]⟩, .int .i64 0, .string ⟨#[]⟩, .int .i64 0, .int .i64 0, .string ⟨#[]⟩, .int .i64 0, .int .i64 0] 76 (0, 0)) := hK2.blk (by repeat (first | (with_reducible exact hRx) | refine setO ?_ (by omega))) (by omega) (by decide); have hA2 : W2.heap[w.heap.size + 1]? = some (.cells #[.int .i64 1, .string ⟨#[]⟩, .int .i64 0, .string ⟨#[]⟩, .int .i64 0, .int .i64 0, .string ⟨#[]⟩, .int .i64 0, .int .i64 0] 76 (0, 0)) := hK2.blk (heap_setCell_same _ _ 0 _ _ _ (hAx)) (by omega) (by decide); have hK2a : Keep b [9] w W2 := Keep.trans (by (repeat (first | (with_reducible exact hKx) | (refine Keep.set ?_ _ (by first | exact Or.inl rfl | exact Or.inr (Nat.le_refl _) | (right; omega))) | (refine Keep.alloc ?_ _)))) hK2; obtain ⟨d0, d1, d2, d3, d4, d5, d6, d7, d8, df, dl⟩ := row9 hA2; have ty2 := ty_of hA2) | (go_at_call 33; first | (with_reducible refine (g2 v2 _ ?gg3).mono ?_; (case gg3 => (repeat (first | (with_reducible exact hG2) | (refine Px.setT ?_ _ (by omega) (by (try simp only [ty_set]); assumption) (by decide) (by decide))))); rintro e9 W3 ⟨rfl, hG3, hK3⟩; have hR3 : W3.heap[w.heap.size]? = some (.cells #[.int .i64 0, .string ⟨#[]⟩, .int .i64 0, .string ⟨#[]⟩, .int .i64 0, .int .i64 0, .string ⟨#[]⟩, .int .i64 0, .int .i64 0] 76 (0, 0)) := hK3.blk (by repeat (first | (with_reducible exact hR2) | refine setO ?_ (by omega))) (by omega) (by decide); have hA3 : W3.heap[w.heap.size + 1]? = some (.cells #[.int .i64 1, .string vs, .int .i64 0, .string ⟨#[]⟩, .int .i64 0, .int .i64 0, .string ⟨#[]⟩, .int .i64 0, .int .i64 0] 76 (0, 0)) := hK3.blk (heap_setCell_same _ _ 1 _ _ _ (hA2)) (by omega) (by decide); have hK3a : Keep b [9] w W3 := Keep.trans (by (repeat (first | (with_reducible exact hK2a) | (refine Keep.set ?_ _ (by first | exact Or.inl rfl | exact Or.inr (Nat.le_refl _) | (right; omega))) | (refine Keep.alloc ?_ _)))) (hK3.mono (by simp)); obtain ⟨d0, d1, d2, d3, d4, d5, d6, d7, d8, df, dl⟩ := row9 hA3; have ty3 := ty_of hA3) | (with_reducible refine (g4 v4 _ ?gg5).mono ?_; (case gg5 => (repeat (first | (with_reducible exact hG4) | (refine Px.setT ?_ _ (by omega) (by (try simp only [ty_set]); assumption) (by decide) (by decide))))); rintro e9 W5 ⟨rfl, hG5, hK5⟩; have hR5 : W5.heap[w.heap.size]? = some (.cells #[.int .i64 0, .string ⟨#[]⟩, .int .i64 0, .string ⟨#[]⟩, .int .i64 0, .int .i64 0, .string ⟨#[]⟩, .int .i64 0, .int .i64 0] 76 (0, 0)) := hK5.blk (by repeat (first | (with_reducible exact hR4) | refine setO ?_ (by omega))) (by omega) (by decide); have hA5 : W5.heap[w.heap.size + 1]? = some (.cells #[.int .i64 1, .string vs, .int .i64 eo, .string ev, .int .i64 ea, .int .i64 eb, .string gv, .int .i64 ga, .int .i64 gb] 76 (0, 0)) := hK5.blk (heap_setCell_same _ _ 8 _ _ _ (heap_setCell_same _ _ 7 _ _ _ (heap_setCell_same _ _ 6 _ _ _ (heap_setCell_same _ _ 5 _ _ _ (heap_setCell_same _ _ 4 _ _ _ (heap_setCell_same _ _ 3 _ _ _ (heap_setCell_same _ _ 2 _ _ _ (hA4)))))))) (by omega) (by decide); have hK5a : Keep b [9] w W5 := Keep.trans (by (repeat (first | (with_reducible exact hK4a) | (refine Keep.set ?_ _ (by first | exact Or.inl rfl | exact Or.inr (Nat.le_refl _) | (right; omega))) | (refine Keep.alloc ?_ _)))) (hK5.mono (by simp)); obtain ⟨d0, d1, d2, d3, d4, d5, d6, d7, d8, df, dl⟩ := row9 hA5; have ty5 := ty_of hA5; obtain ⟨b0, b1, b2, b3, b4, b5, b6, b7, b8, bf, bl⟩ := row9 hR5)) | (go_at_call 32; refine (g3 v2 _ ?gg4).mono ?_; (case gg4 => (repeat (first | (with_reducible exact hG3) | (refine Px.setT ?_ _ (by omega) (by (try simp only [ty_set]); assumption) (by decide) (by decide))))); rintro e9 W4 ⟨rfl, ⟨v4, hG4⟩, hK4⟩; have hR4 : W4.heap[w.heap.size]? = some (.cells #[.int .i64 0, .string ⟨#[]⟩, .int .i64 0, .string ⟨#[]⟩, .int .i64 0, .int .i64 0, .string ⟨#[]⟩, .int .i64 0, .int .i64 0] 76 (0, 0)) := hK4.blk (by repeat (first | (with_reducible exact hR3) | refine setO ?_ (by omega))) (by omega) (by decide); have hA4 : W4.heap[w.heap.size + 1]? = some (.cells #[.int .i64 1, .string vs, .int .i64 0, .string ⟨#[]⟩, .int .i64 0, .int .i64 0, .string ⟨#[]⟩, .int .i64 0, .int .i64 0] 76 (0, 0)) := hK4.blk (hA3) (by omega) (by decide); have hK4a : Keep b [9] w W4 := Keep.trans (by (repeat (first | (with_reducible exact hK3a) | (refine Keep.set ?_ _ (by first | exact Or.inl rfl | exact Or.inr (Nat.le_refl _) | (right; omega))) | (refine Keep.alloc ?_ _)))) hK4; obtain ⟨d0, d1, d2, d3, d4, d5, d6, d7, d8, df, dl⟩ := row9 hA4; have ty4 := ty_of hA4))
      have hE5 : stmtR L r = r4 := hE4
      have hG5s := hG5
      rw [← hE5] at hG5s
      refine bodyPost_ret (v := .agg #[.int .i64 1, .string vs, .int .i64 eo, .string ev, .int .i64 ea, .int .i64 eb, .string gv, .int .i64 ga, .int .i64 gb]) (by simp only [results, Try.results54]; go_simp) rfl ?_
      unfold StOk
      have t1 := ty_of hR5
      have t2 := ty_of hA5
      refine ⟨⟨1, vs, ⟨eo, ⟨ev, ea, eb⟩, ⟨gv, ga, gb⟩⟩⟩, rfl, hEV.2, ⟨v4, ?_⟩, ?_⟩
      · (repeat (first | (with_reducible exact hG5s) | (refine Px.setT ?_ _ (by omega) (by (try simp only [ty_set]); assumption) (by decide) (by decide))))
      · (repeat (first | (with_reducible exact hK5a) | (refine Keep.set ?_ _ (by first | exact Or.inl rfl | exact Or.inr (Nat.le_refl _) | (right; omega))) | (refine Keep.alloc ?_ _)))
    | false =>
      rw [c0] at f0
      simp only [c0, if_false, Bool.false_eq_true] at hE hV
      cases c1 : isB L r 4 inS with
      | true =>
        rw [c1] at f1
        simp only [c1, if_true] at hE hV
        have g1 := fun (W : World) (h2 : Px b L (.slice lp L.length lc) vv tv bv W q) => eat_any h2 kc.i hL 4 inS
        have g2 := fun (W : World) (h2 : Px b L (.slice lp L.length lc) vv tv bv W _) => pvar_any h2 (kc.took hL 4 inS) hL
        have g3 := fun (v : Value) (W : World) (h2 : Px b L (.slice lp L.length lc) v tv bv W _) => eat_any h2 ((kc.took hL 4 inS).var hL).i hL 3 (st [59])
        have hE2 : Hid (stmtR L r = _) := hE
        have hV2 : Hid (stmtS L r = _) := hV
        clear hE hV
        generalize tokn L q 4 inS = u1 at g1
        generalize took L q 4 inS = r1 at g1 g2 g3 hE2 hV2
        generalize varS L r1 = vs at g2 hV2
        generalize varR L r1 = r2 at g2 g3 hE2
        generalize tokn L r2 3 (st [59]) = u2 at g3
        generalize took L r2 3 (st [59]) = r4 at g3 hE2
        have hV3 : stmtS L r = ⟨2, vs, ⟨0, a0, a0⟩⟩ := hV2
        have hEV := And.intro True.intro (fun (_ : (stmtR L r).e = 0) => hV3.symm)
        have hE4 : Hid (stmtR L r = r4) := hE2
        clear hE2 hV2 hV3
        go_enter Try.func54, Try.ntmps54
        go_wp2_with (first | (go_at_call 27; first | ((with_reducible refine' Calls.aft _ _ (f0 _ (Below.refl _ _)) _; rotate_left 2; (exact Below.refl _ _; rfl); intro x1; have hle := After.le x1; (try simp at hle))) | ((with_reducible refine' Calls.aft _ _ (f1 _ x1.below) _; rotate_left 2; (exact Below.refl _ _; rfl); intro x2; have hle := After.le x2; (try simp at hle)); have hGx := (hG1.below x1.below).below x2.below; have hAx := blkN x2.below (blkN x1.below hA1s); have hRx := blkN x2.below (blkN x1.below hR1s); have hKx := (hK1s.next x1.below).next x2.below; obtain ⟨d0, d1, d2, d3, d4, d5, d6, d7, d8, df, dl⟩ := row9 hAx; have tyx := ty_of hAx)) | (go_at_call 87; refine (g2 _ ?gg3).mono ?_; (case gg3 => (repeat (first | (with_reducible exact hG2) | (refine Px.setT ?_ _ (by omega) (by (try simp only [ty_set]); assumption) (by decide) (by decide))))); rintro e9 W3 ⟨rfl, ⟨v3, hG3⟩, hK3⟩; have hR3 : W3.heap[w.heap.size]? = some (.cells #[.int .i64 0, .string ⟨#[]⟩, .int .i64 0, .string ⟨#[]⟩, .int .i64 0, .int .i64 0, .string ⟨#[]⟩, .int .i64 0, .int .i64 0] 76 (0, 0)) := hK3.blk (by repeat (first | (with_reducible exact hR2) | refine setO ?_ (by omega))) (by omega) (by decide); have hA3 : W3.heap[w.heap.size + 1]? = some (.cells #[.int .i64 2, .string ⟨#[]⟩, .int .i64 0, .string ⟨#[]⟩, .int .i64 0, .int .i64 0, .string ⟨#[]⟩, .int .i64 0, .int .i64 0] 76 (0, 0)) := hK3.blk (heap_setCell_same _ _ 0 _ _ _ (hA2)) (by omega) (by decide); have hK3a : Keep b [9] w W3 := Keep.trans (by (repeat (first | (with_reducible exact hK2a) | (refine Keep.set ?_ _ (by first | exact Or.inl rfl | exact Or.inr (Nat.le_refl _) | (right; omega))) | (refine Keep.alloc ?_ _)))) hK3; obtain ⟨d0, d1, d2, d3, d4, d5, d6, d7, d8, df, dl⟩ := row9 hA3; have ty3 := ty_of hA3) | (go_at_call 33; first | (with_reducible refine (g1 _ ?gg2).mono ?_; (case gg2 => (repeat (first | (with_reducible exact hGx) | (refine Px.setT ?_ _ (by omega) (by (try simp only [ty_set]); assumption) (by decide) (by decide))))); rintro e9 W2 ⟨rfl, hG2, hK2⟩; have hR2 : W2.heap[w.heap.size]? = some (.cells #[.int .i64 0, .string ⟨#[]⟩, .int .i64 0, .string ⟨#[]⟩, .int .i64 0, .int .i64 0, .string ⟨#[]⟩, .int .i64 0, .int .i64 0] 76 (0, 0)) := hK2.blk (by repeat (first | (with_reducible exact hRx) | refine setO ?_ (by omega))) (by omega) (by decide); have hA2 : W2.heap[w.heap.size + 1]? = some (.cells #[.int .i64 0, .string ⟨#[]⟩, .int .i64 0, .string ⟨#[]⟩, .int .i64 0, .int .i64 0, .string ⟨#[]⟩, .int .i64 0, .int .i64 0] 76 (0, 0)) := hK2.blk (hAx) (by omega) (by decide); have hK2a : Keep b [9] w W2 := Keep.trans (by (repeat (first | (with_reducible exact hKx) | (refine Keep.set ?_ _ (by first | exact Or.inl rfl | exact Or.inr (Nat.le_refl _) | (right; omega))) | (refine Keep.alloc ?_ _)))) (hK2.mono (by simp)); obtain ⟨d0, d1, d2, d3, d4, d5, d6, d7, d8, df, dl⟩ := row9 hA2; have ty2 := ty_of hA2) | (with_reducible refine (g3 v3 _ ?gg4).mono ?_; (case gg4 => (repeat (first | (with_reducible exact hG3) | (refine Px.setT ?_ _ (by omega) (by (try simp only [ty_set]); assumption) (by decide) (by decide))))); rintro e9 W4 ⟨rfl, hG4, hK4⟩; have hR4 : W4.heap[w.heap.size]? = some (.cells #[.int .i64 0, .string ⟨#[]⟩, .int .i64 0, .string ⟨#[]⟩, .int .i64 0, .int .i64 0, .string ⟨#[]⟩, .int .i64 0, .int .i64 0] 76 (0, 0)) := hK4.blk (by repeat (first | (with_reducible exact hR3) | refine setO ?_ (by omega))) (by omega) (by decide); have hA4 : W4.heap[w.heap.size + 1]? = some (.cells #[.int .i64 2, .string vs, .int .i64 0, .string ⟨#[]⟩, .int .i64 0, .int .i64 0, .string ⟨#[]⟩, .int .i64 0, .int .i64 0] 76 (0, 0)) := hK4.blk (heap_setCell_same _ _ 1 _ _ _ (hA3)) (by omega) (by decide); have hK4a : Keep b [9] w W4 := Keep.trans (by (repeat (first | (with_reducible exact hK3a) | (refine Keep.set ?_ _ (by first | exact Or.inl rfl | exact Or.inr (Nat.le_refl _) | (right; omega))) | (refine Keep.alloc ?_ _)))) (hK4.mono (by simp)); obtain ⟨d0, d1, d2, d3, d4, d5, d6, d7, d8, df, dl⟩ := row9 hA4; have ty4 := ty_of hA4; obtain ⟨b0, b1, b2, b3, b4, b5, b6, b7, b8, bf, bl⟩ := row9 hR4)))
        have hE5 : stmtR L r = r4 := hE4
        have hG5s := hG4
        rw [← hE5] at hG5s
        refine bodyPost_ret (v := .agg #[.int .i64 2, .string vs, .int .i64 0, .string ⟨#[]⟩, .int .i64 0, .int .i64 0, .string ⟨#[]⟩, .int .i64 0, .int .i64 0]) (by simp only [results, Try.results54]; go_simp) rfl ?_
        unfold StOk
        have t1 := ty_of hR4
        have t2 := ty_of hA4
        refine ⟨⟨2, vs, ⟨0, a0, a0⟩⟩, rfl, hEV.2, ⟨v3, ?_⟩, ?_⟩
        · (repeat (first | (with_reducible exact hG5s) | (refine Px.setT ?_ _ (by omega) (by (try simp only [ty_set]); assumption) (by decide) (by decide))))
        · (repeat (first | (with_reducible exact hK4a) | (refine Keep.set ?_ _ (by first | exact Or.inl rfl | exact Or.inr (Nat.le_refl _) | (right; omega))) | (refine Keep.alloc ?_ _)))
      | false =>
        rw [c1] at f1
        simp only [c1, if_false, Bool.false_eq_true] at hE hV
        have g1 := fun (W : World) (h2 : Px b L (.slice lp L.length lc) vv tv bv W q) => eat_any h2 kc.i hL 4 outS
        have g2 := fun (W : World) (h2 : Px b L (.slice lp L.length lc) vv tv bv W _) => patom_any h2 (kc.took hL 4 outS) hL
        have g3 := fun (v : Value) (W : World) (h2 : Px b L (.slice lp L.length lc) v tv bv W _) => eat_any h2 ((kc.took hL 4 outS).atom hL).i hL 3 (st [59])
        have hE2 : Hid (stmtR L r = _) := hE
        have hV2 : Hid (stmtS L r = _) := hV
        clear hE hV
        generalize tokn L q 4 outS = u1 at g1
        generalize took L q 4 outS = r1 at g1 g2 g3 hE2 hV2
        generalize atomA L r1 = E at g2 hV2
        generalize atomR L r1 = r2 at g2 g3 hE2
        generalize tokn L r2 3 (st [59]) = u2 at g3
        generalize took L r2 3 (st [59]) = r4 at g3 hE2
        obtain ⟨ev, ea, eb⟩ := E
        simp only at g2
        have hV3 : stmtS L r = ⟨3, st [], ⟨0, ⟨ev, ea, eb⟩, a0⟩⟩ := hV2
        have hEV := And.intro True.intro (fun (_ : (stmtR L r).e = 0) => hV3.symm)
        have hE4 : Hid (stmtR L r = r4) := hE2
        clear hE2 hV2 hV3
        go_enter Try.func54, Try.ntmps54
        go_wp2_with (first | (go_at_call 27; first | ((with_reducible refine' Calls.aft _ _ (f0 _ (Below.refl _ _)) _; rotate_left 2; (exact Below.refl _ _; rfl); intro x1; have hle := After.le x1; (try simp at hle))) | ((with_reducible refine' Calls.aft _ _ (f1 _ x1.below) _; rotate_left 2; (exact Below.refl _ _; rfl); intro x2; have hle := After.le x2; (try simp at hle)); have hGx := (hG1.below x1.below).below x2.below; have hAx := blkN x2.below (blkN x1.below hA1s); have hRx := blkN x2.below (blkN x1.below hR1s); have hKx := (hK1s.next x1.below).next x2.below; obtain ⟨d0, d1, d2, d3, d4, d5, d6, d7, d8, df, dl⟩ := row9 hAx; have tyx := ty_of hAx)) | (go_at_call 62; refine (g2 _ ?gg3).mono ?_; (case gg3 => (repeat (first | (with_reducible exact hG2) | (refine Px.setT ?_ _ (by omega) (by (try simp only [ty_set]); assumption) (by decide) (by decide))))); rintro e9 W3 ⟨rfl, ⟨v3, hG3⟩, hK3⟩; have hR3 : W3.heap[w.heap.size]? = some (.cells #[.int .i64 0, .string ⟨#[]⟩, .int .i64 0, .string ⟨#[]⟩, .int .i64 0, .int .i64 0, .string ⟨#[]⟩, .int .i64 0, .int .i64 0] 76 (0, 0)) := hK3.blk (by repeat (first | (with_reducible exact hR2) | refine setO ?_ (by omega))) (by omega) (by decide); have hA3 : W3.heap[w.heap.size + 1]? = some (.cells #[.int .i64 3, .string ⟨#[]⟩, .int .i64 0, .string ⟨#[]⟩, .int .i64 0, .int .i64 0, .string ⟨#[]⟩, .int .i64 0, .int .i64 0] 76 (0, 0)) := hK3.blk (heap_setCell_same _ _ 0 _ _ _ (hA2)) (by omega) (by decide); have hK3a : Keep b [9] w W3 := Keep.trans (by (repeat (first | (with_reducible exact hK2a) | (refine Keep.set ?_ _ (by first | exact Or.inl rfl | exact Or.inr (Nat.le_refl _) | (right; omega))) | (refine Keep.alloc ?_ _)))) hK3; obtain ⟨d0, d1, d2, d3, d4, d5, d6, d7, d8, df, dl⟩ := row9 hA3; have ty3 := ty_of hA3) | (go_at_call 33; first | (with_reducible refine (g1 _ ?gg2).mono ?_; (case gg2 => (repeat (first | (with_reducible exact hGx) | (refine Px.setT ?_ _ (by omega) (by (try simp only [ty_set]); assumption) (by decide) (by decide))))); rintro e9 W2 ⟨rfl, hG2, hK2⟩; have hR2 : W2.heap[w.heap.size]? = some (.cells #[.int .i64 0, .string ⟨#[]⟩, .int .i64 0, .string ⟨#[]⟩, .int .i64 0, .int .i64 0, .string ⟨#[]⟩, .int .i64 0, .int .i64 0] 76 (0, 0)) := hK2.blk (by repeat (first | (with_reducible exact hRx) | refine setO ?_ (by omega))) (by omega) (by decide); have hA2 : W2.heap[w.heap.size + 1]? = some (.cells #[.int .i64 0, .string ⟨#[]⟩, .int .i64 0, .string ⟨#[]⟩, .int .i64 0, .int .i64 0, .string ⟨#[]⟩, .int .i64 0, .int .i64 0] 76 (0, 0)) := hK2.blk (hAx) (by omega) (by decide); have hK2a : Keep b [9] w W2 := Keep.trans (by (repeat (first | (with_reducible exact hKx) | (refine Keep.set ?_ _ (by first | exact Or.inl rfl | exact Or.inr (Nat.le_refl _) | (right; omega))) | (refine Keep.alloc ?_ _)))) (hK2.mono (by simp)); obtain ⟨d0, d1, d2, d3, d4, d5, d6, d7, d8, df, dl⟩ := row9 hA2; have ty2 := ty_of hA2) | (with_reducible refine (g3 v3 _ ?gg4).mono ?_; (case gg4 => (repeat (first | (with_reducible exact hG3) | (refine Px.setT ?_ _ (by omega) (by (try simp only [ty_set]); assumption) (by decide) (by decide))))); rintro e9 W4 ⟨rfl, hG4, hK4⟩; have hR4 : W4.heap[w.heap.size]? = some (.cells #[.int .i64 0, .string ⟨#[]⟩, .int .i64 0, .string ⟨#[]⟩, .int .i64 0, .int .i64 0, .string ⟨#[]⟩, .int .i64 0, .int .i64 0] 76 (0, 0)) := hK4.blk (by repeat (first | (with_reducible exact hR3) | refine setO ?_ (by omega))) (by omega) (by decide); have hA4 : W4.heap[w.heap.size + 1]? = some (.cells #[.int .i64 3, .string ⟨#[]⟩, .int .i64 0, .string ev, .int .i64 ea, .int .i64 eb, .string ⟨#[]⟩, .int .i64 0, .int .i64 0] 76 (0, 0)) := hK4.blk (heap_setCell_same _ _ 5 _ _ _ (heap_setCell_same _ _ 4 _ _ _ (heap_setCell_same _ _ 3 _ _ _ (hA3)))) (by omega) (by decide); have hK4a : Keep b [9] w W4 := Keep.trans (by (repeat (first | (with_reducible exact hK3a) | (refine Keep.set ?_ _ (by first | exact Or.inl rfl | exact Or.inr (Nat.le_refl _) | (right; omega))) | (refine Keep.alloc ?_ _)))) (hK4.mono (by simp)); obtain ⟨d0, d1, d2, d3, d4, d5, d6, d7, d8, df, dl⟩ := row9 hA4; have ty4 := ty_of hA4; obtain ⟨b0, b1, b2, b3, b4, b5, b6, b7, b8, bf, bl⟩ := row9 hR4)))
        have hE5 : stmtR L r = r4 := hE4
        have hG5s := hG4
        rw [← hE5] at hG5s
        refine bodyPost_ret (v := .agg #[.int .i64 3, .string ⟨#[]⟩, .int .i64 0, .string ev, .int .i64 ea, .int .i64 eb, .string ⟨#[]⟩, .int .i64 0, .int .i64 0]) (by simp only [results, Try.results54]; go_simp) rfl ?_
        unfold StOk
        have t1 := ty_of hR4
        have t2 := ty_of hA4
        refine ⟨⟨3, st [], ⟨0, ⟨ev, ea, eb⟩, a0⟩⟩, rfl, hEV.2, ⟨v3, ?_⟩, ?_⟩
        · (repeat (first | (with_reducible exact hG5s) | (refine Px.setT ?_ _ (by omega) (by (try simp only [ty_set]); assumption) (by decide) (by decide))))
        · (repeat (first | (with_reducible exact hK4a) | (refine Keep.set ?_ _ (by first | exact Or.inl rfl | exact Or.inr (Nat.le_refl _) | (right; omega))) | (refine Keep.alloc ?_ _)))
end

end Go.Proofs.Ytmnplnhblniimaa.Gr
