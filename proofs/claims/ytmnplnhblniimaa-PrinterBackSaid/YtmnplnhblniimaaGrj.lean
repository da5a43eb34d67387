/- THE READER: WALK of stmt (printed by tools/gen_grj.py). -/
import Derived.Test.YtmnplnhblniimaaGri
namespace Go.Proofs.Ytmnplnhblniimaa.Gr
set_option linter.unusedVariables false
set_option linter.unusedSimpArgs false
open Go Go.RowKit

/-- A call as a step of a region that draws its order. -/
theorem stepK {P : Program} {ops : Array Oper} {o : Oper} {a : Act} {w : World} {K : Act → World → Prop} {Q : Exit → Act → World → Prop} {E : Prop} {S : World → Prop} (hgd : o.guard = none) (f : FuncId) (vs : Array Value) (v : Value)
    (hop : (execOp a.eval o).run P w = .ok (.enter f vs) w) (h : Calls P f vs w fun e w' => e = .returned v ∧ S w') (hk : ∀ w', S w' → K (a.put o.dst v) w') :
    if Region.wanted o (yielded ops a.tmps) = true then Oper.wp P o a w K Q else E := by
  have hw : Region.wanted o (yielded ops a.tmps) = true := by simp [Region.wanted, hgd]
  rw [if_pos hw]
  unfold Oper.wp
  rw [hop, Oper.upon_enter]
  exact h.mono fun e w' ⟨he, hs⟩ => by subst he; exact hk w' hs

theorem nextC {W q : World} {a : Addr} {v : Value} (hq : Below W.heap.size W q) (h : W.cell? a = some v) : q.cell? a = some v := (hq.cell (p := a) (World.block_lt_of_cell? _ _ h)).trans h

/-- Three new blocks. -/
theorem three (w : World) (O1 O2 O3 : Obj) : Below w.heap.size w (((w.alloc O1).alloc O2).alloc O3) ∧ (((w.alloc O1).alloc O2).alloc O3).heap[w.heap.size]? = some O1 ∧ (((w.alloc O1).alloc O2).alloc O3).heap[w.heap.size + 1]? = some O2 ∧ (((w.alloc O1).alloc O2).alloc O3).heap[w.heap.size + 1 + 1]? = some O3 := by
  obtain ⟨h1, h2, h3⟩ := two w O1 O2
  have hb : Below ((w.alloc O1).alloc O2).heap.size ((w.alloc O1).alloc O2) (((w.alloc O1).alloc O2).alloc O3) := (Below.refl _ _).alloc (Nat.le_refl _) _
  refine ⟨nextB hb h1, blkN hb h2, blkN hb h3, ?_⟩
  have := heap_alloc_new ((w.alloc O1).alloc O2) O3
  rw [show ((w.alloc O1).alloc O2).heap.size = w.heap.size + 1 + 1 by simp] at this
  exact this

theorem Ok.cnt {L : List Tok} {r : R} (h : Ok L r) : Ok L (cntR L r) := by
  unfold cntR
  split
  · exact Ok.fail (r := { r with n := r.n + 1 }) ⟨h.i, h.v, h.ev⟩ _ _ (by decide)
  · exact ⟨h.i, h.v, h.ev⟩

/-- A statement comes, and the error is as it was: what the closure that reads it comes to. -/
def readR (L : List Tok) (r : R) : R := if isB L r 1 (st []) then exprR L (took L (varR L (cntR L r)) 3 (st [61])) else if isB L r 4 inS then varR L (took L (cntR L r) 4 inS) else atomR L (took L (cntR L r) 4 outS)
theorem stmt_read (L : List Tok) (r : R) : stmtR L r = took L (readR L r) 3 (st [59]) := rfl

section
variable {b : Nat} {L : List Tok} {lv vv tv bv : Value} {w : World} {r : R}

set_option maxRecDepth 100000 in
set_option maxHeartbeats 1000000 in
theorem stmt_no (h : Gx b L lv vv tv bv w r) (hk : Ok L r) (hn : isSt L r = false) :
    Calls Try.prog 47 #[.pointer (some ⟨b, 0, none⟩)] w fun e w' => e = .returned (.tuple #[.agg #[.int .i64 0, .string ⟨#[]⟩, .int .i64 0, .string ⟨#[]⟩, .int .i64 0, .int .i64 0, .string ⟨#[]⟩, .int .i64 0, .int .i64 0], .bool false]) ∧ Gx b L lv vv tv bv w' r ∧ Keep b [] w w' := by
  have f0 := fun (W : World) (hB : Below w.heap.size w W) => is_any (h.below hB) hk.i 1 (st [])
  have f1 := fun (W : World) (hB : Below w.heap.size w W) => is_any (h.below hB) hk.i 4 inS
  have f2 := fun (W : World) (hB : Below w.heap.size w W) => is_any (h.below hB) hk.i 4 outS
  unfold isSt at hn
  simp only [Bool.or_eq_false_iff] at hn
  rw [hn.1] at f0
  rw [hn.2.1] at f1
  rw [hn.2.2] at f2
  have yl := lt_blk h.box
  obtain ⟨hB1, hr1, ho1, hs1⟩ := three w (.cells #[.pointer (some ⟨b, 0, none⟩)] 62) (.cells #[.int .i64 0, .string ⟨#[]⟩, .int .i64 0, .string ⟨#[]⟩, .int .i64 0, .int .i64 0, .string ⟨#[]⟩, .int .i64 0, .int .i64 0] 76) (.cells #[.int .i64 0, .string ⟨#[]⟩, .int .i64 0, .string ⟨#[]⟩, .int .i64 0, .int .i64 0, .string ⟨#[]⟩, .int .i64 0, .int .i64 0] 76)
  have hH := And.intro True.intro h
  clear h hk hn
  go_enter Try.func47, Try.ntmps47
  go_wp2_with (first | (go_at_call 23; first | (with_reducible refine' Calls.aft _ _ (f0 _ hB1) _; rotate_left 2; (exact Below.refl _ _; rfl); intro x1; have hle := After.le x1; (try simp at hle)) | (with_reducible refine' Calls.aft _ _ (f1 _ (nextB x1.below hB1)) _; rotate_left 2; (exact Below.refl _ _; rfl); intro x2; have hle := After.le x2; (try simp at hle)) | (with_reducible refine' Calls.aft _ _ (f2 _ (nextB x2.below (nextB x1.below hB1))) _; rotate_left 2; (exact Below.refl _ _; rfl); intro x3; have hle := After.le x3; (try simp at hle))))
  have hB9 := nextB x3.below (nextB x2.below (nextB x1.below hB1))
  refine bodyPost_ret (v := .tuple #[.agg #[.int .i64 0, .string ⟨#[]⟩, .int .i64 0, .string ⟨#[]⟩, .int .i64 0, .int .i64 0, .string ⟨#[]⟩, .int .i64 0, .int .i64 0], .bool false]) (by simp only [results, Try.results47]; go_simp) rfl ⟨rfl, ?_⟩
  have hG9 := hH.2.below hB9
  have hK9 := Keep.of_below (b := b) (T := []) hB9
  refine ⟨?_, ?_⟩
  · (repeat (first | (with_reducible exact hG9) | (refine Gx.new ?_ _ hH.2 (by first | exact Nat.le_refl _ | omega))))
  · (repeat (first | (with_reducible exact hK9) | (refine Keep.set ?_ _ (by first | exact Or.inl rfl | exact Or.inr (Nat.le_refl _) | (right; omega))) | (refine Keep.alloc ?_ _)))

set_option maxRecDepth 100000 in
set_option maxHeartbeats 4000000 in
theorem stmt_name (h : Gx b L lv vv tv bv w r) (hk : Ok L r) (hL : Lok L) (hn0 : 0 ≤ r.n) (hn1 : r.n ≤ 100000) (c0 : isB L r 1 (st []) = true) :
    Calls Try.prog 47 #[.pointer (some ⟨b, 0, none⟩)] w fun e w' => e = .returned (.tuple #[.agg #[.int .i64 (stmtS L r).k, .string (stmtS L r).v, .int .i64 (stmtS L r).e.op, .string (stmtS L r).e.x.v, .int .i64 (stmtS L r).e.x.a, .int .i64 (stmtS L r).e.x.b, .string (stmtS L r).e.y.v, .int .i64 (stmtS L r).e.y.a, .int .i64 (stmtS L r).e.y.b], .bool true]) ∧ (∃ v6, Gx b L lv v6 tv bv w' (stmtR L r)) ∧ Keep b [9] w w' := by
  have f0 := fun (W : World) (hB : Below w.heap.size w W) => is_any (h.below hB) hk.i 1 (st [])
  rw [c0] at f0
  unfold stmtR stmtS
  simp only [c0, if_true, if_false, Bool.false_eq_true]
  have yl := lt_blk h.box
  obtain ⟨hB1, hr1, ho1, hs1⟩ := three w (.cells #[.pointer (some ⟨b, 0, none⟩)] 62) (.cells #[.int .i64 0, .string ⟨#[]⟩, .int .i64 0, .string ⟨#[]⟩, .int .i64 0, .int .i64 0, .string ⟨#[]⟩, .int .i64 0, .int .i64 0] 76) (.cells #[.int .i64 0, .string ⟨#[]⟩, .int .i64 0, .string ⟨#[]⟩, .int .i64 0, .int .i64 0, .string ⟨#[]⟩, .int .i64 0, .int .i64 0] 76)
  have kc := hk.cnt
  have g1 := fun (W : World) (hG : Gx b L lv vv tv bv W (cntR L r)) (hr : W.heap[w.heap.size]? = some (.cells #[.pointer (some ⟨b, 0, none⟩)] 62 (0, 0))) (hs : W.heap[w.heap.size + 1 + 1]? = some (.cells #[.int .i64 0, .string ⟨#[]⟩, .int .i64 0, .string ⟨#[]⟩, .int .i64 0, .int .i64 0, .string ⟨#[]⟩, .int .i64 0, .int .i64 0] 76 (0, 0))) => st1_any hG kc hL hr hs (by omega) (by omega) (by omega)
  have g2 := fun (v : Value) (W : World) (hG : Gx b L lv v tv bv W _) => sign_any hG (((kc.var hL).took hL 3 (st [61])).expr hL).i hL.len (st [59])
  generalize varS L (cntR L r) = vs at g1 ⊢
  generalize exprE L (took L (varR L (cntR L r)) 3 (st [61])) = E at g1 ⊢
  obtain ⟨eo, ⟨ev, ea, eb⟩, ⟨gv, ga, gb⟩⟩ := E
  generalize exprR L (took L (varR L (cntR L r)) 3 (st [61])) = r5 at g1 g2 ⊢
  generalize took L r5 3 (st [59]) = r6 at g2 ⊢
  (try simp only at g1 ⊢)
  have hH := And.intro True.intro h
  clear h kc c0
  unfold cntR at g1
  by_cases q0 : 512 < r.n + 1
  · simp only [q0, if_true] at g1
    go_enter Try.func47, Try.ntmps47
    go_wp2_with (first | (go_at_call 23; first | ((with_reducible refine' Calls.aft _ _ (f0 _ hB1) _; rotate_left 2; (exact Below.refl _ _; rfl); intro x1; have hle := After.le x1; (try simp at hle)); have hBq := (nextB x1.below hB1); have hGq := (hH.2.below hBq).put4 (r.n + 1); have hrq : (x1.val.setCell ⟨b, 4, none⟩ (.int .i64 (r.n + 1))).heap[w.heap.size]? = _ := (heap_setCell_other _ _ _ _ (by show w.heap.size ≠ b; omega)).trans (blkN x1.below (hr1)); obtain ⟨p1, pl1⟩ := row1 (blkN x1.below (hr1)); obtain ⟨y0, y1, y2, y3, y4, y5, y6, y7, yf, yl2⟩ := row8 (hH.2.below hBq).box)))
    have hGd := hGq.below (Below.refl _ _).drew
    have hrd := blkN (Below.refl _ _).drew hrq
    have hsd := blkN (Below.refl _ _).drew ((heap_setCell_other _ ⟨b, 4, none⟩ _ (.int .i64 (r.n + 1)) (by show w.heap.size + 1 + 1 ≠ b; omega)).trans (blkN x1.below (hs1)))
    have hod := blkN (Below.refl _ _).drew ((heap_setCell_other _ ⟨b, 4, none⟩ _ (.int .i64 (r.n + 1)) (by show w.heap.size + 1 ≠ b; omega)).trans (blkN x1.below (ho1)))
    have hKd := ((Keep.of_below (b := b) (T := [9]) hBq).set (j := 4) (.int .i64 (r.n + 1)) (.inl rfl)).drew
    obtain ⟨pd, pdl⟩ := row1 hrd
    have fn := now_any hGd hk.i
    rw [show now L { r with n := r.n + 1 } = now L r from rfl] at fn
    have ff := fun (W : World) (hB : Below _ _ W) => fail_any (hGd.below hB) 6 (now L r).kind (now L r).pos (now L r).n (now L r).s
    (go_region_law (first | (refine stepK rfl 44 #[.pointer (some ⟨b, 0, none⟩)] _ ?hopn fn ?_; (case hopn => (go_simp; done)); intro q1 hq1; have hq1 : Below _ _ q1 := hq1; have pq := nextC hq1 pd) | (refine stepK rfl 43 #[.pointer (some ⟨b, 0, none⟩), .int .i64 6, .agg #[.int .i64 (now L r).kind, .int .i64 (now L r).pos, .string (now L r).s, .int .i64 (now L r).n]] (.tuple #[]) ?hopf (ff _ hq1) ?_; (case hopf => (go_simp; done)); intro Wc hWc; obtain ⟨hGc, hKf⟩ := hWc; have hrc := hKf.blk (blkN hq1 hrd) (by omega) (by decide); have hsc := hKf.blk (blkN hq1 hsd) (by omega) (by decide); have hoc := hKf.blk (blkN hq1 hod) (by omega) (by decide); have hKc := (hKd.next hq1).trans (hKf.mono (T' := [9]) (by simp)))))
    all_goals (
      go_wp2_with (first | (go_at_call 76; refine (g1 _ hGc hrc hsc).mono ?_; rintro e9 W5 ⟨rfl, ⟨v5, hG5⟩, hs5, hK5⟩; have hr5 := hK5.blk hrc (by omega) (by omega) (by decide); have ho5 := hK5.blk hoc (by omega) (by omega) (by decide); have hK5a := hKc.trans2 hK5 (by omega); obtain ⟨p5, pl5⟩ := row1 hr5) | (go_at_call 46; refine (g2 v5 _ hG5).mono ?_; rintro e9 W6 ⟨rfl, hG6, hK6⟩; have hs6 := hK6.blk hs5 (by omega) (by decide); have ho6 := hK6.blk ho5 (by omega) (by decide); have hK6a := hK5a.trans (hK6.mono (T' := [9]) (by simp)); obtain ⟨d0, d1, d2, d3, d4, d5, d6, d7, d8, df, dl⟩ := row9 hs6; obtain ⟨c0, c1, c2, c3, c4, c5, c6, c7, c8, cf, cl⟩ := row9 ho6))
      refine bodyPost_ret (v := .tuple #[.agg #[.int .i64 1, .string vs, .int .i64 eo, .string ev, .int .i64 ea, .int .i64 eb, .string gv, .int .i64 ga, .int .i64 gb], .bool true]) (by simp only [results, Try.results47]; go_simp) rfl ⟨rfl, ?_⟩
      have t1 := ty_of ho6
      refine ⟨⟨v5, ?_⟩, ?_⟩
      · (repeat (first | (with_reducible exact hG6) | (refine Gx.setT ?_ _ (by omega) (by (try simp only [ty_set]); assumption) (by decide) (by decide))))
      · (repeat (first | (with_reducible exact hK6a) | (refine Keep.set ?_ _ (by first | exact Or.inl rfl | exact Or.inr (Nat.le_refl _) | (right; omega))) | (refine Keep.alloc ?_ _))))
  · simp only [q0, if_false] at g1
    go_enter Try.func47, Try.ntmps47
    go_wp2_with (first | (go_at_call 23; first | ((with_reducible refine' Calls.aft _ _ (f0 _ hB1) _; rotate_left 2; (exact Below.refl _ _; rfl); intro x1; have hle := After.le x1; (try simp at hle)); have hBq := (nextB x1.below hB1); have hGq := (hH.2.below hBq).put4 (r.n + 1); have hrq : (x1.val.setCell ⟨b, 4, none⟩ (.int .i64 (r.n + 1))).heap[w.heap.size]? = _ := (heap_setCell_other _ _ _ _ (by show w.heap.size ≠ b; omega)).trans (blkN x1.below (hr1)); obtain ⟨p1, pl1⟩ := row1 (blkN x1.below (hr1)); obtain ⟨y0, y1, y2, y3, y4, y5, y6, y7, yf, yl2⟩ := row8 (hH.2.below hBq).box; have hGc := hGq; have hrc := hrq; have hsc := (heap_setCell_other _ ⟨b, 4, none⟩ _ (.int .i64 (r.n + 1)) (by show w.heap.size + 1 + 1 ≠ b; omega)).trans (blkN x1.below (hs1)); have hoc := (heap_setCell_other _ ⟨b, 4, none⟩ _ (.int .i64 (r.n + 1)) (by show w.heap.size + 1 ≠ b; omega)).trans (blkN x1.below (ho1)); have hKc := (Keep.of_below (b := b) (T := [9]) hBq).set (j := 4) (.int .i64 (r.n + 1)) (.inl rfl))) | (go_at_call 76; refine (g1 _ hGc hrc hsc).mono ?_; rintro e9 W5 ⟨rfl, ⟨v5, hG5⟩, hs5, hK5⟩; have hr5 := hK5.blk hrc (by omega) (by omega) (by decide); have ho5 := hK5.blk hoc (by omega) (by omega) (by decide); have hK5a := hKc.trans2 hK5 (by omega); obtain ⟨p5, pl5⟩ := row1 hr5) | (go_at_call 46; refine (g2 v5 _ hG5).mono ?_; rintro e9 W6 ⟨rfl, hG6, hK6⟩; have hs6 := hK6.blk hs5 (by omega) (by decide); have ho6 := hK6.blk ho5 (by omega) (by decide); have hK6a := hK5a.trans (hK6.mono (T' := [9]) (by simp)); obtain ⟨d0, d1, d2, d3, d4, d5, d6, d7, d8, df, dl⟩ := row9 hs6; obtain ⟨c0, c1, c2, c3, c4, c5, c6, c7, c8, cf, cl⟩ := row9 ho6))
    refine bodyPost_ret (v := .tuple #[.agg #[.int .i64 1, .string vs, .int .i64 eo, .string ev, .int .i64 ea, .int .i64 eb, .string gv, .int .i64 ga, .int .i64 gb], .bool true]) (by simp only [results, Try.results47]; go_simp) rfl ⟨rfl, ?_⟩
    have t1 := ty_of ho6
    refine ⟨⟨v5, ?_⟩, ?_⟩
    · (repeat (first | (with_reducible exact hG6) | (refine Gx.setT ?_ _ (by omega) (by (try simp only [ty_set]); assumption) (by decide) (by decide))))
    · (repeat (first | (with_reducible exact hK6a) | (refine Keep.set ?_ _ (by first | exact Or.inl rfl | exact Or.inr (Nat.le_refl _) | (right; omega))) | (refine Keep.alloc ?_ _)))

set_option maxRecDepth 100000 in
set_option maxHeartbeats 4000000 in
theorem stmt_in (h : Gx b L lv vv tv bv w r) (hk : Ok L r) (hL : Lok L) (hn0 : 0 ≤ r.n) (hn1 : r.n ≤ 100000) (c0 : isB L r 1 (st []) = false) (c1 : isB L r 4 inS = true) :
    Calls Try.prog 47 #[.pointer (some ⟨b, 0, none⟩)] w fun e w' => e = .returned (.tuple #[.agg #[.int .i64 (stmtS L r).k, .string (stmtS L r).v, .int .i64 (stmtS L r).e.op, .string (stmtS L r).e.x.v, .int .i64 (stmtS L r).e.x.a, .int .i64 (stmtS L r).e.x.b, .string (stmtS L r).e.y.v, .int .i64 (stmtS L r).e.y.a, .int .i64 (stmtS L r).e.y.b], .bool true]) ∧ (∃ v6, Gx b L lv v6 tv bv w' (stmtR L r)) ∧ Keep b [9] w w' := by
  have f0 := fun (W : World) (hB : Below w.heap.size w W) => is_any (h.below hB) hk.i 1 (st [])
  rw [c0] at f0
  have f1 := fun (W : World) (hB : Below w.heap.size w W) => is_any (h.below hB) hk.i 4 inS
  rw [c1] at f1
  unfold stmtR stmtS
  simp only [c0, c1, if_true, if_false, Bool.false_eq_true]
  have yl := lt_blk h.box
  obtain ⟨hB1, hr1, ho1, hs1⟩ := three w (.cells #[.pointer (some ⟨b, 0, none⟩)] 62) (.cells #[.int .i64 0, .string ⟨#[]⟩, .int .i64 0, .string ⟨#[]⟩, .int .i64 0, .int .i64 0, .string ⟨#[]⟩, .int .i64 0, .int .i64 0] 76) (.cells #[.int .i64 0, .string ⟨#[]⟩, .int .i64 0, .string ⟨#[]⟩, .int .i64 0, .int .i64 0, .string ⟨#[]⟩, .int .i64 0, .int .i64 0] 76)
  have kc := hk.cnt
  have g1 := fun (W : World) (hG : Gx b L lv vv tv bv W (cntR L r)) (hr : W.heap[w.heap.size]? = some (.cells #[.pointer (some ⟨b, 0, none⟩)] 62 (0, 0))) (hs : W.heap[w.heap.size + 1 + 1]? = some (.cells #[.int .i64 0, .string ⟨#[]⟩, .int .i64 0, .string ⟨#[]⟩, .int .i64 0, .int .i64 0, .string ⟨#[]⟩, .int .i64 0, .int .i64 0] 76 (0, 0))) => st2_any hG kc hL hr hs (by omega) (by omega) (by omega)
  have g2 := fun (v : Value) (W : World) (hG : Gx b L lv v tv bv W _) => sign_any hG ((kc.took hL 4 inS).var hL).i hL.len (st [59])
  generalize varS L (took L (cntR L r) 4 inS) = vs at g1 ⊢
  generalize varR L (took L (cntR L r) 4 inS) = r5 at g1 g2 ⊢
  generalize took L r5 3 (st [59]) = r6 at g2 ⊢
  (try simp only at g1 ⊢)
  have hH := And.intro True.intro h
  clear h kc c0 c1
  unfold cntR at g1
  by_cases q0 : 512 < r.n + 1
  · simp only [q0, if_true] at g1
    go_enter Try.func47, Try.ntmps47
    go_wp2_with (first | (go_at_call 23; first | (with_reducible refine' Calls.aft _ _ (f0 _ hB1) _; rotate_left 2; (exact Below.refl _ _; rfl); intro x1; have hle := After.le x1; (try simp at hle)) | ((with_reducible refine' Calls.aft _ _ (f1 _ (nextB x1.below hB1)) _; rotate_left 2; (exact Below.refl _ _; rfl); intro x2; have hle := After.le x2; (try simp at hle)); have hBq := (nextB x2.below (nextB x1.below hB1)); have hGq := (hH.2.below hBq).put4 (r.n + 1); have hrq : (x2.val.setCell ⟨b, 4, none⟩ (.int .i64 (r.n + 1))).heap[w.heap.size]? = _ := (heap_setCell_other _ _ _ _ (by show w.heap.size ≠ b; omega)).trans (blkN x2.below (blkN x1.below (hr1))); obtain ⟨p1, pl1⟩ := row1 (blkN x2.below (blkN x1.below (hr1))); obtain ⟨y0, y1, y2, y3, y4, y5, y6, y7, yf, yl2⟩ := row8 (hH.2.below hBq).box)))
    have hGd := hGq.below (Below.refl _ _).drew
    have hrd := blkN (Below.refl _ _).drew hrq
    have hsd := blkN (Below.refl _ _).drew ((heap_setCell_other _ ⟨b, 4, none⟩ _ (.int .i64 (r.n + 1)) (by show w.heap.size + 1 + 1 ≠ b; omega)).trans (blkN x2.below (blkN x1.below (hs1))))
    have hod := blkN (Below.refl _ _).drew ((heap_setCell_other _ ⟨b, 4, none⟩ _ (.int .i64 (r.n + 1)) (by show w.heap.size + 1 ≠ b; omega)).trans (blkN x2.below (blkN x1.below (ho1))))
    have hKd := ((Keep.of_below (b := b) (T := [9]) hBq).set (j := 4) (.int .i64 (r.n + 1)) (.inl rfl)).drew
    obtain ⟨pd, pdl⟩ := row1 hrd
    have fn := now_any hGd hk.i
    rw [show now L { r with n := r.n + 1 } = now L r from rfl] at fn
    have ff := fun (W : World) (hB : Below _ _ W) => fail_any (hGd.below hB) 6 (now L r).kind (now L r).pos (now L r).n (now L r).s
    (go_region_law (first | (refine stepK rfl 44 #[.pointer (some ⟨b, 0, none⟩)] _ ?hopn fn ?_; (case hopn => (go_simp; done)); intro q1 hq1; have hq1 : Below _ _ q1 := hq1; have pq := nextC hq1 pd) | (refine stepK rfl 43 #[.pointer (some ⟨b, 0, none⟩), .int .i64 6, .agg #[.int .i64 (now L r).kind, .int .i64 (now L r).pos, .string (now L r).s, .int .i64 (now L r).n]] (.tuple #[]) ?hopf (ff _ hq1) ?_; (case hopf => (go_simp; done)); intro Wc hWc; obtain ⟨hGc, hKf⟩ := hWc; have hrc := hKf.blk (blkN hq1 hrd) (by omega) (by decide); have hsc := hKf.blk (blkN hq1 hsd) (by omega) (by decide); have hoc := hKf.blk (blkN hq1 hod) (by omega) (by decide); have hKc := (hKd.next hq1).trans (hKf.mono (T' := [9]) (by simp)))))
    all_goals (
      go_wp2_with (first | (go_at_call 78; refine (g1 _ hGc hrc hsc).mono ?_; rintro e9 W5 ⟨rfl, ⟨v5, hG5⟩, hs5, hK5⟩; have hr5 := hK5.blk hrc (by omega) (by omega) (by decide); have ho5 := hK5.blk hoc (by omega) (by omega) (by decide); have hK5a := hKc.trans2 hK5 (by omega); obtain ⟨p5, pl5⟩ := row1 hr5) | (go_at_call 46; refine (g2 v5 _ hG5).mono ?_; rintro e9 W6 ⟨rfl, hG6, hK6⟩; have hs6 := hK6.blk hs5 (by omega) (by decide); have ho6 := hK6.blk ho5 (by omega) (by decide); have hK6a := hK5a.trans (hK6.mono (T' := [9]) (by simp)); obtain ⟨d0, d1, d2, d3, d4, d5, d6, d7, d8, df, dl⟩ := row9 hs6; obtain ⟨c0, c1, c2, c3, c4, c5, c6, c7, c8, cf, cl⟩ := row9 ho6))
      refine bodyPost_ret (v := .tuple #[.agg #[.int .i64 2, .string vs, .int .i64 0, .string ⟨#[]⟩, .int .i64 0, .int .i64 0, .string ⟨#[]⟩, .int .i64 0, .int .i64 0], .bool true]) (by simp only [results, Try.results47]; go_simp) rfl ⟨rfl, ?_⟩
      have t1 := ty_of ho6
      refine ⟨⟨v5, ?_⟩, ?_⟩
      · (repeat (first | (with_reducible exact hG6) | (refine Gx.setT ?_ _ (by omega) (by (try simp only [ty_set]); assumption) (by decide) (by decide))))
      · (repeat (first | (with_reducible exact hK6a) | (refine Keep.set ?_ _ (by first | exact Or.inl rfl | exact Or.inr (Nat.le_refl _) | (right; omega))) | (refine Keep.alloc ?_ _))))
  · simp only [q0, if_false] at g1
    go_enter Try.func47, Try.ntmps47
    go_wp2_with (first | (go_at_call 23; first | (with_reducible refine' Calls.aft _ _ (f0 _ hB1) _; rotate_left 2; (exact Below.refl _ _; rfl); intro x1; have hle := After.le x1; (try simp at hle)) | ((with_reducible refine' Calls.aft _ _ (f1 _ (nextB x1.below hB1)) _; rotate_left 2; (exact Below.refl _ _; rfl); intro x2; have hle := After.le x2; (try simp at hle)); have hBq := (nextB x2.below (nextB x1.below hB1)); have hGq := (hH.2.below hBq).put4 (r.n + 1); have hrq : (x2.val.setCell ⟨b, 4, none⟩ (.int .i64 (r.n + 1))).heap[w.heap.size]? = _ := (heap_setCell_other _ _ _ _ (by show w.heap.size ≠ b; omega)).trans (blkN x2.below (blkN x1.below (hr1))); obtain ⟨p1, pl1⟩ := row1 (blkN x2.below (blkN x1.below (hr1))); obtain ⟨y0, y1, y2, y3, y4, y5, y6, y7, yf, yl2⟩ := row8 (hH.2.below hBq).box; have hGc := hGq; have hrc := hrq; have hsc := (heap_setCell_other _ ⟨b, 4, none⟩ _ (.int .i64 (r.n + 1)) (by show w.heap.size + 1 + 1 ≠ b; omega)).trans (blkN x2.below (blkN x1.below (hs1))); have hoc := (heap_setCell_other _ ⟨b, 4, none⟩ _ (.int .i64 (r.n + 1)) (by show w.heap.size + 1 ≠ b; omega)).trans (blkN x2.below (blkN x1.below (ho1))); have hKc := (Keep.of_below (b := b) (T := [9]) hBq).set (j := 4) (.int .i64 (r.n + 1)) (.inl rfl))) | (go_at_call 78; refine (g1 _ hGc hrc hsc).mono ?_; rintro e9 W5 ⟨rfl, ⟨v5, hG5⟩, hs5, hK5⟩; have hr5 := hK5.blk hrc (by omega) (by omega) (by decide); have ho5 := hK5.blk hoc (by omega) (by omega) (by decide); have hK5a := hKc.trans2 hK5 (by omega); obtain ⟨p5, pl5⟩ := row1 hr5) | (go_at_call 46; refine (g2 v5 _ hG5).mono ?_; rintro e9 W6 ⟨rfl, hG6, hK6⟩; have hs6 := hK6.blk hs5 (by omega) (by decide); have ho6 := hK6.blk ho5 (by omega) (by decide); have hK6a := hK5a.trans (hK6.mono (T' := [9]) (by simp)); obtain ⟨d0, d1, d2, d3, d4, d5, d6, d7, d8, df, dl⟩ := row9 hs6; obtain ⟨c0, c1, c2, c3, c4, c5, c6, c7, c8, cf, cl⟩ := row9 ho6))
    refine bodyPost_ret (v := .tuple #[.agg #[.int .i64 2, .string vs, .int .i64 0, .string ⟨#[]⟩, .int .i64 0, .int .i64 0, .string ⟨#[]⟩, .int .i64 0, .int .i64 0], .bool true]) (by simp only [results, Try.results47]; go_simp) rfl ⟨rfl, ?_⟩
    have t1 := ty_of ho6
    refine ⟨⟨v5, ?_⟩, ?_⟩
    · (repeat (first | (with_reducible exact hG6) | (refine Gx.setT ?_ _ (by omega) (by (try simp only [ty_set]); assumption) (by decide) (by decide))))
    · (repeat (first | (with_reducible exact hK6a) | (refine Keep.set ?_ _ (by first | exact Or.inl rfl | exact Or.inr (Nat.le_refl _) | (right; omega))) | (refine Keep.alloc ?_ _)))

set_option maxRecDepth 100000 in
set_option maxHeartbeats 4000000 in
theorem stmt_out (h : Gx b L lv vv tv bv w r) (hk : Ok L r) (hL : Lok L) (hn0 : 0 ≤ r.n) (hn1 : r.n ≤ 100000) (c0 : isB L r 1 (st []) = false) (c1 : isB L r 4 inS = false) (c2 : isB L r 4 outS = true) :
    Calls Try.prog 47 #[.pointer (some ⟨b, 0, none⟩)] w fun e w' => e = .returned (.tuple #[.agg #[.int .i64 (stmtS L r).k, .string (stmtS L r).v, .int .i64 (stmtS L r).e.op, .string (stmtS L r).e.x.v, .int .i64 (stmtS L r).e.x.a, .int .i64 (stmtS L r).e.x.b, .string (stmtS L r).e.y.v, .int .i64 (stmtS L r).e.y.a, .int .i64 (stmtS L r).e.y.b], .bool true]) ∧ (∃ v6, Gx b L lv v6 tv bv w' (stmtR L r)) ∧ Keep b [9] w w' := by
  have f0 := fun (W : World) (hB : Below w.heap.size w W) => is_any (h.below hB) hk.i 1 (st [])
  rw [c0] at f0
  have f1 := fun (W : World) (hB : Below w.heap.size w W) => is_any (h.below hB) hk.i 4 inS
  rw [c1] at f1
  have f2 := fun (W : World) (hB : Below w.heap.size w W) => is_any (h.below hB) hk.i 4 outS
  rw [c2] at f2
  unfold stmtR stmtS
  simp only [c0, c1, c2, if_true, if_false, Bool.false_eq_true]
  have yl := lt_blk h.box
  obtain ⟨hB1, hr1, ho1, hs1⟩ := three w (.cells #[.pointer (some ⟨b, 0, none⟩)] 62) (.cells #[.int .i64 0, .string ⟨#[]⟩, .int .i64 0, .string ⟨#[]⟩, .int .i64 0, .int .i64 0, .string ⟨#[]⟩, .int .i64 0, .int .i64 0] 76) (.cells #[.int .i64 0, .string ⟨#[]⟩, .int .i64 0, .string ⟨#[]⟩, .int .i64 0, .int .i64 0, .string ⟨#[]⟩, .int .i64 0, .int .i64 0] 76)
  have kc := hk.cnt
  have g1 := fun (W : World) (hG : Gx b L lv vv tv bv W (cntR L r)) (hr : W.heap[w.heap.size]? = some (.cells #[.pointer (some ⟨b, 0, none⟩)] 62 (0, 0))) (hs : W.heap[w.heap.size + 1 + 1]? = some (.cells #[.int .i64 0, .string ⟨#[]⟩, .int .i64 0, .string ⟨#[]⟩, .int .i64 0, .int .i64 0, .string ⟨#[]⟩, .int .i64 0, .int .i64 0] 76 (0, 0))) => st3_any hG kc hL hr hs (by omega) (by omega) (by omega)
  have g2 := fun (v : Value) (W : World) (hG : Gx b L lv v tv bv W _) => sign_any hG ((kc.took hL 4 outS).atom hL).i hL.len (st [59])
  generalize atomA L (took L (cntR L r) 4 outS) = E at g1 ⊢
  obtain ⟨ev, ea, eb⟩ := E
  generalize atomR L (took L (cntR L r) 4 outS) = r5 at g1 g2 ⊢
  generalize took L r5 3 (st [59]) = r6 at g2 ⊢
  (try simp only at g1 ⊢)
  have hH := And.intro True.intro h
  clear h kc c0 c1 c2
  unfold cntR at g1
  by_cases q0 : 512 < r.n + 1
  · simp only [q0, if_true] at g1
    go_enter Try.func47, Try.ntmps47
    go_wp2_with (first | (go_at_call 23; first | (with_reducible refine' Calls.aft _ _ (f0 _ hB1) _; rotate_left 2; (exact Below.refl _ _; rfl); intro x1; have hle := After.le x1; (try simp at hle)) | (with_reducible refine' Calls.aft _ _ (f1 _ (nextB x1.below hB1)) _; rotate_left 2; (exact Below.refl _ _; rfl); intro x2; have hle := After.le x2; (try simp at hle)) | ((with_reducible refine' Calls.aft _ _ (f2 _ (nextB x2.below (nextB x1.below hB1))) _; rotate_left 2; (exact Below.refl _ _; rfl); intro x3; have hle := After.le x3; (try simp at hle)); have hBq := (nextB x3.below (nextB x2.below (nextB x1.below hB1))); have hGq := (hH.2.below hBq).put4 (r.n + 1); have hrq : (x3.val.setCell ⟨b, 4, none⟩ (.int .i64 (r.n + 1))).heap[w.heap.size]? = _ := (heap_setCell_other _ _ _ _ (by show w.heap.size ≠ b; omega)).trans (blkN x3.below (blkN x2.below (blkN x1.below (hr1)))); obtain ⟨p1, pl1⟩ := row1 (blkN x3.below (blkN x2.below (blkN x1.below (hr1)))); obtain ⟨y0, y1, y2, y3, y4, y5, y6, y7, yf, yl2⟩ := row8 (hH.2.below hBq).box)))
    have hGd := hGq.below (Below.refl _ _).drew
    have hrd := blkN (Below.refl _ _).drew hrq
    have hsd := blkN (Below.refl _ _).drew ((heap_setCell_other _ ⟨b, 4, none⟩ _ (.int .i64 (r.n + 1)) (by show w.heap.size + 1 + 1 ≠ b; omega)).trans (blkN x3.below (blkN x2.below (blkN x1.below (hs1)))))
    have hod := blkN (Below.refl _ _).drew ((heap_setCell_other _ ⟨b, 4, none⟩ _ (.int .i64 (r.n + 1)) (by show w.heap.size + 1 ≠ b; omega)).trans (blkN x3.below (blkN x2.below (blkN x1.below (ho1)))))
    have hKd := ((Keep.of_below (b := b) (T := [9]) hBq).set (j := 4) (.int .i64 (r.n + 1)) (.inl rfl)).drew
    obtain ⟨pd, pdl⟩ := row1 hrd
    have fn := now_any hGd hk.i
    rw [show now L { r with n := r.n + 1 } = now L r from rfl] at fn
    have ff := fun (W : World) (hB : Below _ _ W) => fail_any (hGd.below hB) 6 (now L r).kind (now L r).pos (now L r).n (now L r).s
    (go_region_law (first | (refine stepK rfl 44 #[.pointer (some ⟨b, 0, none⟩)] _ ?hopn fn ?_; (case hopn => (go_simp; done)); intro q1 hq1; have hq1 : Below _ _ q1 := hq1; have pq := nextC hq1 pd) | (refine stepK rfl 43 #[.pointer (some ⟨b, 0, none⟩), .int .i64 6, .agg #[.int .i64 (now L r).kind, .int .i64 (now L r).pos, .string (now L r).s, .int .i64 (now L r).n]] (.tuple #[]) ?hopf (ff _ hq1) ?_; (case hopf => (go_simp; done)); intro Wc hWc; obtain ⟨hGc, hKf⟩ := hWc; have hrc := hKf.blk (blkN hq1 hrd) (by omega) (by decide); have hsc := hKf.blk (blkN hq1 hsd) (by omega) (by decide); have hoc := hKf.blk (blkN hq1 hod) (by omega) (by decide); have hKc := (hKd.next hq1).trans (hKf.mono (T' := [9]) (by simp)))))
    all_goals (
      go_wp2_with (first | (go_at_call 79; refine (g1 _ hGc hrc hsc).mono ?_; rintro e9 W5 ⟨rfl, ⟨v5, hG5⟩, hs5, hK5⟩; have hr5 := hK5.blk hrc (by omega) (by omega) (by decide); have ho5 := hK5.blk hoc (by omega) (by omega) (by decide); have hK5a := hKc.trans2 hK5 (by omega); obtain ⟨p5, pl5⟩ := row1 hr5) | (go_at_call 46; refine (g2 v5 _ hG5).mono ?_; rintro e9 W6 ⟨rfl, hG6, hK6⟩; have hs6 := hK6.blk hs5 (by omega) (by decide); have ho6 := hK6.blk ho5 (by omega) (by decide); have hK6a := hK5a.trans (hK6.mono (T' := [9]) (by simp)); obtain ⟨d0, d1, d2, d3, d4, d5, d6, d7, d8, df, dl⟩ := row9 hs6; obtain ⟨c0, c1, c2, c3, c4, c5, c6, c7, c8, cf, cl⟩ := row9 ho6))
      refine bodyPost_ret (v := .tuple #[.agg #[.int .i64 3, .string ⟨#[]⟩, .int .i64 0, .string ev, .int .i64 ea, .int .i64 eb, .string ⟨#[]⟩, .int .i64 0, .int .i64 0], .bool true]) (by simp only [results, Try.results47]; go_simp) rfl ⟨rfl, ?_⟩
      have t1 := ty_of ho6
      refine ⟨⟨v5, ?_⟩, ?_⟩
      · (repeat (first | (with_reducible exact hG6) | (refine Gx.setT ?_ _ (by omega) (by (try simp only [ty_set]); assumption) (by decide) (by decide))))
      · (repeat (first | (with_reducible exact hK6a) | (refine Keep.set ?_ _ (by first | exact Or.inl rfl | exact Or.inr (Nat.le_refl _) | (right; omega))) | (refine Keep.alloc ?_ _))))
  · simp only [q0, if_false] at g1
    go_enter Try.func47, Try.ntmps47
    go_wp2_with (first | (go_at_call 23; first | (with_reducible refine' Calls.aft _ _ (f0 _ hB1) _; rotate_left 2; (exact Below.refl _ _; rfl); intro x1; have hle := After.le x1; (try simp at hle)) | (with_reducible refine' Calls.aft _ _ (f1 _ (nextB x1.below hB1)) _; rotate_left 2; (exact Below.refl _ _; rfl); intro x2; have hle := After.le x2; (try simp at hle)) | ((with_reducible refine' Calls.aft _ _ (f2 _ (nextB x2.below (nextB x1.below hB1))) _; rotate_left 2; (exact Below.refl _ _; rfl); intro x3; have hle := After.le x3; (try simp at hle)); have hBq := (nextB x3.below (nextB x2.below (nextB x1.below hB1))); have hGq := (hH.2.below hBq).put4 (r.n + 1); have hrq : (x3.val.setCell ⟨b, 4, none⟩ (.int .i64 (r.n + 1))).heap[w.heap.size]? = _ := (heap_setCell_other _ _ _ _ (by show w.heap.size ≠ b; omega)).trans (blkN x3.below (blkN x2.below (blkN x1.below (hr1)))); obtain ⟨p1, pl1⟩ := row1 (blkN x3.below (blkN x2.below (blkN x1.below (hr1)))); obtain ⟨y0, y1, y2, y3, y4, y5, y6, y7, yf, yl2⟩ := row8 (hH.2.below hBq).box; have hGc := hGq; have hrc := hrq; have hsc := (heap_setCell_other _ ⟨b, 4, none⟩ _ (.int .i64 (r.n + 1)) (by show w.heap.size + 1 + 1 ≠ b; omega)).trans (blkN x3.below (blkN x2.below (blkN x1.below (hs1)))); have hoc := (heap_setCell_other _ ⟨b, 4, none⟩ _ (.int .i64 (r.n + 1)) (by show w.heap.size + 1 ≠ b; omega)).trans (blkN x3.below (blkN x2.below (blkN x1.below (ho1)))); have hKc := (Keep.of_below (b := b) (T := [9]) hBq).set (j := 4) (.int .i64 (r.n + 1)) (.inl rfl))) | (go_at_call 79; refine (g1 _ hGc hrc hsc).mono ?_; rintro e9 W5 ⟨rfl, ⟨v5, hG5⟩, hs5, hK5⟩; have hr5 := hK5.blk hrc (by omega) (by omega) (by decide); have ho5 := hK5.blk hoc (by omega) (by omega) (by decide); have hK5a := hKc.trans2 hK5 (by omega); obtain ⟨p5, pl5⟩ := row1 hr5) | (go_at_call 46; refine (g2 v5 _ hG5).mono ?_; rintro e9 W6 ⟨rfl, hG6, hK6⟩; have hs6 := hK6.blk hs5 (by omega) (by decide); have ho6 := hK6.blk ho5 (by omega) (by decide); have hK6a := hK5a.trans (hK6.mono (T' := [9]) (by simp)); obtain ⟨d0, d1, d2, d3, d4, d5, d6, d7, d8, df, dl⟩ := row9 hs6; obtain ⟨c0, c1, c2, c3, c4, c5, c6, c7, c8, cf, cl⟩ := row9 ho6))
    refine bodyPost_ret (v := .tuple #[.agg #[.int .i64 3, .string ⟨#[]⟩, .int .i64 0, .string ev, .int .i64 ea, .int .i64 eb, .string ⟨#[]⟩, .int .i64 0, .int .i64 0], .bool true]) (by simp only [results, Try.results47]; go_simp) rfl ⟨rfl, ?_⟩
    have t1 := ty_of ho6
    refine ⟨⟨v5, ?_⟩, ?_⟩
    · (repeat (first | (with_reducible exact hG6) | (refine Gx.setT ?_ _ (by omega) (by (try simp only [ty_set]); assumption) (by decide) (by decide))))
    · (repeat (first | (with_reducible exact hK6a) | (refine Keep.set ?_ _ (by first | exact Or.inl rfl | exact Or.inr (Nat.le_refl _) | (right; omega))) | (refine Keep.alloc ?_ _)))
end

end Go.Proofs.Ytmnplnhblniimaa.Gr
