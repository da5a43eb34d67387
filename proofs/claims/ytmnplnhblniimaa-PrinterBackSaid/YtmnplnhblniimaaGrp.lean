/- THE READER: WALKS of begin and grammar.Expr. -/
import Derived.Test.YtmnplnhblniimaaGro
import Derived.Test.YtmnplnhblniimaaTokeng
import Derived.Test.YtmnplnhblniimaaTokenh
namespace Go.Proofs.Ytmnplnhblniimaa.Gr
set_option linter.unusedVariables false
set_option linter.unusedSimpArgs false
open Go Go.RowKit

theorem tokens_any (s : ByteArray) (w : World) : Calls Try.prog 29 #[.string s] w fun e w' => ∃ v, e = .returned (.tuple #[v, .agg #[.int .i64 (Tk.ofText s).e, .int .i64 (Tk.ofText s).pos]]) ∧
    w'.ownsRow w.heap.size 39 4 v (Tk.ofText s).l.length (Tk.cells (Tk.ofText s).l) ∧ Below w.heap.size w w' := by
  by_cases h : s.size ≤ 16384
  · exact Tk.of_any s h w
  · refine (Tk.of_long s (by omega) w).mono ?_
    rintro e w' ⟨rfl, hB⟩
    have hT : Tk.ofText s = ⟨[], 6, 0⟩ := by unfold Tk.ofText; rw [if_pos (by omega)]
    rw [hT]
    exact ⟨_, rfl, World.ownsRow_nil _ _ _ _, hB⟩

theorem row2 {w : World} {B : Nat} {v0 v1 : Value} {t : TypeId} (h : w.heap[B]? = some (.cells #[v0, v1] t (0, 0))) :
    w.cell? ⟨B, 0, none⟩ = some v0 ∧ w.cell? ⟨B, 1, none⟩ = some v1 ∧ (∀ j, w.frozen? ⟨B, j, none⟩ = false) ∧ B < w.heap.size :=
  ⟨(cell_of_row w B 0 _ t (0, 0) h).trans rfl, (cell_of_row w B 1 _ t (0, 0) h).trans rfl, fun j => frozen_of_row w B j _ t h, lt_blk h⟩

/-- What begin hands back. -/
def BegOk (R : Tk.Res) (w : World) (e : Ending) (w' : World) : Prop := ∃ (b : Nat) (lv : Value), e = .returned (.tuple #[.pointer (some ⟨b, 0, none⟩), .bool (R.e == 0)]) ∧
    Gx b R.l lv (.slice none 0 0) (.slice none 0 0) (.slice none 0 0) w' { r0 with e := R.e, p := R.pos } ∧ w.heap.size ≤ b ∧ Below w.heap.size w w'

set_option maxRecDepth 100000 in
set_option maxHeartbeats 1000000 in
theorem begin_any (s : ByteArray) (w : World) : Calls Try.prog 21 #[.string s] w (BegOk (Tk.ofText s) w) := by
  have f0 := tokens_any s w
  generalize Tk.ofText s = R at f0 ⊢
  obtain ⟨l, e, p⟩ := R
  simp only at f0 ⊢
  go_enter Try.func21, Try.ntmps21
  go_wp2_with (go_at_call 29; refine f0.mono ?_; rintro e9 W2 ⟨v, rfl, hown, hB⟩; obtain ⟨vp, vc, rfl⟩ := own_len hown)
  obtain ⟨hB4, hF4, hR4⟩ := two W2 (.cells #[.int .i64 e, .int .i64 p] 28) (.cells #[.slice vp l.length vc, .int .i64 0, .int .i64 e, .int .i64 p, .int .i64 0, .slice none 0 0, .slice none 0 0, .slice none 0 0] 67)
  have hG4 : Gx (W2.heap.size + 1) l (.slice vp l.length vc) (.slice none 0 0) (.slice none 0 0) (.slice none 0 0) ((W2.alloc (.cells #[.int .i64 e, .int .i64 p] 28)).alloc (.cells #[.slice vp l.length vc, .int .i64 0, .int .i64 e, .int .i64 p, .int .i64 0, .slice none 0 0, .slice none 0 0, .slice none 0 0] 67)) { r0 with e := e, p := p } :=
    ⟨hR4, (Sl.of_own (enc := Tk.Tok.cells) hown).below hB4, fun p n c he => by
      have := (hown.lt p.block (by rw [he]; rfl)).2
      omega, World.ownsRow_nil _ _ _ _, World.ownsRow_nil _ _ _ _, World.ownsRow_nil _ _ _ _, .inl rfl⟩
  have hz := hB.size
  go_region
  all_goals (
    go_wp2_with fail
    refine bodyPost_ret (v := .tuple #[.pointer (some ⟨W2.heap.size + 1, 0, none⟩), .bool (e == 0)]) (by simp only [results, Try.results21]; go_simp) rfl ?_
    unfold BegOk
    exact ⟨W2.heap.size + 1, _, rfl, hG4.below (Below.refl _ _).drew, by omega, (nextB hB4 hB).drew⟩)


set_option maxRecDepth 100000 in
set_option maxHeartbeats 1000000 in
theorem gexpr_any (s : ByteArray) (w : World) : Calls Try.prog 14 #[.string s] w fun e w' => e = .returned (.tuple #[.agg #[.int .i64 (pexpr s).1.op, .string (pexpr s).1.x.v, .int .i64 (pexpr s).1.x.a, .int .i64 (pexpr s).1.x.b, .string (pexpr s).1.y.v, .int .i64 (pexpr s).1.y.a, .int .i64 (pexpr s).1.y.b], .agg #[.int .i64 (pexpr s).2.1, .int .i64 (pexpr s).2.2]]) ∧ Below w.heap.size w w' := by
  have hZ : (⟨#[]⟩ : ByteArray) = st [] := rfl
  obtain ⟨hB1, hR1, hF1⟩ := two w (.cells #[.int .i64 0, .string ⟨#[]⟩, .int .i64 0, .int .i64 0, .string ⟨#[]⟩, .int .i64 0, .int .i64 0] 48) (.cells #[.int .i64 0, .int .i64 0] 28)
  have f0 := begin_any s ((w.alloc (.cells #[.int .i64 0, .string ⟨#[]⟩, .int .i64 0, .int .i64 0, .string ⟨#[]⟩, .int .i64 0, .int .i64 0] 48)).alloc (.cells #[.int .i64 0, .int .i64 0] 28))
  have hlk := @text_lok s
  unfold pexpr
  generalize Tk.ofText s = R at f0 hlk ⊢
  obtain ⟨L, e, p⟩ := R
  simp only at f0 hlk ⊢
  by_cases q0 : e = 0
  rotate_left
  · simp only [q0, if_false] at f0 ⊢
    have q1 : (e == 0) = false := by simpa using q0
    go_enter Try.func14, Try.ntmps14
    go_wp2_with (go_at_call 21; refine f0.mono ?_; rintro e9 W2 ⟨b, lv, rfl, hG2, hb2, hB2⟩; obtain ⟨y0, y1, y2, y3, y4, y5, y6, y7, yf, yl2⟩ := row8 hG2.box)
    have hR2 := blkN hB2 hR1
    have hF2 := blkN hB2 hF1
    have hb9 : ((w.alloc (.cells #[.int .i64 0, .string ⟨#[]⟩, .int .i64 0, .int .i64 0, .string ⟨#[]⟩, .int .i64 0, .int .i64 0] 48)).alloc (.cells #[.int .i64 0, .int .i64 0] 28)).heap.size = w.heap.size + 1 + 1 := by simp
    have hB3 : Below w.heap.size w W2 := nextB hB2 hB1
    obtain ⟨c0, c1, c2, c3, c4, c5, c6, cf, cl⟩ := row7 hR2
    obtain ⟨d0, d1, df, dl⟩ := row2 hF2
    have hw2 := hB3.size
    go_region
    all_goals (
      go_wp2_with fail
      refine bodyPost_ret (v := .tuple #[.agg #[.int .i64 0, .string ⟨#[]⟩, .int .i64 0, .int .i64 0, .string ⟨#[]⟩, .int .i64 0, .int .i64 0], .agg #[.int .i64 e, .int .i64 p]]) (by simp only [results, Try.results14]; go_simp) rfl ?_
      refine ⟨rfl, ?_⟩
      (repeat (first | (with_reducible exact hB3) | (with_reducible refine Below.drew ?_) | (with_reducible refine Below.setCell ?_ (by first | exact Nat.le_refl _ | exact Nat.le_succ _ | (simp; done) | (simp; omega)) _) | (with_reducible refine Below.alloc ?_ (by first | omega | (simp; omega)) _))))
  · subst q0
    obtain ⟨hL, hL2, hL3, hL4, hp0⟩ := hlk rfl
    subst hp0
    simp only [if_true]
    have q1 : ((0 : Int) == 0) = true := by simp
    have k0 : Ok L r0 := ⟨hL3, by decide, fun _ => by decide⟩
    have f1 := fun (b : Nat) (lv : Value) (W : World) (h2 : Gx b L lv (.slice none 0 0) (.slice none 0 0) (.slice none 0 0) W r0) => expr_any h2 k0 hL
    have f2 := fun (b : Nat) (lv v : Value) (W : World) (h2 : Gx b L lv v (.slice none 0 0) (.slice none 0 0) W (exprR L r0)) => take_any h2 (k0.expr hL).i hL.len 0 (st [])
    have hA : exprAll L = took L (exprR L r0) 0 (st []) := rfl
    rw [hA]
    generalize exprE L r0 = E at f1 ⊢
    generalize took L (exprR L r0) 0 (st []) = r2 at f2 ⊢
    generalize exprR L r0 = r1 at f1 f2
    obtain ⟨xo, ⟨xv, xa, xb⟩, ⟨yv, ya, yb⟩⟩ := E
    simp only at f1
    have hb9 : ((w.alloc (.cells #[.int .i64 0, .string ⟨#[]⟩, .int .i64 0, .int .i64 0, .string ⟨#[]⟩, .int .i64 0, .int .i64 0] 48)).alloc (.cells #[.int .i64 0, .int .i64 0] 28)).heap.size = w.heap.size + 1 + 1 := by simp
    by_cases q2 : r2.e = 0
    · simp only [q2, if_true]
      have hR := And.intro True.intro q2
      go_enter Try.func14, Try.ntmps14
      go_wp2_with (first | (go_at_call 21; refine f0.mono ?_; rintro e9 W2 ⟨b, lv, rfl, hG2, hb2, hB2⟩; have hB3 := nextB hB2 hB1; have hR2 := blkN hB2 hR1; have hF2 := blkN hB2 hF1) | (go_at_call 30; refine (f1 b lv _ hG2).mono ?_; rintro e9 W3 ⟨rfl, ⟨v3, hG3⟩, hK3⟩; have hl3 := lt_blk hG3.box; have hX3 := heap_alloc_new W3 (.cells #[.int .i64 xo, .string xv, .int .i64 xa, .int .i64 xb, .string yv, .int .i64 ya, .int .i64 yb] 48); have hw3 := hK3.size; have hw2 := hB2.size) | (go_at_call 31; refine (f2 b lv v3 _ (hG3.below ((Below.refl _ _).alloc (Nat.le_refl _) _))).mono ?_; rintro e9 W4 ⟨rfl, hG4, hK4⟩; have hB4 : Below w.heap.size w W4 := hB3.trans (((hK3.alloc (.cells #[.int .i64 xo, .string xv, .int .i64 xa, .int .i64 xb, .string yv, .int .i64 ya, .int .i64 yb] 48)).trans (hK4.mono (by simp))).below (by omega) hB3.size); have hX4 := hK4.blk hX3 (by omega) (by decide); have hR4 := hK4.blk (blkN ((Below.refl _ _).alloc (Nat.le_refl _) (.cells #[.int .i64 xo, .string xv, .int .i64 xa, .int .i64 xb, .string yv, .int .i64 ya, .int .i64 yb] 48)) (hK3.blk hR2 (by omega) (by decide))) (by omega) (by decide); have hF4 := hK4.blk (blkN ((Below.refl _ _).alloc (Nat.le_refl _) (.cells #[.int .i64 xo, .string xv, .int .i64 xa, .int .i64 xb, .string yv, .int .i64 ya, .int .i64 yb] 48)) (hK3.blk hF2 (by omega) (by decide))) (by omega) (by decide); obtain ⟨y0, y1, y2, y3, y4, y5, y6, y7, yf, yl2⟩ := row8 hG4.box; obtain ⟨c0, c1, c2, c3, c4, c5, c6, cf, cl⟩ := row7 hR4; obtain ⟨d0, d1, df, dl⟩ := row2 hF4; obtain ⟨m0, m1, m2, m3, m4, m5, m6, mf, ml⟩ := row7 hX4; rw [hR.2] at y2))
      refine bodyPost_ret (v := .tuple #[.agg #[.int .i64 xo, .string xv, .int .i64 xa, .int .i64 xb, .string yv, .int .i64 ya, .int .i64 yb], .agg #[.int .i64 0, .int .i64 0]]) (by simp only [results, Try.results14]; go_simp) rfl ?_
      refine ⟨rfl, ?_⟩
      (repeat (first | (with_reducible exact hB4) | (with_reducible refine Below.drew ?_) | (with_reducible refine Below.setCell ?_ (by first | exact Nat.le_refl _ | exact Nat.le_succ _ | (simp; done) | (simp; omega)) _) | (with_reducible refine Below.alloc ?_ (by first | omega | (simp; omega)) _)))
    · simp only [q2, if_false]
      have q3 : (r2.e != 0) = true := by simpa using q2
      go_enter Try.func14, Try.ntmps14
      go_wp2_with (first | (go_at_call 21; refine f0.mono ?_; rintro e9 W2 ⟨b, lv, rfl, hG2, hb2, hB2⟩; have hB3 := nextB hB2 hB1; have hR2 := blkN hB2 hR1; have hF2 := blkN hB2 hF1) | (go_at_call 30; refine (f1 b lv _ hG2).mono ?_; rintro e9 W3 ⟨rfl, ⟨v3, hG3⟩, hK3⟩; have hl3 := lt_blk hG3.box; have hX3 := heap_alloc_new W3 (.cells #[.int .i64 xo, .string xv, .int .i64 xa, .int .i64 xb, .string yv, .int .i64 ya, .int .i64 yb] 48); have hw3 := hK3.size; have hw2 := hB2.size) | (go_at_call 31; refine (f2 b lv v3 _ (hG3.below ((Below.refl _ _).alloc (Nat.le_refl _) _))).mono ?_; rintro e9 W4 ⟨rfl, hG4, hK4⟩; have hB4 : Below w.heap.size w W4 := hB3.trans (((hK3.alloc (.cells #[.int .i64 xo, .string xv, .int .i64 xa, .int .i64 xb, .string yv, .int .i64 ya, .int .i64 yb] 48)).trans (hK4.mono (by simp))).below (by omega) hB3.size); have hX4 := hK4.blk hX3 (by omega) (by decide); have hR4 := hK4.blk (blkN ((Below.refl _ _).alloc (Nat.le_refl _) (.cells #[.int .i64 xo, .string xv, .int .i64 xa, .int .i64 xb, .string yv, .int .i64 ya, .int .i64 yb] 48)) (hK3.blk hR2 (by omega) (by decide))) (by omega) (by decide); have hF4 := hK4.blk (blkN ((Below.refl _ _).alloc (Nat.le_refl _) (.cells #[.int .i64 xo, .string xv, .int .i64 xa, .int .i64 xb, .string yv, .int .i64 ya, .int .i64 yb] 48)) (hK3.blk hF2 (by omega) (by decide))) (by omega) (by decide); obtain ⟨y0, y1, y2, y3, y4, y5, y6, y7, yf, yl2⟩ := row8 hG4.box; obtain ⟨c0, c1, c2, c3, c4, c5, c6, cf, cl⟩ := row7 hR4; obtain ⟨d0, d1, df, dl⟩ := row2 hF4; obtain ⟨m0, m1, m2, m3, m4, m5, m6, mf, ml⟩ := row7 hX4))
      have hw4 := hB4.size
      go_region
      all_goals (
        go_wp2_with fail
        refine bodyPost_ret (v := .tuple #[.agg #[.int .i64 0, .string ⟨#[]⟩, .int .i64 0, .int .i64 0, .string ⟨#[]⟩, .int .i64 0, .int .i64 0], .agg #[.int .i64 r2.e, .int .i64 r2.p]]) (by simp only [results, Try.results14]; go_simp) rfl ?_
        refine ⟨rfl, ?_⟩
        (repeat (first | (with_reducible exact hB4) | (with_reducible refine Below.drew ?_) | (with_reducible refine Below.setCell ?_ (by first | exact Nat.le_refl _ | exact Nat.le_succ _ | (simp; done) | (simp; omega)) _) | (with_reducible refine Below.alloc ?_ (by first | omega | (simp; omega)) _))))

end Go.Proofs.Ytmnplnhblniimaa.Gr
