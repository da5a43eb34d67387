/- The page's examples; chapter 3 is awake. WALK of soughref03.Expr. -/
import Derived.Test.YtmnplnhblniimaaPgd
namespace Go.Proofs.Ytmnplnhblniimaa.Gr
set_option linter.unusedVariables false
set_option linter.unusedSimpArgs false
open Go Go.RowKit

def x1 : ByteArray := ⟨#[98, 108, 111, 99, 107, 32, 97, 32, 123, 32, 114, 101, 116, 59, 32, 125]⟩
def x2 : ByteArray := ⟨#[98, 108, 111, 99, 107, 32, 97, 32, 123, 32, 103, 111, 116, 111, 32, 98, 59, 32, 125]⟩

set_option maxRecDepth 1000000 in
theorem parse_x1 : ((parse x1).2, (parse x1).1.map fun b => b.t.k) = ((0, 0), [3]) := by kernel_rfl
set_option maxRecDepth 1000000 in
theorem parse_x2 : (parse x2).2 = (4, 15) := by kernel_rfl


set_option maxRecDepth 100000 in
set_option maxHeartbeats 2000000 in
theorem awake3_any (w : World) : Calls Try.prog 8 #[] w fun e w' => e = .returned (.bool true) ∧ Below w.heap.size w w' := by
  have f1 := parse_any x1 w
  have f2 := fun (W : World) => parse_any x2 W
  have h1 := parse_x1
  have h2 := parse_x2
  unfold x1 at f1
  unfold x2 at f2
  unfold ParseOk at f1 f2
  generalize hA : parse ⟨#[98, 108, 111, 99, 107, 32, 97, 32, 123, 32, 114, 101, 116, 59, 32, 125]⟩ = A at f1
  generalize hB : parse ⟨#[98, 108, 111, 99, 107, 32, 97, 32, 123, 32, 103, 111, 116, 111, 32, 98, 59, 32, 125]⟩ = B at f2
  have h1' : (A.2, A.1.map fun b => b.t.k) = ((0, 0), [3]) := by rw [← hA]; exact h1
  have h2' : B.2 = (4, 15) := by rw [← hB]; exact h2
  clear h1 h2 hA hB
  obtain ⟨A1, A2, A3⟩ := A
  obtain ⟨B1, B2, B3⟩ := B
  simp only [Prod.mk.injEq] at h1' h2'
  obtain ⟨⟨rfl, rfl⟩, hk⟩ := h1'
  obtain ⟨rfl, rfl⟩ := h2'
  simp only at f1 f2
  go_enter Try.func8, Try.ntmps8
  go_wp2_with fail
  refine f1.mono ?_
  rintro e9 W2 ⟨pv, P, rfl, hP, hPg, hB2⟩
  obtain ⟨pb, po, pp, pc, hpv, hpp, hpc⟩ := hPg.1.open Bl.cs_len
  have hl1 : P.length = 1 := by
    have h4 := congrArg List.length hk
    have h3 := congrArg List.length hP
    simp at h4 h3
    omega
  obtain rfl := hpp (by omega)
  rw [hl1] at hpv
  subst hpv
  have hc0 := hpc 0 (by omega) 2 _ rfl
  have hk2 : (P[0]'(by omega)).t.k = 3 := by
    have h3 : (A1.map fun b => b.t.k)[0]? = some 3 := by rw [hk]; rfl
    rw [← hP] at h3
    simp [List.getElem?_eq_getElem (show 0 < P.length by omega), toBk] at h3
    exact h3
  rw [hk2] at hc0
  simp only [Nat.zero_mul, Nat.zero_add] at hc0
  have hcl := World.block_lt_of_cell? _ _ hc0
  clear hP hPg hpc hpp hk hk2
  go_wp2_with fail
  obtain ⟨hB3, hP3, hF3⟩ := two W2 (.cells #[.slice (some ⟨pb, po, none⟩) 1 pc] 25) (.cells #[.int .i64 0, .int .i64 0] 28)
  refine (f2 _).mono ?_
  rintro e8 W4 ⟨pv4, P4, rfl, hP4, hPg4, hB4⟩
  obtain ⟨p4, c4, rfl⟩ : ∃ p c, pv4 = .slice p P4.length c := by obtain ⟨_, _, p, c, hv, _⟩ := hPg4.1; exact ⟨p, c, hv⟩
  have hc4 : W4.cell? ⟨pb, po + 2, none⟩ = some (.int .i64 3) := (hB4.cell (p := ⟨pb, po + 2, none⟩) (by simp; omega)).trans ((hB3.cell (p := ⟨pb, po + 2, none⟩) hcl).trans hc0)
  have hcl4 := World.block_lt_of_cell? _ _ hc4
  obtain ⟨q0, ql⟩ := row1 (blkN hB4 hP3)
  obtain ⟨d0, d1, df, dl⟩ := row2 (blkN hB4 hF3)
  have hBf := nextB hB4 (nextB hB3 hB2)
  have hbz := hBf.size
  go_wp2_with fail
  go_ret
  refine ⟨rfl, ?_⟩
  (repeat (first | (with_reducible exact hBf) | (with_reducible refine Below.drew ?_) | (with_reducible refine Below.setCell ?_ (by first | exact Nat.le_refl _ | exact Nat.le_succ _ | (simp; done) | (simp; omega)) _) | (with_reducible refine Below.alloc ?_ (by first | omega | (simp; omega)) _)))

theorem rtokens_any (s : ByteArray) (w : World) : Calls Try.prog 25 #[.string s] w fun e w' => ∃ v, e = .returned (.tuple #[v, .int .i64 (Tk.ofText s).e, .int .i64 (Tk.ofText s).pos]) ∧
    w'.ownsRow w.heap.size 39 4 v (Tk.ofText s).l.length (Tk.cells (Tk.ofText s).l) ∧ Below w.heap.size w w' := by
  by_cases h : s.size ≤ 16384
  · exact Tk.rof_any s h w
  · refine (Tk.rof_long s (by omega) w).mono ?_
    rintro e w' ⟨rfl, hB⟩
    have hT : Tk.ofText s = ⟨[], 6, 0⟩ := by unfold Tk.ofText; rw [if_pos (by omega)]
    rw [hT]
    subst hB
    exact ⟨_, rfl, World.ownsRow_nil _ _ _ _, Below.refl _ _⟩

theorem px_new {l : List Tok} {base : Nat} {vp : Option Addr} {vc : Nat} {W : World} (hown : W.ownsRow base 39 4 (.slice vp l.length vc) l.length (Tk.cells l)) :
    Px (W.heap.size) l (.slice vp l.length vc) (.slice none 0 0) (.slice none 0 0) (.slice none 0 0) (W.alloc (.cells #[.slice vp l.length vc, .int .i64 0, .int .i64 0, .int .i64 0, .int .i64 0, .slice none 0 0, .slice none 0 0, .slice none 0 0] 74)) r0 :=
  ⟨heap_alloc_new _ _, (Sl.of_own (enc := Tk.Tok.cells) hown).below ((Below.refl _ _).alloc (Nat.le_refl _) _), fun p n c he => by
      have := (hown.lt p.block (by rw [he]; rfl)).2
      omega, World.ownsRow_nil _ _ _ _, World.ownsRow_nil _ _ _ _, World.ownsRow_nil _ _ _ _, .inl rfl⟩

set_option maxRecDepth 100000 in
set_option maxHeartbeats 2000000 in
theorem prexpr_any (s : ByteArray) (w : World) : Calls Try.prog 15 #[.string s] w fun e w' => e = .returned (.tuple #[.agg #[.int .i64 (pexpr s).1.op, .string (pexpr s).1.x.v, .int .i64 (pexpr s).1.x.a, .int .i64 (pexpr s).1.x.b, .string (pexpr s).1.y.v, .int .i64 (pexpr s).1.y.a, .int .i64 (pexpr s).1.y.b], .int .i64 (pexpr s).2.1, .int .i64 (pexpr s).2.2]) ∧ Below w.heap.size w w' := by
  have hR0 := heap_alloc_new w (.cells #[.int .i64 0, .string ⟨#[]⟩, .int .i64 0, .int .i64 0, .string ⟨#[]⟩, .int .i64 0, .int .i64 0] 48)
  have hB0 : Below w.heap.size w (w.alloc (.cells #[.int .i64 0, .string ⟨#[]⟩, .int .i64 0, .int .i64 0, .string ⟨#[]⟩, .int .i64 0, .int .i64 0] 48)) := (Below.refl _ _).alloc (Nat.le_refl _) _
  have f0 := rtokens_any s (w.alloc (.cells #[.int .i64 0, .string ⟨#[]⟩, .int .i64 0, .int .i64 0, .string ⟨#[]⟩, .int .i64 0, .int .i64 0] 48))
  have hlk := @text_lok s
  unfold pexpr
  generalize Tk.ofText s = R at f0 hlk ⊢
  obtain ⟨L, e, p⟩ := R
  simp only at f0 hlk ⊢
  by_cases q0 : e = 0
  rotate_left
  · simp only [q0, if_false]
    have q1 : (e != 0) = true := by simpa using q0
    go_enter Try.func15, Try.ntmps15
    go_wp2_with (go_at_call 25; refine f0.mono ?_; rintro e9 W2 ⟨v, rfl, hown, hB2⟩; have hR2 := blkN hB2 hR0; obtain ⟨c0, c1, c2, c3, c4, c5, c6, cf, cl⟩ := row7 hR2; have hB3 : Below w.heap.size w W2 := nextB hB2 hB0)
    refine bodyPost_ret (v := .tuple #[.agg #[.int .i64 0, .string ⟨#[]⟩, .int .i64 0, .int .i64 0, .string ⟨#[]⟩, .int .i64 0, .int .i64 0], .int .i64 e, .int .i64 p]) (by simp only [results, Try.results15]; go_simp) rfl ?_
    refine ⟨rfl, ?_⟩
    (repeat (first | (with_reducible exact hB3) | (with_reducible refine Below.drew ?_) | (with_reducible refine Below.setCell ?_ (by first | exact Nat.le_refl _ | exact Nat.le_succ _ | (simp; done) | (simp; omega)) _) | (with_reducible refine Below.alloc ?_ (by first | omega | (simp; omega)) _)))
  · subst q0
    obtain ⟨hL, hL2, hL3, hL4, hp0⟩ := hlk rfl
    subst hp0
    simp only [if_true]
    have k0 : Ok L r0 := ⟨hL3, by decide, fun _ => by decide⟩
    have f1 := fun (b : Nat) (lv : Value) (W : World) (h2 : Px b L lv (.slice none 0 0) (.slice none 0 0) (.slice none 0 0) W r0) => pgexpr_any h2 k0 hL
    have f2 := fun (b : Nat) (lv v : Value) (W : World) (h2 : Px b L lv v (.slice none 0 0) (.slice none 0 0) W (exprR L r0)) => eat_any h2 (k0.expr hL).i hL 0 (st [])
    have hA : exprAll L = took L (exprR L r0) 0 (st []) := rfl
    rw [hA]
    generalize exprE L r0 = E at f1 ⊢
    generalize took L (exprR L r0) 0 (st []) = r2 at f2 ⊢
    generalize tokn L (exprR L r0) 0 (st []) = t2 at f2
    generalize exprR L r0 = r1 at f1 f2
    obtain ⟨xo, ⟨xv, xa, xb⟩, ⟨yv, ya, yb⟩⟩ := E
    simp only at f1
    by_cases q2 : r2.e = 0
    · simp only [q2, if_true]
      have hR : Hid (r2.e = 0) := q2
      go_enter Try.func15, Try.ntmps15
      go_wp2_with (first | (go_at_call 25; refine f0.mono ?_; rintro e9 W2 ⟨v, rfl, hown, hB2⟩; obtain ⟨vp, vc, rfl⟩ := own_len hown; have hB3 : Below w.heap.size w W2 := nextB hB2 hB0; have hR2 := blkN hB2 hR0; have hw2 := hB3.size; have hl2 := lt_blk hR2; have hGn := px_new hown; have hR2a := blkN ((Below.refl _ _).alloc (Nat.le_refl _) (.cells #[.slice vp L.length vc, .int .i64 0, .int .i64 0, .int .i64 0, .int .i64 0, .slice none 0 0, .slice none 0 0, .slice none 0 0] 74)) hR2) | (go_at_call 32; refine (f1 _ _ _ hGn).mono ?_; rintro e9 W3 ⟨rfl, ⟨v3, hG3⟩, hK3⟩; have hl3 := lt_blk hG3.box; have hX3 := heap_alloc_new W3 (.cells #[.int .i64 xo, .string xv, .int .i64 xa, .int .i64 xb, .string yv, .int .i64 ya, .int .i64 yb] 48); have hw3 := hK3.size; have hR3 := hK3.low hR2a (by omega)) | (go_at_call 33; refine (f2 _ _ v3 _ (hG3.below ((Below.refl _ _).alloc (Nat.le_refl _) _))).mono ?_; rintro e9 W4 ⟨rfl, hG4, hK4⟩; have hB5 : Below w.heap.size w W4 := hB3.trans ((((Keep.refl W2.heap.size [9] W2).alloc (.cells #[.slice vp L.length vc, .int .i64 0, .int .i64 0, .int .i64 0, .int .i64 0, .slice none 0 0, .slice none 0 0, .slice none 0 0] 74)).trans ((hK3.alloc (.cells #[.int .i64 xo, .string xv, .int .i64 xa, .int .i64 xb, .string yv, .int .i64 ya, .int .i64 yb] 48)).trans (hK4.mono (by simp)))).below hw2 hw2); have hX4 := hK4.blk hX3 (by omega) (by decide); have hR4 := hK4.low (blkN ((Below.refl _ _).alloc (Nat.le_refl _) (.cells #[.int .i64 xo, .string xv, .int .i64 xa, .int .i64 xb, .string yv, .int .i64 ya, .int .i64 yb] 48)) hR3) (by omega); obtain ⟨y0, y1, y2, y3, y4, y5, y6, y7, yf, yl2⟩ := row8 hG4.box; obtain ⟨c0, c1, c2, c3, c4, c5, c6, cf, cl⟩ := row7 hR4; obtain ⟨m0, m1, m2, m3, m4, m5, m6, mf, ml⟩ := row7 hX4; have hRz : r2.e = 0 := hR; rw [hRz] at y2))
      refine bodyPost_ret (v := .tuple #[.agg #[.int .i64 xo, .string xv, .int .i64 xa, .int .i64 xb, .string yv, .int .i64 ya, .int .i64 yb], .int .i64 0, .int .i64 0]) (by simp only [results, Try.results15]; go_simp) rfl ?_
      refine ⟨rfl, ?_⟩
      (repeat (first | (with_reducible exact hB5) | (with_reducible refine Below.drew ?_) | (with_reducible refine Below.setCell ?_ (by first | exact Nat.le_refl _ | exact Nat.le_succ _ | (simp; done) | (simp; omega)) _) | (with_reducible refine Below.alloc ?_ (by first | omega | (simp; omega)) _)))
    · simp only [q2, if_false]
      have q3 : (r2.e != 0) = true := by simpa using q2
      go_enter Try.func15, Try.ntmps15
      go_wp2_with (first | (go_at_call 25; refine f0.mono ?_; rintro e9 W2 ⟨v, rfl, hown, hB2⟩; obtain ⟨vp, vc, rfl⟩ := own_len hown; have hB3 : Below w.heap.size w W2 := nextB hB2 hB0; have hR2 := blkN hB2 hR0; have hw2 := hB3.size; have hl2 := lt_blk hR2; have hGn := px_new hown; have hR2a := blkN ((Below.refl _ _).alloc (Nat.le_refl _) (.cells #[.slice vp L.length vc, .int .i64 0, .int .i64 0, .int .i64 0, .int .i64 0, .slice none 0 0, .slice none 0 0, .slice none 0 0] 74)) hR2) | (go_at_call 32; refine (f1 _ _ _ hGn).mono ?_; rintro e9 W3 ⟨rfl, ⟨v3, hG3⟩, hK3⟩; have hl3 := lt_blk hG3.box; have hX3 := heap_alloc_new W3 (.cells #[.int .i64 xo, .string xv, .int .i64 xa, .int .i64 xb, .string yv, .int .i64 ya, .int .i64 yb] 48); have hw3 := hK3.size; have hR3 := hK3.low hR2a (by omega)) | (go_at_call 33; refine (f2 _ _ v3 _ (hG3.below ((Below.refl _ _).alloc (Nat.le_refl _) _))).mono ?_; rintro e9 W4 ⟨rfl, hG4, hK4⟩; have hB5 : Below w.heap.size w W4 := hB3.trans ((((Keep.refl W2.heap.size [9] W2).alloc (.cells #[.slice vp L.length vc, .int .i64 0, .int .i64 0, .int .i64 0, .int .i64 0, .slice none 0 0, .slice none 0 0, .slice none 0 0] 74)).trans ((hK3.alloc (.cells #[.int .i64 xo, .string xv, .int .i64 xa, .int .i64 xb, .string yv, .int .i64 ya, .int .i64 yb] 48)).trans (hK4.mono (by simp)))).below hw2 hw2); have hX4 := hK4.blk hX3 (by omega) (by decide); have hR4 := hK4.low (blkN ((Below.refl _ _).alloc (Nat.le_refl _) (.cells #[.int .i64 xo, .string xv, .int .i64 xa, .int .i64 xb, .string yv, .int .i64 ya, .int .i64 yb] 48)) hR3) (by omega); obtain ⟨y0, y1, y2, y3, y4, y5, y6, y7, yf, yl2⟩ := row8 hG4.box; obtain ⟨c0, c1, c2, c3, c4, c5, c6, cf, cl⟩ := row7 hR4; obtain ⟨m0, m1, m2, m3, m4, m5, m6, mf, ml⟩ := row7 hX4))
      go_region
      all_goals (
        go_wp2_with fail
        refine bodyPost_ret (v := .tuple #[.agg #[.int .i64 0, .string ⟨#[]⟩, .int .i64 0, .int .i64 0, .string ⟨#[]⟩, .int .i64 0, .int .i64 0], .int .i64 r2.e, .int .i64 r2.p]) (by simp only [results, Try.results15]; go_simp) rfl ?_
        refine ⟨rfl, ?_⟩
        (repeat (first | (with_reducible exact hB5) | (with_reducible refine Below.drew ?_) | (with_reducible refine Below.setCell ?_ (by first | exact Nat.le_refl _ | exact Nat.le_succ _ | (simp; done) | (simp; omega)) _) | (with_reducible refine Below.alloc ?_ (by first | omega | (simp; omega)) _))))

end Go.Proofs.Ytmnplnhblniimaa.Gr
