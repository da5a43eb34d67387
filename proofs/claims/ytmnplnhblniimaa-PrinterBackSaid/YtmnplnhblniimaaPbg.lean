/- PrinterBack: it answers true. WALK of the law. -/
import Derived.Test.YtmnplnhblniimaaMB
import Derived.Test.YtmnplnhblniimaaMG
import Derived.Test.YtmnplnhblniimaaMK
import Derived.Test.YtmnplnhblniimaaMF
namespace Go.Proofs.Ytmnplnhblniimaa.Gr
set_option linter.unusedVariables false
set_option linter.unusedSimpArgs false
open Go Go.RowKit

theorem str_of {a b : ByteArray} (h : (a.toList == b.toList) = true) : a = b := by rw [Pr.beq_str] at h; exact of_decide_eq_true h
theorem eqA_eq {x y : At} (h : Pr.eqA x y = true) : x = y := by
  unfold Pr.eqA at h
  simp only [Bool.and_eq_true] at h
  obtain ⟨h1, h2, h3⟩ := h
  replace h1 := str_of h1
  replace h2 : x.a = y.a := by simpa using h2
  replace h3 : x.b = y.b := by simpa using h3
  cases x; cases y
  simp only at h1 h2 h3
  subst h1 h2 h3
  rfl
theorem eqE_eq {x y : Ex} (h : Pr.eqE x y = true) : x = y := by
  unfold Pr.eqE at h
  simp only [Bool.and_eq_true] at h
  obtain ⟨h1, h2, h3⟩ := h
  replace h1 : x.op = y.op := by simpa using h1
  replace h2 := eqA_eq h2
  replace h3 := eqA_eq h3
  cases x; cases y
  simp only at h1 h2 h3
  subst h1 h2 h3
  rfl
theorem eqS_eq {x y : St} (h : Pr.eqS x y = true) : x = y := by
  unfold Pr.eqS at h
  simp only [Bool.and_eq_true] at h
  obtain ⟨h1, h2, h3⟩ := h
  replace h1 : x.k = y.k := by simpa using h1
  replace h2 := str_of h2
  replace h3 := eqE_eq h3
  cases x; cases y
  simp only at h1 h2 h3
  subst h1 h2 h3
  rfl
theorem eqT_eq {x y : Te} (h : Pr.eqT x y = true) : x = y := by
  unfold Pr.eqT at h
  simp only [Bool.and_eq_true] at h
  obtain ⟨h1, h2, h3, h4⟩ := h
  replace h1 : x.k = y.k := by simpa using h1
  replace h2 := eqA_eq h2
  replace h3 := str_of h3
  replace h4 := str_of h4
  cases x; cases y
  simp only at h1 h2 h3 h4
  subst h1 h2 h3 h4
  rfl
theorem eqL_eq {α : Type} {f : α → α → Bool} (hf : ∀ x y, f x y = true → x = y) : ∀ {l m : List α}, Pr.eqL f l m = true → l = m
  | [], [], _ => rfl
  | [], _ :: _, h => by cases h
  | _ :: _, [], h => by cases h
  | x :: l, y :: m, h => by
    have h : (f x y && Pr.eqL f l m) = true := h
    rw [Bool.and_eq_true] at h
    rw [hf _ _ h.1, eqL_eq hf h.2]
theorem sameP_eq : ∀ {P Q : List Bl}, Pr.sameP P Q = true → P.map toBk = Q.map toBk
  | [], [], _ => rfl
  | [], _ :: _, h => by cases h
  | _ :: _, [], h => by cases h
  | x :: P, y :: Q, h => by
    have h : (Pr.sameB x y && Pr.sameP P Q) = true := h
    rw [Bool.and_eq_true] at h
    have hb := h.1
    unfold Pr.sameB at hb
    simp only [Bool.and_eq_true] at hb
    obtain ⟨h1, h2, h3⟩ := hb
    rw [List.map_cons, List.map_cons, sameP_eq h.2]
    unfold toBk
    rw [str_of h1, eqT_eq h2, eqL_eq (fun _ _ => eqS_eq) h3]

/-- A program's text, if it is one. -/
def txt (P : List Bl) : ByteArray := if Pr.checkOf P = 0 then Pr.progT P else ⟨#[]⟩
theorem program_any (P : List Bl) (hs : Pr.smallB P = true) (pv : Value) (w : World) (h : Pg w pv P) :
    Calls Try.prog 20 #[.agg #[pv]] w fun e w' => e = .returned (.tuple #[.string (txt P), .int .i64 (Pr.checkOf P)]) ∧ Below w.heap.size w w' := by
  unfold txt
  by_cases hc : Pr.checkOf P = 0
  · rw [if_pos hc, hc]; exact Pr.program_ok P hs hc pv w h
  · rw [if_neg hc]; exact Pr.program_bad P hs hc pv w h

theorem same_txt {P Q : List Bl} (hP : Pr.checkOf P = 0) (hQ : Pr.checkOf Q = 0) : ((txt P).toList == (txt Q).toList) = Pr.sameP P Q := by
  unfold txt
  rw [if_pos hP, if_pos hQ, Pr.beq_str, Bool.eq_iff_iff, decide_eq_true_eq]
  exact ⟨fun h => sameP_of (progT_inj hP hQ h), fun h => progT_of (sameP_eq h)⟩

set_option maxRecDepth 100000 in
set_option maxHeartbeats 4000000 in
theorem printerBack_any (P Q : List Bl) (pv qv : Value) (w : World) (h : Pg w pv P) (h2 : Pg w qv Q) :
    Calls Try.prog 7 #[.agg #[pv], .agg #[qv]] w fun e w' => e = .returned (.bool true) ∧ Below w.heap.size w w' := by
  have s1 := fun (W : World) (hB : Below w.heap.size w W) => Pr.small_any P pv W (h.below hB)
  have s2 := fun (W : World) (hB : Below w.heap.size w W) => Pr.small_any Q qv W (h2.below hB)
  have g1 := fun (hs : Pr.smallB P = true) (W : World) (hB : Below w.heap.size w W) => program_any P hs pv W (h.below hB)
  have g2 := fun (hs : Pr.smallB Q = true) (W : World) (hB : Below w.heap.size w W) => program_any Q hs qv W (h2.below hB)
  obtain ⟨_, _, p, pc, rfl, _, _⟩ := h.1.open Bl.cs_len
  obtain ⟨_, _, q, qc, rfl, _, _⟩ := h2.1.open Bl.cs_len
  obtain ⟨hB0, hR0, hR1⟩ := two w (.cells #[.slice p P.length pc] 25) (.cells #[.slice q Q.length qc] 25)
  have hsd : ∀ (T : List Bl), Pr.smallB T = true → T.length ≤ 20000 ∧ ∀ b ∈ T, b.l.length ≤ 20000 := fun T hT => by
    obtain ⟨z1, z2, _⟩ := Pr.small_len hT
    exact ⟨by omega, fun b hb => by have := z2 b hb; omega⟩
  cases hsP : Pr.smallB P
  · rw [hsP] at s1
    clear g1 g2 s2
    go_enter Try.func7, Try.ntmps7
    go_wp2_with (first | (go_at_call 18; refine (Go.Proofs.Ytmnplnhblniimaa.p_awake _).mono ?_; rintro e9 W1 ⟨rfl, hB1⟩; have hW1 := nextB hB1 hB0; have r0 := blkN hB1 hR0; have r1 := blkN hB1 hR1; obtain ⟨u0, ul⟩ := row1 r0; obtain ⟨v0, vl⟩ := row1 r1) | (go_at_call 19; refine (s1 _ hW1).mono ?_; rintro e9 W2 ⟨rfl, hB2⟩; have hW2 := nextB hB2 hW1))
    all_goals (go_ret; exact ⟨rfl, hW2⟩)
  rw [hsP] at s1
  have lP := hsd P hsP
  have g1 := g1 hsP
  cases hsQ : Pr.smallB Q
  · rw [hsQ] at s2
    clear g2
    go_enter Try.func7, Try.ntmps7
    go_wp2_with (first | (go_at_call 18; refine (Go.Proofs.Ytmnplnhblniimaa.p_awake _).mono ?_; rintro e9 W1 ⟨rfl, hB1⟩; have hW1 := nextB hB1 hB0; have r0 := blkN hB1 hR0; have r1 := blkN hB1 hR1; obtain ⟨u0, ul⟩ := row1 r0; obtain ⟨v0, vl⟩ := row1 r1) | (go_at_call 19; first | ((with_reducible refine (s1 _ hW1).mono ?_); rintro e9 W2 ⟨rfl, hB2⟩; have hW2 := nextB hB2 hW1; have q1 := blkN hB2 r1; obtain ⟨y0, yl⟩ := row1 q1) | ((with_reducible refine (s2 _ hW2).mono ?_); rintro e9 W3 ⟨rfl, hB3⟩; have hW3 := nextB hB3 hW2)))
    all_goals (go_ret; exact ⟨rfl, hW3⟩)
  rw [hsQ] at s2
  have lQ := hsd Q hsQ
  have g2 := g2 hsQ
  have f1 := fun (W : World) => parse_any (txt P) W
  have hpp := fun hc => @parse_prog P hc
  have hst := @same_txt P Q
  have htx : Pr.checkOf P = 0 → txt P = Pr.progT P := fun hc => by unfold txt; rw [if_pos hc]
  have hlens := fun T => @lens (txt P) T
  have f2 := fun (T : List Bl) (hT : T.map toBk = (parse (txt P)).1) (hTP : T.map toBk = P.map toBk) (pv qv : Value) (W : World) (h : Pg W pv T) (h2 : Pg W qv P) => Pr.rsame_any T P (hlens T hT).1 lP.1 (hlens T hT).2 lP.2 pv qv W h h2
  have f2' : ∀ (T : List Bl) (hT : T.map toBk = (parse (txt P)).1) (hTP : T.map toBk = P.map toBk) (pv qv : Value) (W : World) (h : Pg W pv T) (h2 : Pg W qv P), Calls Try.prog 12 #[.agg #[pv], .agg #[qv]] W fun e w' => e = .returned (.bool true) ∧ Below W.heap.size W w' := fun T hT hTP pv qv W h h2 => by
    have := f2 T hT hTP pv qv W h h2
    rw [sameP_of hTP] at this
    exact this
  clear f2
  have f3 := fun (W : World) (hB : Below w.heap.size w W) => Pr.rsame_any P Q lP.1 lQ.1 lP.2 lQ.2 _ _ W (h.below hB) (h2.below hB)
  have hcp : Pr.checkOf P = 0 → (txt P).size ≤ 16384 → parse (txt P) = (P.map toBk, 0, 0) := fun hc hz => by rw [htx hc] at hz ⊢; exact hpp hc hz
  clear hpp htx lP lQ hsP hsQ hsd hlens
  by_cases cP : Pr.checkOf P = 0
  rotate_left
  · have hb : (Pr.checkOf P != 0) = true := by simpa using cP
    generalize Pr.checkOf P = e at g1 cP hb
    clear f1 f2' f3 hst hcp cP
    go_enter Try.func7, Try.ntmps7
    go_wp2_with (first | (go_at_call 18; refine (Go.Proofs.Ytmnplnhblniimaa.p_awake _).mono ?_; rintro e9 W1 ⟨rfl, hB1⟩; have hW1 := nextB hB1 hB0; have r0 := blkN hB1 hR0; have r1 := blkN hB1 hR1; obtain ⟨u0, ul⟩ := row1 r0; obtain ⟨v0, vl⟩ := row1 r1) | (go_at_call 19; first | ((with_reducible refine (s1 _ hW1).mono ?_); rintro e9 W2 ⟨rfl, hB2⟩; have hW2 := nextB hB2 hW1; have m0 := blkN hB2 r0; have m1 := blkN hB2 r1; obtain ⟨x0, xl⟩ := row1 m0; obtain ⟨y0, yl⟩ := row1 m1) | ((with_reducible refine (s2 _ hW2).mono ?_); rintro e9 W3 ⟨rfl, hB3⟩; have hW3 := nextB hB3 hW2; have n0 := blkN hB3 m0; have n1 := blkN hB3 m1; obtain ⟨p0, p1⟩ := row1 n0; obtain ⟨q0, q1⟩ := row1 n1)) | (go_at_call 20; first | ((with_reducible refine (g1 _ hW3).mono ?_); rintro e9 W4 ⟨rfl, hB4⟩; have hW4 := nextB hB4 hW3; have o0 := blkN hB4 n0; have o1 := blkN hB4 n1; obtain ⟨i0, i1⟩ := row1 o0; obtain ⟨j0, j1⟩ := row1 o1) | ((with_reducible refine (g2 _ hW4).mono ?_); rintro e9 W5 ⟨rfl, hB5⟩; have hW5 := nextB hB5 hW4; have z0 := blkN hB5 o0; have z1 := blkN hB5 o1; obtain ⟨k0, k1⟩ := row1 z0; obtain ⟨l0, l1⟩ := row1 z1)))
    all_goals (go_ret; exact ⟨rfl, hW5⟩)
  by_cases cQ : Pr.checkOf Q = 0
  rotate_left
  · have hb : (Pr.checkOf Q != 0) = true := by simpa using cQ
    rw [cP] at g1
    generalize Pr.checkOf Q = e at g2 cQ hb
    clear f1 f2' f3 hst hcp cQ cP
    go_enter Try.func7, Try.ntmps7
    go_wp2_with (first | (go_at_call 18; refine (Go.Proofs.Ytmnplnhblniimaa.p_awake _).mono ?_; rintro e9 W1 ⟨rfl, hB1⟩; have hW1 := nextB hB1 hB0; have r0 := blkN hB1 hR0; have r1 := blkN hB1 hR1; obtain ⟨u0, ul⟩ := row1 r0; obtain ⟨v0, vl⟩ := row1 r1) | (go_at_call 19; first | ((with_reducible refine (s1 _ hW1).mono ?_); rintro e9 W2 ⟨rfl, hB2⟩; have hW2 := nextB hB2 hW1; have m0 := blkN hB2 r0; have m1 := blkN hB2 r1; obtain ⟨x0, xl⟩ := row1 m0; obtain ⟨y0, yl⟩ := row1 m1) | ((with_reducible refine (s2 _ hW2).mono ?_); rintro e9 W3 ⟨rfl, hB3⟩; have hW3 := nextB hB3 hW2; have n0 := blkN hB3 m0; have n1 := blkN hB3 m1; obtain ⟨p0, p1⟩ := row1 n0; obtain ⟨q0, q1⟩ := row1 n1)) | (go_at_call 20; first | ((with_reducible refine (g1 _ hW3).mono ?_); rintro e9 W4 ⟨rfl, hB4⟩; have hW4 := nextB hB4 hW3; have o0 := blkN hB4 n0; have o1 := blkN hB4 n1; obtain ⟨i0, i1⟩ := row1 o0; obtain ⟨j0, j1⟩ := row1 o1) | ((with_reducible refine (g2 _ hW4).mono ?_); rintro e9 W5 ⟨rfl, hB5⟩; have hW5 := nextB hB5 hW4; have z0 := blkN hB5 o0; have z1 := blkN hB5 o1; obtain ⟨k0, k1⟩ := row1 z0; obtain ⟨l0, l1⟩ := row1 z1)))
    all_goals (go_ret; exact ⟨rfl, hW5⟩)
  have hst := hst cP cQ
  have hcp := hcp cP
  rw [cP] at g1
  rw [cQ] at g2
  clear cP cQ
  unfold ParseOk at f1
  generalize txt P = s at *
  generalize txt Q = t at *
  generalize Pr.sameP P Q = b at f3 hst
  have hbb : (b == b) = true := by simp
  by_cases hz : s.size ≤ 16384
  · have hz2 : (s.size : Int) ≤ 16384 := by omega
    rw [hcp hz] at f1 f2'
    clear hcp hz
    go_enter Try.func7, Try.ntmps7
    go_wp2_with (first | (go_at_call 18; refine (Go.Proofs.Ytmnplnhblniimaa.p_awake _).mono ?_; rintro e9 W1 ⟨rfl, hB1⟩; have hW1 := nextB hB1 hB0; have r0 := blkN hB1 hR0; have r1 := blkN hB1 hR1; obtain ⟨u0, ul⟩ := row1 r0; obtain ⟨v0, vl⟩ := row1 r1) | (go_at_call 19; first | ((with_reducible refine (s1 _ hW1).mono ?_); rintro e9 W2 ⟨rfl, hB2⟩; have hW2 := nextB hB2 hW1; have m0 := blkN hB2 r0; have m1 := blkN hB2 r1; obtain ⟨x0, xl⟩ := row1 m0; obtain ⟨y0, yl⟩ := row1 m1) | ((with_reducible refine (s2 _ hW2).mono ?_); rintro e9 W3 ⟨rfl, hB3⟩; have hW3 := nextB hB3 hW2; have n0 := blkN hB3 m0; have n1 := blkN hB3 m1; obtain ⟨p0, p1⟩ := row1 n0; obtain ⟨q0, q1⟩ := row1 n1)) | (go_at_call 20; first | ((with_reducible refine (g1 _ hW3).mono ?_); rintro e9 W4 ⟨rfl, hB4⟩; have hW4 := nextB hB4 hW3; have o0 := blkN hB4 n0; have o1 := blkN hB4 n1; obtain ⟨i0, i1⟩ := row1 o0; obtain ⟨j0, j1⟩ := row1 o1) | ((with_reducible refine (g2 _ hW4).mono ?_); rintro e9 W5 ⟨rfl, hB5⟩; have hW5 := nextB hB5 hW4; have z0 := blkN hB5 o0; have z1 := blkN hB5 o1; obtain ⟨k0, k1⟩ := row1 z0; obtain ⟨l0, l1⟩ := row1 z1)) | (go_at_call 9; refine (f1 _).mono ?_; rintro e9 W6 ⟨tv, T, rfl, hT, hTg, hB6⟩; obtain ⟨_, _, tp, tc, rfl, _, _⟩ := hTg.1.open Bl.cs_len; have hW6 := nextB hB6 hW5; have c0 := blkN hB6 z0; have c1 := blkN hB6 z1; obtain ⟨d0, d1⟩ := row1 c0; obtain ⟨w0, w1⟩ := row1 c1) | (go_at_call 12; first | ((with_reducible refine (f2' _ hT hT _ _ _ (hTg.below (((Below.refl _ _).alloc (Nat.le_refl _) _).alloc (by simp) _)) (h.below (nextB (((Below.refl _ _).alloc (Nat.le_refl _) _).alloc (by simp) _) hW6))).mono ?_); rintro e9 W7 ⟨rfl, hB7⟩; have hW7 := nextB hB7 (nextB (((Below.refl _ _).alloc (Nat.le_refl _) _).alloc (by simp) _) hW6); have a1 := blkN hB7 (blkN (((Below.refl _ _).alloc (Nat.le_refl _) _).alloc (by simp) _) c0); have a2 := blkN hB7 (blkN (((Below.refl _ _).alloc (Nat.le_refl _) _).alloc (by simp) _) c1); obtain ⟨a3, a4⟩ := row1 a1; obtain ⟨a5, a6⟩ := row1 a2) | ((with_reducible refine (f3 _ hW7).mono ?_); rintro e9 W8 ⟨rfl, hB8⟩; have hW8 := nextB hB8 hW7)))
    all_goals (go_ret; exact ⟨rfl, hW8⟩)
  · have hz2 : ¬ (s.size : Int) ≤ 16384 := by omega
    clear hcp hz f2'
    go_enter Try.func7, Try.ntmps7
    go_wp2_with (first | (go_at_call 18; refine (Go.Proofs.Ytmnplnhblniimaa.p_awake _).mono ?_; rintro e9 W1 ⟨rfl, hB1⟩; have hW1 := nextB hB1 hB0; have r0 := blkN hB1 hR0; have r1 := blkN hB1 hR1; obtain ⟨u0, ul⟩ := row1 r0; obtain ⟨v0, vl⟩ := row1 r1) | (go_at_call 19; first | ((with_reducible refine (s1 _ hW1).mono ?_); rintro e9 W2 ⟨rfl, hB2⟩; have hW2 := nextB hB2 hW1; have m0 := blkN hB2 r0; have m1 := blkN hB2 r1; obtain ⟨x0, xl⟩ := row1 m0; obtain ⟨y0, yl⟩ := row1 m1) | ((with_reducible refine (s2 _ hW2).mono ?_); rintro e9 W3 ⟨rfl, hB3⟩; have hW3 := nextB hB3 hW2; have n0 := blkN hB3 m0; have n1 := blkN hB3 m1; obtain ⟨p0, p1⟩ := row1 n0; obtain ⟨q0, q1⟩ := row1 n1)) | (go_at_call 20; first | ((with_reducible refine (g1 _ hW3).mono ?_); rintro e9 W4 ⟨rfl, hB4⟩; have hW4 := nextB hB4 hW3; have o0 := blkN hB4 n0; have o1 := blkN hB4 n1; obtain ⟨i0, i1⟩ := row1 o0; obtain ⟨j0, j1⟩ := row1 o1) | ((with_reducible refine (g2 _ hW4).mono ?_); rintro e9 W5 ⟨rfl, hB5⟩; have hW5 := nextB hB5 hW4; have z0 := blkN hB5 o0; have z1 := blkN hB5 o1; obtain ⟨k0, k1⟩ := row1 z0; obtain ⟨l0, l1⟩ := row1 z1)) | (go_at_call 9; refine (f1 _).mono ?_; rintro e9 W6 ⟨tv, T, rfl, hT, hTg, hB6⟩; obtain ⟨_, _, tp, tc, rfl, _, _⟩ := hTg.1.open Bl.cs_len; have hW6 := nextB hB6 hW5; have c0 := blkN hB6 z0; have c1 := blkN hB6 z1; obtain ⟨d0, d1⟩ := row1 c0; obtain ⟨w0, w1⟩ := row1 c1) | (go_at_call 12; refine (f3 _ (nextB (((Below.refl _ _).alloc (Nat.le_refl _) _).alloc (by simp) _) hW6)).mono ?_; rintro e9 W8 ⟨rfl, hB8⟩; have hW8 := nextB hB8 (nextB (((Below.refl _ _).alloc (Nat.le_refl _) _).alloc (by simp) _) hW6)))
    all_goals (go_ret; exact ⟨rfl, hW8⟩)

end Go.Proofs.Ytmnplnhblniimaa.Gr
