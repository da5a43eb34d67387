/- GrammarPrograms: it answers true. WALK of the law; before it, plainly: programs of one text are alike, and no longer than it. -/
import Derived.Test.YtmnplnhblniimaaPgn
import Derived.Test.YtmnplnhblniimaaLaw
namespace Go.Proofs.Ytmnplnhblniimaa.Gr
set_option linter.unusedVariables false
set_option linter.unusedSimpArgs false
open Go Go.RowKit

theorem stsL_len (L : List Tok) : ∀ (k : Nat) (r : R), (stsL L k r).length ≤ k
  | 0, r => Nat.le_refl _
  | k + 1, r => by
    unfold stsL
    split
    · split
      · have := stsL_len L k (stmtR L r); simp; omega
      · simp
    · simp
theorem blksL_len (L : List Tok) : ∀ (k : Nat) (r : R), (blksL L k r).length ≤ k
  | 0, r => Nat.le_refl _
  | k + 1, r => by
    unfold blksL
    split
    · have := blksL_len L k (blockR L r); simp; omega
    · simp
theorem blockB_len (L : List Tok) (r : R) : (blockB L r).l.length ≤ L.length := stsL_len _ _ _
theorem blksL_st (L : List Tok) : ∀ (k : Nat) (r : R), ∀ b ∈ blksL L k r, b.l.length ≤ L.length
  | 0, r, b, hb => by cases hb
  | k + 1, r, b, hb => by
    unfold blksL at hb
    split at hb
    · rcases List.mem_cons.1 hb with rfl | hb
      · exact blockB_len _ _
      · exact blksL_st L k _ b hb
    · cases hb
theorem parse_len (s : ByteArray) : (parse s).1.length ≤ 20000 ∧ ∀ b ∈ (parse s).1, b.l.length ≤ 20000 := by
  have hP : parse s = if (Tk.ofText s).e = 0 then (if (parseL (Tk.ofText s).l).1 = 0 then (allL (Tk.ofText s).l, 0, 0) else ([], parseL (Tk.ofText s).l)) else ([], (Tk.ofText s).e, (Tk.ofText s).pos) := rfl
  by_cases h0 : (Tk.ofText s).e = 0
  · obtain ⟨hL, hL2, hL3, hL4, hp0⟩ := text_lok h0
    rw [if_pos h0] at hP
    split at hP
    · rw [hP]
      refine ⟨?_, fun b hb => ?_⟩
      · have := blksL_len (Tk.ofText s).l (Tk.ofText s).l.length (blockR (Tk.ofText s).l r0)
        show (blockB _ r0 :: blksL _ _ _).length ≤ _
        rw [List.length_cons]; omega
      · rcases List.mem_cons.1 hb with rfl | hb
        · have := blockB_len (Tk.ofText s).l r0; omega
        · have := blksL_st _ _ _ b hb; omega
    · rw [hP]; exact ⟨by simp, fun b hb => by cases hb⟩
  · rw [if_neg h0] at hP; rw [hP]; exact ⟨by simp, fun b hb => by cases hb⟩

theorem bytes_self (s : ByteArray) : (s.toList == s.toList) = true := by simp
theorem eqA_self (x : At) : Pr.eqA x x = true := by simp [Pr.eqA]
theorem eqE_self (x : Ex) : Pr.eqE x x = true := by simp [Pr.eqE, eqA_self]
theorem eqS_self (x : St) : Pr.eqS x x = true := by simp [Pr.eqS, eqE_self]
theorem eqT_self (x : Te) : Pr.eqT x x = true := by simp [Pr.eqT, eqA_self]
theorem eqL_self {α : Type} {f : α → α → Bool} (h : ∀ x, f x x = true) : ∀ l : List α, Pr.eqL f l l = true
  | [] => rfl
  | x :: l => by show (f x x && Pr.eqL f l l) = true; rw [h x, eqL_self h l]; rfl
theorem sameB_of {b c : Bl} (h : toBk b = toBk c) : Pr.sameB b c = true := by
  have h1 : b.n = c.n := congrArg Bk.n h
  have h2 : b.l = c.l := congrArg Bk.l h
  have h3 : b.t = c.t := congrArg Bk.t h
  unfold Pr.sameB
  rw [h1, h2, h3, eqT_self, eqL_self eqS_self]
  simp
theorem sameP_of : ∀ {P Q : List Bl}, P.map toBk = Q.map toBk → Pr.sameP P Q = true
  | [], [], _ => rfl
  | [], _ :: _, h => by simp at h
  | _ :: _, [], h => by simp at h
  | x :: P, y :: Q, h => by
    simp only [List.map_cons, List.cons.injEq] at h
    show (Pr.sameB x y && Pr.sameP P Q) = true
    rw [sameB_of h.1, sameP_of h.2]; rfl
theorem lens {s : ByteArray} {P : List Bl} (h : P.map toBk = (parse s).1) : P.length ≤ 20000 ∧ ∀ b ∈ P, b.l.length ≤ 20000 := by
  obtain ⟨h1, h2⟩ := parse_len s
  refine ⟨?_, fun b hb => ?_⟩
  · rw [← h, List.length_map] at h1; exact h1
  · exact h2 (toBk b) (by rw [← h]; exact List.mem_map_of_mem hb)

set_option maxRecDepth 100000 in
set_option maxHeartbeats 2000000 in
theorem grammarPrograms_any (s : ByteArray) (w : World) : Calls Try.prog 3 #[.string s] w fun e w' => e = .returned (.bool true) ∧ Below w.heap.size w w' := by
  have f0 := awake3_any w
  have f1 := fun (W : World) => parse_any s W
  have f2 := fun (W : World) => pparse_any s W
  unfold ParseOk at f1
  unfold PParseOk at f2
  have hlens := fun P => @lens s P
  generalize parse s = RR at f1 f2 hlens
  obtain ⟨RP, e, p⟩ := RR
  simp only at f1 f2 hlens
  by_cases q1 : 6000 < s.size ∧ s.size ≤ 16384
  · have q2 : (6000 : Int) < s.size := by omega
    have q3 : (s.size : Int) ≤ 16384 := by omega
    go_enter Try.func3, Try.ntmps3
    go_wp2_with (go_at_call 8; refine' Calls.aft _ _ (f0) _; rotate_left 2; (exact Below.refl _ _; rfl); intro x1; have hle := After.le x1; (try simp at hle))
    go_ret
    exact ⟨rfl, x1.below⟩
  · have q2 : (6000 : Int) < s.size → ¬ (s.size : Int) ≤ 16384 := by omega
    have f3 := fun (W : World) => Tk.fault_any e p e p W
    have he : (e == e && p == p) = true := by simp
    rw [he] at f3
    go_enter Try.func3, Try.ntmps3
    go_wp2_with (first | (go_at_call 8; refine' Calls.aft _ _ (f0) _; rotate_left 2; (exact Below.refl _ _; rfl); intro x1; have hle := After.le x1; (try simp at hle)) | (go_at_call 9; refine (f1 _).mono ?_; rintro e9 W2 ⟨pv, P, rfl, hP, hPg, hB2⟩; obtain ⟨_, _, pp, pc, rfl, _, _⟩ := hPg.1.open Bl.cs_len; have hB2a : Below w.heap.size w W2 := nextB hB2 x1.below) | (go_at_call 10; refine (f2 _).mono ?_; rintro e9 W3 ⟨qv, Q, rfl, hQ, hQg, hB3⟩; obtain ⟨_, _, qp, qc, rfl, _, _⟩ := hQg.1.open Bl.cs_len; have hPQ := sameP_of (hP.trans hQ.symm); have hB3a : Below W2.heap.size W2 W3 := nextB hB3 (((Below.refl _ _).alloc (Nat.le_refl _) _).alloc (by simp) _); obtain ⟨_, hRp, hFp⟩ := two W2 (.cells #[.slice pp P.length pc] 25) (.cells #[.int .i64 e, .int .i64 p] 28); have hR3 := blkN hB3 hRp; have hF3 := blkN hB3 hFp; obtain ⟨c0, cl⟩ := row1 hR3; obtain ⟨d0, d1, df, dl⟩ := row2 hF3; have hw3 : Below w.heap.size w W3 := nextB hB3a hB2a; have f4 := fun (W : World) (h : Pg W (.slice pp P.length pc) P) (h2 : Pg W (.slice qp Q.length qc) Q) => Pr.rsame_any P Q (hlens P hP).1 (hlens Q hQ).1 (hlens P hP).2 (hlens Q hQ).2 _ _ W h h2; simp only [hPQ] at f4; have hPg3 := hPg.below hB3a) | (go_at_call 11; refine' Calls.aft _ _ (f3 _) _; rotate_left 2; (exact Below.refl _ _; rfl); intro x4; have hle := After.le x4; (try simp at hle)) | (go_at_call 12; refine' Calls.aft _ _ (f4 _ (hPg3.below (nextB x4.below ((Below.refl _ _).alloc (Nat.le_refl _) _))) (hQg.below (nextB x4.below ((Below.refl _ _).alloc (Nat.le_refl _) _)))) _; rotate_left 2; (exact Below.refl _ _; rfl); intro x5; have hle := After.le x5; (try simp at hle)))
    all_goals (go_ret; exact ⟨rfl, nextB x5.below (nextB x4.below (hw3.alloc hw3.size _))⟩)

end Go.Proofs.Ytmnplnhblniimaa.Gr
