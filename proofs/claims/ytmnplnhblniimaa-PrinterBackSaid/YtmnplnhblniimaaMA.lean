/- WHAT IS PARSED IS PROPER, plain: names are names, numbers are numbers, the variables are counted. No program in sight. WHAT IS PARSED IS PROPER, plain: the end. No program in sight. -/
import Derived.Test.YtmnplnhblniimaaGro
import Derived.Test.YtmnplnhblniimaaGrk
import Derived.Test.YtmnplnhblniimaaChk
import Derived.Test.YtmnplnhblniimaaMH
import Derived.Test.YtmnplnhblniimaaME
import Derived.Test.YtmnplnhblniimaaGrq

namespace Go.Proofs.Ytmnplnhblniimaa.Gr
set_option linter.unusedVariables false
set_option linter.unusedSimpArgs false
open Go

/-- Tokens that are names have texts that are. -/
def Nok (L : List Tok) : Prop := ∀ t ∈ L, t.kind = 1 → Tk.nameB t.s = true
theorem isB_e {L : List Tok} {r : R} {k : Int} {s : ByteArray} (h : isB L r k s = true) : r.e = 0 := by
  unfold isB at h
  simp only [Bool.and_eq_true, beq_iff_eq] at h
  exact h.1
theorem tokn_name {L : List Tok} (hN : Nok L) {r : R} {s : ByteArray} (h : isB L r 1 s = true) : Tk.nameB (tokn L r 1 s).s = true := by
  have hk := isB_kind h
  unfold tokn
  rw [if_pos h]
  unfold now at hk ⊢
  rw [List.getD_eq_getElem?_getD] at hk ⊢
  cases hq : L[r.i]? with
  | none => rw [hq] at hk; simp [t0] at hk
  | some t => rw [hq] at hk; exact hN t (List.mem_of_getElem? hq) hk

/-- What grows: variables, what is gone to; and a fault stays. -/
structure Gm (r q : R) : Prop where
  v : ∀ x ∈ r.vs, x ∈ q.vs
  t : ∀ x ∈ r.tg, x ∈ q.tg
  e : q.e = 0 → r.e = 0
theorem Gm.refl (r : R) : Gm r r := ⟨fun _ h => h, fun _ h => h, id⟩
theorem Gm.trans {a b c : R} (h : Gm a b) (k : Gm b c) : Gm a c := ⟨fun x hx => k.v x (h.v x hx), fun x hx => k.t x (h.t x hx), fun x => h.e (k.e x)⟩
theorem gm_fail (r : R) (e p : Int) : Gm r (fail r e p) := by
  unfold fail
  split
  · rename_i h; exact ⟨fun _ h => h, fun _ h => h, fun _ => h⟩
  · exact Gm.refl r
theorem gm_took (L : List Tok) (r : R) (k : Int) (s : ByteArray) : Gm r (took L r k s) :=
  ⟨fun x h => by rw [(took_vs L r k s).1]; exact h, fun x h => by rw [(took_vs L r k s).2.1]; exact h, fun h => (took_e L r k s h).2.2⟩
theorem gm_less (L : List Tok) (r : R) : Gm r (less L r) := by unfold less; split; exact gm_took _ _ _ _; exact Gm.refl _
theorem gm_part (L : List Tok) (r : R) : Gm r (partR L r) := by
  unfold partR
  split
  · exact ((gm_less L r).trans (gm_took _ _ _ _)).trans (gm_fail _ _ _)
  · exact (gm_less L r).trans (gm_took _ _ _ _)
theorem gm_var (L : List Tok) (r : R) : Gm r (varR L r) := by
  have h := gm_took L r 1 (st [])
  have h2 : Gm r { took L r 1 (st []) with vs := (took L r 1 (st [])).vs ++ [(now L r).s] } := ⟨fun x hx => List.mem_append_left _ (h.v x hx), h.t, h.e⟩
  unfold varR
  split
  · split
    · exact h
    · split
      · exact h2.trans (gm_fail _ _ _)
      · exact h2
  · exact h
theorem gm_atom (L : List Tok) (r : R) : Gm r (atomR L r) := by
  unfold atomR
  split
  · exact gm_var L r
  · split
    · exact ((((gm_took _ _ _ _).trans (gm_part _ _)).trans (gm_took _ _ _ _)).trans (gm_part _ _)).trans (gm_took _ _ _ _)
    · exact gm_part L r
theorem gm_expr (L : List Tok) (r : R) : Gm r (exprR L r) := by
  unfold exprR
  split
  · exact (gm_took _ _ _ _).trans (gm_atom _ _)
  · split
    · exact ((gm_atom L r).trans (gm_took _ _ _ _)).trans (gm_atom _ _)
    · split
      · exact ((gm_atom L r).trans (gm_took _ _ _ _)).trans (gm_atom _ _)
      · split
        · exact ((gm_atom L r).trans (gm_took _ _ _ _)).trans (gm_atom _ _)
        · exact gm_atom L r
theorem gm_cnt (L : List Tok) (r : R) : Gm r (cntR L r) := by
  have h : Gm r { r with n := r.n + 1 } := ⟨fun _ h => h, fun _ h => h, id⟩
  unfold cntR
  split
  · exact h.trans (gm_fail _ _ _)
  · exact h
theorem gm_stmt (L : List Tok) (r : R) : Gm r (stmtR L r) := by
  unfold stmtR
  refine Gm.trans ?_ (gm_took _ _ _ _)
  split
  · exact (((gm_cnt L r).trans (gm_var _ _)).trans (gm_took _ _ _ _)).trans (gm_expr _ _)
  · split
    · exact ((gm_cnt L r).trans (gm_took _ _ _ _)).trans (gm_var _ _)
    · exact ((gm_cnt L r).trans (gm_took _ _ _ _)).trans (gm_atom _ _)
theorem gm_lbl (L : List Tok) (r : R) : Gm r (lblR L r) :=
  have h := gm_took L r 1 (st [])
  ⟨h.v, fun x hx => List.mem_append_left _ (h.t x hx), h.e⟩
theorem gm_ifA (L : List Tok) (r : R) : Gm r (ifA L r) := ((gm_took _ _ _ _).trans (gm_atom _ _)).trans (gm_took _ _ _ _)
theorem gm_ifB (L : List Tok) (r : R) : Gm r (ifB L r) := ((gm_ifA L r).trans (gm_lbl _ _)).trans (gm_took _ _ _ _)
theorem gm_term (L : List Tok) (r : R) : Gm r (termR L r) := by
  unfold termR
  refine Gm.trans ?_ (gm_took _ _ _ _)
  split
  · exact (gm_took _ _ _ _).trans (gm_lbl _ _)
  · split
    · exact (gm_ifB L r).trans (gm_lbl _ _)
    · exact gm_took _ _ _ _
theorem gm_sts (L : List Tok) : ∀ (k : Nat) (r : R), Gm r (stsR L k r)
  | 0, r => Gm.refl r
  | k + 1, r => by
    unfold stsR
    split
    · split
      · exact (gm_stmt L r).trans (gm_sts L k _)
      · exact gm_stmt L r
    · exact Gm.refl r
theorem gm_body (L : List Tok) (r : R) : Gm r (bodyR L r) := by
  have h0 : Gm r (headR L r) := by unfold headR; split; exact gm_fail _ _ _; exact Gm.refl r
  have h1 : Gm r (nameR L r) := h0.trans (gm_took _ _ _ _)
  have h2 : Gm r (took L (nameR L r) 1 (st [])) := h1.trans (gm_took _ _ _ _)
  have h3 : Gm r { took L (nameR L r) 1 (st []) with bk := (took L (nameR L r) 1 (st [])).bk ++ [tokn L (nameR L r) 1 (st [])] } := ⟨h2.v, h2.t, h2.e⟩
  exact h3.trans (gm_took _ _ _ _)
theorem gm_end (L : List Tok) (r : R) : Gm r (endR L r) := (gm_body L r).trans (gm_sts L _ _)
theorem gm_block (L : List Tok) (r : R) : Gm r (blockR L r) := ((gm_end L r).trans (gm_term _ _)).trans (gm_took _ _ _ _)
theorem gm_blks (L : List Tok) : ∀ (k : Nat) (r : R), Gm r (blksR L k r)
  | 0, r => Gm.refl r
  | k + 1, r => by
    unfold blksR
    split
    · exact (gm_block L r).trans (gm_blks L k _)
    · exact Gm.refl r

/-- A text that is none, or a variable that was counted. -/
def Vin (q : R) (s : ByteArray) : Prop := s.size = 0 ∨ s ∈ q.vs
theorem Vin.mono {r q : R} {s : ByteArray} (h : Vin r s) (g : Gm r q) : Vin q s := h.imp id (g.v s)
theorem vin_nil (q : R) : Vin q (st []) := .inl rfl

section
variable {L : List Tok} (hN : Nok L) (hL : Lok L)
include hN in
theorem var_ok {r : R} (h : (varR L r).e = 0) : Tk.nameB (varS L r) = true ∧ varS L r ∈ (varR L r).vs := by
  have he : (took L r 1 (st [])).e = 0 := by
    by_cases h0 : (took L r 1 (st [])).e = 0
    · exact h0
    · unfold varR at h; rw [if_neg h0] at h; exact absurd h h0
  obtain ⟨hb, ht, _⟩ := took_e L r 1 (st []) he
  have hn := tokn_name hN hb
  refine ⟨hn, ?_⟩
  show (tokn L r 1 (st [])).s ∈ _
  rw [ht]
  unfold varR at h ⊢
  rw [if_pos he] at h ⊢
  split
  · rename_i hh
    unfold has at hh
    obtain ⟨x, hx, hxe⟩ := List.any_eq_true.1 hh
    rw [Pr.beq_str, decide_eq_true_eq] at hxe
    rw [← hxe]; exact hx
  · split
    · have := gm_fail { took L r 1 (st []) with vs := (took L r 1 (st [])).vs ++ [(now L r).s] } 6 (now L r).pos
      exact this.v _ (List.mem_append_right _ (List.mem_singleton.2 rfl))
    · exact List.mem_append_right _ (List.mem_singleton.2 rfl)

include hL in
theorem part_ok {r : R} (hi : (less L r).i < L.length) (h : (partR L r).e = 0) : (partN L r == wr (partN L r)) = true := by
  obtain ⟨n0, n1⟩ := tok_n hL hi 2 (st [])
  have hw : wr (partN L r) = partN L r := by
    unfold partN
    split
    · exact wr_in (by omega) (by omega)
    · rename_i hb
      refine wr_in (by omega) ?_
      by_cases hx : 32767 < (tokn L (less L r) 2 (st [])).n
      · exfalso
        unfold partR at h
        rw [if_pos ⟨by simpa using hb, hx⟩] at h
        unfold fail at h
        split at h
        · have : (6 : Int) = 0 := h
          omega
        · rename_i hh; exact hh h
      · omega
  rw [hw]; simp
end

theorem empty0 : Pr.emptyB (st []) = true := by kernel_rfl
theorem zA0 : Pr.zeroA a0 = true := by kernel_rfl
theorem zE0 : Pr.zeroE ⟨0, a0, a0⟩ = true := by kernel_rfl
theorem empty_of {s : ByteArray} (h : Tk.nameB s = true) : Pr.emptyB s = false := by
  unfold Tk.nameB at h
  simp only [Bool.and_eq_true, decide_eq_true_eq] at h
  unfold Pr.emptyB
  cases hq : (s.toList == []) with
  | false => rfl
  | true =>
    have h1 : s.toList = [] := by simpa using hq
    have h2 : s = st [] := by
      have : (s.toList == (st []).toList) = true := by rw [h1]; kernel_rfl
      rw [Pr.beq_str] at this
      exact of_decide_eq_true this
    rw [h2] at h
    exact absurd h.1.1.1.1 (by decide)

section
variable {L : List Tok} (hN : Nok L) (hL : Lok L)
include hN hL
theorem atom_ok {r : R} (hk : Ok L r) (h : (atomR L r).e = 0) : Pr.atomB (atomA L r) = true ∧ Vin (atomR L r) (atomA L r).v := by
  unfold atomR at h ⊢
  unfold atomA
  by_cases h1 : isB L r 1 (st []) = true
  · rw [if_pos h1] at h ⊢
    rw [if_pos h1]
    obtain ⟨a, b⟩ := var_ok hN h
    refine ⟨?_, .inr b⟩
    unfold Pr.atomB
    simp only [empty_of a, a, Bool.true_and]
    rfl
  · rw [if_neg h1] at h ⊢
    rw [if_neg h1]
    by_cases h2 : isB L r 3 (st [40]) = true
    · rw [if_pos h2] at h ⊢
      rw [if_pos h2]
      have k1 := hk.took hL 3 (st [40])
      have k2 := (k1.part hL).took hL 3 (st [44])
      have e3 := (gm_took _ _ _ _).e h
      have e2 := (gm_took _ _ _ _).e ((gm_part _ _).e e3)
      have p1 := part_ok hL (k1.less hL).i e2
      have p2 := part_ok hL (k2.less hL).i e3
      refine ⟨?_, .inl rfl⟩
      unfold Pr.atomB Pr.isNumB
      have := empty0
      simp only [this, p1, p2, Bool.and_self]
    · rw [if_neg h2] at h ⊢
      rw [if_neg h2]
      have p1 := part_ok hL (hk.less hL).i h
      refine ⟨?_, .inl rfl⟩
      unfold Pr.atomB Pr.isNumB
      have := empty0
      have h0 : ((0 : Int) == wr 0) = true := by decide
      simp only [this, p1, h0, Bool.and_self]
theorem expr_ok {r : R} (hk : Ok L r) (h : (exprR L r).e = 0) : Pr.exprB (exprE L r) = true ∧ Vin (exprR L r) (exprE L r).x.v ∧ Vin (exprR L r) (exprE L r).y.v := by
  have two : ∀ (k : Int) (s : ByteArray), (atomR L (took L (atomR L r) 3 s)).e = 0 → (k = 1 ∨ k = 2 ∨ k = 3) →
      Pr.exprB ⟨k, atomA L r, atomA L (took L (atomR L r) 3 s)⟩ = true ∧ Vin (atomR L (took L (atomR L r) 3 s)) (atomA L r).v ∧ Vin (atomR L (took L (atomR L r) 3 s)) (atomA L (took L (atomR L r) 3 s)).v := fun k s he hkk => by
    have g := (gm_took L (atomR L r) 3 s).trans (gm_atom L _)
    obtain ⟨a1, a2⟩ := atom_ok hN hL hk (g.e he)
    obtain ⟨b1, b2⟩ := atom_ok hN hL ((hk.atom hL).took hL 3 s) he
    refine ⟨?_, a2.mono g, b2⟩
    unfold Pr.exprB
    rw [if_neg (by show ¬ (k = 0 ∨ k = 4); omega), if_pos hkk, a1, b1]; rfl
  unfold exprR at h ⊢
  unfold exprE
  by_cases h1 : isB L r 4 conjS = true
  · rw [if_pos h1] at h ⊢
    rw [if_pos h1]
    obtain ⟨a1, a2⟩ := atom_ok hN hL (hk.took hL 4 conjS) h
    refine ⟨?_, a2, .inl rfl⟩
    unfold Pr.exprB
    rw [if_pos (.inr rfl), a1]; exact zA0
  rw [if_neg h1] at h ⊢
  rw [if_neg h1]
  by_cases h2 : isB L (atomR L r) 3 (st [43]) = true
  · rw [if_pos h2] at h ⊢
    rw [if_pos h2]
    exact two 1 _ h (.inl rfl)
  rw [if_neg h2] at h ⊢
  rw [if_neg h2]
  by_cases h3 : isB L (atomR L r) 3 (st [45]) = true
  · rw [if_pos h3] at h ⊢
    rw [if_pos h3]
    exact two 2 _ h (.inr (.inl rfl))
  rw [if_neg h3] at h ⊢
  rw [if_neg h3]
  by_cases h4 : isB L (atomR L r) 3 (st [42]) = true
  · rw [if_pos h4] at h ⊢
    rw [if_pos h4]
    exact two 3 _ h (.inr (.inr rfl))
  rw [if_neg h4] at h ⊢
  rw [if_neg h4]
  obtain ⟨a1, a2⟩ := atom_ok hN hL hk h
  refine ⟨?_, a2, .inl rfl⟩
  unfold Pr.exprB
  rw [if_pos (.inl rfl), a1]; exact zA0

/-- A statement is one, and its variables were counted. -/
def StG (q : R) (s : St) : Prop := Pr.stmtB s = true ∧ Vin q s.v ∧ Vin q s.e.x.v ∧ Vin q s.e.y.v
omit hN hL in
theorem StG.mono {r q : R} {s : St} (h : StG r s) (g : Gm r q) : StG q s := ⟨h.1, h.2.1.mono g, h.2.2.1.mono g, h.2.2.2.mono g⟩
theorem stmt_ok {r : R} (hk : Ok L r) (h : (stmtR L r).e = 0) : StG (stmtR L r) (stmtS L r) := by
  have kc := hk.cnt
  unfold stmtR at h ⊢
  have g := gm_took L (if isB L r 1 (st []) then exprR L (took L (varR L (cntR L r)) 3 (st [61])) else if isB L r 4 inS then varR L (took L (cntR L r) 4 inS) else atomR L (took L (cntR L r) 4 outS)) 3 (st [59])
  have h' := g.e h
  refine StG.mono ?_ g
  clear h g
  unfold stmtS
  by_cases h1 : isB L r 1 (st []) = true
  · rw [if_pos h1] at h' ⊢
    rw [if_pos h1]
    have g2 := (gm_took L (varR L (cntR L r)) 3 (st [61])).trans (gm_expr L _)
    obtain ⟨a1, a2⟩ := var_ok hN (g2.e h')
    obtain ⟨b1, b2, b3⟩ := expr_ok hN hL ((kc.var hL).took hL 3 (st [61])) h'
    refine ⟨?_, Vin.mono (.inr a2) g2, b2, b3⟩
    unfold Pr.stmtB
    rw [if_pos rfl, a1, b1]; rfl
  rw [if_neg h1] at h' ⊢
  rw [if_neg h1]
  by_cases h2 : isB L r 4 inS = true
  · rw [if_pos h2] at h' ⊢
    rw [if_pos h2]
    obtain ⟨a1, a2⟩ := var_ok hN h'
    refine ⟨?_, .inr a2, .inl rfl, .inl rfl⟩
    unfold Pr.stmtB
    rw [if_neg (by show ¬ ((2 : Int) = 1); decide), if_pos rfl, a1]; exact zE0
  · rw [if_neg h2] at h' ⊢
    rw [if_neg h2]
    obtain ⟨a1, a2⟩ := atom_ok hN hL (kc.took hL 4 outS) h'
    refine ⟨?_, .inl rfl, a2, .inl rfl⟩
    unfold Pr.stmtB
    rw [if_neg (by show ¬ ((3 : Int) = 1); decide), if_neg (by show ¬ ((3 : Int) = 2); decide), if_pos rfl]
    unfold Pr.exprB
    rw [if_pos (.inl rfl), a1]
    show (Pr.emptyB (st []) && (true && (true && Pr.zeroA a0))) = true
    rw [empty0, zA0]; rfl
theorem sts_ok : ∀ (k : Nat) {r : R}, Ok L r → (stsR L k r).e = 0 → (∀ s ∈ stsL L k r, StG (stsR L k r) s) ∧ (stsR L k r).n = r.n + ((stsL L k r).length : Int)
  | 0, r, hk, h => ⟨fun s hs => (by cases hs), by show r.n = r.n + (([] : List St).length : Int); simp⟩
  | k + 1, r, hk, h => by
    unfold stsR at h ⊢
    unfold stsL
    by_cases h1 : isSt L r = true
    · rw [if_pos h1] at h ⊢
      rw [if_pos h1]
      by_cases h2 : (stmtR L r).e = 0
      · rw [if_pos h2] at h ⊢
        rw [if_pos h2]
        obtain ⟨f1, f2, f3, f4, f5, f6⟩ := stmt_facts hL hk
        obtain ⟨a, b⟩ := sts_ok k f1 h
        refine ⟨fun s hs => ?_, ?_⟩
        · rcases List.mem_cons.1 hs with rfl | hs
          · exact (stmt_ok hN hL hk h2).mono (gm_sts L k _)
          · exact a s hs
        · rw [b, f4, List.length_cons]; omega
      · rw [if_neg h2] at h; exact absurd h h2
    · rw [if_neg h1] at h ⊢
      rw [if_neg h1]
      exact ⟨fun s hs => by (cases hs), by simp⟩

omit hN hL in
theorem lbl_mem (r : R) : ∃ t ∈ (lblR L r).tg, t.s = varS L r := ⟨tokn L r 1 (st []), List.mem_append_right _ (List.mem_singleton.2 rfl), rfl⟩
omit hL in
theorem lbl_name {r : R} (h : (lblR L r).e = 0) : Tk.nameB (varS L r) = true := tokn_name hN (took_e L r 1 (st []) h).1
/-- An end is one, and what it goes to was noted. -/
def TeG (q : R) (t : Te) : Prop := Pr.termB t = true ∧ Vin q t.x.v ∧ (t.k = 1 ∨ t.k = 2 → ∃ x ∈ q.tg, x.s = t.t) ∧ (t.k = 2 → ∃ x ∈ q.tg, x.s = t.e)
omit hN hL in
theorem TeG.mono {r q : R} {t : Te} (h : TeG r t) (g : Gm r q) : TeG q t :=
  ⟨h.1, h.2.1.mono g, fun k => by obtain ⟨x, hx, e⟩ := h.2.2.1 k; exact ⟨x, g.t x hx, e⟩, fun k => by obtain ⟨x, hx, e⟩ := h.2.2.2 k; exact ⟨x, g.t x hx, e⟩⟩
theorem term_ok {r : R} (hk : Ok L r) (h : (termR L r).e = 0) : TeG (termR L r) (termT L r) := by
  unfold termR at h ⊢
  have g := gm_took L (if isB L r 4 gotoS then lblR L (took L r 4 gotoS) else if isB L r 4 ifS then lblR L (ifB L r) else took L r 4 retS) 3 (st [59])
  have h' := g.e h
  refine TeG.mono ?_ g
  clear h g
  unfold termT
  by_cases h1 : isB L r 4 gotoS = true
  · rw [if_pos h1] at h' ⊢
    rw [if_pos h1]
    have a1 := lbl_name hN h'
    refine ⟨?_, .inl rfl, fun _ => lbl_mem _, fun hh => (by cases hh)⟩
    unfold Pr.termB
    rw [if_pos rfl, a1]
    show (true && (Pr.emptyB (st []) && Pr.zeroA a0)) = true
    rw [empty0, zA0]; rfl
  rw [if_neg h1] at h' ⊢
  rw [if_neg h1]
  by_cases h2 : isB L r 4 ifS = true
  · rw [if_pos h2] at h' ⊢
    rw [if_pos h2]
    have gb := gm_lbl L (ifB L r)
    have gA := (gm_took L (lblR L (ifA L r)) 4 elseS).trans gb
    have gt := gm_took L (atomR L (took L r 4 ifS)) 4 thenS
    have e2 : (lblR L (ifA L r)).e = 0 := gA.e h'
    have e1 : (atomR L (took L r 4 ifS)).e = 0 := gt.e ((gm_lbl L (ifA L r)).e e2)
    have a1 := lbl_name hN h'
    have a2 := lbl_name hN e2
    obtain ⟨b1, b2⟩ := atom_ok hN hL (hk.took hL 4 ifS) e1
    obtain ⟨x, hx, hxe⟩ := lbl_mem (L := L) (ifA L r)
    refine ⟨?_, b2.mono ((gt.trans (gm_lbl L (ifA L r))).trans gA), fun _ => ⟨x, gA.t x hx, hxe⟩, fun _ => lbl_mem _⟩
    unfold Pr.termB
    rw [if_neg (by show ¬ ((2 : Int) = 1); decide), if_pos rfl, a1, a2, b1]; rfl
  · rw [if_neg h2] at h' ⊢
    rw [if_neg h2]
    refine ⟨?_, .inl rfl, fun hh => (by rcases hh with hh | hh <;> cases hh), fun hh => (by cases hh)⟩
    unfold Pr.termB
    rw [if_neg (by show ¬ ((3 : Int) = 1); decide), if_neg (by show ¬ ((3 : Int) = 2); decide), if_pos rfl]
    show (Pr.emptyB (st []) && (Pr.emptyB (st []) && Pr.zeroA a0)) = true
    rw [empty0, zA0]; rfl

/-- A block is one. -/
structure BkG (q : R) (b : Bk) : Prop where
  n : Tk.nameB b.n = true
  s : ∀ s ∈ b.l, StG q s
  t : TeG q b.t
omit hN hL in
theorem BkG.mono {r q : R} {b : Bk} (h : BkG r b) (g : Gm r q) : BkG q b := ⟨h.n, fun s hs => (h.s s hs).mono g, h.t.mono g⟩
theorem block_ok {r : R} (hk : Ok L r) (hc : Cn r) (h : (blockR L r).e = 0) : BkG (blockR L r) (blockB L r) ∧ (blockR L r).n = r.n + ((blockB L r).l.length : Int) ∧ (blockR L r).bk = r.bk ++ [tokn L (nameR L r) 1 (st [])] := by
  have gz := gm_took L (termR L (endR L r)) 3 (st [125])
  have gt := gm_term L (endR L r)
  have et : (termR L (endR L r)).e = 0 := gz.e h
  have ee : (endR L r).e = 0 := gt.e et
  have kb := hk.body hL
  obtain ⟨b1, b2, b3, b4, b5⟩ := body_facts L r
  have eb : (bodyR L r).e = 0 := (gm_sts L L.length (bodyR L r)).e ee
  have cb : Cn (bodyR L r) := ⟨by rw [b3]; exact hc.lo, by rw [b3]; exact hc.hi, fun he => by rw [b3]; exact hc.e (by rcases b5 he with h | h; exact h.1; exact h.2.1)⟩
  obtain ⟨s1, s2, s3, s4, s5, s6⟩ := sts_facts hL L.length kb cb
  obtain ⟨a1, a2⟩ := sts_ok hN hL L.length kb ee
  have ke : Ok L (endR L r) := s1
  have t1 := term_ok hN hL ke et
  obtain ⟨_, u2, u3, _⟩ := term_facts hL ke
  have z := sm_took L (termR L (endR L r)) 3 (st [125])
  have sn := sm_name L r
  have s2' := sm_took L (nameR L r) 1 (st [])
  have s3' := sm_took L { took L (nameR L r) 1 (st []) with bk := (took L (nameR L r) 1 (st [])).bk ++ [tokn L (nameR L r) 1 (st [])] } 3 (st [123])
  have hbk : (bodyR L r).bk = r.bk ++ [tokn L (nameR L r) 1 (st [])] := by
    refine s3'.bk.trans ?_
    show (took L (nameR L r) 1 (st [])).bk ++ _ = _
    rw [s2'.bk, sn.bk]
  have eN : (took L (nameR L r) 1 (st [])).e = 0 := by
    have h3 : (took L { took L (nameR L r) 1 (st []) with bk := (took L (nameR L r) 1 (st [])).bk ++ [tokn L (nameR L r) 1 (st [])] } 3 (st [123])).e = 0 := eb
    exact s3'.e h3
  refine ⟨⟨tokn_name hN (took_e L (nameR L r) 1 (st []) eN).1, fun s hs => (a1 s hs).mono (gt.trans gz), t1.mono gz⟩, ?_, ?_⟩
  · show (took L (termR L (endR L r)) 3 (st [125])).n = _
    rw [z.n, u3]
    show (stsR L L.length (bodyR L r)).n = _
    rw [a2, b3]; rfl
  · show (took L (termR L (endR L r)) 3 (st [125])).bk = _
    rw [z.bk, u2]
    show (stsR L L.length (bodyR L r)).bk = _
    rw [s4, hbk]

/-- What the blocks so far are. -/
structure Als (q : R) (B : List Bk) : Prop where
  g : ∀ b ∈ B, BkG q b
  n : q.n = ((B.map fun b => b.l.length).sum : Nat)
  m : q.bk.map Tk.Tok.s = B.map Bk.n
  c : q.e = 0 → q.bk.length ≤ 128
theorem Als.block {q : R} {B : List Bk} (h : Als q B) (hk : Ok L q) (hc : Cn q) (he : (blockR L q).e = 0) : Als (blockR L q) (B ++ [blockB L q]) := by
  obtain ⟨a1, a2, a3⟩ := block_ok hN hL hk hc he
  obtain ⟨_, _, f3, _, f5⟩ := block_facts hL hk hc
  obtain ⟨_, e1, e2⟩ := f5 he
  refine ⟨fun b hb => ?_, ?_, ?_, fun _ => ?_⟩
  · rcases List.mem_append.1 hb with hb | hb
    · exact (h.g b hb).mono (gm_block L q)
    · obtain rfl := List.mem_singleton.1 hb; exact a1
  · rw [a2, h.n, List.map_append, List.sum_append]; simp
  · rw [a3, List.map_append, List.map_append, h.m]; rfl
  · have := h.c e1; omega
theorem blks_ok : ∀ (k : Nat) {q : R} {B : List Bk}, Als q B → Ok L q → Cn q → (blksR L k q).e = 0 → Als (blksR L k q) (B ++ blksL L k q) ∧ Ok L (blksR L k q) ∧ Cn (blksR L k q)
  | 0, q, B, h, hk, hc, he => ⟨by show Als q (B ++ []); rw [List.append_nil]; exact h, hk, hc⟩
  | k + 1, q, B, h, hk, hc, he => by
    unfold blksR at he ⊢
    unfold blksL
    split
    · rename_i hh
      rw [if_pos hh] at he
      have eb := (gm_blks L k (blockR L q)).e he
      obtain ⟨f1, f2, _⟩ := block_facts hL hk hc
      have := blks_ok k (h.block hN hL hk hc eb) f1 f2 he
      rw [List.append_assoc] at this
      exact this
    · exact ⟨by rw [List.append_nil]; exact h, hk, hc⟩
end

end Go.Proofs.Ytmnplnhblniimaa.Gr

namespace Go.Proofs.Ytmnplnhblniimaa.Gr
set_option linter.unusedVariables false
set_option linter.unusedSimpArgs false
open Go

theorem runTo_all {p : Int → Bool} {s : ByteArray} (h : ∀ j, j < s.size → p (Tk.byt s j) = true) : ∀ (n i : Nat), s.size - i = n → i ≤ s.size → Tk.runTo p s i = s.size
  | 0, i, hn, hi => by
    have : i = s.size := by omega
    subst this
    exact Tk.runTo_stop (fun h => by omega)
  | n + 1, i, hn, hi => by
    rw [Tk.runTo_go (show i < s.size by omega) (h i (by omega))]
    exact runTo_all h n (i + 1) (by omega) (by omega)

theorem step_name {s : ByteArray} {i : Nat} {t : Tk.Tok} (h : Tk.stepAt s i = .tok t) (hk : t.kind = 1) : Tk.nameB t.s = true := by
  have hp := (Tk.stepAt_tok h).1
  unfold Tk.stepAt at h
  split at h
  · rename_i hi
    simp only at h
    split at h
    · cases h
    · split at h
      · cases h
      · split at h
        · rename_i hl
          split at h
          · cases h; cases hk
          · rename_i hw
            split at h
            · cases h
            · rename_i hz
              cases h
              have hle := Tk.runTo_le Tk.alnumB s i (Nat.le_of_lt hi)
              have hall : ∀ j, j < (s.extract i (Tk.runTo Tk.alnumB s i)).size → Tk.alnumB (Tk.byt (s.extract i (Tk.runTo Tk.alnumB s i)) j) = true := fun j hj => by
                rw [extract_get s i _ j hle hj]
                have hsz := Tk.size_run Tk.alnumB s i (Nat.le_of_lt hi)
                exact Tk.runTo_mem Tk.alnumB s i (i + j) (by omega) (by omega)
              unfold Tk.nameB
              have h1 : 0 < (s.extract i (Tk.runTo Tk.alnumB s i)).size := hp
              have h2 : (s.extract i (Tk.runTo Tk.alnumB s i)).size ≤ 12 := by omega
              have h3 : Tk.byt (s.extract i (Tk.runTo Tk.alnumB s i)) 0 = Tk.byt s i := extract_get s i _ 0 hle hp
              have h4 := runTo_all hall _ 0 rfl (Nat.zero_le _)
              have h5 : Tk.wordB (s.extract i (Tk.runTo Tk.alnumB s i)) = false := by simpa using hw
              simp only [h1, h2, h3, h4, h5, hl, decide_true, Bool.and_self, Bool.not_false]
        · split at h
          · split at h
            · cases h
            · split at h
              · cases h
              · cases h; cases hk
          · split at h
            · cases h; cases hk
            · cases h
  · cases h

theorem scan_nok (s : ByteArray) : ∀ (n i : Nat) (out : List Tk.Tok), Nok out → Nok (Tk.scan s n i out).l
  | 0, i, out, ho => fun t ht => by cases ht
  | n + 1, i, out, ho => by
    unfold Tk.scan
    cases hq : Tk.stepAt s i with
    | stop =>
      exact fun t ht hk => by
        rcases List.mem_append.1 ht with ht | ht
        · exact ho t ht hk
        · obtain rfl := List.mem_singleton.1 ht; cases hk
    | skip j => exact scan_nok s n j out ho
    | bad e => exact fun t ht => by cases ht
    | tok t =>
      exact scan_nok s n _ _ (fun u hu hk => by
        rcases List.mem_append.1 hu with hu | hu
        · exact ho u hu hk
        · obtain rfl := List.mem_singleton.1 hu; exact step_name hq hk)
theorem text_nok (s : ByteArray) : Nok (Tk.ofText s).l := by
  unfold Tk.ofText
  split
  · exact fun t ht => by cases ht
  · exact scan_nok s _ _ [] (fun t ht => by cases ht)

theorem leastE_ne (a : Int × Int) {e : Int} (t : Tok) (he : e ≠ 0) : (leastE a e t).1 ≠ 0 := by
  unfold leastE
  by_cases h : a.1 = 0
  · rw [if_pos (.inl h)]; exact he
  · split
    · exact he
    · exact h
theorem names_zero (bk : List Tok) : ∀ k, (namesN bk k).1 = 0 → ∀ j, j < k → ∀ t, bk[j]? = some t → hasT (bk.take j) t.s = false
  | 0, _, j, hj => by omega
  | k + 1, h, j, hj => fun t ht => by
    unfold namesN at h
    cases hq : bk[k]? with
    | none =>
      rw [hq] at h
      by_cases hjk : j = k
      · subst hjk; rw [hq] at ht; cases ht
      · exact names_zero bk k h j (by omega) t ht
    | some u =>
      rw [hq] at h
      simp only at h
      cases hb : hasT (bk.take k) u.s with
      | true => rw [hb, if_pos rfl] at h; exact absurd h (leastE_ne _ _ (by decide))
      | false =>
        rw [hb] at h
        by_cases hjk : j = k
        · subst hjk; rw [hq] at ht; cases ht; exact hb
        · exact names_zero bk k h j (by omega) t ht
theorem tgt_zero (bk tg : List Tok) (a : Int × Int) : ∀ k, (tgtN bk tg a k).1 = 0 → a.1 = 0 ∧ ∀ j, j < k → ∀ t, tg[j]? = some t → hasT bk t.s = true
  | 0, h => ⟨h, fun j hj => by omega⟩
  | k + 1, h => by
    unfold tgtN at h
    cases hq : tg[k]? with
    | none =>
      rw [hq] at h
      obtain ⟨h1, h2⟩ := tgt_zero bk tg a k h
      refine ⟨h1, fun j hj t ht => ?_⟩
      by_cases hjk : j = k
      · subst hjk; rw [hq] at ht; cases ht
      · exact h2 j (by omega) t ht
    | some u =>
      rw [hq] at h
      simp only at h
      cases hb : hasT bk u.s with
      | false => rw [hb] at h; exact absurd h (leastE_ne _ _ (by decide))
      | true =>
        rw [hb, if_pos rfl] at h
        obtain ⟨h1, h2⟩ := tgt_zero bk tg a k h
        refine ⟨h1, fun j hj t ht => ?_⟩
        by_cases hjk : j = k
        · subst hjk; rw [hq] at ht; cases ht; exact hb
        · exact h2 j (by omega) t ht

theorem hasT_map (l : List Tok) (s : ByteArray) : hasT l s = (l.map Tk.Tok.s).any fun x => decide (x = s) := by
  unfold hasT
  rw [List.any_map]
  congr 1
  funext x
  exact Pr.beq_str
theorem hasN_map (P : List Bl) (n : Nat) (s : ByteArray) : Pr.hasN P n s = ((P.map Bl.n).take n).any fun x => decide (x = s) := by
  unfold Pr.hasN
  rw [← List.map_take, List.any_map]
  rfl

theorem nodup_le : ∀ {l m : List ByteArray}, l.Nodup → (∀ x ∈ l, x ∈ m) → l.length ≤ m.length
  | [], m, _, _ => Nat.zero_le _
  | x :: l, m, hd, hs => by
    obtain ⟨h1, h2⟩ := List.nodup_cons.1 hd
    have hx := hs x (by simp)
    have := nodup_le (l := l) (m := m.filter fun y => decide (y ≠ x)) h2 (fun y hy => List.mem_filter.2 ⟨hs y (by simp [hy]), decide_eq_true (fun he => h1 (by rw [← he]; exact hy))⟩)
    have h3 : (m.filter fun y => decide (y ≠ x)).length < m.length := List.length_filter_lt_length_iff_exists.2 ⟨x, hx, by simp⟩
    rw [List.length_cons]
    omega
theorem putS_mem {T : List ByteArray} {s x : ByteArray} (h : x ∈ Pr.putS T s) : x ∈ T ∨ (x = s ∧ s.size ≠ 0) := by
  unfold Pr.putS at h
  split at h
  · exact .inl h
  · rename_i h0
    split at h
    · exact .inl h
    · rcases List.mem_append.1 h with h | h
      · exact .inl (List.mem_of_mem_take h)
      · rcases List.mem_cons.1 h with h | h
        · exact .inr ⟨h, h0⟩
        · exact .inl (List.mem_of_mem_drop h)
theorem putS_vs {q : R} {T : List ByteArray} {s : ByteArray} (hT : ∀ x ∈ T, x ∈ q.vs) (hs : Vin q s) : ∀ x ∈ Pr.putS T s, x ∈ q.vs := fun x hx => by
  rcases putS_mem hx with h | ⟨rfl, h0⟩
  · exact hT x h
  · rcases hs with h | h
    · exact absurd h h0
    · exact h
theorem stVars_vs {q : R} {l : List St} {T : List ByteArray} (hT : ∀ x ∈ T, x ∈ q.vs) (hl : ∀ s ∈ l, StG q s) : ∀ k, ∀ x ∈ Pr.stVars l T k, x ∈ q.vs
  | 0 => hT
  | k + 1 => by
    have ih := stVars_vs hT hl k
    simp only [Pr.stVars]
    cases hq : l[k]? with
    | none => exact ih
    | some s =>
      have hg := hl s (List.mem_of_getElem? hq)
      exact putS_vs (putS_vs (putS_vs ih hg.2.1) hg.2.2.1) hg.2.2.2
theorem blVars_vs {q : R} {P : List Bl} (hP : ∀ b ∈ P, BkG q (toBk b)) : ∀ k, ∀ x ∈ Pr.blVars P k, x ∈ q.vs
  | 0 => fun x hx => by cases hx
  | k + 1 => by
    have ih := blVars_vs hP k
    simp only [Pr.blVars]
    cases hq : P[k]? with
    | none => exact ih
    | some b =>
      have hg := hP b (List.mem_of_getElem? hq)
      exact putS_vs (stVars_vs ih hg.s _) hg.t.2.1

theorem rise_nodup {T : List ByteArray} (h : Pr.Rise T) : T.Nodup := h.imp fun {a b} hab he => by subst he; rw [Pr.ltS_irrefl] at hab; cases hab

/-- What is parsed is proper. -/
theorem parsed_proper {s : ByteArray} {P : List Bl} (h : P.map toBk = (parse s).1) (h0 : (parse s).2.1 = 0) : Pr.checkOf P = 0 ∧ P.length ≤ 128 ∧ Pr.stmtsOf P ≤ 512 := by
  have hP : parse s = if (Tk.ofText s).e = 0 then (if (parseL (Tk.ofText s).l).1 = 0 then (allL (Tk.ofText s).l, 0, 0) else ([], parseL (Tk.ofText s).l)) else ([], (Tk.ofText s).e, (Tk.ofText s).pos) := rfl
  by_cases he : (Tk.ofText s).e = 0
  rotate_left
  · rw [if_neg he] at hP; rw [hP] at h0; exact absurd h0 he
  rw [if_pos he] at hP
  by_cases hl : (parseL (Tk.ofText s).l).1 = 0
  rotate_left
  · rw [if_neg hl] at hP; rw [hP] at h0; exact absurd h0 hl
  rw [if_pos hl] at hP
  rw [hP] at h
  clear hP h0
  have hN := text_nok s
  obtain ⟨hL, _, hpos, _, _⟩ := text_lok he
  generalize (Tk.ofText s).l = L at hl h hN hL hpos
  simp only at h
  unfold parseL at hl
  by_cases ha : (allR L).e = 0
  rotate_left
  · rw [if_neg ha] at hl; exact absurd hl ha
  rw [if_pos ha] at hl
  have hk0 : Ok L r0 := ⟨hpos, by decide, fun _ => by decide⟩
  have hc0 : Cn r0 := ⟨by decide, by decide, fun _ => by decide⟩
  have h00 : Als r0 [] := ⟨fun b hb => (by cases hb), rfl, rfl, fun _ => (by decide)⟩
  have eb : (blockR L r0).e = 0 := (gm_blks L L.length _).e ha
  obtain ⟨f1, f2, _⟩ := block_facts hL hk0 hc0
  obtain ⟨A, K, C⟩ := blks_ok hN hL L.length (h00.block hN hL hk0 hc0 eb) f1 f2 ha
  have hB : ([] ++ [blockB L r0]) ++ blksL L L.length (blockR L r0) = P.map toBk := h.symm
  rw [hB] at A
  have hne : P.length ≠ 0 := by
    have := congrArg List.length h
    rw [List.length_map] at this
    rw [this]; simp [allL]
  change Als (allR L) _ at A
  change Ok L (allR L) at K
  change Cn (allR L) at C
  generalize allR L = q at *
  have hm : q.bk.map Tk.Tok.s = P.map Bl.n := by rw [A.m, List.map_map]; rfl
  have hlen : q.bk.length = P.length := by have := congrArg List.length hm; simpa using this
  have h12 : P.length ≤ 128 := by have := A.c ha; omega
  have hs5 : Pr.stmtsOf P ≤ 512 := by
    have h1 := A.n
    rw [List.map_map] at h1
    have h2 := C.e ha
    have h3 : (q.n : Int) = (Pr.stmtsOf P : Nat) := h1
    omega
  have hg : ∀ b ∈ P, BkG q (toBk b) := fun b hb => A.g _ (List.mem_map_of_mem hb)
  obtain ⟨z1, z2⟩ := tgt_zero q.bk q.tg _ _ hl
  have z3 := names_zero q.bk _ z1
  have hv : ¬ 64 < (Pr.vars P).length := by
    have := nodup_le (rise_nodup (Pr.blVars_rise P P.length)) (blVars_vs hg P.length)
    have h2 := K.ev ha
    have h3 : (Pr.vars P).length ≤ q.vs.length := this
    omega
  have hto : ∀ x ∈ q.tg, Pr.hasN P P.length x.s = true := fun x hx => by
    obtain ⟨j, hj⟩ := List.mem_iff_getElem?.1 hx
    have := z2 j (List.getElem?_eq_some_iff.1 hj).1 x hj
    rw [hasT_map, hm] at this
    rw [hasN_map, List.take_of_length_le (by simp)]
    exact this
  refine ⟨Pr.check_0 hne h12 hs5 ?_ hv (fun k hk => ?_) (fun k hk => ?_), h12, hs5⟩
  · rw [List.all_eq_true]
    intro b hb
    obtain ⟨g1, g2, g3⟩ := hg b hb
    have g1 : Tk.nameB b.n = true := g1
    have g3 : Pr.termB b.t = true := g3.1
    have g4 : b.l.all Pr.stmtB = true := List.all_eq_true.2 fun s hs => (g2 s hs).1
    unfold Pr.blockB
    rw [g1, g3, g4]; rfl
  · have hk' : k < q.bk.length := by omega
    have := z3 k hk' _ (List.getElem?_eq_getElem hk')
    rw [hasT_map, List.map_take, hm] at this
    rw [hasN_map]
    have e : (q.bk[k]'hk').s = (P[k]'hk).n := by
      have h1 : (q.bk.map Tk.Tok.s)[k]? = (P.map Bl.n)[k]? := by rw [hm]
      simpa [List.getElem?_eq_getElem hk, List.getElem?_eq_getElem hk'] using h1
    rw [e] at this
    exact this
  · obtain ⟨g1, g2, g3⟩ := hg _ (List.getElem_mem hk)
    unfold Pr.badEnd
    have t1 : (P[k]'hk).t.k = 1 ∨ (P[k]'hk).t.k = 2 → ∃ x ∈ q.tg, x.s = (P[k]'hk).t.t := g3.2.2.1
    have t2 : (P[k]'hk).t.k = 2 → ∃ x ∈ q.tg, x.s = (P[k]'hk).t.e := g3.2.2.2
    have e1 : ((P[k]'hk).t.k == 1 || (P[k]'hk).t.k == 2) = true → Pr.hasN P P.length (P[k]'hk).t.t = true := fun hh => by
      obtain ⟨x, hx, hxe⟩ := t1 (by simpa using hh)
      rw [← show x.s = (P[k]'hk).t.t from hxe]; exact hto x hx
    have e2 : ((P[k]'hk).t.k == 2) = true → Pr.hasN P P.length (P[k]'hk).t.e = true := fun hh => by
      obtain ⟨x, hx, hxe⟩ := t2 (by simpa using hh)
      rw [← show x.s = (P[k]'hk).t.e from hxe]; exact hto x hx
    generalize Pr.hasN P P.length (P[k]'hk).t.t = u at e1
    generalize Pr.hasN P P.length (P[k]'hk).t.e = v at e2
    generalize ((P[k]'hk).t.k == 1) = c1 at e1
    generalize ((P[k]'hk).t.k == 2) = c2 at e1 e2
    cases c1 <;> cases c2 <;> simp_all

theorem parsed_bad {s : ByteArray} (h : (parse s).2.1 ≠ 0) : (parse s).1 = [] := by
  have hP : parse s = if (Tk.ofText s).e = 0 then (if (parseL (Tk.ofText s).l).1 = 0 then (allL (Tk.ofText s).l, 0, 0) else ([], parseL (Tk.ofText s).l)) else ([], (Tk.ofText s).e, (Tk.ofText s).pos) := rfl
  rw [hP] at h ⊢
  by_cases he : (Tk.ofText s).e = 0
  · rw [if_pos he] at h ⊢
    by_cases hl : (parseL (Tk.ofText s).l).1 = 0
    · rw [if_pos hl] at h; exact absurd rfl h
    · rw [if_neg hl]
  · rw [if_neg he]

end Go.Proofs.Ytmnplnhblniimaa.Gr
