/- THE READER, PLAIN: what statements, ends and blocks leave alone; how far they come. -/
import Derived.Test.YtmnplnhblniimaaGrj
namespace Go.Proofs.Ytmnplnhblniimaa.Gr
set_option linter.unusedVariables false
set_option linter.unusedSimpArgs false
open Go

theorem took_adv {L : List Tok} {r : R} {k : Int} {s : ByteArray} (hk : k ≠ 0) (h : (took L r k s).e = 0) : (took L r k s).i = r.i + 1 := by
  have hb := (took_e L r k s h).1
  unfold took
  rw [hb, if_pos rfl, if_neg hk]

/-- How many statements there are. -/
structure Cn (r : R) : Prop where
  lo : 0 ≤ r.n
  hi : r.n ≤ 100000
  e : r.e = 0 → r.n ≤ 512
theorem Cn.step {r q : R} (h : Cn r) (k : Sm r q) : Cn q := ⟨by rw [k.n]; exact h.lo, by rw [k.n]; exact h.hi, fun he => by rw [k.n]; exact h.e (k.e he)⟩
theorem isSt_e {L : List Tok} {r : R} (h : isSt L r = true) : r.e = 0 := by
  unfold isSt isB at h
  simp only [Bool.or_eq_true, Bool.and_eq_true, beq_iff_eq] at h
  rcases h with h | h | h <;> exact h.1

theorem read_facts {L : List Tok} {r : R} (hL : Lok L) (h : Ok L r) : Ok L (readR L r) ∧ Sm (cntR L r) (readR L r) := by
  have kc := h.cnt
  unfold readR
  split
  · exact ⟨((kc.var hL).took hL _ _).expr hL, ((sm_var _ _).trans (sm_took _ _ _ _)).trans (sm_expr _ _)⟩
  · split
    · exact ⟨(kc.took hL _ _).var hL, (sm_took _ _ _ _).trans (sm_var _ _)⟩
    · exact ⟨(kc.took hL _ _).atom hL, (sm_took _ _ _ _).trans (sm_atom _ _)⟩
theorem cnt_facts (L : List Tok) (r : R) : (cntR L r).tg = r.tg ∧ (cntR L r).bk = r.bk ∧ (cntR L r).n = r.n + 1 ∧ (cntR L r).i = r.i ∧ ((cntR L r).e = 0 → r.e = 0 ∧ r.n + 1 ≤ 512) := by
  unfold cntR
  split
  · have hs := sm_fail { r with n := r.n + 1 } 6 (now L r).pos
    refine ⟨hs.tg, hs.bk, hs.n, ?_, fun he => ?_⟩
    · unfold fail; split <;> rfl
    · exfalso
      have h0 : r.e = 0 := hs.e he
      unfold fail at he
      rw [if_pos (by exact h0)] at he
      have : (6 : Int) = 0 := he
      omega
  · rename_i h
    exact ⟨rfl, rfl, rfl, rfl, fun he => ⟨he, by omega⟩⟩
theorem stmt_facts {L : List Tok} {r : R} (hL : Lok L) (h : Ok L r) : Ok L (stmtR L r) ∧ (stmtR L r).tg = r.tg ∧ (stmtR L r).bk = r.bk ∧ (stmtR L r).n = r.n + 1 ∧ r.i ≤ (stmtR L r).i ∧ ((stmtR L r).e = 0 → r.i + 1 ≤ (stmtR L r).i ∧ r.e = 0 ∧ r.n + 1 ≤ 512) := by
  obtain ⟨h1, h2⟩ := read_facts hL h
  obtain ⟨c1, c2, c3, c4, c5⟩ := cnt_facts L r
  have h3 := sm_took L (readR L r) 3 (st [59])
  rw [stmt_read]
  refine ⟨h1.took hL _ _, h3.tg.trans (h2.tg.trans c1), h3.bk.trans (h2.bk.trans c2), h3.n.trans (h2.n.trans c3), by have := h2.i; have := h3.i; omega, fun he => ?_⟩
  have h4 := took_adv (by decide) he
  have h5 := c5 (h2.e (h3.e he))
  refine ⟨by rw [h4]; have := h2.i; omega, h5⟩

theorem term_facts {L : List Tok} {r : R} (hL : Lok L) (h : Ok L r) : Ok L (termR L r) ∧ (termR L r).bk = r.bk ∧ (termR L r).n = r.n ∧ (termR L r).tg.length ≤ r.tg.length + 2 ∧ r.i ≤ (termR L r).i ∧ ((termR L r).e = 0 → r.e = 0) := by
  have l : ∀ q, Sm (took L q 1 (st [])) { lblR L q with tg := (took L q 1 (st [])).tg } := fun q => ⟨rfl, rfl, rfl, Nat.le_refl _, id⟩
  have lb : ∀ q, (lblR L q).bk = q.bk ∧ (lblR L q).n = q.n ∧ q.i ≤ (lblR L q).i ∧ ((lblR L q).e = 0 → q.e = 0) := fun q => by
    have h := sm_took L q 1 (st [])
    exact ⟨h.bk, h.n, h.i, h.e⟩
  unfold termR
  split
  · have s1 := sm_took L r 4 gotoS
    have l1 := lb (took L r 4 gotoS)
    have s2 := sm_took L (lblR L (took L r 4 gotoS)) 3 (st [59])
    exact ⟨((h.took hL _ _).lbl hL).took hL _ _, s2.bk.trans (l1.1.trans s1.bk), s2.n.trans (l1.2.1.trans s1.n), by rw [s2.tg, lbl_tg, s1.tg]; omega, by have := s1.i; have := l1.2.2.1; have := s2.i; omega, fun he => s1.e (l1.2.2.2 (s2.e he))⟩
  · split
    · unfold ifB ifA
      have s1 := ((sm_took L r 4 ifS).trans (sm_atom L _)).trans (sm_took L _ 4 thenS)
      have k1 := ((h.took hL 4 ifS).atom hL).took hL 4 thenS
      generalize took L (atomR L (took L r 4 ifS)) 4 thenS = q at s1 k1 ⊢
      have l1 := lb q
      have s2 := sm_took L (lblR L q) 4 elseS
      have k2 := (k1.lbl hL).took hL 4 elseS
      have t2 : (took L (lblR L q) 4 elseS).tg.length = q.tg.length + 1 := by rw [s2.tg, lbl_tg]
      generalize took L (lblR L q) 4 elseS = q2 at s2 k2 t2 ⊢
      have l2 := lb q2
      have s3 := sm_took L (lblR L q2) 3 (st [59])
      exact ⟨(k2.lbl hL).took hL _ _, s3.bk.trans (l2.1.trans (s2.bk.trans (l1.1.trans s1.bk))), s3.n.trans (l2.2.1.trans (s2.n.trans (l1.2.1.trans s1.n))), by rw [s3.tg, lbl_tg, t2, s1.tg]; omega, by have := s1.i; have := l1.2.2.1; have := s2.i; have := l2.2.2.1; have := s3.i; omega, fun he => s1.e (l1.2.2.2 (s2.e (l2.2.2.2 (s3.e he))))⟩
    · have s1 := (sm_took L r 4 retS).trans (sm_took L _ 3 (st [59]))
      exact ⟨(h.took hL _ _).took hL _ _, s1.bk, s1.n, by rw [s1.tg]; omega, s1.i, s1.e⟩

theorem sts_facts {L : List Tok} (hL : Lok L) : ∀ (k : Nat) {r : R}, Ok L r → Cn r → Ok L (stsR L k r) ∧ Cn (stsR L k r) ∧ (stsR L k r).tg = r.tg ∧ (stsR L k r).bk = r.bk ∧ r.i ≤ (stsR L k r).i ∧ ((stsR L k r).e = 0 → r.e = 0)
  | 0, r, h, c => ⟨h, c, rfl, rfl, Nat.le_refl _, id⟩
  | k + 1, r, h, c => by
    obtain ⟨f1, f2, f3, f4, f5, f6⟩ := stmt_facts hL h
    unfold stsR
    cases hs : isSt L r with
    | false => simp only [Bool.false_eq_true, if_false]; exact ⟨h, c, trivial, trivial, Nat.le_refl _, id⟩
    | true =>
      simp only [if_true]
      have h0 := isSt_e hs
      have c2 : Cn (stmtR L r) := ⟨by rw [f4]; have := c.lo; omega, by rw [f4]; have := c.e h0; omega, fun he => by rw [f4]; exact (f6 he).2.2⟩
      by_cases he : (stmtR L r).e = 0
      · simp only [he, if_true]
        obtain ⟨g1, g2, g3, g4, g5, g6⟩ := sts_facts hL k f1 c2
        exact ⟨g1, g2, g3.trans f2, g4.trans f3, by omega, fun _ => h0⟩
      · simp only [he, if_false]
        exact ⟨f1, c2, f2, f3, f5, fun _ => h0⟩

theorem Ok.head {L : List Tok} {r : R} (h : Ok L r) : Ok L (headR L r) := by
  unfold headR
  split
  · exact h.fail _ _ (by decide)
  · exact h
theorem sm_head (L : List Tok) (r : R) : Sm r (headR L r) := by
  unfold headR
  split
  · exact sm_fail _ _ _
  · exact Sm.refl r
theorem Ok.name {L : List Tok} {r : R} (h : Ok L r) (hL : Lok L) : Ok L (nameR L r) := h.head.took hL _ _
theorem sm_name (L : List Tok) (r : R) : Sm r (nameR L r) := (sm_head L r).trans (sm_took _ _ _ _)
theorem Ok.body {L : List Tok} {r : R} (h : Ok L r) (hL : Lok L) : Ok L (bodyR L r) := by
  have h2 := (h.name hL).took hL 1 (st [])
  have h3 : Ok L { Gr.took L (nameR L r) 1 (st []) with bk := (Gr.took L (nameR L r) 1 (st [])).bk ++ [tokn L (nameR L r) 1 (st [])] } := ⟨h2.i, h2.v, h2.ev⟩
  exact h3.took hL _ _
theorem body_facts (L : List Tok) (r : R) : (bodyR L r).tg = r.tg ∧ (bodyR L r).bk.length = r.bk.length + 1 ∧ (bodyR L r).n = r.n ∧ r.i ≤ (bodyR L r).i ∧ ((bodyR L r).e = 0 → r.e = 0 ∧ r.i + 1 ≤ (bodyR L r).i ∧ r.bk.length < 128 ∨ 128 < r.bk.length ∧ r.e = 0 ∧ r.i + 1 ≤ (bodyR L r).i) := by
  have s1 := sm_name L r
  have s2 := sm_took L (nameR L r) 1 (st [])
  have s3 := sm_took L { took L (nameR L r) 1 (st []) with bk := (took L (nameR L r) 1 (st [])).bk ++ [tokn L (nameR L r) 1 (st [])] } 3 (st [123])
  refine ⟨s3.tg.trans (s2.tg.trans s1.tg), ?_, s3.n.trans (s2.n.trans s1.n), Nat.le_trans s1.i (Nat.le_trans s2.i s3.i), fun he => ?_⟩
  · show (took L _ _ _).bk.length = _
    rw [s3.bk]
    show ((took L (nameR L r) 1 (st [])).bk ++ [tokn L (nameR L r) 1 (st [])]).length = _
    rw [List.length_append, s2.bk, s1.bk]
    rfl
  · have e3 : (bodyR L r).i = (took L (nameR L r) 1 (st [])).i + 1 := took_adv (by decide) he
    have e2 : (took L (nameR L r) 1 (st [])).e = 0 := s3.e he
    have e1 := s2.e e2
    have hb := (took_e L (headR L r) 4 blockS e1).1
    have e0 := (took_e L (headR L r) 4 blockS e1).2.2
    have hi : r.i + 1 ≤ (bodyR L r).i := by have := s1.i; have := s2.i; omega
    have hne : ¬ (isB L r 4 blockS = true ∧ r.bk.length = 128) := fun hh => by
      unfold headR at e0
      rw [if_pos hh] at e0
      unfold fail at e0
      have hr : r.e = 0 := by
        have := hh.1
        unfold isB at this
        simp only [Bool.and_eq_true, beq_iff_eq] at this
        exact this.1
      rw [if_pos hr] at e0
      have : (6 : Int) = 0 := e0
      omega
    have hh : headR L r = r := by unfold headR; rw [if_neg hne]
    rw [hh] at hb e0
    have h128 : r.bk.length ≠ 128 := fun h => hne ⟨hb, h⟩
    rcases Nat.lt_or_ge r.bk.length 128 with h | h
    · exact .inl ⟨e0, hi, h⟩
    · exact .inr ⟨by omega, e0, hi⟩

theorem block_facts {L : List Tok} {r : R} (hL : Lok L) (h : Ok L r) (c : Cn r) : Ok L (blockR L r) ∧ Cn (blockR L r) ∧ (blockR L r).bk.length = r.bk.length + 1 ∧ (blockR L r).tg.length ≤ r.tg.length + 2 ∧ ((blockR L r).e = 0 → r.i + 1 ≤ (blockR L r).i ∧ r.e = 0 ∧ r.bk.length ≠ 128) := by
  obtain ⟨b1, b2, b3, b4, b5⟩ := body_facts L r
  have kb := h.body hL
  have cb : Cn (bodyR L r) := ⟨by rw [b3]; exact c.lo, by rw [b3]; exact c.hi, fun he => by rw [b3]; exact c.e (by rcases b5 he with h | h; exact h.1; exact h.2.1)⟩
  obtain ⟨s1, s2, s3, s4, s5, s6⟩ := sts_facts hL L.length kb cb
  obtain ⟨t1, t2, t3, t4, t5, t6⟩ := term_facts hL (show Ok L (endR L r) from s1)
  have z := sm_took L (termR L (endR L r)) 3 (st [125])
  have ct : Cn (termR L (endR L r)) := ⟨by rw [t3]; exact s2.lo, by rw [t3]; exact s2.hi, fun he => by rw [t3]; exact s2.e (t6 he)⟩
  refine ⟨t1.took hL _ _, ct.step z, ?_, ?_, fun he => ?_⟩
  · show (took L _ _ _).bk.length = _
    rw [z.bk, t2]
    show (stsR L L.length (bodyR L r)).bk.length = _
    rw [s4, b2]
  · show (took L _ _ _).tg.length ≤ _
    rw [z.tg]
    have : (endR L r).tg = r.tg := s3.trans b1
    rw [this] at t4
    exact t4
  · have e1 : (bodyR L r).e = 0 := s6 (t6 (z.e he))
    have hz := z.i
    have h5 : (bodyR L r).i ≤ (endR L r).i := s5
    have hi : (bodyR L r).i ≤ (blockR L r).i := Nat.le_trans h5 (Nat.le_trans t5 hz)
    rcases b5 e1 with h | h
    · exact ⟨by omega, h.1, by omega⟩
    · exact ⟨by omega, h.2.1, by omega⟩

end Go.Proofs.Ytmnplnhblniimaa.Gr
