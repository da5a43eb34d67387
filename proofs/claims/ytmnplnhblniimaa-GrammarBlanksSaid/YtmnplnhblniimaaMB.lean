/- TWO TEXTS OF THE SAME TOKENS at other places: the plain reader does the same with both. No program in sight. TEXTS WITH REMARKS: what token.Of reads of them. No program in sight. TWO TEXTS OF THE SAME TOKENS, one with remarks: the same program, the same fault, at the same token. No program in sight. -/
import Derived.Test.YtmnplnhblniimaaGrk
import Derived.Test.YtmnplnhblniimaaGro

namespace Go.Proofs.Ytmnplnhblniimaa.Gr
set_option linter.unusedVariables false
set_option linter.unusedSimpArgs false
open Go

/-- The two tokens stand at one place of the two lists. -/
def Two (La Lb : List Tok) (x : Tok × Tok) : Prop := ∃ i : Nat, La[i]? = some x.1 ∧ Lb[i]? = some x.2
/-- Alike but for where they stand. -/
structure Ak (a b : Tok) : Prop where
  k : b.kind = a.kind
  s : b.s = a.s
  n : b.n = a.n
structure Pair (La Lb : List Tok) : Prop where
  len : Lb.length = La.length
  ak : ∀ x, Two La Lb x → Ak x.1 x.2
/-- Two rows of names. -/
def Rows2 (La Lb l m : List Tok) : Prop := ∃ z : List (Tok × Tok), l = z.map Prod.fst ∧ m = z.map Prod.snd ∧ ∀ x ∈ z, Two La Lb x
structure Rel (La Lb : List Tok) (ra rb : R) : Prop where
  ok : Ok La ra
  i : rb.i = ra.i
  e : rb.e = ra.e
  n : rb.n = ra.n
  vs : rb.vs = ra.vs
  f : ra.e = 0 → Rows2 La Lb ra.tg rb.tg ∧ Rows2 La Lb ra.bk rb.bk
  p : ra.e ≠ 0 → ∃ x, Two La Lb x ∧ ra.p = x.1.pos ∧ rb.p = x.2.pos

section
variable {La Lb : List Tok} {ra rb : R}
theorem Rel.now2 (h : Rel La Lb ra rb) (hp : Pair La Lb) : Two La Lb (now La ra, now Lb rb) := by
  have hb : rb.i < Lb.length := by rw [hp.len, h.i]; exact h.ok.i
  refine ⟨ra.i, ?_, ?_⟩
  · rw [now_in h.ok.i, List.getElem?_eq_getElem h.ok.i]
  · rw [now_in hb, ← h.i, List.getElem?_eq_getElem hb]
theorem Rel.nowA (h : Rel La Lb ra rb) (hp : Pair La Lb) : Ak (now La ra) (now Lb rb) := hp.ak _ (h.now2 hp)
theorem Rel.is (h : Rel La Lb ra rb) (hp : Pair La Lb) (k : Int) (s : ByteArray) : isB Lb rb k s = isB La ra k s := by
  have hn := h.nowA hp
  unfold isB
  rw [h.e, hn.k, hn.s]
theorem Rel.fail (h : Rel La Lb ra rb) (e : Int) (he : e ≠ 0) (x : Tok × Tok) (hx : Two La Lb x) : Rel La Lb (Gr.fail ra e x.1.pos) (Gr.fail rb e x.2.pos) := by
  have hok := h.ok.fail e x.1.pos he
  unfold Gr.fail at hok ⊢
  by_cases h0 : ra.e = 0
  · have h1 : rb.e = 0 := by rw [h.e, h0]
    rw [if_pos h0] at hok
    rw [if_pos h0, if_pos h1]
    exact ⟨hok, h.i, rfl, h.n, h.vs, fun hh => absurd hh he, fun _ => ⟨x, hx, rfl, rfl⟩⟩
  · have h1 : ¬ rb.e = 0 := by rw [h.e]; exact h0
    rw [if_neg h0, if_neg h1]
    exact h
theorem Rel.took (h : Rel La Lb ra rb) (hp : Pair La Lb) (hL : Lok La) (k : Int) (s : ByteArray) : Rel La Lb (Gr.took La ra k s) (Gr.took Lb rb k s) := by
  have hok := h.ok.took hL k s
  unfold Gr.took at hok ⊢
  rw [h.is hp]
  split
  · split
    · exact h
    · rename_i h1 h2
      rw [if_pos h1, if_neg h2] at hok
      exact ⟨hok, by show rb.i + 1 = ra.i + 1; rw [h.i], h.e, h.n, h.vs, h.f, h.p⟩
  · exact h.fail 3 (by decide) (now La ra, now Lb rb) (h.now2 hp)
theorem Rel.tok (h : Rel La Lb ra rb) (hp : Pair La Lb) (k : Int) (s : ByteArray) : Ak (tokn La ra k s) (tokn Lb rb k s) := by
  unfold tokn
  rw [h.is hp]
  split
  · exact h.nowA hp
  · exact ⟨rfl, rfl, rfl⟩
theorem Rel.tok2 (h : Rel La Lb ra rb) (hp : Pair La Lb) (k : Int) (s : ByteArray) (hb : isB La ra k s = true) : Two La Lb (tokn La ra k s, tokn Lb rb k s) := by
  unfold tokn
  rw [h.is hp, if_pos hb, if_pos hb]
  exact h.now2 hp
theorem Rows2.snoc {l m : List Tok} (h : Rows2 La Lb l m) (x : Tok × Tok) (hx : Two La Lb x) : Rows2 La Lb (l ++ [x.1]) (m ++ [x.2]) := by
  obtain ⟨z, rfl, rfl, hz⟩ := h
  refine ⟨z ++ [x], by simp, by simp, fun y hy => ?_⟩
  rcases List.mem_append.1 hy with hy | hy
  · exact hz y hy
  · obtain rfl := List.mem_singleton.1 hy; exact hx
theorem Rel.lbl (h : Rel La Lb ra rb) (hp : Pair La Lb) (hL : Lok La) : Rel La Lb (lblR La ra) (lblR Lb rb) := by
  have k := h.took hp hL 1 (st [])
  refine ⟨h.ok.lbl hL, k.i, k.e, k.n, k.vs, fun he => ⟨?_, (k.f he).2⟩, k.p⟩
  have hb := (took_e La ra 1 (st []) he).1
  exact (k.f he).1.snoc (tokn La ra 1 (st []), tokn Lb rb 1 (st [])) (h.tok2 hp _ _ hb)
theorem Rel.var (h : Rel La Lb ra rb) (hp : Pair La Lb) (hL : Lok La) : Rel La Lb (varR La ra) (varR Lb rb) := by
  have k := h.took hp hL 1 (st [])
  have hn := h.nowA hp
  have hok := h.ok.var hL
  unfold varR at hok ⊢
  rw [k.e, k.vs, hn.s]
  split
  · rename_i h0
    split
    · exact k
    · rename_i h1
      rw [if_pos h0, if_neg h1] at hok
      split
      · rename_i h2
        rw [if_pos h2] at hok
        unfold Gr.fail at hok ⊢
        have e1 : (Gr.took Lb rb 1 (st [])).e = 0 := by rw [k.e]; exact h0
        rw [if_pos (by exact h0)] at hok
        rw [if_pos (by exact h0), if_pos (by exact e1)]
        exact ⟨hok, k.i, rfl, k.n, rfl, fun hh => absurd (show (6 : Int) = 0 from hh) (by decide), fun _ => ⟨(now La ra, now Lb rb), h.now2 hp, rfl, rfl⟩⟩
      · rename_i h2
        rw [if_neg h2] at hok
        exact ⟨hok, k.i, k.e, k.n, rfl, k.f, k.p⟩
  · exact k
theorem Rel.less (h : Rel La Lb ra rb) (hp : Pair La Lb) (hL : Lok La) : Rel La Lb (Gr.less La ra) (Gr.less Lb rb) := by
  unfold Gr.less
  rw [h.is hp]
  split
  · exact h.took hp hL _ _
  · exact h
theorem Rel.part (h : Rel La Lb ra rb) (hp : Pair La Lb) (hL : Lok La) : Rel La Lb (partR La ra) (partR Lb rb) := by
  have kl := h.less hp hL
  have kt := kl.took hp hL 2 (st [])
  have hn := (kl.tok hp 2 (st [])).n
  unfold partR
  rw [h.is hp, hn]
  split
  · rename_i hh
    have hb : isB La (Gr.less La ra) 2 (st []) = true := by
      cases hq : isB La (Gr.less La ra) 2 (st []) with
      | true => rfl
      | false =>
        have : (32767 : Int) < (tokn La (Gr.less La ra) 2 (st [])).n := hh.2
        unfold tokn at this
        rw [hq] at this
        rw [if_neg (by decide)] at this
        exact absurd this (by show ¬ (32767 : Int) < 0; decide)
    exact kt.fail 6 (by decide) (tokn La (Gr.less La ra) 2 (st []), tokn Lb (Gr.less Lb rb) 2 (st [])) (kl.tok2 hp _ _ hb)
  · exact kt
theorem Rel.partN (h : Rel La Lb ra rb) (hp : Pair La Lb) (hL : Lok La) : partN Lb rb = partN La ra := by
  unfold Gr.partN
  rw [h.is hp, ((h.less hp hL).tok hp 2 (st [])).n]
theorem Rel.varS (h : Rel La Lb ra rb) (hp : Pair La Lb) : varS Lb rb = varS La ra := (h.tok hp 1 (st [])).s
theorem Rel.atom (h : Rel La Lb ra rb) (hp : Pair La Lb) (hL : Lok La) : Rel La Lb (atomR La ra) (atomR Lb rb) := by
  unfold atomR
  rw [h.is hp, h.is hp]
  split
  · exact h.var hp hL
  · split
    · exact ((((h.took hp hL _ _).part hp hL).took hp hL _ _).part hp hL).took hp hL _ _
    · exact h.part hp hL
theorem Rel.atomA (h : Rel La Lb ra rb) (hp : Pair La Lb) (hL : Lok La) : atomA Lb rb = atomA La ra := by
  unfold Gr.atomA
  rw [h.is hp, h.is hp, h.varS hp, h.partN hp hL, (h.took hp hL 3 (st [40])).partN hp hL, (((h.took hp hL 3 (st [40])).part hp hL).took hp hL 3 (st [44])).partN hp hL]
theorem Rel.expr (h : Rel La Lb ra rb) (hp : Pair La Lb) (hL : Lok La) : Rel La Lb (exprR La ra) (exprR Lb rb) ∧ exprE Lb rb = exprE La ra := by
  have k := h.atom hp hL
  unfold exprR exprE
  simp only [h.is hp, k.is hp, h.atomA hp hL, (h.took hp hL 4 conjS).atomA hp hL, (k.took hp hL 3 (st [43])).atomA hp hL, (k.took hp hL 3 (st [45])).atomA hp hL, (k.took hp hL 3 (st [42])).atomA hp hL, and_true]
  split
  · exact (h.took hp hL _ _).atom hp hL
  · split
    · exact (k.took hp hL _ _).atom hp hL
    · split
      · exact (k.took hp hL _ _).atom hp hL
      · split
        · exact (k.took hp hL _ _).atom hp hL
        · exact k
theorem Rel.cnt (h : Rel La Lb ra rb) (hp : Pair La Lb) : Rel La Lb (cntR La ra) (cntR Lb rb) := by
  have hok := h.ok.cnt
  unfold cntR at hok ⊢
  rw [h.n]
  split
  · rename_i h1
    exact Rel.fail (ra := { ra with n := ra.n + 1 }) (rb := { rb with n := ra.n + 1 }) ⟨⟨h.ok.i, h.ok.v, h.ok.ev⟩, h.i, h.e, rfl, h.vs, h.f, h.p⟩ 6 (by decide) (now La ra, now Lb rb) (h.now2 hp)
  · rename_i h1
    exact ⟨⟨h.ok.i, h.ok.v, h.ok.ev⟩, h.i, h.e, rfl, h.vs, h.f, h.p⟩
theorem Rel.stmt (h : Rel La Lb ra rb) (hp : Pair La Lb) (hL : Lok La) : Rel La Lb (stmtR La ra) (stmtR Lb rb) ∧ stmtS Lb rb = stmtS La ra := by
  have c := h.cnt hp
  have x1 := (c.var hp hL).took hp hL 3 (st [61])
  have x2 := c.took hp hL 4 inS
  have x3 := c.took hp hL 4 outS
  unfold stmtR stmtS
  rw [h.is hp, h.is hp, c.varS hp, (x1.expr hp hL).2, x2.varS hp, x3.atomA hp hL]
  refine ⟨Rel.took ?_ hp hL _ _, rfl⟩
  split
  · exact (x1.expr hp hL).1
  · split
    · exact x2.var hp hL
    · exact x3.atom hp hL
theorem Rel.isSt (h : Rel La Lb ra rb) (hp : Pair La Lb) : isSt Lb rb = isSt La ra := by
  unfold Gr.isSt
  rw [h.is hp, h.is hp, h.is hp]
theorem Rel.sts (hp : Pair La Lb) (hL : Lok La) : ∀ (k : Nat) {ra rb : R}, Rel La Lb ra rb → Rel La Lb (stsR La k ra) (stsR Lb k rb) ∧ stsL Lb k rb = stsL La k ra
  | 0, ra, rb, h => ⟨h, rfl⟩
  | k + 1, ra, rb, h => by
    obtain ⟨h1, h2⟩ := h.stmt hp hL
    obtain ⟨g1, g2⟩ := Rel.sts hp hL k h1
    unfold stsR stsL
    rw [h.isSt hp, h1.e, h2, g2]
    split
    · split
      · exact ⟨g1, rfl⟩
      · exact ⟨h1, rfl⟩
    · exact ⟨h, rfl⟩
theorem Rel.term (h : Rel La Lb ra rb) (hp : Pair La Lb) (hL : Lok La) : Rel La Lb (termR La ra) (termR Lb rb) ∧ termT Lb rb = termT La ra := by
  have x1 := h.took hp hL 4 gotoS
  have x2 : Rel La Lb (ifA La ra) (ifA Lb rb) := ((h.took hp hL 4 ifS).atom hp hL).took hp hL 4 thenS
  have x3 : Rel La Lb (ifB La ra) (ifB Lb rb) := (x2.lbl hp hL).took hp hL 4 elseS
  unfold termR termT
  rw [h.is hp, h.is hp, x1.varS hp, x2.varS hp, x3.varS hp, (h.took hp hL 4 ifS).atomA hp hL]
  refine ⟨Rel.took ?_ hp hL _ _, rfl⟩
  split
  · exact x1.lbl hp hL
  · split
    · exact x3.lbl hp hL
    · exact h.took hp hL _ _
theorem Rows2.len {l m : List Tok} (h : Rows2 La Lb l m) : m.length = l.length := by
  obtain ⟨z, rfl, rfl, _⟩ := h
  simp
theorem Rel.head (h : Rel La Lb ra rb) (hp : Pair La Lb) : Rel La Lb (headR La ra) (headR Lb rb) := by
  unfold headR
  rw [h.is hp]
  by_cases hb : isB La ra 4 blockS = true
  · have h0 : ra.e = 0 := by
      unfold isB at hb
      simp only [Bool.and_eq_true, beq_iff_eq] at hb
      exact hb.1
    rw [(h.f h0).2.len]
    split
    · exact h.fail 6 (by decide) (now La ra, now Lb rb) (h.now2 hp)
    · exact h
  · rw [if_neg (fun hh => hb hh.1), if_neg (fun hh => hb hh.1)]
    exact h
theorem Rel.body (h : Rel La Lb ra rb) (hp : Pair La Lb) (hL : Lok La) : Rel La Lb (bodyR La ra) (bodyR Lb rb) := by
  have k : Rel La Lb (nameR La ra) (nameR Lb rb) := (h.head hp).took hp hL 4 blockS
  have q := k.took hp hL 1 (st [])
  have z : Rel La Lb { Gr.took La (nameR La ra) 1 (st []) with bk := (Gr.took La (nameR La ra) 1 (st [])).bk ++ [tokn La (nameR La ra) 1 (st [])] } { Gr.took Lb (nameR Lb rb) 1 (st []) with bk := (Gr.took Lb (nameR Lb rb) 1 (st [])).bk ++ [tokn Lb (nameR Lb rb) 1 (st [])] } := by
    refine ⟨⟨q.ok.i, q.ok.v, q.ok.ev⟩, q.i, q.e, q.n, q.vs, fun he => ⟨(q.f he).1, ?_⟩, q.p⟩
    have hb := (took_e La (nameR La ra) 1 (st []) he).1
    exact (q.f he).2.snoc (tokn La (nameR La ra) 1 (st []), tokn Lb (nameR Lb rb) 1 (st [])) (k.tok2 hp _ _ hb)
  exact z.took hp hL 3 (st [123])
theorem Rel.block (h : Rel La Lb ra rb) (hp : Pair La Lb) (hL : Lok La) : Rel La Lb (blockR La ra) (blockR Lb rb) ∧ blockB Lb rb = blockB La ra := by
  have k : Rel La Lb (nameR La ra) (nameR Lb rb) := (h.head hp).took hp hL 4 blockS
  obtain ⟨s1, s2⟩ := Rel.sts hp hL La.length (h.body hp hL)
  have hE : endR Lb rb = stsR Lb La.length (bodyR Lb rb) := by unfold endR; rw [hp.len]
  have s3 : Rel La Lb (endR La ra) (endR Lb rb) := by rw [hE]; exact s1
  obtain ⟨t1, t2⟩ := s3.term hp hL
  refine ⟨t1.took hp hL _ _, ?_⟩
  unfold blockB
  rw [t2, hp.len, s2, show blockN Lb rb = blockN La ra from k.varS hp]
theorem Rel.blks (hp : Pair La Lb) (hL : Lok La) : ∀ (k : Nat) {ra rb : R}, Rel La Lb ra rb → Rel La Lb (blksR La k ra) (blksR Lb k rb) ∧ blksL Lb k rb = blksL La k ra
  | 0, ra, rb, h => ⟨h, rfl⟩
  | k + 1, ra, rb, h => by
    obtain ⟨h1, h2⟩ := h.block hp hL
    obtain ⟨g1, g2⟩ := Rel.blks hp hL k h1
    unfold blksR blksL
    rw [h.is hp, h.e, h2, g2]
    split
    · exact ⟨g1, rfl⟩
    · exact ⟨h, rfl⟩

/-- Positions rise in step. -/
def Rise2 (La Lb : List Tok) : Prop := ∀ x y, Two La Lb x → Two La Lb y → (x.1.pos < y.1.pos ↔ x.2.pos < y.2.pos)
/-- An error, or none, at one place of both. -/
def At2 (La Lb : List Tok) (a b : Int × Int) : Prop := b.1 = a.1 ∧ (a.1 ≠ 0 → ∃ x, Two La Lb x ∧ a.2 = x.1.pos ∧ b.2 = x.2.pos)
theorem At2.least {a b : Int × Int} (hr : Rise2 La Lb) (h : At2 La Lb a b) (e : Int) (x : Tok × Tok) (hx : Two La Lb x) : At2 La Lb (leastE a e x.1) (leastE b e x.2) := by
  unfold leastE
  by_cases h0 : a.1 = 0
  · rw [if_pos (.inl h0), if_pos (.inl (h.1.trans h0))]
    exact ⟨rfl, fun _ => ⟨x, hx, rfl, rfl⟩⟩
  · have h1 : b.1 ≠ 0 := fun hh => h0 (h.1.symm.trans hh)
    obtain ⟨y, hy, e1, e2⟩ := h.2 h0
    have hxy := hr x y hx hy
    by_cases hq : x.1.pos < a.2
    · have hq2 : x.2.pos < b.2 := by rw [e2]; rw [e1] at hq; exact hxy.1 hq
      rw [if_pos (.inr hq), if_pos (.inr hq2)]
      exact ⟨rfl, fun _ => ⟨x, hx, rfl, rfl⟩⟩
    · have hq2 : ¬ x.2.pos < b.2 := by rw [e2]; rw [e1] at hq; exact fun hh => hq (hxy.2 hh)
      rw [if_neg (by rintro (hh | hh); exact h0 hh; exact hq hh), if_neg (by rintro (hh | hh); exact h1 hh; exact hq2 hh)]
      exact h
theorem hasT_two (hp : Pair La Lb) (s : ByteArray) : ∀ z : List (Tok × Tok), (∀ x ∈ z, Two La Lb x) → hasT (z.map Prod.snd) s = hasT (z.map Prod.fst) s
  | [], _ => rfl
  | x :: z, h => by
    have := hasT_two hp s z (fun y hy => h y (List.mem_cons_of_mem _ hy))
    unfold hasT at this ⊢
    simp only [List.map_cons, List.any_cons]
    rw [this, (hp.ak x (h x (by simp))).s]
theorem names2 (hp : Pair La Lb) (hr : Rise2 La Lb) (z : List (Tok × Tok)) (hz : ∀ x ∈ z, Two La Lb x) : ∀ k, At2 La Lb (namesN (z.map Prod.fst) k) (namesN (z.map Prod.snd) k)
  | 0 => ⟨rfl, fun h => absurd rfl h⟩
  | k + 1 => by
    have ih := names2 hp hr z hz k
    unfold namesN
    rw [List.getElem?_map, List.getElem?_map]
    cases hq : z[k]? with
    | none => exact ih
    | some x =>
      have hx := hz x (List.mem_of_getElem? hq)
      simp only [Option.map_some]
      rw [(hp.ak x hx).s, ← List.map_take, ← List.map_take, hasT_two hp _ (z.take k) (fun y hy => hz y (List.mem_of_mem_take hy))]
      split
      · exact ih.least hr 5 x hx
      · exact ih
theorem tgt2 (hp : Pair La Lb) (hr : Rise2 La Lb) (bz z : List (Tok × Tok)) (hbz : ∀ x ∈ bz, Two La Lb x) (hz : ∀ x ∈ z, Two La Lb x) {a b : Int × Int} (h : At2 La Lb a b) : ∀ k, At2 La Lb (tgtN (bz.map Prod.fst) (z.map Prod.fst) a k) (tgtN (bz.map Prod.snd) (z.map Prod.snd) b k)
  | 0 => h
  | k + 1 => by
    have ih := tgt2 hp hr bz z hbz hz h k
    unfold tgtN
    rw [List.getElem?_map, List.getElem?_map]
    cases hq : z[k]? with
    | none => exact ih
    | some x =>
      have hx := hz x (List.mem_of_getElem? hq)
      simp only [Option.map_some]
      rw [(hp.ak x hx).s, hasT_two hp _ bz hbz]
      split
      · exact ih
      · exact ih.least hr 4 x hx
/-- Both texts: the same blocks, the same error, at one place. -/
theorem parse2 (hp : Pair La Lb) (hr : Rise2 La Lb) (hL : Lok La) (h0 : 0 < La.length) : allL Lb = allL La ∧ At2 La Lb (parseL La) (parseL Lb) := by
  have z0 : Rel La Lb r0 r0 := ⟨⟨h0, by decide, fun _ => by decide⟩, rfl, rfl, rfl, rfl, fun _ => ⟨⟨[], rfl, rfl, fun x hx => by cases hx⟩, ⟨[], rfl, rfl, fun x hx => by cases hx⟩⟩, fun h => absurd rfl h⟩
  obtain ⟨b1, b2⟩ := z0.block hp hL
  obtain ⟨k1, k2⟩ := Rel.blks hp hL La.length b1
  have hR : Rel La Lb (allR La) (allR Lb) := by unfold allR; rw [hp.len]; exact k1
  refine ⟨by unfold allL; rw [hp.len, b2, k2], ?_⟩
  unfold parseL
  rw [hR.e]
  split
  · rename_i he
    obtain ⟨⟨tz, t1, t2, t3⟩, ⟨bz, c1, c2, c3⟩⟩ := hR.f he
    unfold namedE
    rw [t1, t2, c1, c2]
    have hn := names2 hp hr bz c3 bz.length
    have := tgt2 hp hr bz tz c3 t3 hn tz.length
    simpa using this
  · rename_i he
    exact ⟨rfl, fun _ => hR.p he⟩
end

end Go.Proofs.Ytmnplnhblniimaa.Gr

namespace Go.Proofs.Ytmnplnhblniimaa.Tk
set_option linter.unusedVariables false
set_option linter.unusedSectionVars false
set_option linter.unusedSimpArgs false
open Go

section
variable {p u r : ByteArray} (hr : 0 < r.size) (h9 : byt r 0 = 9)
include hr h9

theorem byt_mid9 (i : Nat) (h : i < u.size) : byt ((p ++ u) ++ r) (p.size + i) = byt u i := by
  rw [byt_append_left _ _ _ (by rw [ByteArray.size_append]; omega), byt_append_right]
theorem byt_end9 : byt ((p ++ u) ++ r) (p.size + u.size) = 9 := by
  have := byt_append_right (p ++ u) r 0
  rw [ByteArray.size_append, Nat.add_zero] at this
  rw [this, h9]

theorem runTo_mid9 (f : Int → Bool) (hf : f 9 = false) (i : Nat) (hi : i ≤ u.size) : runTo f ((p ++ u) ++ r) (p.size + i) = p.size + runTo f u i := by
  induction h : u.size - i using Nat.strongRecOn generalizing i with
  | _ k ih =>
    by_cases hlt : i < u.size
    · have hb := byt_mid9 (p := p) (u := u) (r := r) hr h9 i hlt
      cases hc : f (byt u i) with
      | true =>
        rw [runTo_go hlt hc, runTo_go (by simp only [ByteArray.size_append]; omega) (by rw [hb]; exact hc)]
        exact ih _ (by omega) (i + 1) (by omega) rfl
      | false =>
        rw [runTo_stop (fun _ => hc), runTo_stop (fun _ => by rw [hb]; exact hc)]
    · have e : i = u.size := by omega
      subst e
      rw [runTo_stop (s := u) (fun h => absurd h hlt), runTo_stop (fun _ => by rw [byt_end9 hr h9]; exact hf)]

theorem stepAt_mid9 {t : Tok} (h : stepAt u 0 = .tok t) : stepAt ((p ++ u) ++ r) p.size = .tok { t with pos := (p.size : Int) } := by
  have hu : 0 < u.size := by
    cases hz : decide (0 < u.size) with
    | true => exact of_decide_eq_true hz
    | false => rw [stepAt, if_neg (of_decide_eq_false hz)] at h; cases h
  have hb := byt_mid9 (p := p) (u := u) (r := r) hr h9 0 hu
  rw [Nat.add_zero] at hb
  have hT : p.size < ((p ++ u) ++ r).size := by simp only [ByteArray.size_append]; omega
  have h1 := runTo_mid9 (p := p) (u := u) (r := r) hr h9 alnumB (by decide) 0 (by omega)
  have h2 := runTo_mid9 (p := p) (u := u) (r := r) hr h9 digitB (by decide) 0 (by omega)
  rw [Nat.add_zero] at h1 h2
  have x1 := extract_mid p u r (runTo alnumB u 0) (runTo_le _ _ _ (by omega))
  have x2 := extract_mid p u r (runTo digitB u 0) (runTo_le _ _ _ (by omega))
  have x3 := extract_mid p u r 1 (by omega)
  simp only [stepAt, if_pos hu, if_pos hT, hb, h1, h2, x1, x2, x3] at h ⊢
  split at h
  · cases h
  · split at h
    · cases h
    · rename_i n1 n2
      rw [if_neg n1, if_neg n2]
      split at h
      · rename_i n3
        rw [if_pos n3]
        split at h
        · rename_i n4
          rw [if_pos n4]; cases h; rfl
        · rename_i n4
          rw [if_neg n4]
          split at h
          · cases h
          · rename_i n5
            rw [if_neg n5]; cases h; rfl
      · rename_i n3
        rw [if_neg n3]
        split at h
        · rename_i n4
          rw [if_pos n4]
          split at h
          · cases h
          · rename_i n5
            rw [if_neg n5]
            split at h
            · cases h
            · rename_i n6
              rw [if_neg n6]; cases h; rfl
        · rename_i n4
          rw [if_neg n4]
          split at h
          · rename_i n5
            rw [if_pos n5]; cases h; rfl
          · cases h
end

abbrev rem9 : ByteArray := bs [9, 35, 32, 120, 10, 10]
/-- Tokens' texts, a remark and two line ends behind each. -/
def joinedR : List Tok → ByteArray
  | [] => bs []
  | t :: l => t.s ++ (rem9 ++ joinedR l)
def placedR : List Tok → Nat → List Tok
  | [], _ => []
  | t :: l, i => { t with pos := (i : Int) } :: placedR l (i + t.s.size + 6)

theorem rem_byt (P r : ByteArray) (i : Nat) (h : i < 6) : byt (P ++ (rem9 ++ r)) (P.size + i) = byt rem9 i := by
  rw [byt_append_right, byt_append_left _ _ _ (by show i < 6; exact h)]
theorem rem_steps (P r : ByteArray) : stepAt (P ++ (rem9 ++ r)) P.size = .skip (P.size + 1) ∧ stepAt (P ++ (rem9 ++ r)) (P.size + 1) = .skip (P.size + 4) ∧ stepAt (P ++ (rem9 ++ r)) (P.size + 4) = .skip (P.size + 5) ∧ stepAt (P ++ (rem9 ++ r)) (P.size + 5) = .skip (P.size + 6) := by
  have hz : (P ++ (rem9 ++ r)).size = P.size + (6 + r.size) := by simp only [ByteArray.size_append]; rfl
  have b0 := rem_byt P r 0 (by decide)
  have b1 := rem_byt P r 1 (by decide)
  have b2 := rem_byt P r 2 (by decide)
  have b3 := rem_byt P r 3 (by decide)
  have b4 := rem_byt P r 4 (by decide)
  have b5 := rem_byt P r 5 (by decide)
  rw [Nat.add_zero] at b0
  have hrun : runTo (fun c => !decide (c = 10)) (P ++ (rem9 ++ r)) (P.size + 1) = P.size + 4 := by
    rw [runTo_go (by omega) (by rw [b1]; rfl), runTo_go (by omega) (by rw [b2]; rfl), runTo_go (by omega) (by rw [b3]; rfl), runTo_stop (fun _ => by rw [b4]; rfl)]
  refine ⟨?_, ?_, ?_, ?_⟩
  · rw [stepAt, if_pos (by omega)]; simp only [b0]; rfl
  · rw [stepAt, if_pos (by omega)]; simp only [b1, hrun]; rfl
  · rw [stepAt, if_pos (by omega)]; simp only [b4]; rfl
  · rw [stepAt, if_pos (by omega)]; simp only [b5]; rfl

theorem scan_joinedR : ∀ (l : List Tok) (p : ByteArray) (out : List Tok) (n : Nat), (∀ t ∈ l, stepAt t.s 0 = .tok { t with pos := 0 }) → (joinedR l).size < n →
    scan (p ++ joinedR l) n p.size out = ⟨out ++ placedR l p.size ++ [⟨0, ((p ++ joinedR l).size : Nat), bs [], 0⟩], 0, 0⟩
  | [], p, out, 0, _, hn => by omega
  | [], p, out, n + 1, _, hn => by
    have e : (p ++ bs []).size = p.size := by rw [ByteArray.size_append]; show p.size + 0 = _; omega
    simp only [scan, joinedR, stepAt, e, if_neg (Nat.lt_irrefl p.size), placedR, List.append_nil]
  | t :: l, p, out, n, h, hn => by
    have ht := h t (by simp)
    have hs := stepAt_tok ht
    have hs1 : 0 < t.s.size := hs.1
    have h6 : rem9.size = 6 := rfl
    simp only [joinedR, ByteArray.size_append, h6] at hn
    obtain ⟨n, rfl⟩ : ∃ k, n = k + 1 + 1 + 1 + 1 + 1 := ⟨n - 5, by omega⟩
    have er : 0 < (rem9 ++ joinedR l).size := by rw [ByteArray.size_append, h6]; omega
    have e9 : byt (rem9 ++ joinedR l) 0 = 9 := by rw [byt_append_left _ _ _ (by rw [h6]; omega)]; rfl
    have step1 := stepAt_mid9 (p := p) (r := rem9 ++ joinedR l) er e9 ht
    obtain ⟨s1, s2, s3, s4⟩ := rem_steps (p ++ t.s) (joinedR l)
    have zp : (p ++ t.s).size = p.size + t.s.size := ByteArray.size_append
    rw [zp] at s1 s2 s3 s4
    have assoc1 : p ++ (t.s ++ (rem9 ++ joinedR l)) = (p ++ t.s) ++ (rem9 ++ joinedR l) := (ByteArray.append_assoc).symm
    have assoc2 : (p ++ t.s) ++ (rem9 ++ joinedR l) = ((p ++ t.s) ++ rem9) ++ joinedR l := (ByteArray.append_assoc).symm
    have sz : ((p ++ t.s) ++ rem9).size = p.size + t.s.size + 6 := by simp only [ByteArray.size_append, h6]
    have ih := scan_joinedR l ((p ++ t.s) ++ rem9) (out ++ [{ t with pos := (p.size : Int) }]) n (fun t' h' => h t' (by simp [h'])) (by omega)
    rw [sz, ← assoc2] at ih
    show scan (p ++ (t.s ++ (rem9 ++ joinedR l))) (n + 1 + 1 + 1 + 1 + 1) p.size out = _
    rw [assoc1, scan, step1]
    simp only []
    rw [scan, s1]
    simp only []
    rw [scan, s2]
    simp only []
    rw [scan, s3]
    simp only []
    rw [scan, s4]
    simp only []
    rw [ih]
    simp only [joinedR, placedR, List.append_assoc, assoc1, List.cons_append, List.nil_append]

abbrev beg9 : ByteArray := bs [35, 32, 98, 101, 103, 105, 110, 10, 32]
theorem scan_begun (l : List Tok) (h : ∀ t ∈ l, stepAt t.s 0 = .tok { t with pos := 0 }) :
    scan (beg9 ++ joinedR l) ((beg9 ++ joinedR l).size + 1) 0 [] = ⟨placedR l 9 ++ [⟨0, ((beg9 ++ joinedR l).size : Nat), bs [], 0⟩], 0, 0⟩ := by
  have hz : (beg9 ++ joinedR l).size = 9 + (joinedR l).size := by simp only [ByteArray.size_append]; rfl
  have hb : ∀ i, i < 9 → byt (beg9 ++ joinedR l) i = byt beg9 i := fun i hi => byt_append_left _ _ _ (by show i < 9; exact hi)
  have hrun : runTo (fun c => !decide (c = 10)) (beg9 ++ joinedR l) 0 = 7 := by
    rw [runTo_go (by omega) (by rw [hb 0 (by decide)]; rfl), runTo_go (by omega) (by rw [hb 1 (by decide)]; rfl), runTo_go (by omega) (by rw [hb 2 (by decide)]; rfl), runTo_go (by omega) (by rw [hb 3 (by decide)]; rfl), runTo_go (by omega) (by rw [hb 4 (by decide)]; rfl), runTo_go (by omega) (by rw [hb 5 (by decide)]; rfl), runTo_go (by omega) (by rw [hb 6 (by decide)]; rfl), runTo_stop (fun _ => by rw [hb 7 (by decide)]; rfl)]
  have s1 : stepAt (beg9 ++ joinedR l) 0 = .skip 7 := by rw [stepAt, if_pos (by omega)]; simp only [hb 0 (by decide), hrun]; rfl
  have s2 : stepAt (beg9 ++ joinedR l) 7 = .skip 8 := by rw [stepAt, if_pos (by omega)]; simp only [hb 7 (by decide)]; rfl
  have s3 : stepAt (beg9 ++ joinedR l) 8 = .skip 9 := by rw [stepAt, if_pos (by omega)]; simp only [hb 8 (by decide)]; rfl
  have ih := scan_joinedR l beg9 [] ((joinedR l).size + 7) h (by omega)
  have hf : (beg9 ++ joinedR l).size + 1 = (joinedR l).size + 7 + 1 + 1 + 1 := by omega
  rw [hf, scan, s1]
  simp only []
  rw [scan, s2]
  simp only []
  rw [scan, s3]
  simp only []
  exact ih

end Go.Proofs.Ytmnplnhblniimaa.Tk

namespace Go.Proofs.Ytmnplnhblniimaa.Gr
open Go Tk
def Upw (l : List Tok) : Prop := l.Pairwise fun x y => x.pos < y.pos
theorem rise_of {La Lb : List Tok} (ha : Upw La) (hb : Upw Lb) : Rise2 La Lb := by
  have key : ∀ {l : List Tok}, Upw l → ∀ (i j : Nat) (s t : Tok), l[i]? = some s → l[j]? = some t → (s.pos < t.pos ↔ i < j) := by
    intro l hl i j s t h1 h2
    obtain ⟨hi, rfl⟩ := List.getElem?_eq_some_iff.1 h1
    obtain ⟨hj, rfl⟩ := List.getElem?_eq_some_iff.1 h2
    have hp := List.pairwise_iff_getElem.1 hl
    refine ⟨fun h => ?_, fun h => hp i j hi hj h⟩
    rcases Nat.lt_trichotomy i j with h3 | h3 | h3
    · exact h3
    · subst h3; omega
    · have := hp j i hj hi h3; omega
  rintro x y ⟨i, x1, x2⟩ ⟨j, y1, y2⟩
  rw [key ha i j _ _ x1 y1, key hb i j _ _ x2 y2]
theorem placed_lo (l : List Tok) : ∀ i, ∀ t ∈ placed l i, (i : Int) ≤ t.pos := by
  induction l with
  | nil => intro i t h; cases h
  | cons u l ih =>
    intro i t h
    rcases List.mem_cons.1 h with rfl | h
    · exact Int.le_refl _
    · have := ih _ t h; omega
theorem placedR_lo (l : List Tok) : ∀ i, ∀ t ∈ placedR l i, (i : Int) ≤ t.pos := by
  induction l with
  | nil => intro i t h; cases h
  | cons u l ih =>
    intro i t h
    rcases List.mem_cons.1 h with rfl | h
    · exact Int.le_refl _
    · have := ih _ t h; omega
/-- With the text's end behind. -/
theorem placed_up (l : List Tok) : ∀ (i : Nat) (s : ByteArray), Upw (placed l i ++ [⟨0, ((i + (joined l).size : Nat) : Int), s, 0⟩]) := by
  induction l with
  | nil => intro i s; exact List.pairwise_singleton _ _
  | cons u l ih =>
    intro i s
    have hz : (joined (u :: l)).size = u.s.size + (1 + (joined l).size) := by simp only [joined, ByteArray.size_append]; rfl
    have h := ih (i + u.s.size + 1) s
    rw [show i + u.s.size + 1 + (joined l).size = i + (joined (u :: l)).size by rw [hz]; omega] at h
    refine List.pairwise_cons.2 ⟨fun t ht => ?_, h⟩
    rcases List.mem_append.1 ht with ht | ht
    · have := placed_lo l _ t ht
      show (i : Int) < t.pos
      omega
    · obtain rfl := List.mem_singleton.1 ht
      show (i : Int) < ((i + (joined (u :: l)).size : Nat) : Int)
      omega
theorem placedR_up (l : List Tok) : ∀ (i : Nat) (s : ByteArray), Upw (placedR l i ++ [⟨0, ((i + (joinedR l).size : Nat) : Int), s, 0⟩]) := by
  induction l with
  | nil => intro i s; exact List.pairwise_singleton _ _
  | cons u l ih =>
    intro i s
    have hz : (joinedR (u :: l)).size = u.s.size + (6 + (joinedR l).size) := by simp only [joinedR, ByteArray.size_append]; rfl
    have h := ih (i + u.s.size + 6) s
    rw [show i + u.s.size + 6 + (joinedR l).size = i + (joinedR (u :: l)).size by rw [hz]; omega] at h
    refine List.pairwise_cons.2 ⟨fun t ht => ?_, h⟩
    rcases List.mem_append.1 ht with ht | ht
    · have := placedR_lo l _ t ht
      show (i : Int) < t.pos
      omega
    · obtain rfl := List.mem_singleton.1 ht
      show (i : Int) < ((i + (joinedR (u :: l)).size : Nat) : Int)
      omega
theorem pair_placed (l : List Tok) (a b : Int) : ∀ i j, Pair (placed l i ++ [⟨0, a, bs [], 0⟩]) (placedR l j ++ [⟨0, b, bs [], 0⟩]) := by
  induction l with
  | nil =>
    intro i j
    refine ⟨rfl, ?_⟩
    rintro x ⟨k, h1, h2⟩
    cases k with
    | zero =>
      have e1 : x.1 = (⟨0, a, bs [], 0⟩ : Tok) := (Option.some.inj h1).symm
      have e2 : x.2 = (⟨0, b, bs [], 0⟩ : Tok) := (Option.some.inj h2).symm
      rw [e1, e2]; exact ⟨rfl, rfl, rfl⟩
    | succ k => cases h1
  | cons u l ih =>
    intro i j
    have h := ih (i + u.s.size + 1) (j + u.s.size + 6)
    refine ⟨by simpa [placed, placedR] using h.len, ?_⟩
    rintro x ⟨k, h1, h2⟩
    cases k with
    | zero =>
      have e1 : x.1 = { u with pos := (i : Int) } := (Option.some.inj h1).symm
      have e2 : x.2 = { u with pos := (j : Int) } := (Option.some.inj h2).symm
      rw [e1, e2]; exact ⟨rfl, rfl, rfl⟩
    | succ k => exact h.ak x ⟨k, h1, h2⟩

end Go.Proofs.Ytmnplnhblniimaa.Gr

namespace Go.Proofs.Ytmnplnhblniimaa.Gr
set_option linter.unusedVariables false
set_option linter.unusedSimpArgs false
open Go Tk

def LA (l : List Tok) : List Tok := placed l 0 ++ [⟨0, ((joined l).size : Nat), bs [], 0⟩]
def LB (l : List Tok) : List Tok := placedR l 9 ++ [⟨0, ((beg9 ++ joinedR l).size : Nat), bs [], 0⟩]
theorem size_beg (l : List Tok) : (beg9 ++ joinedR l).size = 9 + (joinedR l).size := by simp only [ByteArray.size_append]; rfl
theorem joined_le : ∀ l : List Tok, (joined l).size ≤ (joinedR l).size
  | [] => Nat.le_refl _
  | t :: l => by
    have := joined_le l
    have h1 : (joined (t :: l)).size = t.s.size + (1 + (joined l).size) := by simp only [joined, ByteArray.size_append]; rfl
    have h2 : (joinedR (t :: l)).size = t.s.size + (6 + (joinedR l).size) := by simp only [joinedR, ByteArray.size_append]; rfl
    omega
theorem text_a (l : List Tok) (h : ∀ t ∈ l, stepAt t.s 0 = .tok { t with pos := 0 }) (hs : (joined l).size ≤ 16384) : ofText (joined l) = ⟨LA l, 0, 0⟩ := by
  unfold ofText
  rw [if_neg (by omega)]
  have := scan_joined l (bs []) [] ((joined l).size + 1) h (by omega)
  have e : bs [] ++ joined l = joined l := ByteArray.empty_append
  rw [e] at this
  exact this
theorem text_b (l : List Tok) (h : ∀ t ∈ l, stepAt t.s 0 = .tok { t with pos := 0 }) (hs : (beg9 ++ joinedR l).size ≤ 16384) : ofText (beg9 ++ joinedR l) = ⟨LB l, 0, 0⟩ := by
  unfold ofText
  rw [if_neg (by omega)]
  exact scan_begun l h
theorem both (l : List Tok) (h : ∀ t ∈ l, stepAt t.s 0 = .tok { t with pos := 0 }) (hs : (beg9 ++ joinedR l).size ≤ 16384) :
    (parse (beg9 ++ joinedR l)).1 = (parse (joined l)).1 ∧ At2 (LA l) (LB l) (parse (joined l)).2 (parse (beg9 ++ joinedR l)).2 := by
  have hz := size_beg l
  have hj := joined_le l
  have ha := text_a l h (by omega)
  have hb := text_b l h hs
  have hL := (text_lok (s := joined l) (by rw [ha])).1
  rw [ha] at hL
  have hu : Upw (LA l) := by have := placed_up l 0 (bs []); rw [Nat.zero_add] at this; exact this
  have hv : Upw (LB l) := by have := placedR_up l 9 (bs []); unfold LB; rw [hz]; exact this
  obtain ⟨p1, p2⟩ := parse2 (pair_placed l _ _ 0 9) (rise_of hu hv) hL (by simp)
  have q1 : parse (joined l) = if (parseL (LA l)).1 = 0 then (allL (LA l), 0, 0) else ([], parseL (LA l)) := by show (if (ofText (joined l)).e = 0 then _ else _) = _; rw [ha]; rfl
  have q2 : parse (beg9 ++ joinedR l) = if (parseL (LB l)).1 = 0 then (allL (LB l), 0, 0) else ([], parseL (LB l)) := by show (if (ofText (beg9 ++ joinedR l)).e = 0 then _ else _) = _; rw [hb]; rfl
  have p1' : allL (LB l) = allL (LA l) := p1
  have p2' : At2 (LA l) (LB l) (parseL (LA l)) (parseL (LB l)) := p2
  rw [q1, q2, p2'.1]
  split
  · exact ⟨p1', rfl, fun hh => absurd rfl hh⟩
  · exact ⟨rfl, p2'⟩

end Go.Proofs.Ytmnplnhblniimaa.Gr
