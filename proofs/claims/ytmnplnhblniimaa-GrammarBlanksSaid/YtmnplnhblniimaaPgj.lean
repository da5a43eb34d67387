/- THE READER, plain: where the names that are gone to stand. -/
import Derived.Test.YtmnplnhblniimaaPgi
namespace Go.Proofs.Ytmnplnhblniimaa.Gr
set_option linter.unusedVariables false
set_option linter.unusedSimpArgs false
open Go Go.RowKit Tk

def Lo (t : Tok) : Prop := t.pos < 1099511627776
/-- All tokens stand low. -/
def Los (l : List Tok) : Prop := ∀ t ∈ l, Lo t
theorem Los.snoc {l : List Tok} {t : Tok} (h : Los l) (k : Lo t) : Los (l ++ [t]) := fun x hx => by
  rcases List.mem_append.1 hx with hx | hx
  · exact h x hx
  · obtain rfl := List.mem_singleton.1 hx; exact k
theorem lo_tokn {L : List Tok} (h : Los L) (r : R) (k : Int) (s : ByteArray) : Lo (tokn L r k s) := by
  have h0 : Lo t0 := by show (0 : Int) < _; decide
  unfold tokn
  split
  · unfold now
    rw [List.getD_eq_getElem?_getD]
    cases hq : L[r.i]? with
    | none => exact h0
    | some t => exact h t (List.mem_of_getElem? hq)
  · exact h0
theorem scan_los (s : ByteArray) (hs : s.size ≤ 16384) : ∀ (n i : Nat) (out : List Tk.Tok), i ≤ s.size → Los out → Los (scan s n i out).l
  | 0, i, out, hi, ho => fun t ht => by cases ht
  | n + 1, i, out, hi, ho => by
    unfold scan
    cases hq : stepAt s i with
    | stop => exact ho.snoc (by show (i : Int) < _; omega)
    | skip j => exact scan_los s hs n j out (stepAt_skip hq).2 ho
    | bad e => exact fun t ht => by cases ht
    | tok t =>
      have ht := stepAt_tok hq
      exact scan_los s hs n _ _ (by omega) (ho.snoc (by show t.pos < _; omega))
theorem text_los (s : ByteArray) : Los (ofText s).l := by
  unfold ofText
  split
  · exact fun t ht => by cases ht
  · exact scan_los s (by omega) _ _ _ (Nat.zero_le _) (fun t ht => by cases ht)

/-- The names so far stand low. -/
structure Lw (r : R) : Prop where
  b : Los r.bk
  t : Los r.tg
theorem Lw.of {r q : R} (h : Lw r) (hb : q.bk = r.bk) (ht : q.tg = r.tg) : Lw q := ⟨hb ▸ h.b, ht ▸ h.t⟩
theorem Lw.step {r q : R} (h : Lw r) (k : Sm r q) : Lw q := h.of k.bk k.tg
theorem Lw.lbl {L : List Tok} {r : R} (h : Lw r) (hL : Los L) : Lw (lblR L r) := by
  have k := h.step (sm_took L r 1 (st []))
  exact ⟨k.b, k.t.snoc (lo_tokn hL _ _ _)⟩
theorem Lw.term {L : List Tok} {r : R} (h : Lw r) (hL : Los L) : Lw (termR L r) := by
  unfold termR
  refine Lw.step ?_ (sm_took _ _ _ _)
  split
  · exact (h.step (sm_took _ _ _ _)).lbl hL
  · split
    · unfold ifB ifA
      exact (((((h.step (sm_took _ _ _ _)).step (sm_atom _ _)).step (sm_took _ _ _ _)).lbl hL).step (sm_took _ _ _ _)).lbl hL
    · exact h.step (sm_took _ _ _ _)
theorem Lw.body {L : List Tok} {r : R} (h : Lw r) (hL : Los L) : Lw (bodyR L r) := by
  have k := (h.step (sm_name L r)).step (sm_took L (nameR L r) 1 (st []))
  exact Lw.step (r := { took L (nameR L r) 1 (st []) with bk := (took L (nameR L r) 1 (st [])).bk ++ [tokn L (nameR L r) 1 (st [])] }) ⟨k.b.snoc (lo_tokn hL _ _ _), k.t⟩ (sm_took _ _ _ _)
theorem Lw.block {L : List Tok} {r : R} (h : Lw r) (hL : Los L) (hk : Lok L) (ho : Ok L r) (hc : Cn r) : Lw (blockR L r) := by
  obtain ⟨b1, b2, b3, b4, b5⟩ := body_facts L r
  have cb : Cn (bodyR L r) := ⟨by rw [b3]; exact hc.lo, by rw [b3]; exact hc.hi, fun he => by rw [b3]; exact hc.e (by rcases b5 he with h | h; exact h.1; exact h.2.1)⟩
  obtain ⟨s1, s2, s3, s4, s5, s6⟩ := sts_facts hk L.length (ho.body hk) cb
  have he : Lw (endR L r) := (h.body hL).of s4 s3
  exact (he.term hL).step (sm_took _ _ _ _)
theorem lw0 : Lw r0 := ⟨fun t ht => (by cases ht), fun t ht => (by cases ht)⟩

end Go.Proofs.Ytmnplnhblniimaa.Gr
