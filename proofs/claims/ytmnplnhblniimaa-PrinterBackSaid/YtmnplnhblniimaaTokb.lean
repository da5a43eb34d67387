/- TOKENS, SHOWN, WITH A BLANK BETWEEN ANY TWO, HAVE JUST THESE TOKENS: the plain law. No program in sight. -/
import Derived.Test.YtmnplnhblniimaaTok
namespace Go.Proofs.Ytmnplnhblniimaa.Tk
set_option linter.unusedVariables false
set_option linter.unusedSimpArgs false
set_option linter.unusedSectionVars false
open Go

theorem byt_append_left (p q : ByteArray) (i : Nat) (h : i < p.size) : byt (p ++ q) i = byt p i := by
  unfold byt
  rw [show (p ++ q).get! i = p.get! i from ?_]
  obtain ⟨⟨p⟩⟩ := p
  obtain ⟨⟨q⟩⟩ := q
  have h' : i < p.length := h
  simp only [ByteArray.get!, ByteArray.data_append]
  simp [Array.getElem!_eq_getD, Array.getD_eq_getD_getElem?, List.getElem?_append, h']
theorem byt_append_right (p q : ByteArray) (i : Nat) : byt (p ++ q) (p.size + i) = byt q i := by
  unfold byt
  rw [show (p ++ q).get! (p.size + i) = q.get! i from ?_]
  obtain ⟨⟨p⟩⟩ := p
  obtain ⟨⟨q⟩⟩ := q
  have h' : ¬ (p.length + i < p.length) := by omega
  simp only [ByteArray.get!, ByteArray.data_append]
  show (({ toList := p } : Array UInt8) ++ { toList := q })[p.length + i]! = _
  simp [Array.getElem!_eq_getD, Array.getD_eq_getD_getElem?, List.getElem?_append, h']

theorem extract_mid (p u r : ByteArray) (k : Nat) (h : k ≤ u.size) : ((p ++ u) ++ r).extract p.size (p.size + k) = u.extract 0 k := by
  obtain ⟨⟨p⟩⟩ := p
  obtain ⟨⟨u⟩⟩ := u
  obtain ⟨⟨r⟩⟩ := r
  have h' : k ≤ u.length := h
  apply ByteArray.ext
  simp only [ByteArray.data_extract, ByteArray.data_append]
  show Array.extract _ p.length (p.length + k) = _
  apply Array.ext'
  simp [List.take_append, List.drop_append]
  omega

section
variable {p u r : ByteArray} (hr : 0 < r.size) (h32 : byt r 0 = 32)
include hr h32

theorem byt_mid (i : Nat) (h : i < u.size) : byt ((p ++ u) ++ r) (p.size + i) = byt u i := by
  rw [byt_append_left _ _ _ (by rw [ByteArray.size_append]; omega), byt_append_right]
theorem byt_end : byt ((p ++ u) ++ r) (p.size + u.size) = 32 := by
  have := byt_append_right (p ++ u) r 0
  rw [ByteArray.size_append, Nat.add_zero] at this
  rw [this, h32]

theorem runTo_mid (f : Int → Bool) (hf : f 32 = false) (i : Nat) (hi : i ≤ u.size) : runTo f ((p ++ u) ++ r) (p.size + i) = p.size + runTo f u i := by
  induction h : u.size - i using Nat.strongRecOn generalizing i with
  | _ k ih =>
    by_cases hlt : i < u.size
    · have hb := byt_mid (p := p) (u := u) (r := r) hr h32 i hlt
      cases hc : f (byt u i) with
      | true =>
        rw [runTo_go hlt hc, runTo_go (by simp only [ByteArray.size_append]; omega) (by rw [hb]; exact hc)]
        exact ih _ (by omega) (i + 1) (by omega) rfl
      | false =>
        rw [runTo_stop (fun _ => hc), runTo_stop (fun _ => by rw [hb]; exact hc)]
    · have e : i = u.size := by omega
      subst e
      rw [runTo_stop (s := u) (fun h => absurd h hlt), runTo_stop (fun _ => by rw [byt_end hr h32]; exact hf)]

theorem stepAt_mid {t : Tok} (h : stepAt u 0 = .tok t) : stepAt ((p ++ u) ++ r) p.size = .tok { t with pos := (p.size : Int) } := by
  have hu : 0 < u.size := by
    cases hz : decide (0 < u.size) with
    | true => exact of_decide_eq_true hz
    | false => rw [stepAt, if_neg (of_decide_eq_false hz)] at h; cases h
  have hb := byt_mid (p := p) (u := u) (r := r) hr h32 0 hu
  rw [Nat.add_zero] at hb
  have hT : p.size < ((p ++ u) ++ r).size := by simp only [ByteArray.size_append]; omega
  have h1 := runTo_mid (p := p) (u := u) (r := r) hr h32 alnumB (by decide) 0 (by omega)
  have h2 := runTo_mid (p := p) (u := u) (r := r) hr h32 digitB (by decide) 0 (by omega)
  rw [Nat.add_zero] at h1 h2
  have x1 := extract_mid p u r (runTo alnumB u 0) (runTo_le _ _ _ (by omega))
  have x2 := extract_mid p u r (runTo digitB u 0) (runTo_le _ _ _ (by omega))
  have x3 := extract_mid p u r 1 (by omega)
  simp only [stepAt, if_pos hu, if_pos hT, hb, h1, h2, x1, x2, x3] at h ⊢
  split at h
  · cases h
  · split at h
    · cases h
    · rename_i n1 n2
      rw [if_neg n1, if_neg n2]
      split at h
      · rename_i n3
        rw [if_pos n3]
        split at h
        · rename_i n4
          rw [if_pos n4]; cases h; rfl
        · rename_i n4
          rw [if_neg n4]
          split at h
          · cases h
          · rename_i n5
            rw [if_neg n5]; cases h; rfl
      · rename_i n3
        rw [if_neg n3]
        split at h
        · rename_i n4
          rw [if_pos n4]
          split at h
          · cases h
          · rename_i n5
            rw [if_neg n5]
            split at h
            · cases h
            · rename_i n6
              rw [if_neg n6]; cases h; rfl
        · rename_i n4
          rw [if_neg n4]
          split at h
          · rename_i n5
            rw [if_pos n5]; cases h; rfl
          · cases h
end

/-- Where a step goes, and how long its token is. -/
theorem stepAt_skip {s : ByteArray} {i j : Nat} (h : stepAt s i = .skip j) : i < j ∧ j ≤ s.size := by
  simp only [stepAt] at h
  split at h
  · rename_i hi
    split at h
    · cases h; omega
    · split at h
      · rename_i h35
        cases h
        refine ⟨?_, runTo_le _ _ _ (by omega)⟩
        rw [runTo_go hi (by rw [h35]; decide)]
        exact runTo_ge _ _ _
      · split at h
        · split at h
          · cases h
          · split at h <;> cases h
        · split at h
          · split at h
            · cases h
            · split at h <;> cases h
          · split at h <;> cases h
  · cases h

theorem size_run (f : Int → Bool) (s : ByteArray) (i : Nat) (hi : i ≤ s.size) : (s.extract i (runTo f s i)).size = runTo f s i - i := by
  have := runTo_le f s i hi
  rw [ByteArray.size_extract]; omega

theorem stepAt_tok {s : ByteArray} {i : Nat} {t : Tok} (h : stepAt s i = .tok t) : 0 < t.s.size ∧ t.s.size + i ≤ s.size ∧ t.pos = i := by
  simp only [stepAt] at h
  split at h
  · rename_i hi
    have ha : i ≤ s.size := by omega
    have hA := runTo_le alnumB s i ha
    have hD := runTo_le digitB s i ha
    have sA := size_run alnumB s i ha
    have sD := size_run digitB s i ha
    have gA : letterB (byt s i) = true → i < runTo alnumB s i := fun hl => by
      rw [runTo_go hi (by simp [alnumB, hl])]; exact runTo_ge _ _ _
    have gD : digitB (byt s i) = true → i < runTo digitB s i := fun hl => by
      rw [runTo_go hi hl]; exact runTo_ge _ _ _
    split at h
    · cases h
    · split at h
      · cases h
      · split at h
        · rename_i hl
          have := gA hl
          split at h
          · cases h; exact ⟨by show 0 < (s.extract _ _).size; omega, by show (s.extract _ _).size + i ≤ _; omega, rfl⟩
          · split at h
            · cases h
            · cases h; exact ⟨by show 0 < (s.extract _ _).size; omega, by show (s.extract _ _).size + i ≤ _; omega, rfl⟩
        · split at h
          · rename_i hl
            have := gD hl
            split at h
            · cases h
            · split at h
              · cases h
              · cases h; exact ⟨by show 0 < (s.extract _ _).size; omega, by show (s.extract _ _).size + i ≤ _; omega, rfl⟩
          · split at h
            · cases h
              refine ⟨?_, ?_, rfl⟩
              · show 0 < (s.extract i (i + 1)).size
                rw [ByteArray.size_extract]; omega
              · show (s.extract i (i + 1)).size + i ≤ _
                rw [ByteArray.size_extract]; omega
            · cases h
  · cases h

theorem scan_sizes (s : ByteArray) : ∀ (n i : Nat) (out : List Tok), i ≤ s.size → (scan s n i out).e = 0 → ∃ l', (scan s n i out).l = out ++ l' ∧ ∀ t ∈ l', t.s.size + i ≤ s.size
  | 0, i, out, hi, h => by simp [scan] at h
  | n + 1, i, out, hi, h => by
    simp only [scan] at h ⊢
    split at h
    · exact ⟨_, rfl, by simp [bs]; show (0 : Nat) + i ≤ s.size; omega⟩
    · rename_i j hj
      have hs := stepAt_skip hj
      obtain ⟨l', e, hl⟩ := scan_sizes s n j out hs.2 h
      exact ⟨l', e, fun t ht => by have := hl t ht; omega⟩
    · rename_i e he
      simp only at h
      subst h
      exfalso
      simp only [stepAt] at he
      repeat (first | (split at he) | cases he)
    · rename_i t ht
      have hs := stepAt_tok ht
      obtain ⟨l', e, hl⟩ := scan_sizes s n (i + t.s.size) (out ++ [t]) (by omega) h
      refine ⟨t :: l', by rw [e]; simp, ?_⟩
      intro t' h'
      rcases List.mem_cons.1 h' with rfl | h'
      · omega
      · have := hl t' h'; omega

/-- A token of a text that is all of it is what stands at its beginning. -/
theorem first_tok {u : ByteArray} {t t2 : Tok} (h : ofText u = ⟨[t, t2], 0, 0⟩) (ht : t.s = u) (hu : u.size ≤ 16384) : stepAt u 0 = .tok t := by
  rw [ofText, if_neg (by omega)] at h
  have h' := h
  simp only [scan] at h
  split at h
  · simp at h
  · rename_i j hj
    have hs := stepAt_skip hj
    obtain ⟨l', e, hl⟩ := scan_sizes u _ j [] hs.2 (by rw [h])
    rw [h] at e
    simp only [List.nil_append] at e
    have := hl t (by rw [← e]; simp)
    rw [ht] at this
    omega
  · simp at h
  · rename_i t' ht'
    have hs := stepAt_tok ht'
    obtain ⟨l', e, _⟩ := scan_sizes u _ (0 + t'.s.size) ([] ++ [t']) (by omega) (by rw [h])
    rw [h] at e
    simp at e
    rw [e.1]; exact ht'

/-- Tokens' texts, a blank behind each. -/
def joined : List Tok → ByteArray
  | [] => bs []
  | t :: l => t.s ++ (bs [32] ++ joined l)
/-- The tokens of that text, from a place on. -/
def placed : List Tok → Nat → List Tok
  | [], _ => []
  | t :: l, i => { t with pos := (i : Int) } :: placed l (i + t.s.size + 1)

theorem scan_joined : ∀ (l : List Tok) (p : ByteArray) (out : List Tok) (n : Nat), (∀ t ∈ l, stepAt t.s 0 = .tok { t with pos := 0 }) → (joined l).size < n →
    scan (p ++ joined l) n p.size out = ⟨out ++ placed l p.size ++ [⟨0, ((p ++ joined l).size : Nat), bs [], 0⟩], 0, 0⟩
  | [], p, out, 0, _, hn => by omega
  | [], p, out, n + 1, _, hn => by
    have e : (p ++ bs []).size = p.size := by rw [ByteArray.size_append]; show p.size + 0 = _; omega
    simp only [scan, joined, stepAt, e, if_neg (Nat.lt_irrefl p.size), placed, List.append_nil]
  | t :: l, p, out, n, h, hn => by
    have ht := h t (by simp)
    have hs := stepAt_tok ht
    have hs1 : 0 < t.s.size := hs.1
    have h32s : (bs [32]).size = 1 := rfl
    simp only [joined, ByteArray.size_append, h32s] at hn
    obtain ⟨n, rfl⟩ : ∃ k, n = k + 1 + 1 := ⟨n - 2, by omega⟩
    have er : 0 < (bs [32] ++ joined l).size := by rw [ByteArray.size_append, h32s]; omega
    have e32 : byt (bs [32] ++ joined l) 0 = 32 := by rw [byt_append_left _ _ _ (by rw [h32s]; omega)]; rfl
    have step1 := stepAt_mid (p := p) (r := bs [32] ++ joined l) er e32 ht
    have step2 : stepAt ((p ++ t.s) ++ (bs [32] ++ joined l)) (p.size + t.s.size) = .skip (p.size + t.s.size + 1) := by
      have hb := byt_end (p := p) (u := t.s) (r := bs [32] ++ joined l) er e32
      rw [stepAt, if_pos (by simp only [ByteArray.size_append, h32s]; omega)]
      simp only [hb]
      rfl
    have assoc1 : p ++ (t.s ++ (bs [32] ++ joined l)) = (p ++ t.s) ++ (bs [32] ++ joined l) := (ByteArray.append_assoc).symm
    have assoc2 : (p ++ t.s) ++ (bs [32] ++ joined l) = ((p ++ t.s) ++ bs [32]) ++ joined l := (ByteArray.append_assoc).symm
    have sz : ((p ++ t.s) ++ bs [32]).size = p.size + t.s.size + 1 := by simp only [ByteArray.size_append, h32s]
    have ih := scan_joined l ((p ++ t.s) ++ bs [32]) (out ++ [{ t with pos := (p.size : Int) }]) n (fun t' h' => h t' (by simp [h'])) (by omega)
    rw [sz, ← assoc2] at ih
    show scan (p ++ (t.s ++ (bs [32] ++ joined l))) (n + 1 + 1) p.size out = _
    rw [assoc1, scan, step1]
    simp only []
    rw [scan, step2]
    simp only []
    rw [ih]
    simp only [joined, placed, List.append_assoc, assoc1, List.cons_append, List.nil_append]

end Go.Proofs.Ytmnplnhblniimaa.Tk
