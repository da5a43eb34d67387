/- A TEXT IN PIECES: tokens and blanks one behind another are scanned to these tokens. No program in sight. A PROGRAM'S TEXT is scanned to the program's tokens. No program in sight. THE READER ON A PROGRAM'S TOKENS reads the program. No program in sight. THE READER ON A PROGRAM'S TOKENS: statements, ends, blocks, all of it. No program in sight. WHAT IS PRINTED IS PARSED AS IT WAS; unlike programs have unlike texts: plain. No program in sight. -/
import Derived.Test.YtmnplnhblniimaaTokb
import Derived.Test.YtmnplnhblniimaaTokenc
import Derived.Test.YtmnplnhblniimaaGaussd
import Derived.Test.YtmnplnhblniimaaMF
import Derived.Test.YtmnplnhblniimaaMA

namespace Go.Proofs.Ytmnplnhblniimaa.Tk
set_option linter.unusedVariables false
set_option linter.unusedSimpArgs false
set_option linter.unusedSectionVars false
open Go

/-- A token, but for where it stands. -/
structure T3 where
  k : Int
  s : ByteArray
  n : Int
def pr (t : Tok) : T3 := ⟨t.kind, t.s, t.n⟩
/-- What comes next goes on with no name and no number. -/
def Brk (r : ByteArray) : Prop := 0 < r.size → alnumB (byt r 0) = false
theorem brk_cons {c : UInt8} (h : alnumB (c.toNat : Int) = false) (r : ByteArray) : Brk (bs [c] ++ r) := fun _ => by
  rw [byt_append_left _ _ _ (by show 0 < 1; decide)]
  exact h

section
variable {p u r : ByteArray}
theorem byt_at (i : Nat) (h : i < u.size) : byt ((p ++ u) ++ r) (p.size + i) = byt u i := by
  rw [byt_append_left _ _ _ (by rw [ByteArray.size_append]; omega), byt_append_right]
theorem runTo_at (hr : Brk r) (f : Int → Bool) (hf : ∀ c, alnumB c = false → f c = false) (i : Nat) (hi : i ≤ u.size) : runTo f ((p ++ u) ++ r) (p.size + i) = p.size + runTo f u i := by
  induction h : u.size - i using Nat.strongRecOn generalizing i with
  | _ k ih =>
    by_cases hlt : i < u.size
    · have hb := byt_at (p := p) (r := r) i hlt
      cases hc : f (byt u i) with
      | true =>
        rw [runTo_go hlt hc, runTo_go (by simp only [ByteArray.size_append]; omega) (by rw [hb]; exact hc)]
        exact ih _ (by omega) (i + 1) (by omega) rfl
      | false =>
        rw [runTo_stop (fun _ => hc), runTo_stop (fun _ => by rw [hb]; exact hc)]
    · have e : i = u.size := by omega
      subst e
      rw [runTo_stop (s := u) (fun h => absurd h hlt), runTo_stop (fun hh => ?_)]
      have hb := byt_append_right (p ++ u) r 0
      rw [ByteArray.size_append, Nat.add_zero] at hb
      rw [hb]
      simp only [ByteArray.size_append] at hh
      exact hf _ (hr (by omega))
theorem stepAt_at {t : Tok} (h : stepAt u 0 = .tok t) (hr : t.kind = 3 ∨ Brk r) : stepAt ((p ++ u) ++ r) p.size = .tok { t with pos := (p.size : Int) } := by
  have hu : 0 < u.size := by
    cases hz : decide (0 < u.size) with
    | true => exact of_decide_eq_true hz
    | false => rw [stepAt, if_neg (of_decide_eq_false hz)] at h; cases h
  have hb := byt_at (p := p) (r := r) 0 hu
  rw [Nat.add_zero] at hb
  have hT : p.size < ((p ++ u) ++ r).size := by simp only [ByteArray.size_append]; omega
  have x3 := extract_mid p u r 1 (by omega)
  rcases hr with hk | hr
  · simp only [stepAt, if_pos hu, if_pos hT, hb, x3] at h ⊢
    split at h
    · cases h
    · split at h
      · cases h
      · rename_i n1 n2
        rw [if_neg n1, if_neg n2]
        split at h
        · split at h
          · cases h; cases hk
          · split at h
            · cases h
            · cases h; cases hk
        · rename_i n3
          rw [if_neg n3]
          split at h
          · split at h
            · cases h
            · split at h
              · cases h
              · cases h; cases hk
          · rename_i n4
            rw [if_neg n4]
            split at h
            · rename_i n5
              rw [if_pos n5]; cases h; rfl
            · cases h
  · have h1 := runTo_at (p := p) (u := u) hr alnumB (fun c h => h) 0 (by omega)
    have h2 := runTo_at (p := p) (u := u) hr digitB (fun c h => by unfold alnumB at h; simp only [Bool.or_eq_false_iff] at h; exact h.2) 0 (by omega)
    rw [Nat.add_zero] at h1 h2
    have x1 := extract_mid p u r (runTo alnumB u 0) (runTo_le _ _ _ (by omega))
    have x2 := extract_mid p u r (runTo digitB u 0) (runTo_le _ _ _ (by omega))
    simp only [stepAt, if_pos hu, if_pos hT, hb, h1, h2, x1, x2, x3] at h ⊢
    split at h
    · cases h
    · split at h
      · cases h
      · rename_i n1 n2
        rw [if_neg n1, if_neg n2]
        split at h
        · rename_i n3
          rw [if_pos n3]
          split at h
          · rename_i n4
            rw [if_pos n4]; cases h; rfl
          · rename_i n4
            rw [if_neg n4]
            split at h
            · cases h
            · rename_i n5
              rw [if_neg n5]; cases h; rfl
        · rename_i n3
          rw [if_neg n3]
          split at h
          · rename_i n4
            rw [if_pos n4]
            split at h
            · cases h
            · rename_i n5
              rw [if_neg n5]
              split at h
              · cases h
              · rename_i n6
                rw [if_neg n6]; cases h; rfl
          · rename_i n4
            rw [if_neg n4]
            split at h
            · rename_i n5
              rw [if_pos n5]; cases h; rfl
            · cases h
end

/-- A text that stands behind any other one is scanned to these tokens, and the end. -/
def Sc (r : ByteArray) (l : List T3) : Prop := ∀ (p : ByteArray) (out : List Tok) (n : Nat), r.size < n →
  ∃ l' : List Tok, scan (p ++ r) n p.size out = ⟨out ++ l' ++ [⟨0, ((p ++ r).size : Nat), bs [], 0⟩], 0, 0⟩ ∧ l'.map pr = l

theorem sc_nil : Sc (bs []) [] := fun p out n hn => by
  obtain ⟨n, rfl⟩ : ∃ k, n = k + 1 := ⟨n - 1, by omega⟩
  have e : (p ++ bs []).size = p.size := by rw [ByteArray.size_append]; show p.size + 0 = _; omega
  refine ⟨[], ?_, rfl⟩
  simp only [scan, stepAt, e, if_neg (Nat.lt_irrefl p.size), List.append_nil]
theorem sc_blank {r : ByteArray} {l : List T3} (c : UInt8) (hc : blankB (c.toNat : Int) = true) (h : Sc r l) : Sc (bs [c] ++ r) l := fun p out n hn => by
  have hs : (bs [c]).size = 1 := rfl
  simp only [ByteArray.size_append, hs] at hn
  obtain ⟨n, rfl⟩ : ∃ k, n = k + 1 := ⟨n - 1, by omega⟩
  obtain ⟨l', h1, h2⟩ := h (p ++ bs [c]) out n (by omega)
  have hb : byt (p ++ (bs [c] ++ r)) p.size = (c.toNat : Int) := by
    rw [← ByteArray.append_assoc]
    have := byt_at (p := p) (u := bs [c]) (r := r) 0 (by show 0 < 1; decide)
    rw [Nat.add_zero] at this
    rw [this]; rfl
  have step : stepAt (p ++ (bs [c] ++ r)) p.size = .skip (p.size + 1) := by
    rw [stepAt, if_pos (by simp only [ByteArray.size_append, hs]; omega)]
    simp only [hb, hc, if_true]
  refine ⟨l', ?_, h2⟩
  rw [scan, step]
  simp only []
  have sz : (p ++ bs [c]).size = p.size + 1 := by simp only [ByteArray.size_append, hs]
  rw [sz, ByteArray.append_assoc] at h1
  exact h1
theorem sc_tok {u r : ByteArray} {l : List T3} {k n : Int} (hu : stepAt u 0 = .tok ⟨k, 0, u, n⟩) (hr : k = 3 ∨ Brk r) (h : Sc r l) : Sc (u ++ r) (⟨k, u, n⟩ :: l) := fun p out m hm => by
  have hs := (stepAt_tok hu).1
  simp only at hs
  simp only [ByteArray.size_append] at hm
  obtain ⟨m, rfl⟩ : ∃ k, m = k + 1 := ⟨m - 1, by omega⟩
  obtain ⟨l', h1, h2⟩ := h (p ++ u) (out ++ [⟨k, p.size, u, n⟩]) m (by omega)
  have step := stepAt_at (p := p) hu hr
  refine ⟨⟨k, p.size, u, n⟩ :: l', ?_, by rw [List.map_cons, h2]; rfl⟩
  rw [← ByteArray.append_assoc, scan, step]
  simp only []
  have sz : (p ++ u).size = p.size + u.size := ByteArray.size_append
  rw [sz] at h1
  rw [h1]
  simp only [List.append_assoc, List.cons_append, List.nil_append]

/-! Tokens' texts. -/
theorem step_nameB {v : ByteArray} (h : nameB v = true) : stepAt v 0 = .tok ⟨1, 0, v, 0⟩ := by
  unfold nameB at h
  simp only [Bool.and_eq_true, decide_eq_true_eq, Bool.not_eq_true'] at h
  obtain ⟨⟨⟨⟨h0, h1⟩, h2⟩, h3⟩, h4⟩ := h
  have hl : blankB (byt v 0) = false ∧ ¬ byt v 0 = 35 := by
    unfold letterB at h2
    simp only [Bool.or_eq_true, Bool.and_eq_true, decide_eq_true_eq] at h2
    unfold blankB
    simp only [Bool.or_eq_false_iff, decide_eq_false_iff_not]
    omega
  have hx : v.extract 0 v.size = v := ByteArray.extract_zero_size
  rw [stepAt, if_pos h0]
  simp only [hl.1, h4, hx, h2, h3, Bool.false_eq_true, if_false, if_true, if_neg hl.2]
  rw [if_neg (by omega)]
  rfl

theorem numAt_mono (d : List UInt8) : ∀ (e : List UInt8) (n : Int), numAt (bs (e ++ d)) e.length n = d.foldl (fun n c => min (10 * n + (c.toNat : Int) - 48) 32769) n := by
  induction d with
  | nil => intro e n; rw [numAt_end (by show ¬ e.length < (e ++ []).toArray.size; simp)]; rfl
  | cons c d ih =>
    intro e n
    rw [numAt_go (by show e.length < (e ++ c :: d).toArray.size; simp)]
    have hb : byt (bs (e ++ c :: d)) e.length = (c.toNat : Int) := by
      unfold byt
      have : (bs (e ++ c :: d)).get! e.length = c := by
        show (e ++ c :: d).toArray[e.length]! = c
        simp [Array.getElem!_eq_getD, Array.getD_eq_getD_getElem?]
      rw [this]
    rw [hb, List.foldl_cons]
    have := ih (e ++ [c]) (min (10 * n + (c.toNat : Int) - 48) 32769)
    rw [List.append_assoc] at this
    simp only [List.length_append, List.length_cons, List.length_nil, List.singleton_append] at this
    exact this
theorem num_list (d : List UInt8) : num (bs d) = d.foldl (fun n c => min (10 * n + (c.toNat : Int) - 48) 32769) 0 := numAt_mono d [] 0

theorem digN_num (n : Nat) (hn : n ≤ 32768) : num (bs (digN n)) = n := by
  rw [num_list]
  induction n using Nat.strongRecOn with
  | _ n ih =>
    rw [digN]
    split
    · rename_i h
      simp only [List.foldl_cons, List.foldl_nil]
      have : (UInt8.ofNat (48 + n)).toNat = 48 + n := by simp; omega
      rw [this]; omega
    · rw [List.foldl_append, ih (n / 10) (by omega) (by omega)]
      simp only [List.foldl_cons, List.foldl_nil]
      have : (UInt8.ofNat (48 + n % 10)).toNat = 48 + n % 10 := by simp; omega
      rw [this]; omega
theorem digN_mem (n : Nat) : ∀ c ∈ digN n, 48 ≤ c.toNat ∧ c.toNat ≤ 57 := by
  induction n using Nat.strongRecOn with
  | _ n ih =>
    rw [digN]
    split
    · intro c hc
      obtain rfl := List.mem_singleton.1 hc
      have : (UInt8.ofNat (48 + n)).toNat = 48 + n := by simp; omega
      rw [this]; omega
    · intro c hc
      rcases List.mem_append.1 hc with hc | hc
      · exact ih (n / 10) (by omega) c hc
      · obtain rfl := List.mem_singleton.1 hc
        have : (UInt8.ofNat (48 + n % 10)).toNat = 48 + n % 10 := by simp; omega
        rw [this]; omega
theorem digN_head (n : Nat) : ∃ c l, digN n = c :: l ∧ (0 < n → 49 ≤ c.toNat) ∧ (n = 0 → l = []) := by
  induction n using Nat.strongRecOn with
  | _ n ih =>
    rw [digN]
    split
    · refine ⟨_, [], rfl, fun h => ?_, fun _ => rfl⟩
      have : (UInt8.ofNat (48 + n)).toNat = 48 + n := by simp; omega
      rw [this]; omega
    · obtain ⟨c, l, e, h, _⟩ := ih (n / 10) (by omega)
      exact ⟨c, l ++ [UInt8.ofNat (48 + n % 10)], by rw [e]; rfl, fun _ => h (by omega), fun h0 => by omega⟩
theorem byt_list (l : List UInt8) (i : Nat) (h : i < l.length) : byt (bs l) i = ((l[i]'h).toNat : Int) := by
  unfold byt
  have : (bs l).get! i = l[i]'h := by
    show l.toArray[i]! = l[i]'h
    simp [Array.getElem!_eq_getD, Array.getD_eq_getD_getElem?, h]
  rw [this]
theorem runTo_full {f : Int → Bool} {s : ByteArray} (h : ∀ j, j < s.size → f (byt s j) = true) : ∀ (n i : Nat), s.size - i = n → i ≤ s.size → runTo f s i = s.size
  | 0, i, hn, hi => by
    have : i = s.size := by omega
    subst this
    exact runTo_stop (fun h => by omega)
  | n + 1, i, hn, hi => by
    rw [runTo_go (show i < s.size by omega) (h i (by omega))]
    exact runTo_full h n (i + 1) (by omega) (by omega)
theorem step_digN (n : Nat) (hn : n ≤ 32768) : stepAt (bs (digN n)) 0 = .tok ⟨2, 0, bs (digN n), n⟩ := by
  have hm := digN_mem n
  have hnum := digN_num n hn
  obtain ⟨c, l, e, h1, h0⟩ := digN_head n
  have hd : ∀ j, j < (bs (digN n)).size → digitB (byt (bs (digN n)) j) = true := fun j hj => by
    have hj' : j < (digN n).length := hj
    rw [byt_list _ _ hj']
    have := hm _ (List.getElem_mem hj')
    unfold digitB
    simp only [Bool.and_eq_true, decide_eq_true_eq]
    omega
  have hr := runTo_full hd _ 0 rfl (Nat.zero_le _)
  have hb : byt (bs (digN n)) 0 = (c.toNat : Int) := by
    rw [byt_list _ _ (by rw [e]; simp)]
    simp only [e, List.getElem_cons_zero]
  have hc := hm c (by rw [e]; simp)
  have hsz : 0 < (bs (digN n)).size := by show 0 < (digN n).toArray.size; simp [e]
  have hx : (bs (digN n)).extract 0 (bs (digN n)).size = bs (digN n) := ByteArray.extract_zero_size
  have hz : (bs (digN n)).size = l.length + 1 := by show (digN n).toArray.size = _; simp [e]
  have q1 : blankB (c.toNat : Int) = false := by unfold blankB; simp only [Bool.or_eq_false_iff, decide_eq_false_iff_not]; omega
  have q2 : letterB (c.toNat : Int) = false := by unfold letterB; simp only [Bool.or_eq_false_iff, Bool.and_eq_false_iff, decide_eq_false_iff_not]; omega
  have q3 : digitB (c.toNat : Int) = true := by unfold digitB; simp only [Bool.and_eq_true, decide_eq_true_eq]; omega
  have q4 : ¬ (c.toNat : Int) = 35 := by omega
  rw [stepAt, if_pos hsz]
  simp only [hb, q1, q2, q3, hr, hx, hnum, Bool.false_eq_true, if_false, if_true, if_neg q4]
  rw [if_neg (by omega), if_neg]
  · rfl
  · simp only [Bool.and_eq_true, decide_eq_true_eq]
    rintro ⟨g1, g2⟩
    by_cases hz0 : n = 0
    · have := h0 hz0
      subst this
      rw [hz] at g1
      simp at g1
    · have := h1 (by omega)
      omega

end Go.Proofs.Ytmnplnhblniimaa.Tk

namespace Go.Proofs.Ytmnplnhblniimaa.Gr
set_option linter.unusedVariables false
set_option linter.unusedSimpArgs false
open Go Tk Pr

abbrev sg (c : UInt8) : T3 := ⟨3, bs [c], 0⟩
def tkI (n : Int) : List T3 := if n < 0 then [sg 45, ⟨2, bs (digN n.natAbs), n.natAbs⟩] else [⟨2, bs (digN n.natAbs), n.natAbs⟩]
def tkA (x : At) : List T3 := if emptyB x.v then (if x.b = 0 then tkI x.a else sg 40 :: (tkI x.a ++ sg 44 :: (tkI x.b ++ [sg 41]))) else [⟨1, x.v, 0⟩]
def tkE (x : Ex) : List T3 :=
  if x.op = 0 then tkA x.x else if x.op = 1 then tkA x.x ++ sg 43 :: tkA x.y else if x.op = 2 then tkA x.x ++ sg 45 :: tkA x.y else if x.op = 3 then tkA x.x ++ sg 42 :: tkA x.y
  else ⟨4, conjS, 0⟩ :: tkA x.x
def tkS (s : St) : List T3 :=
  if s.k = 1 then ⟨1, s.v, 0⟩ :: sg 61 :: (tkE s.e ++ [sg 59]) else if s.k = 2 then [⟨4, inS, 0⟩, ⟨1, s.v, 0⟩, sg 59] else ⟨4, outS, 0⟩ :: (tkE s.e ++ [sg 59])
def tkT (t : Te) : List T3 :=
  if t.k = 1 then [⟨4, gotoS, 0⟩, ⟨1, t.t, 0⟩, sg 59]
  else if t.k = 2 then ⟨4, ifS, 0⟩ :: (tkA t.x ++ ⟨4, thenS, 0⟩ :: ⟨1, t.t, 0⟩ :: ⟨4, elseS, 0⟩ :: ⟨1, t.e, 0⟩ :: [sg 59])
  else [⟨4, retS, 0⟩, sg 59]
def tkL : List St → List T3
  | [] => []
  | s :: l => tkS s ++ tkL l
def tkB (b : Bl) : List T3 := ⟨4, blockS, 0⟩ :: ⟨1, b.n, 0⟩ :: sg 123 :: (tkL b.l ++ (tkT b.t ++ [sg 125]))
def tkP : List Bl → List T3
  | [] => []
  | b :: P => tkB b ++ tkP P

/-- A sign. -/
theorem sc_sg {r : ByteArray} {l : List T3} (c : UInt8) (hc : stepAt (bs [c]) 0 = .tok ⟨3, 0, bs [c], 0⟩) (h : Sc r l) : Sc (bs [c] ++ r) (sg c :: l) := sc_tok hc (.inl rfl) h
theorem st_59 : stepAt (bs [59]) 0 = .tok ⟨3, 0, bs [59], 0⟩ := by kernel_rfl
theorem st_61 : stepAt (bs [61]) 0 = .tok ⟨3, 0, bs [61], 0⟩ := by kernel_rfl
theorem st_43 : stepAt (bs [43]) 0 = .tok ⟨3, 0, bs [43], 0⟩ := by kernel_rfl
theorem st_45 : stepAt (bs [45]) 0 = .tok ⟨3, 0, bs [45], 0⟩ := by kernel_rfl
theorem st_42 : stepAt (bs [42]) 0 = .tok ⟨3, 0, bs [42], 0⟩ := by kernel_rfl
theorem st_40 : stepAt (bs [40]) 0 = .tok ⟨3, 0, bs [40], 0⟩ := by kernel_rfl
theorem st_41 : stepAt (bs [41]) 0 = .tok ⟨3, 0, bs [41], 0⟩ := by kernel_rfl
theorem st_44 : stepAt (bs [44]) 0 = .tok ⟨3, 0, bs [44], 0⟩ := by kernel_rfl
theorem st_123 : stepAt (bs [123]) 0 = .tok ⟨3, 0, bs [123], 0⟩ := by kernel_rfl
theorem st_125 : stepAt (bs [125]) 0 = .tok ⟨3, 0, bs [125], 0⟩ := by kernel_rfl
theorem st_conj : stepAt conjS 0 = .tok ⟨4, 0, conjS, 0⟩ := by kernel_rfl
theorem st_in : stepAt inS 0 = .tok ⟨4, 0, inS, 0⟩ := by kernel_rfl
theorem st_out : stepAt outS 0 = .tok ⟨4, 0, outS, 0⟩ := by kernel_rfl
theorem st_goto : stepAt gotoS 0 = .tok ⟨4, 0, gotoS, 0⟩ := by kernel_rfl
theorem st_if : stepAt ifS 0 = .tok ⟨4, 0, ifS, 0⟩ := by kernel_rfl
theorem st_then : stepAt thenS 0 = .tok ⟨4, 0, thenS, 0⟩ := by kernel_rfl
theorem st_else : stepAt elseS 0 = .tok ⟨4, 0, elseS, 0⟩ := by kernel_rfl
theorem st_ret : stepAt retS 0 = .tok ⟨4, 0, retS, 0⟩ := by kernel_rfl
theorem st_block : stepAt blockS 0 = .tok ⟨4, 0, blockS, 0⟩ := by kernel_rfl

theorem sc_sp {r : ByteArray} {l : List T3} (h : Sc r l) : Sc (bs [32] ++ r) l := sc_blank 32 (by decide) h
theorem sc_word {u r : ByteArray} {l : List T3} (hu : stepAt u 0 = .tok ⟨4, 0, u, 0⟩) (h : Sc r l) : Sc (u ++ (bs [32] ++ r)) (⟨4, u, 0⟩ :: l) := sc_tok hu (.inr (brk_cons (by decide) r)) (sc_sp h)
theorem sc_name {v r : ByteArray} {l : List T3} (hv : nameB v = true) (hr : Brk r) (h : Sc r l) : Sc (v ++ r) (⟨1, v, 0⟩ :: l) := sc_tok (step_nameB hv) (.inr hr) h

theorem bs_cons (c : UInt8) (l : List UInt8) : bs (c :: l) = bs [c] ++ bs l := by
  have := ByteArray.mk_append_mk [c] l
  exact this.symm
theorem bs_append (l m : List UInt8) : bs (l ++ m) = bs l ++ bs m := by
  have := ByteArray.mk_append_mk l m
  show (⟨(l ++ m).toArray⟩ : ByteArray) = _
  exact this.symm
theorem sc_int {n : Int} (h0 : -32768 ≤ n) (h1 : n ≤ 32767) {r : ByteArray} {l : List T3} (hr : Brk r) (h : Sc r l) : Sc (bs (digs n) ++ r) (tkI n ++ l) := by
  have hd : Sc (bs (digN n.natAbs) ++ r) (⟨2, bs (digN n.natAbs), n.natAbs⟩ :: l) := sc_tok (step_digN n.natAbs (by omega)) (.inr hr) h
  unfold digs tkI
  split
  · rw [bs_cons, ByteArray.append_assoc]
    exact sc_sg 45 st_45 hd
  · exact hd

theorem wr_id {n : Int} (h : (n == wr n) = true) : wr n = n ∧ -32768 ≤ n ∧ n ≤ 32767 := by
  have e : n = wr n := by simpa using h
  have hw : -32768 ≤ wr n ∧ wr n ≤ 32767 := by unfold wr; omega
  exact ⟨e.symm, by omega, by omega⟩
theorem empty_toList {s : ByteArray} (h : emptyB s = true) : s.toList = [] := by unfold emptyB at h; simpa using h
theorem atomT_empty {v : ByteArray} (h : emptyB v = true) (a b : Int) : atomT v a b = bs (textN a b) := by unfold atomT; rw [if_pos (empty_toList h)]; rfl
theorem atomT_full {v : ByteArray} (h : emptyB v = false) (a b : Int) : atomT v a b = v := by
  unfold atomT; rw [if_neg]; intro hh; unfold emptyB at h; rw [hh] at h; exact absurd h (by decide)
theorem sc_atom {x : At} (hx : atomB x = true) {r : ByteArray} {l : List T3} (hr : Brk r) (h : Sc r l) : Sc (atomT x.v x.a x.b ++ r) (tkA x ++ l) := by
  unfold atomB at hx
  unfold tkA
  cases he : emptyB x.v with
  | true =>
    rw [he] at hx
    simp only [isNumB, Bool.and_eq_true] at hx
    obtain ⟨a1, a2, a3⟩ := wr_id hx.1
    obtain ⟨b1, b2, b3⟩ := wr_id hx.2
    rw [atomT_empty he, if_pos rfl]
    unfold textN
    rw [a1, b1]
    by_cases hb : x.b = 0
    · rw [if_pos hb, if_pos hb]; exact sc_int a2 a3 hr h
    · rw [if_neg hb, if_neg hb, bs_cons 40 (digs x.a ++ 44 :: (digs x.b ++ [41])), bs_append (digs x.a), bs_cons 44 (digs x.b ++ [41]), bs_append (digs x.b)]
      simp only [ByteArray.append_assoc]
      have k1 : Sc (bs [41] ++ r) (sg 41 :: l) := sc_sg 41 st_41 h
      have k2 := sc_int b2 b3 (brk_cons (c := 41) (by decide) r) k1
      have k3 := sc_sg 44 st_44 k2
      have k4 := sc_int a2 a3 (brk_cons (c := 44) (by decide) _) k3
      have k5 := sc_sg 40 st_40 k4
      simpa only [List.cons_append, List.append_assoc, List.nil_append] using k5
  | false =>
    rw [he] at hx
    simp only [Bool.and_eq_true] at hx
    rw [atomT_full he, if_neg (by simp)]
    exact sc_name hx.1 hr h
theorem sc_expr {x : Ex} (hx : exprB x = true) {r : ByteArray} {l : List T3} (hr : Brk r) (h : Sc r l) : Sc (exprT x.op x.x.v x.x.a x.x.b x.y.v x.y.a x.y.b ++ r) (tkE x ++ l) := by
  have two : ∀ (c : UInt8), stepAt (bs [c]) 0 = .tok ⟨3, 0, bs [c], 0⟩ → atomB x.x = true → atomB x.y = true →
      Sc (((atomT x.x.v x.x.a x.x.b ++ ⟨#[32, c, 32]⟩) ++ atomT x.y.v x.y.a x.y.b) ++ r) ((tkA x.x ++ sg c :: tkA x.y) ++ l) := fun c hc h1 h2 => by
    have e : (⟨#[32, c, 32]⟩ : ByteArray) = bs [32] ++ (bs [c] ++ bs [32]) := rfl
    rw [e]
    simp only [ByteArray.append_assoc]
    have k := sc_atom h1 (brk_cons (c := 32) (by decide) _) (sc_sp (sc_sg c hc (sc_sp (sc_atom h2 hr h))))
    simpa only [List.cons_append, List.append_assoc, List.nil_append] using k
  unfold exprB at hx
  unfold exprT tkE
  by_cases h04 : x.op = 0 ∨ x.op = 4
  · rw [if_pos h04] at hx
    simp only [Bool.and_eq_true] at hx
    rcases h04 with h0 | h0
    · rw [if_pos h0, if_pos h0]; exact sc_atom hx.1 hr h
    · rw [h0]
      rw [if_neg (by decide), if_neg (by decide), if_neg (by decide), if_neg (by decide), if_pos rfl, if_neg (by decide), if_neg (by decide), if_neg (by decide), if_neg (by decide)]
      have e : (⟨#[99, 111, 110, 106, 32]⟩ : ByteArray) = conjS ++ bs [32] := rfl
      rw [e]
      simp only [ByteArray.append_assoc]
      exact sc_word st_conj (sc_atom hx.1 hr h)
  · rw [if_neg h04] at hx
    have n0 : ¬ x.op = 0 := fun h => h04 (.inl h)
    rw [if_neg n0, if_neg n0]
    by_cases h123 : x.op = 1 ∨ x.op = 2 ∨ x.op = 3
    · rw [if_pos h123] at hx
      simp only [Bool.and_eq_true] at hx
      by_cases h1 : x.op = 1
      · rw [if_pos h1, if_pos h1]; exact two 43 st_43 hx.1 hx.2
      rw [if_neg h1, if_neg h1]
      by_cases h2 : x.op = 2
      · rw [if_pos h2, if_pos h2]; exact two 45 st_45 hx.1 hx.2
      rw [if_neg h2, if_neg h2]
      have h3 : x.op = 3 := by omega
      rw [if_pos h3, if_pos h3]; exact two 42 st_42 hx.1 hx.2
    · rw [if_neg h123] at hx; cases hx
theorem brk_59 (r : ByteArray) : Brk (bs [59] ++ r) := brk_cons (by decide) r
theorem sc_stmt {s : St} (hs : stmtB s = true) {r : ByteArray} {l : List T3} (h : Sc r l) : Sc (stT s ++ r) (tkS s ++ l) := by
  have k0 := sc_sg 59 st_59 h
  unfold stmtB at hs
  unfold stT stmtT tkS
  by_cases h1 : s.k = 1
  · rw [if_pos h1] at hs
    simp only [Bool.and_eq_true] at hs
    rw [if_pos h1, if_pos h1]
    have e : (⟨#[32, 61, 32]⟩ : ByteArray) = bs [32] ++ (bs [61] ++ bs [32]) := rfl
    have e2 : (⟨#[59]⟩ : ByteArray) = bs [59] := rfl
    rw [e, e2]
    simp only [ByteArray.append_assoc]
    have k := sc_name hs.1 (brk_cons (c := 32) (by decide) _) (sc_sp (sc_sg 61 st_61 (sc_sp (sc_expr hs.2 (brk_59 _) k0))))
    simpa only [List.cons_append, List.append_assoc, List.nil_append] using k
  rw [if_neg h1] at hs
  rw [if_neg h1, if_neg h1]
  by_cases h2 : s.k = 2
  · rw [if_pos h2] at hs
    simp only [Bool.and_eq_true] at hs
    rw [if_pos h2, if_pos h2]
    have e : (⟨#[105, 110, 32]⟩ : ByteArray) = inS ++ bs [32] := rfl
    have e2 : (⟨#[59]⟩ : ByteArray) = bs [59] := rfl
    rw [e, e2]
    simp only [ByteArray.append_assoc]
    exact sc_word st_in (sc_name hs.1 (brk_59 _) k0)
  rw [if_neg h2] at hs
  rw [if_neg h2, if_neg h2]
  by_cases h3 : s.k = 3
  · rw [if_pos h3] at hs
    simp only [Bool.and_eq_true] at hs
    rw [if_pos h3]
    have e : (⟨#[111, 117, 116, 32]⟩ : ByteArray) = outS ++ bs [32] := rfl
    have e2 : (⟨#[59]⟩ : ByteArray) = bs [59] := rfl
    rw [e, e2]
    simp only [ByteArray.append_assoc]
    have k := sc_word st_out (sc_expr hs.2.2 (brk_59 _) k0)
    simpa only [List.cons_append, List.append_assoc, List.nil_append] using k
  · rw [if_neg h3] at hs; cases hs
theorem sc_term {t : Te} (ht : termB t = true) {r : ByteArray} {l : List T3} (h : Sc r l) : Sc (teT t ++ r) (tkT t ++ l) := by
  have k0 := sc_sg 59 st_59 h
  have e2 : (⟨#[59]⟩ : ByteArray) = bs [59] := rfl
  unfold termB at ht
  unfold teT Go.Proofs.Ytmnplnhblniimaa.termT tkT
  by_cases h1 : t.k = 1
  · rw [if_pos h1] at ht
    simp only [Bool.and_eq_true] at ht
    rw [if_pos h1, if_pos h1]
    have e : (⟨#[103, 111, 116, 111, 32]⟩ : ByteArray) = gotoS ++ bs [32] := rfl
    rw [e, e2]
    simp only [ByteArray.append_assoc]
    exact sc_word st_goto (sc_name ht.1 (brk_59 _) k0)
  rw [if_neg h1] at ht
  rw [if_neg h1, if_neg h1]
  by_cases h2 : t.k = 2
  · rw [if_pos h2] at ht
    simp only [Bool.and_eq_true] at ht
    rw [if_pos h2, if_pos h2]
    have e : (⟨#[105, 102, 32]⟩ : ByteArray) = ifS ++ bs [32] := rfl
    have e3 : (⟨#[32, 116, 104, 101, 110, 32]⟩ : ByteArray) = bs [32] ++ (thenS ++ bs [32]) := rfl
    have e4 : (⟨#[32, 101, 108, 115, 101, 32]⟩ : ByteArray) = bs [32] ++ (elseS ++ bs [32]) := rfl
    rw [e, e2, e3, e4]
    simp only [ByteArray.append_assoc]
    have k := sc_word st_if (sc_atom ht.2.2 (brk_cons (c := 32) (by decide) _) (sc_sp (sc_word st_then (sc_name ht.1 (brk_cons (c := 32) (by decide) _) (sc_sp (sc_word st_else (sc_name ht.2.1 (brk_59 _) k0)))))))
    simpa only [List.cons_append, List.append_assoc, List.nil_append] using k
  rw [if_neg h2] at ht
  rw [if_neg h2, if_neg h2]
  by_cases h3 : t.k = 3
  · rw [if_pos h3]
    have e : (⟨#[114, 101, 116, 59]⟩ : ByteArray) = retS ++ bs [59] := rfl
    rw [e]
    simp only [ByteArray.append_assoc]
    exact sc_tok st_ret (.inr (brk_59 _)) k0
  · rw [if_neg h3] at ht; cases ht

/-- The statements' lines; the blocks'. -/
def linS : List St → ByteArray
  | [] => bs []
  | s :: l => ((tabS ++ stT s) ++ nlS) ++ linS l
def linB (b : Bl) : ByteArray := ((blkS ++ b.n) ++ ⟨#[32, 123, 10]⟩) ++ (linS b.l ++ ((tabS ++ teT b.t) ++ ⟨#[10, 125, 10]⟩))
def linP : List Bl → ByteArray
  | [] => bs []
  | b :: P => linB b ++ linP P
theorem linS_snoc (l : List St) (s : St) : linS (l ++ [s]) = linS l ++ ((tabS ++ stT s) ++ nlS) := by
  induction l with
  | nil =>
    show ((tabS ++ stT s) ++ nlS) ++ bs [] = bs [] ++ ((tabS ++ stT s) ++ nlS)
    have e1 : ∀ x : ByteArray, x ++ bs [] = x := fun x => ByteArray.append_empty
    have e2 : ∀ x : ByteArray, bs [] ++ x = x := fun x => ByteArray.empty_append
    rw [e1, e2]
  | cons u l ih => show ((tabS ++ stT u) ++ nlS) ++ linS (l ++ [s]) = (((tabS ++ stT u) ++ nlS) ++ linS l) ++ _; rw [ih, ByteArray.append_assoc (a := ((tabS ++ stT u) ++ nlS))]
theorem linP_snoc (P : List Bl) (b : Bl) : linP (P ++ [b]) = linP P ++ linB b := by
  induction P with
  | nil =>
    show linB b ++ bs [] = bs [] ++ linB b
    have e1 : ∀ x : ByteArray, x ++ bs [] = x := fun x => ByteArray.append_empty
    have e2 : ∀ x : ByteArray, bs [] ++ x = x := fun x => ByteArray.empty_append
    rw [e1, e2]
  | cons u P ih => show linB u ++ linP (P ++ [b]) = (linB u ++ linP P) ++ _; rw [ih, ByteArray.append_assoc]
theorem accS_lin (l : List St) (t : ByteArray) : ∀ k, k ≤ l.length → accS l t k = t ++ linS (l.take k)
  | 0, _ => by
    have e1 : ∀ x : ByteArray, x ++ bs [] = x := fun x => ByteArray.append_empty
    simp only [accS, List.take_zero, linS, e1]
  | k + 1, hk => by
    have ih := accS_lin l t k (by omega)
    simp only [accS, List.getElem?_eq_getElem (show k < l.length by omega)]
    rw [ih, List.take_succ_eq_append_getElem (show k < l.length by omega), linS_snoc, ByteArray.append_assoc]
theorem accB_lin (P : List Bl) : ∀ k, k ≤ P.length → accB P k = linP (P.take k)
  | 0, _ => rfl
  | k + 1, hk => by
    have ih := accB_lin P k (by omega)
    simp only [accB, List.getElem?_eq_getElem (show k < P.length by omega)]
    rw [ih, List.take_succ_eq_append_getElem (show k < P.length by omega), linP_snoc, accS_lin _ _ _ (Nat.le_refl _), List.take_length]
    unfold linB
    simp only [ByteArray.append_assoc]
theorem progT_lin (P : List Bl) : progT P = linP P := by
  unfold progT
  rw [accB_lin P _ (Nat.le_refl _), List.take_length]

theorem sc_tab {r : ByteArray} {l : List T3} (h : Sc r l) : Sc (bs [9] ++ r) l := sc_blank 9 (by decide) h
theorem sc_nl {r : ByteArray} {l : List T3} (h : Sc r l) : Sc (bs [10] ++ r) l := sc_blank 10 (by decide) h
theorem sc_lines {l : List St} (hl : ∀ s ∈ l, stmtB s = true) {r : ByteArray} {m : List T3} (h : Sc r m) : Sc (linS l ++ r) (tkL l ++ m) := by
  induction l with
  | nil => have e2 : ∀ x : ByteArray, bs [] ++ x = x := fun x => ByteArray.empty_append
           show Sc (bs [] ++ r) m
           rw [e2]; exact h
  | cons s l ih =>
    have e1 : tabS = bs [9] := rfl
    have e2 : nlS = bs [10] := rfl
    show Sc ((((tabS ++ stT s) ++ nlS) ++ linS l) ++ r) ((tkS s ++ tkL l) ++ m)
    rw [e1, e2]
    simp only [ByteArray.append_assoc, List.append_assoc]
    exact sc_tab (sc_stmt (hl s (by simp)) (sc_nl (ih (fun u hu => hl u (by simp [hu])))))
theorem sc_block {b : Bl} (hb : Pr.blockB b = true) {r : ByteArray} {m : List T3} (h : Sc r m) : Sc (linB b ++ r) (tkB b ++ m) := by
  unfold Pr.blockB at hb
  simp only [Bool.and_eq_true, List.all_eq_true] at hb
  have e1 : tabS = bs [9] := rfl
  have e2 : blkS = blockS ++ bs [32] := rfl
  have e3 : (⟨#[32, 123, 10]⟩ : ByteArray) = bs [32] ++ (bs [123] ++ bs [10]) := rfl
  have e4 : (⟨#[10, 125, 10]⟩ : ByteArray) = bs [10] ++ (bs [125] ++ bs [10]) := rfl
  unfold linB tkB
  rw [e1, e2, e3, e4]
  simp only [ByteArray.append_assoc, List.append_assoc, List.cons_append, List.nil_append]
  exact sc_word st_block (sc_name hb.1.1 (brk_cons (c := 32) (by decide) _) (sc_sp (sc_sg 123 st_123 (sc_nl (sc_lines hb.2 (sc_tab (sc_term hb.1.2 (sc_nl (sc_sg 125 st_125 (sc_nl h))))))))))
theorem sc_prog {P : List Bl} (h : P.all Pr.blockB = true) : Sc (linP P) (tkP P) := by
  induction P with
  | nil => exact sc_nil
  | cons b P ih =>
    simp only [List.all_cons, Bool.and_eq_true] at h
    exact sc_block h.1 (ih h.2)

/-- A program's text's tokens. -/
theorem scan_prog {P : List Bl} (h : P.all Pr.blockB = true) : ∃ l' : List Tk.Tok, Tk.scan (progT P) ((progT P).size + 1) 0 [] = ⟨l' ++ [⟨0, ((progT P).size : Nat), bs [], 0⟩], 0, 0⟩ ∧ l'.map pr = tkP P := by
  obtain ⟨l', h1, h2⟩ := sc_prog h (bs []) [] ((linP P).size + 1) (by omega)
  have e2 : ∀ x : ByteArray, bs [] ++ x = x := fun x => ByteArray.empty_append
  rw [e2] at h1
  rw [progT_lin]
  exact ⟨l', h1, h2⟩

end Go.Proofs.Ytmnplnhblniimaa.Gr

namespace Go.Proofs.Ytmnplnhblniimaa.Gr
set_option linter.unusedVariables false
set_option linter.unusedSimpArgs false
open Go Tk Pr

/-- These tokens stand in a list, from a place on. -/
def Hd (L : List Tok) : Nat → List T3 → Prop
  | _, [] => True
  | i, x :: l => (∃ t, L[i]? = some t ∧ Tk.pr t = x) ∧ Hd L (i + 1) l
theorem hd_app {L : List Tok} : ∀ {l m : List T3} {i : Nat}, Hd L i (l ++ m) → Hd L i l ∧ Hd L (i + l.length) m
  | [], m, i, h => ⟨trivial, h⟩
  | x :: l, m, i, h => by
    obtain ⟨h1, h2⟩ := hd_app (l := l) h.2
    refine ⟨⟨h.1, h1⟩, ?_⟩
    rw [List.length_cons, show i + (l.length + 1) = i + 1 + l.length by omega]
    exact h2
theorem hd_len {L : List Tok} : ∀ {l : List T3} {i : Nat}, Hd L i l → i ≤ L.length → i + l.length ≤ L.length
  | [], i, h, hi => hi
  | x :: l, i, h, hi => by
    obtain ⟨t, ht, _⟩ := h.1
    have := (List.getElem?_eq_some_iff.1 ht).1
    have := hd_len h.2 this
    rw [List.length_cons]; omega

def mv (r : R) (i : Nat) (vs : List ByteArray) : R := { r with i := i, vs := vs }

section
variable {L : List Tok} {r : R} {x : T3} {l : List T3} (he : r.e = 0) (h : Hd L r.i (x :: l))
include h in
theorem now_hd : (now L r).kind = x.k ∧ (now L r).s = x.s ∧ (now L r).n = x.n := by
  obtain ⟨t, ht, hp⟩ := h.1
  have : now L r = t := by unfold now; rw [List.getD_eq_getElem?_getD, ht]; rfl
  rw [this, ← hp]
  exact ⟨rfl, rfl, rfl⟩
include h in
theorem isB_ne {k : Int} (s : ByteArray) (hk : x.k ≠ k) : isB L r k s = false := by
  unfold isB
  rw [(now_hd h).1]
  have : (x.k == k) = false := by simpa using hk
  rw [this]; simp
include he h in
theorem isB_any {k : Int} (hk : x.k = k) : isB L r k (st []) = true := by
  unfold isB
  rw [(now_hd h).1, he, hk]
  have : (st []).toList.isEmpty = true := by kernel_rfl
  rw [this]; simp
include he h in
theorem isB_same {k : Int} {s : ByteArray} (hk : x.k = k) (hs : s = x.s) : isB L r k s = true := by
  unfold isB
  rw [(now_hd h).1, (now_hd h).2.1, he, hk, hs]; simp
include h in
theorem isB_diff (k : Int) {s : ByteArray} (h0 : s.toList.isEmpty = false) (hs : x.s ≠ s) : isB L r k s = false := by
  unfold isB
  rw [(now_hd h).2.1, h0, Pr.beq_str, decide_eq_false hs]; simp
include h in
theorem took_mv {k : Int} {s : ByteArray} (hk : k ≠ 0) (hb : isB L r k s = true) : took L r k s = mv r (r.i + 1) r.vs ∧ (tokn L r k s).s = x.s ∧ (tokn L r k s).n = x.n := by
  unfold took tokn
  rw [if_pos hb, if_neg hk, if_pos hb]
  exact ⟨rfl, (now_hd h).2.1, (now_hd h).2.2⟩
end
theorem ne_43 : (st [43]).toList.isEmpty = false := by kernel_rfl
theorem ne_45 : (st [45]).toList.isEmpty = false := by kernel_rfl
theorem ne_42 : (st [42]).toList.isEmpty = false := by kernel_rfl
theorem ne_40 : (st [40]).toList.isEmpty = false := by kernel_rfl
theorem ne_conj : conjS.toList.isEmpty = false := by kernel_rfl
theorem ne_in : inS.toList.isEmpty = false := by kernel_rfl
theorem ne_out : outS.toList.isEmpty = false := by kernel_rfl
theorem ne_goto : gotoS.toList.isEmpty = false := by kernel_rfl
theorem ne_if : ifS.toList.isEmpty = false := by kernel_rfl

/-! Variables. -/
def vsA (vs : List ByteArray) (v : ByteArray) : List ByteArray := if has vs v then vs else vs ++ [v]
def vsO (vs : List ByteArray) (v : ByteArray) : List ByteArray := if emptyB v then vs else vsA vs v
structure Vg (V vs : List ByteArray) : Prop where
  few : V.length ≤ 64
  nd : vs.Nodup
  sub : ∀ x ∈ vs, x ∈ V
theorem Vg.len {V vs : List ByteArray} (h : Vg V vs) : vs.length ≤ 64 := Nat.le_trans (nodup_le h.nd h.sub) h.few
theorem Vg.add {V vs : List ByteArray} {v : ByteArray} (h : Vg V vs) (hv : v ∈ V) : Vg V (vsA vs v) := by
  unfold vsA
  split
  · exact h
  · rename_i hh
    refine ⟨h.few, ?_, fun x hx => ?_⟩
    · rw [List.nodup_append]
      refine ⟨h.nd, by simp, fun a ha b hb hab => ?_⟩
      obtain rfl := List.mem_singleton.1 hb
      refine hh ?_
      unfold has
      rw [List.any_eq_true]
      exact ⟨a, ha, by rw [hab]; simp⟩
    · rcases List.mem_append.1 hx with hx | hx
      · exact h.sub x hx
      · obtain rfl := List.mem_singleton.1 hx; exact hv
/-- A text that is none, or one of the variables. -/
def In (V : List ByteArray) (v : ByteArray) : Prop := emptyB v = true ∨ v ∈ V
theorem Vg.opt {V vs : List ByteArray} {v : ByteArray} (h : Vg V vs) (hv : In V v) : Vg V (vsO vs v) := by
  unfold vsO
  split
  · exact h
  · rename_i hh
    rcases hv with hv | hv
    · exact absurd hv hh
    · exact h.add hv

section
variable {L : List Tok} {V : List ByteArray}
theorem var_hd {r : R} {v : ByteArray} {l : List T3} (he : r.e = 0) (h : Hd L r.i (⟨1, v, 0⟩ :: l)) (g : Vg V r.vs) (hv : v ∈ V) :
    varR L r = mv r (r.i + 1) (vsA r.vs v) ∧ varS L r = v := by
  obtain ⟨h1, h2, _⟩ := took_mv h (k := 1) (by decide) (isB_any he h rfl)
  have hl := (g.add hv).len
  have hn := (now_hd h).2.1
  refine ⟨?_, h2⟩
  unfold varR
  rw [h1]
  rw [if_pos (show (mv r (r.i + 1) r.vs).e = 0 from he), hn]
  show (if has r.vs v = true then mv r (r.i + 1) r.vs else if 64 < r.vs.length + 1 then _ else _) = _
  unfold vsA at hl ⊢
  cases hh : has r.vs v with
  | true => rfl
  | false =>
    rw [hh] at hl
    simp only [Bool.false_eq_true, if_false, List.length_append, List.length_cons, List.length_nil] at hl ⊢
    rw [if_neg (by omega)]
    rfl

theorem part_hd {r : R} {n : Int} {l : List T3} (he : r.e = 0) (h : Hd L r.i (tkI n ++ l)) (h0 : -32768 ≤ n) (h1 : n ≤ 32767) :
    partR L r = mv r (r.i + (tkI n).length) r.vs ∧ partN L r = n := by
  unfold tkI at h ⊢
  by_cases hn : n < 0
  · rw [if_pos hn] at h ⊢
    have hb : isB L r 3 (st [45]) = true := isB_same he h rfl rfl
    obtain ⟨t1, _, _⟩ := took_mv h (k := 3) (by decide) hb
    have hls : less L r = mv r (r.i + 1) r.vs := by unfold less; rw [if_pos hb, t1]
    have h2 : Hd L (mv r (r.i + 1) r.vs).i (⟨2, bs (digN n.natAbs), n.natAbs⟩ :: l) := h.2
    obtain ⟨t2, _, t4⟩ := took_mv h2 (k := 2) (by decide) (isB_any (r := mv r (r.i + 1) r.vs) he h2 rfl)
    unfold partR partN
    rw [hls, hb, t2, t4]
    refine ⟨by simp only [Bool.true_eq_false, false_and, if_false]; rfl, ?_⟩
    simp only [if_true]
    omega
  · rw [if_neg hn] at h ⊢
    have hb : isB L r 3 (st [45]) = false := isB_ne h _ (by show (2 : Int) ≠ 3; decide)
    have hls : less L r = r := by unfold less; rw [hb]; rfl
    obtain ⟨t2, _, t4⟩ := took_mv h (k := 2) (by decide) (isB_any he h rfl)
    unfold partR partN
    rw [hls, hb, t2, t4]
    refine ⟨?_, by simp only [Bool.false_eq_true, if_false]; omega⟩
    rw [if_neg (by simp only [true_and]; omega)]
    rfl

theorem tkI_head (n : Int) : ∃ y m, tkI n = y :: m ∧ (y.k = 2 ∨ y = sg 45) := by
  unfold tkI; split
  · exact ⟨_, _, rfl, .inr rfl⟩
  · exact ⟨_, _, rfl, .inl rfl⟩
theorem empty_st {v : ByteArray} (h : emptyB v = true) : v = st [] := by
  have h1 := empty_toList h
  have : (v.toList == (st []).toList) = true := by rw [h1]; kernel_rfl
  rw [Pr.beq_str] at this
  exact of_decide_eq_true this
theorem zeroN_at {x : At} (h : zeroN x = true) : x.a = 0 ∧ x.b = 0 := by unfold zeroN at h; simpa using h
theorem zeroA_at {x : At} (h : zeroA x = true) : x = a0 := by
  unfold zeroA at h
  simp only [Bool.and_eq_true] at h
  obtain ⟨h1, h2⟩ := zeroN_at h.2
  have h3 := empty_st h.1
  cases x
  simp only at h1 h2 h3
  subst h1 h2 h3
  rfl
theorem atom_hd {r : R} {x : At} {l : List T3} (hx : atomB x = true) (he : r.e = 0) (h : Hd L r.i (tkA x ++ l)) (g : Vg V r.vs) (hv : In V x.v) :
    atomR L r = mv r (r.i + (tkA x).length) (vsO r.vs x.v) ∧ atomA L r = x := by
  unfold atomB at hx
  unfold tkA at h ⊢
  unfold vsO
  cases hem : emptyB x.v with
  | false =>
    rw [hem] at hx h
    simp only [Bool.and_eq_true, Bool.false_eq_true, if_false] at hx h ⊢
    have hvV : x.v ∈ V := by rcases hv with hv | hv; rw [hem] at hv; cases hv; exact hv
    have hb := isB_any he h (k := 1) rfl
    obtain ⟨a1, a2⟩ := var_hd he h g hvV
    obtain ⟨z1, z2⟩ := zeroN_at hx.2
    unfold atomR atomA
    rw [if_pos hb, if_pos hb, a1, a2]
    refine ⟨rfl, ?_⟩
    cases x
    simp only at z1 z2
    subst z1 z2
    rfl
  | true =>
    rw [hem] at hx h
    simp only [if_true] at hx h ⊢
    simp only [isNumB, Bool.and_eq_true] at hx
    obtain ⟨_, p2, p3⟩ := wr_id hx.1
    obtain ⟨_, q2, q3⟩ := wr_id hx.2
    have hv0 := empty_st hem
    by_cases hb0 : x.b = 0
    · rw [if_pos hb0] at h ⊢
      obtain ⟨y, m, e1, e2⟩ := tkI_head x.a
      have hy : Hd L r.i (y :: (m ++ l)) := by rw [e1] at h; exact h
      have b1 : isB L r 1 (st []) = false := isB_ne hy _ (by rcases e2 with e2 | e2; rw [e2]; decide; rw [e2]; decide)
      have b2 : isB L r 3 (st [40]) = false := by
        rcases e2 with e2 | e2
        · exact isB_ne hy _ (by rw [e2]; decide)
        · exact isB_diff hy 3 ne_40 (by rw [e2]; decide)
      obtain ⟨a1, a2⟩ := part_hd he h p2 p3
      unfold atomR atomA
      rw [b1, b2, a1, a2]
      refine ⟨rfl, ?_⟩
      cases x
      simp only at hb0 hv0
      subst hb0 hv0
      rfl
    · rw [if_neg hb0] at h ⊢
      simp only [List.cons_append, List.append_assoc] at h
      have b1 : isB L r 1 (st []) = false := isB_ne h _ (by decide)
      have b2 : isB L r 3 (st [40]) = true := isB_same he h rfl rfl
      obtain ⟨t1, _, _⟩ := took_mv h (k := 3) (by decide) b2
      have h1 : Hd L (mv r (r.i + 1) r.vs).i (tkI x.a ++ (sg 44 :: (tkI x.b ++ ([sg 41] ++ l)))) := h.2
      obtain ⟨t2, t3⟩ := part_hd (r := mv r (r.i + 1) r.vs) he h1 p2 p3
      have h2 := (hd_app h1).2
      have h2' : Hd L (mv r (r.i + 1 + (tkI x.a).length) r.vs).i (sg 44 :: (tkI x.b ++ ([sg 41] ++ l))) := h2
      obtain ⟨t4, _, _⟩ := took_mv (r := mv r (r.i + 1 + (tkI x.a).length) r.vs) h2' (k := 3) (s := st [44]) (by decide) (isB_same (r := mv r (r.i + 1 + (tkI x.a).length) r.vs) he h2' rfl rfl)
      have h3 : Hd L (mv r (r.i + 1 + (tkI x.a).length + 1) r.vs).i (tkI x.b ++ ([sg 41] ++ l)) := h2'.2
      obtain ⟨t5, t6⟩ := part_hd (r := mv r (r.i + 1 + (tkI x.a).length + 1) r.vs) he h3 q2 q3
      have h4 : Hd L (mv r (r.i + 1 + (tkI x.a).length + 1 + (tkI x.b).length) r.vs).i (sg 41 :: l) := (hd_app h3).2
      obtain ⟨t7, _, _⟩ := took_mv (r := mv r (r.i + 1 + (tkI x.a).length + 1 + (tkI x.b).length) r.vs) h4 (k := 3) (s := st [41]) (by decide) (isB_same (r := mv r (r.i + 1 + (tkI x.a).length + 1 + (tkI x.b).length) r.vs) he h4 rfl rfl)
      change partR L (mv r (r.i + 1) r.vs) = mv r (r.i + 1 + (tkI x.a).length) r.vs at t2
      change took L (mv r (r.i + 1 + (tkI x.a).length) r.vs) 3 (st [44]) = mv r (r.i + 1 + (tkI x.a).length + 1) r.vs at t4
      change partR L (mv r (r.i + 1 + (tkI x.a).length + 1) r.vs) = mv r (r.i + 1 + (tkI x.a).length + 1 + (tkI x.b).length) r.vs at t5
      change took L (mv r (r.i + 1 + (tkI x.a).length + 1 + (tkI x.b).length) r.vs) 3 (st [41]) = mv r (r.i + 1 + (tkI x.a).length + 1 + (tkI x.b).length + 1) r.vs at t7
      unfold atomR atomA
      rw [b1, b2]
      simp only [Bool.false_eq_true, if_false, if_true]
      rw [t1, t2, t4, t5, t7, t3, t6]
      refine ⟨?_, ?_⟩
      · congr 1
        simp only [List.length_cons, List.length_append, List.length_nil]
        omega
      · cases x
        simp only at hv0
        subst hv0
        rfl
theorem tkA_head (x : At) : ∃ y m, tkA x = y :: m ∧ y.k ≠ 4 := by
  unfold tkA
  split
  · split
    · obtain ⟨y, m, e, h⟩ := tkI_head x.a
      exact ⟨y, m, e, by rcases h with h | h; rw [h]; decide; rw [h]; decide⟩
    · exact ⟨_, _, rfl, by decide⟩
  · exact ⟨_, _, rfl, by show (1 : Int) ≠ 4; decide⟩
theorem vsO_a0 (vs : List ByteArray) : vsO vs a0.v = vs := by
  unfold vsO
  have : emptyB a0.v = true := by kernel_rfl
  rw [this]; rfl
theorem expr_hd {r : R} {x : Ex} {l : List T3} (hx : exprB x = true) (he : r.e = 0) (h : Hd L r.i (tkE x ++ sg 59 :: l)) (g : Vg V r.vs) (hv : In V x.x.v) (hw : In V x.y.v) :
    exprR L r = mv r (r.i + (tkE x).length) (vsO (vsO r.vs x.x.v) x.y.v) ∧ exprE L r = x := by
  have noConj : ∀ m, Hd L r.i (tkA x.x ++ m) → isB L r 4 conjS = false := fun m hm => by
    obtain ⟨y, n, e, hk⟩ := tkA_head x.x
    rw [e] at hm
    exact isB_ne hm _ hk
  have two : ∀ (c : UInt8) (m : List T3), Hd L r.i (tkA x.x ++ sg c :: (tkA x.y ++ m)) → atomB x.x = true → atomB x.y = true →
      atomR L r = mv r (r.i + (tkA x.x).length) (vsO r.vs x.x.v) ∧ atomA L r = x.x ∧ Hd L (mv r (r.i + (tkA x.x).length) (vsO r.vs x.x.v)).i (sg c :: (tkA x.y ++ m)) ∧
      atomR L (took L (mv r (r.i + (tkA x.x).length) (vsO r.vs x.x.v)) 3 (st [c])) = mv r (r.i + (tkA x.x ++ sg c :: tkA x.y).length) (vsO (vsO r.vs x.x.v) x.y.v) ∧
      atomA L (took L (mv r (r.i + (tkA x.x).length) (vsO r.vs x.x.v)) 3 (st [c])) = x.y := fun c m hm h1 h2 => by
    obtain ⟨a1, a2⟩ := atom_hd h1 he hm g hv
    have k1 : Hd L (mv r (r.i + (tkA x.x).length) (vsO r.vs x.x.v)).i (sg c :: (tkA x.y ++ m)) := (hd_app hm).2
    obtain ⟨t1, _, _⟩ := took_mv (r := mv r (r.i + (tkA x.x).length) (vsO r.vs x.x.v)) k1 (k := 3) (s := st [c]) (by decide) (isB_same (r := mv r (r.i + (tkA x.x).length) (vsO r.vs x.x.v)) he k1 rfl rfl)
    have k2 : Hd L (mv r (r.i + (tkA x.x).length + 1) (vsO r.vs x.x.v)).i (tkA x.y ++ m) := k1.2
    obtain ⟨b1, b2⟩ := atom_hd (r := mv r (r.i + (tkA x.x).length + 1) (vsO r.vs x.x.v)) h2 he k2 (g.opt hv) hw
    change took L (mv r (r.i + (tkA x.x).length) (vsO r.vs x.x.v)) 3 (st [c]) = mv r (r.i + (tkA x.x).length + 1) (vsO r.vs x.x.v) at t1
    change atomR L (mv r (r.i + (tkA x.x).length + 1) (vsO r.vs x.x.v)) = mv r (r.i + (tkA x.x).length + 1 + (tkA x.y).length) (vsO (vsO r.vs x.x.v) x.y.v) at b1
    refine ⟨a1, a2, k1, ?_, ?_⟩
    · rw [t1, b1]
      congr 1
      simp only [List.length_cons, List.length_append]
      omega
    · rw [t1, b2]
  unfold exprB at hx
  unfold tkE at h ⊢
  by_cases h04 : x.op = 0 ∨ x.op = 4
  · rw [if_pos h04] at hx
    simp only [Bool.and_eq_true] at hx
    have hy := zeroA_at hx.2
    rcases h04 with h0 | h0
    · rw [if_pos h0] at h ⊢
      obtain ⟨a1, a2⟩ := atom_hd hx.1 he h g hv
      have k1 : Hd L (mv r (r.i + (tkA x.x).length) (vsO r.vs x.x.v)).i (sg 59 :: l) := (hd_app h).2
      have n1 := isB_diff (r := mv r (r.i + (tkA x.x).length) (vsO r.vs x.x.v)) k1 3 ne_43 (by decide)
      have n2 := isB_diff (r := mv r (r.i + (tkA x.x).length) (vsO r.vs x.x.v)) k1 3 ne_45 (by decide)
      have n3 := isB_diff (r := mv r (r.i + (tkA x.x).length) (vsO r.vs x.x.v)) k1 3 ne_42 (by decide)
      unfold exprR exprE
      rw [noConj _ h, a1, n1, n2, n3, a2, hy, vsO_a0]
      refine ⟨rfl, ?_⟩
      cases x
      simp only at h0 hy
      subst h0 hy
      rfl
    · rw [if_neg (by omega), if_neg (by omega), if_neg (by omega), if_neg (by omega)] at h ⊢
      have b := isB_same he h (k := 4) (s := conjS) rfl rfl
      obtain ⟨t1, _, _⟩ := took_mv h (k := 4) (by decide) b
      have k2 : Hd L (mv r (r.i + 1) r.vs).i (tkA x.x ++ sg 59 :: l) := h.2
      obtain ⟨b1, b2⟩ := atom_hd (r := mv r (r.i + 1) r.vs) hx.1 he k2 g hv
      unfold exprR exprE
      rw [b, t1, b1, b2, hy, vsO_a0]
      refine ⟨?_, ?_⟩
      · show mv r (r.i + 1 + (tkA x.x).length) (vsO r.vs x.x.v) = _
        congr 1
        simp only [List.length_cons]; omega
      · cases x
        simp only at h0 hy
        subst h0 hy
        rfl
  · rw [if_neg h04] at hx
    have n0 : ¬ x.op = 0 := fun h => h04 (.inl h)
    rw [if_neg n0] at h ⊢
    by_cases h123 : x.op = 1 ∨ x.op = 2 ∨ x.op = 3
    rotate_left
    · rw [if_neg h123] at hx; cases hx
    rw [if_pos h123] at hx
    simp only [Bool.and_eq_true] at hx
    by_cases h1 : x.op = 1
    · rw [if_pos h1] at h ⊢
      rw [List.append_assoc, List.cons_append] at h
      obtain ⟨a1, a2, k1, a3, a4⟩ := two 43 _ h hx.1 hx.2
      have n1 := isB_same (r := mv r (r.i + (tkA x.x).length) (vsO r.vs x.x.v)) he k1 (k := 3) (s := st [43]) rfl rfl
      unfold exprR exprE
      rw [noConj _ h, a1, n1, a2, a3, a4]
      refine ⟨rfl, ?_⟩
      cases x
      simp only at h1
      subst h1
      rfl
    rw [if_neg h1] at h ⊢
    by_cases h2 : x.op = 2
    · rw [if_pos h2] at h ⊢
      rw [List.append_assoc, List.cons_append] at h
      obtain ⟨a1, a2, k1, a3, a4⟩ := two 45 _ h hx.1 hx.2
      have n1 := isB_diff (r := mv r (r.i + (tkA x.x).length) (vsO r.vs x.x.v)) k1 3 ne_43 (by decide)
      have n2 := isB_same (r := mv r (r.i + (tkA x.x).length) (vsO r.vs x.x.v)) he k1 (k := 3) (s := st [45]) rfl rfl
      unfold exprR exprE
      rw [noConj _ h, a1, n1, n2, a2, a3, a4]
      refine ⟨rfl, ?_⟩
      cases x
      simp only at h2
      subst h2
      rfl
    rw [if_neg h2] at h ⊢
    have h3 : x.op = 3 := by omega
    rw [if_pos h3] at h ⊢
    rw [List.append_assoc, List.cons_append] at h
    obtain ⟨a1, a2, k1, a3, a4⟩ := two 42 _ h hx.1 hx.2
    have n1 := isB_diff (r := mv r (r.i + (tkA x.x).length) (vsO r.vs x.x.v)) k1 3 ne_43 (by decide)
    have n2 := isB_diff (r := mv r (r.i + (tkA x.x).length) (vsO r.vs x.x.v)) k1 3 ne_45 (by decide)
    have n3 := isB_same (r := mv r (r.i + (tkA x.x).length) (vsO r.vs x.x.v)) he k1 (k := 3) (s := st [42]) rfl rfl
    unfold exprR exprE
    rw [noConj _ h, a1, n1, n2, n3, a2, a3, a4]
    refine ⟨rfl, ?_⟩
    cases x
    simp only at h3
    subst h3
    rfl
end

end Go.Proofs.Ytmnplnhblniimaa.Gr

namespace Go.Proofs.Ytmnplnhblniimaa.Gr
set_option linter.unusedVariables false
set_option linter.unusedSimpArgs false
open Go Tk Pr

def mvn (r : R) (i : Nat) (n : Int) (vs : List ByteArray) : R := { r with i := i, n := n, vs := vs }
def vsS (vs : List ByteArray) (s : St) : List ByteArray := vsO (vsO (vsO vs s.v) s.e.x.v) s.e.y.v
/-- A statement's variables are counted. -/
def InS (V : List ByteArray) (s : St) : Prop := In V s.v ∧ In V s.e.x.v ∧ In V s.e.y.v
theorem Vg.stmt {V vs : List ByteArray} {s : St} (h : Vg V vs) (hs : InS V s) : Vg V (vsS vs s) := ((h.opt hs.1).opt hs.2.1).opt hs.2.2
theorem vsO_full {vs : List ByteArray} {v : ByteArray} (h : nameB v = true) : vsO vs v = vsA vs v := by unfold vsO; rw [empty_of h]; rfl
theorem vsO_none {vs : List ByteArray} {v : ByteArray} (h : emptyB v = true) : vsO vs v = vs := by unfold vsO; rw [h]; rfl
theorem in_full {V : List ByteArray} {v : ByteArray} (h : nameB v = true) (hv : In V v) : v ∈ V := by
  rcases hv with hv | hv
  · rw [empty_of h] at hv; cases hv
  · exact hv

section
variable {L : List Tok} {V : List ByteArray}
theorem stmt_hd {r : R} {s : St} {l : List T3} (hs : stmtB s = true) (he : r.e = 0) (h : Hd L r.i (tkS s ++ l)) (g : Vg V r.vs) (hv : InS V s) (hn : r.n + 1 ≤ 512) :
    isSt L r = true ∧ stmtR L r = mvn r (r.i + (tkS s).length) (r.n + 1) (vsS r.vs s) ∧ stmtS L r = s := by
  have hc : cntR L r = mvn r r.i (r.n + 1) r.vs := by unfold cntR; rw [if_neg (by omega)]; rfl
  unfold stmtB at hs
  unfold tkS at h ⊢
  unfold vsS
  by_cases h1 : s.k = 1
  · rw [if_pos h1] at hs h ⊢
    simp only [Bool.and_eq_true] at hs
    simp only [List.cons_append, List.append_assoc, List.nil_append] at h
    have b1 : isB L r 1 (st []) = true := isB_any he h rfl
    obtain ⟨a1, a2⟩ := var_hd (r := mvn r r.i (r.n + 1) r.vs) he h g (in_full hs.1 hv.1)
    have k1 : Hd L (mvn r (r.i + 1) (r.n + 1) (vsA r.vs s.v)).i (sg 61 :: (tkE s.e ++ (sg 59 :: l))) := h.2
    obtain ⟨t1, _, _⟩ := took_mv k1 (k := 3) (s := st [61]) (by decide) (isB_same (r := mvn r (r.i + 1) (r.n + 1) (vsA r.vs s.v)) he k1 rfl rfl)
    have k2 : Hd L (mvn r (r.i + 1 + 1) (r.n + 1) (vsA r.vs s.v)).i (tkE s.e ++ (sg 59 :: l)) := k1.2
    obtain ⟨b2, b3⟩ := expr_hd (r := mvn r (r.i + 1 + 1) (r.n + 1) (vsA r.vs s.v)) hs.2 he k2 (g.add (in_full hs.1 hv.1)) hv.2.1 hv.2.2
    have k3 : Hd L (mvn r (r.i + 1 + 1 + (tkE s.e).length) (r.n + 1) (vsO (vsO (vsA r.vs s.v) s.e.x.v) s.e.y.v)).i (sg 59 :: l) := (hd_app k2).2
    obtain ⟨t2, _, _⟩ := took_mv k3 (k := 3) (s := st [59]) (by decide) (isB_same (r := mvn r (r.i + 1 + 1 + (tkE s.e).length) (r.n + 1) (vsO (vsO (vsA r.vs s.v) s.e.x.v) s.e.y.v)) he k3 rfl rfl)
    change varR L (mvn r r.i (r.n + 1) r.vs) = mvn r (r.i + 1) (r.n + 1) (vsA r.vs s.v) at a1
    change took L (mvn r (r.i + 1) (r.n + 1) (vsA r.vs s.v)) 3 (st [61]) = mvn r (r.i + 1 + 1) (r.n + 1) (vsA r.vs s.v) at t1
    change exprR L (mvn r (r.i + 1 + 1) (r.n + 1) (vsA r.vs s.v)) = mvn r (r.i + 1 + 1 + (tkE s.e).length) (r.n + 1) (vsO (vsO (vsA r.vs s.v) s.e.x.v) s.e.y.v) at b2
    change took L (mvn r (r.i + 1 + 1 + (tkE s.e).length) (r.n + 1) (vsO (vsO (vsA r.vs s.v) s.e.x.v) s.e.y.v)) 3 (st [59]) = mvn r (r.i + 1 + 1 + (tkE s.e).length + 1) (r.n + 1) (vsO (vsO (vsA r.vs s.v) s.e.x.v) s.e.y.v) at t2
    refine ⟨by unfold isSt; rw [b1]; rfl, ?_, ?_⟩
    · unfold stmtR
      rw [if_pos b1, hc, a1, t1, b2, t2, vsO_full hs.1]
      congr 1
      simp only [List.length_cons, List.length_append, List.length_nil]; omega
    · unfold stmtS
      rw [if_pos b1, hc, a2, a1, t1, b3]
      cases s
      simp only at h1
      subst h1
      rfl
  rw [if_neg h1] at hs h ⊢
  by_cases h2 : s.k = 2
  · rw [if_pos h2] at hs h ⊢
    simp only [Bool.and_eq_true] at hs
    simp only [List.cons_append, List.append_assoc, List.nil_append] at h
    have b1 : isB L r 1 (st []) = false := isB_ne h _ (by show (4 : Int) ≠ 1; decide)
    have b2 : isB L r 4 inS = true := isB_same he h rfl rfl
    have hz := hs.2
    unfold zeroE at hz
    simp only [Bool.and_eq_true, beq_iff_eq] at hz
    obtain ⟨z1, z2, z3⟩ := hz
    replace z2 := zeroA_at z2
    replace z3 := zeroA_at z3
    obtain ⟨t1, _, _⟩ := took_mv (r := mvn r r.i (r.n + 1) r.vs) h (k := 4) (s := inS) (by decide) (isB_same (r := mvn r r.i (r.n + 1) r.vs) he h rfl rfl)
    have k1 : Hd L (mvn r (r.i + 1) (r.n + 1) r.vs).i (⟨1, s.v, 0⟩ :: sg 59 :: l) := h.2
    obtain ⟨a1, a2⟩ := var_hd (r := mvn r (r.i + 1) (r.n + 1) r.vs) he k1 g (in_full hs.1 hv.1)
    have k3 : Hd L (mvn r (r.i + 1 + 1) (r.n + 1) (vsA r.vs s.v)).i (sg 59 :: l) := k1.2
    obtain ⟨t2, _, _⟩ := took_mv k3 (k := 3) (s := st [59]) (by decide) (isB_same (r := mvn r (r.i + 1 + 1) (r.n + 1) (vsA r.vs s.v)) he k3 rfl rfl)
    change took L (mvn r r.i (r.n + 1) r.vs) 4 inS = mvn r (r.i + 1) (r.n + 1) r.vs at t1
    change varR L (mvn r (r.i + 1) (r.n + 1) r.vs) = mvn r (r.i + 1 + 1) (r.n + 1) (vsA r.vs s.v) at a1
    change took L (mvn r (r.i + 1 + 1) (r.n + 1) (vsA r.vs s.v)) 3 (st [59]) = mvn r (r.i + 1 + 1 + 1) (r.n + 1) (vsA r.vs s.v) at t2
    refine ⟨by unfold isSt; rw [b1, b2]; rfl, ?_, ?_⟩
    · unfold stmtR
      rw [b1, b2, hc]
      simp only [Bool.false_eq_true, if_false, if_true]
      rw [t1, a1, t2, vsO_full hs.1, z2, z3, vsO_a0, vsO_a0]
      rfl
    · unfold stmtS
      rw [b1, b2, hc]
      simp only [Bool.false_eq_true, if_false, if_true]
      rw [t1, a2]
      obtain ⟨k, v, op, x, y⟩ := s
      simp only at h2 z1 z2 z3
      subst h2 z1 z2 z3
      rfl
  rw [if_neg h2] at hs h ⊢
  by_cases h3 : s.k = 3
  rotate_left
  · rw [if_neg h3] at hs; cases hs
  rw [if_pos h3] at hs
  simp only [Bool.and_eq_true, beq_iff_eq] at hs
  obtain ⟨s1, s2, s3⟩ := hs
  unfold exprB at s3
  rw [if_pos (.inl s2)] at s3
  simp only [Bool.and_eq_true] at s3
  have z3 := zeroA_at s3.2
  have ht : tkE s.e = tkA s.e.x := by unfold tkE; rw [if_pos s2]
  rw [ht] at h ⊢
  simp only [List.cons_append, List.append_assoc, List.nil_append] at h
  have b1 : isB L r 1 (st []) = false := isB_ne h _ (by show (4 : Int) ≠ 1; decide)
  have b2 : isB L r 4 inS = false := isB_diff h 4 ne_in (by show outS ≠ inS; decide)
  have b3 : isB L r 4 outS = true := isB_same he h rfl rfl
  obtain ⟨t1, _, _⟩ := took_mv (r := mvn r r.i (r.n + 1) r.vs) h (k := 4) (s := outS) (by decide) (isB_same (r := mvn r r.i (r.n + 1) r.vs) he h rfl rfl)
  have k1 : Hd L (mvn r (r.i + 1) (r.n + 1) r.vs).i (tkA s.e.x ++ (sg 59 :: l)) := h.2
  obtain ⟨a1, a2⟩ := atom_hd (r := mvn r (r.i + 1) (r.n + 1) r.vs) s3.1 he k1 g hv.2.1
  have k3 : Hd L (mvn r (r.i + 1 + (tkA s.e.x).length) (r.n + 1) (vsO r.vs s.e.x.v)).i (sg 59 :: l) := (hd_app k1).2
  obtain ⟨t2, _, _⟩ := took_mv k3 (k := 3) (s := st [59]) (by decide) (isB_same (r := mvn r (r.i + 1 + (tkA s.e.x).length) (r.n + 1) (vsO r.vs s.e.x.v)) he k3 rfl rfl)
  change took L (mvn r r.i (r.n + 1) r.vs) 4 outS = mvn r (r.i + 1) (r.n + 1) r.vs at t1
  change atomR L (mvn r (r.i + 1) (r.n + 1) r.vs) = mvn r (r.i + 1 + (tkA s.e.x).length) (r.n + 1) (vsO r.vs s.e.x.v) at a1
  change took L (mvn r (r.i + 1 + (tkA s.e.x).length) (r.n + 1) (vsO r.vs s.e.x.v)) 3 (st [59]) = mvn r (r.i + 1 + (tkA s.e.x).length + 1) (r.n + 1) (vsO r.vs s.e.x.v) at t2
  refine ⟨by unfold isSt; rw [b1, b2, b3]; rfl, ?_, ?_⟩
  · unfold stmtR
    rw [b1, b2, hc]
    simp only [Bool.false_eq_true, if_false]
    rw [t1, a1, t2, vsO_none s1, z3, vsO_a0]
    congr 1
    simp only [List.length_cons, List.length_append, List.length_nil]; omega
  · unfold stmtS
    rw [b1, b2, hc]
    simp only [Bool.false_eq_true, if_false]
    rw [t1, a2]
    replace s1 := empty_st s1
    obtain ⟨k, v, op, x, y⟩ := s
    simp only at h3 s1 s2 z3
    subst h3 s1 s2 z3
    rfl

/-- Statements, one behind another. -/
def vsL (vs : List ByteArray) : List St → List ByteArray
  | [] => vs
  | s :: l => vsL (vsS vs s) l
theorem Vg.stmts {l : List St} : ∀ {vs : List ByteArray}, Vg V vs → (∀ s ∈ l, InS V s) → Vg V (vsL vs l) := by
  induction l with
  | nil => intro vs g _; exact g
  | cons s l ih => intro vs g h; exact ih (g.stmt (h s (by simp))) (fun u hu => h u (by simp [hu]))
theorem tkT_head (t : Te) : ∃ y m, tkT t = y :: m ∧ y.k = 4 ∧ y.s ≠ inS ∧ y.s ≠ outS := by
  unfold tkT
  split
  · exact ⟨_, _, rfl, rfl, by show gotoS ≠ inS; decide, by show gotoS ≠ outS; decide⟩
  · split
    · exact ⟨_, _, rfl, rfl, by show ifS ≠ inS; decide, by show ifS ≠ outS; decide⟩
    · exact ⟨_, _, rfl, rfl, by show retS ≠ inS; decide, by show retS ≠ outS; decide⟩
theorem sts_hd {t : Te} {m : List T3} : ∀ (l : List St) (k : Nat) {r : R}, (∀ s ∈ l, stmtB s = true ∧ InS V s) → r.e = 0 → Hd L r.i (tkL l ++ (tkT t ++ m)) → Vg V r.vs → r.n + l.length ≤ 512 → l.length ≤ k →
    stsR L k r = mvn r (r.i + (tkL l).length) (r.n + l.length) (vsL r.vs l) ∧ stsL L k r = l
  | [], k, r, hs, he, h, g, hn, hk => by
    obtain ⟨y, n, e, h4, h5, h6⟩ := tkT_head t
    have hy : Hd L r.i (y :: (n ++ m)) := by rw [e] at h; exact h
    have hi : isSt L r = false := by
      unfold isSt
      rw [isB_ne hy _ (by rw [h4]; decide), isB_diff hy 4 ne_in h5, isB_diff hy 4 ne_out h6]; rfl
    have hz : mvn r (r.i + (tkL []).length) (r.n + ([] : List St).length) (vsL r.vs []) = r := by
      show ({ r with i := r.i + 0, n := r.n + 0, vs := r.vs } : R) = r
      simp
    rw [hz]
    cases k with
    | zero => exact ⟨rfl, rfl⟩
    | succ k => unfold stsR stsL; rw [hi]; exact ⟨rfl, rfl⟩
  | s :: l, k, r, hs, he, h, g, hn, hk => by
    obtain ⟨k, rfl⟩ : ∃ j, k = j + 1 := ⟨k - 1, by rw [List.length_cons] at hk; omega⟩
    rw [List.length_cons] at hn hk
    have h' : Hd L r.i (tkS s ++ (tkL l ++ (tkT t ++ m))) := by
      have e : tkL (s :: l) = tkS s ++ tkL l := rfl
      rw [e, List.append_assoc] at h; exact h
    obtain ⟨a1, a2, a3⟩ := stmt_hd (hs s (by simp)).1 he h' g (hs s (by simp)).2 (by omega)
    have h2 : Hd L (mvn r (r.i + (tkS s).length) (r.n + 1) (vsS r.vs s)).i (tkL l ++ (tkT t ++ m)) := (hd_app h').2
    obtain ⟨b1, b2⟩ := sts_hd l k (r := mvn r (r.i + (tkS s).length) (r.n + 1) (vsS r.vs s)) (fun u hu => hs u (by simp [hu])) he h2 (g.stmt (hs s (by simp)).2) (by show r.n + 1 + (l.length : Int) ≤ 512; omega) (by omega)
    unfold stsR stsL
    rw [a1, a2, a3]
    simp only [if_true]
    rw [if_pos (show (mvn r (r.i + (tkS s).length) (r.n + 1) (vsS r.vs s)).e = 0 from he), if_pos (show (mvn r (r.i + (tkS s).length) (r.n + 1) (vsS r.vs s)).e = 0 from he), b1, b2]
    refine ⟨?_, rfl⟩
    have e : (tkL (s :: l)).length = (tkS s).length + (tkL l).length := by show (tkS s ++ tkL l).length = _; rw [List.length_append]
    show mvn r (r.i + (tkS s).length + (tkL l).length) (r.n + 1 + (l.length : Int)) (vsL (vsS r.vs s) l) = _
    rw [e, List.length_cons, Nat.add_assoc]
    congr 1
    omega

def targets (t : Te) : List ByteArray := if t.k = 1 then [t.t] else if t.k = 2 then [t.t, t.e] else []
def mvt (r : R) (i : Nat) (vs : List ByteArray) (tg : List Tok) : R := { r with i := i, vs := vs, tg := tg }
theorem lbl_hd {r : R} {t : ByteArray} {l : List T3} (he : r.e = 0) (h : Hd L r.i (⟨1, t, 0⟩ :: l)) :
    ∃ x : Tok, x.s = t ∧ lblR L r = mvt r (r.i + 1) r.vs (r.tg ++ [x]) ∧ varS L r = t := by
  obtain ⟨t1, t2, _⟩ := took_mv h (k := 1) (s := st []) (by decide) (isB_any he h rfl)
  refine ⟨tokn L r 1 (st []), t2, ?_, t2⟩
  unfold lblR
  rw [t1]; rfl
theorem term_hd {r : R} {t : Te} {l : List T3} (ht : termB t = true) (he : r.e = 0) (h : Hd L r.i (tkT t ++ l)) (g : Vg V r.vs) (hv : In V t.x.v) :
    ∃ tg, termR L r = mvt r (r.i + (tkT t).length) (vsO r.vs t.x.v) tg ∧ termT L r = t ∧ tg.map Tk.Tok.s = r.tg.map Tk.Tok.s ++ targets t := by
  unfold termB at ht
  unfold tkT at h ⊢
  unfold targets
  by_cases h1 : t.k = 1
  · rw [if_pos h1] at ht h ⊢
    simp only [Bool.and_eq_true] at ht
    simp only [List.cons_append, List.append_assoc, List.nil_append] at h
    have b1 : isB L r 4 gotoS = true := isB_same he h rfl rfl
    obtain ⟨t1, _, _⟩ := took_mv h (k := 4) (by decide) b1
    have k1 : Hd L (mv r (r.i + 1) r.vs).i (⟨1, t.t, 0⟩ :: sg 59 :: l) := h.2
    obtain ⟨x, x1, x2, x3⟩ := lbl_hd (r := mv r (r.i + 1) r.vs) he k1
    have k2 : Hd L (mvt r (r.i + 1 + 1) r.vs (r.tg ++ [x])).i (sg 59 :: l) := k1.2
    obtain ⟨t2, _, _⟩ := took_mv k2 (k := 3) (s := st [59]) (by decide) (isB_same (r := mvt r (r.i + 1 + 1) r.vs (r.tg ++ [x])) he k2 rfl rfl)
    change lblR L (mv r (r.i + 1) r.vs) = mvt r (r.i + 1 + 1) r.vs (r.tg ++ [x]) at x2
    have z := zeroA_at ht.2.2
    refine ⟨r.tg ++ [x], ?_, ?_, by rw [List.map_append, List.map_cons, x1, if_pos h1]; rfl⟩
    · unfold termR
      rw [b1]
      simp only [if_true]
      rw [t1, x2, t2, z, vsO_a0]; rfl
    · unfold termT
      rw [b1]
      simp only [if_true]
      rw [t1, x3]
      have z2 := empty_st ht.2.1
      obtain ⟨k, x, a, b⟩ := t
      simp only at h1 z z2
      subst h1 z z2
      rfl
  rw [if_neg h1] at ht h ⊢
  by_cases h2 : t.k = 2
  · rw [if_pos h2] at ht h ⊢
    simp only [Bool.and_eq_true] at ht
    simp only [List.cons_append, List.append_assoc, List.nil_append] at h
    have b1 : isB L r 4 gotoS = false := isB_diff h 4 ne_goto (by show ifS ≠ gotoS; decide)
    have b2 : isB L r 4 ifS = true := isB_same he h rfl rfl
    obtain ⟨t1, _, _⟩ := took_mv h (k := 4) (by decide) b2
    have k1 : Hd L (mv r (r.i + 1) r.vs).i (tkA t.x ++ (⟨4, thenS, 0⟩ :: ⟨1, t.t, 0⟩ :: ⟨4, elseS, 0⟩ :: ⟨1, t.e, 0⟩ :: sg 59 :: l)) := h.2
    obtain ⟨a1, a2⟩ := atom_hd (r := mv r (r.i + 1) r.vs) ht.2.2 he k1 g hv
    change atomR L (mv r (r.i + 1) r.vs) = mv r (r.i + 1 + (tkA t.x).length) (vsO r.vs t.x.v) at a1
    obtain ⟨ws, hws⟩ : ∃ ws, ws = vsO r.vs t.x.v := ⟨_, rfl⟩
    obtain ⟨i1, hi1⟩ : ∃ i1, i1 = r.i + 1 + (tkA t.x).length := ⟨_, rfl⟩
    have k2 : Hd L i1 (⟨4, thenS, 0⟩ :: ⟨1, t.t, 0⟩ :: ⟨4, elseS, 0⟩ :: ⟨1, t.e, 0⟩ :: sg 59 :: l) := by rw [hi1]; exact (hd_app k1).2
    rw [← hws, ← hi1] at a1
    obtain ⟨t2, _, _⟩ := took_mv (r := mv r i1 ws) k2 (k := 4) (s := thenS) (by decide) (isB_same (r := mv r i1 ws) he k2 rfl rfl)
    change took L (mv r i1 ws) 4 thenS = mv r (i1 + 1) ws at t2
    obtain ⟨x, x1, x2, x3⟩ := lbl_hd (r := mv r (i1 + 1) ws) he k2.2
    change lblR L (mv r (i1 + 1) ws) = mvt r (i1 + 1 + 1) ws (r.tg ++ [x]) at x2
    obtain ⟨t3, _, _⟩ := took_mv (r := mvt r (i1 + 1 + 1) ws (r.tg ++ [x])) k2.2.2 (k := 4) (s := elseS) (by decide) (isB_same (r := mvt r (i1 + 1 + 1) ws (r.tg ++ [x])) he k2.2.2 rfl rfl)
    change took L (mvt r (i1 + 1 + 1) ws (r.tg ++ [x])) 4 elseS = mvt r (i1 + 1 + 1 + 1) ws (r.tg ++ [x]) at t3
    obtain ⟨y, y1, y2, y3⟩ := lbl_hd (r := mvt r (i1 + 1 + 1 + 1) ws (r.tg ++ [x])) he k2.2.2.2
    change lblR L (mvt r (i1 + 1 + 1 + 1) ws (r.tg ++ [x])) = mvt r (i1 + 1 + 1 + 1 + 1) ws ((r.tg ++ [x]) ++ [y]) at y2
    obtain ⟨t4, _, _⟩ := took_mv (r := mvt r (i1 + 1 + 1 + 1 + 1) ws ((r.tg ++ [x]) ++ [y])) k2.2.2.2.2 (k := 3) (s := st [59]) (by decide) (isB_same (r := mvt r (i1 + 1 + 1 + 1 + 1) ws ((r.tg ++ [x]) ++ [y])) he k2.2.2.2.2 rfl rfl)
    have eA : ifA L r = mv r (i1 + 1) ws := by unfold ifA; rw [t1, a1, t2]
    have eB : ifB L r = mvt r (i1 + 1 + 1 + 1) ws (r.tg ++ [x]) := by unfold ifB; rw [eA, x2, t3]
    refine ⟨(r.tg ++ [x]) ++ [y], ?_, ?_, by rw [if_neg h1, if_pos h2]; simp only [List.map_append, List.map_cons, List.map_nil, x1, y1, List.append_assoc]; rfl⟩
    · unfold termR
      rw [b1, b2]
      simp only [Bool.false_eq_true, if_false, if_true]
      rw [eB, y2, t4, ← hws]
      show mvt r (i1 + 1 + 1 + 1 + 1 + 1) ws ((r.tg ++ [x]) ++ [y]) = _
      congr 1
      rw [hi1]
      simp only [List.length_cons, List.length_append, List.length_nil]; omega
    · unfold termT
      rw [b1, b2]
      simp only [Bool.false_eq_true, if_false, if_true]
      rw [t1, a2, eA, x3, eB, y3]
      obtain ⟨k, x, a, b⟩ := t
      simp only at h2
      subst h2
      rfl
  rw [if_neg h2] at ht h ⊢
  by_cases h3 : t.k = 3
  rotate_left
  · rw [if_neg h3] at ht; cases ht
  rw [if_pos h3] at ht
  simp only [Bool.and_eq_true] at ht
  simp only [List.cons_append, List.append_assoc, List.nil_append] at h
  have b1 : isB L r 4 gotoS = false := isB_diff h 4 ne_goto (by show retS ≠ gotoS; decide)
  have b2 : isB L r 4 ifS = false := isB_diff h 4 ne_if (by show retS ≠ ifS; decide)
  obtain ⟨t1, _, _⟩ := took_mv h (k := 4) (s := retS) (by decide) (isB_same he h rfl rfl)
  have k1 : Hd L (mv r (r.i + 1) r.vs).i (sg 59 :: l) := h.2
  obtain ⟨t2, _, _⟩ := took_mv k1 (k := 3) (s := st [59]) (by decide) (isB_same (r := mv r (r.i + 1) r.vs) he k1 rfl rfl)
  have z := zeroA_at ht.2.2
  refine ⟨r.tg, ?_, ?_, by rw [if_neg h1, if_neg h2]; simp⟩
  · unfold termR
    rw [b1, b2]
    simp only [Bool.false_eq_true, if_false]
    rw [t1, t2, z, vsO_a0]; rfl
  · unfold termT
    rw [b1, b2]
    simp only [Bool.false_eq_true, if_false]
    have z2 := empty_st ht.1
    have z3 := empty_st ht.2.1
    obtain ⟨k, x, a, b⟩ := t
    simp only at h3 z z2 z3
    subst h3 z z2 z3
    rfl

/-- A block's variables are counted. -/
def InB (V : List ByteArray) (b : Bl) : Prop := (∀ s ∈ b.l, InS V s) ∧ In V b.t.x.v
/-- Where the reader stands behind some blocks. -/
structure Rd (V : List ByteArray) (q : R) (i : Nat) (n : Nat) (bk tg : List ByteArray) : Prop where
  e : q.e = 0
  i : q.i = i
  n : q.n = n
  g : Vg V q.vs
  bk : q.bk.map Tk.Tok.s = bk
  tg : q.tg.map Tk.Tok.s = tg
theorem block_hd {r : R} {b : Bl} {l : List T3} {i n : Nat} {bk tg : List ByteArray} (hb : Pr.blockB b = true) (hr : Rd V r i n bk tg) (h : Hd L i (tkB b ++ l)) (hv : InB V b) (hn : n + b.l.length ≤ 512) (h128 : bk.length < 128) (hLl : b.l.length ≤ L.length) :
    blockB L r = toBk b ∧ Rd V (blockR L r) (i + (tkB b).length) (n + b.l.length) (bk ++ [b.n]) (tg ++ targets b.t) := by
  obtain ⟨he, hi, hnn, g, hbk, htg⟩ := hr
  subst hi
  unfold Pr.blockB at hb
  simp only [Bool.and_eq_true, List.all_eq_true] at hb
  unfold tkB at h ⊢
  simp only [List.cons_append, List.append_assoc, List.nil_append] at h
  have hbl : r.bk.length = bk.length := by rw [← hbk, List.length_map]
  have hh : headR L r = r := by unfold headR; rw [if_neg (by omega)]
  obtain ⟨t1, _, _⟩ := took_mv h (k := 4) (s := blockS) (by decide) (isB_same he h rfl rfl)
  have eN : nameR L r = mv r (r.i + 1) r.vs := by unfold nameR; rw [hh, t1]
  have k1 : Hd L (mv r (r.i + 1) r.vs).i (⟨1, b.n, 0⟩ :: sg 123 :: (tkL b.l ++ (tkT b.t ++ (sg 125 :: l)))) := h.2
  obtain ⟨t2, t3, _⟩ := took_mv k1 (k := 1) (s := st []) (by decide) (isB_any (r := mv r (r.i + 1) r.vs) he k1 rfl)
  obtain ⟨x, hx⟩ : ∃ x, x = tokn L (mv r (r.i + 1) r.vs) 1 (st []) := ⟨_, rfl⟩
  obtain ⟨q, hq⟩ : ∃ q : R, q = { mv r (r.i + 1 + 1) r.vs with bk := r.bk ++ [x] } := ⟨_, rfl⟩
  have qi : q.i = r.i + 1 + 1 := by rw [hq]; rfl
  have qe : q.e = 0 := by rw [hq]; exact he
  have qv : q.vs = r.vs := by rw [hq]; rfl
  have qn : q.n = n := by rw [hq]; exact hnn
  have qb : q.bk = r.bk ++ [x] := by rw [hq]
  have qt : q.tg = r.tg := by rw [hq]; rfl
  have k2 : Hd L q.i (sg 123 :: (tkL b.l ++ (tkT b.t ++ (sg 125 :: l)))) := by rw [qi]; exact k1.2
  obtain ⟨t4, _, _⟩ := took_mv k2 (k := 3) (s := st [123]) (by decide) (isB_same qe k2 rfl rfl)
  have eBody : bodyR L r = mv q (q.i + 1) q.vs := by
    unfold bodyR
    rw [eN, t2, ← hx]
    have : ({ mv (mv r (r.i + 1) r.vs) ((mv r (r.i + 1) r.vs).i + 1) (mv r (r.i + 1) r.vs).vs with bk := (mv (mv r (r.i + 1) r.vs) ((mv r (r.i + 1) r.vs).i + 1) (mv r (r.i + 1) r.vs).vs).bk ++ [x] } : R) = q := by rw [hq]; rfl
    rw [this, t4]
  have k3 : Hd L (mv q (q.i + 1) q.vs).i (tkL b.l ++ (tkT b.t ++ (sg 125 :: l))) := k2.2
  obtain ⟨a1, a2⟩ := sts_hd (V := V) b.l L.length (r := mv q (q.i + 1) q.vs) (fun s hs => ⟨hb.2 s hs, hv.1 s hs⟩) qe k3 (by show Vg V q.vs; rw [qv]; exact g) (by show q.n + (b.l.length : Int) ≤ 512; omega) hLl
  obtain ⟨p, hp⟩ : ∃ p, p = stsR L L.length (mv q (q.i + 1) q.vs) := ⟨_, rfl⟩
  have eEnd : endR L r = p := by unfold endR; rw [eBody, hp]
  rw [← hp] at a1
  have pi : p.i = q.i + 1 + (tkL b.l).length := by rw [a1]; rfl
  have pe : p.e = 0 := by rw [a1]; exact qe
  have pn : p.n = n + b.l.length := by rw [a1]; show q.n + (b.l.length : Int) = _; omega
  have pv : Vg V p.vs := by rw [a1]; exact Vg.stmts (by show Vg V q.vs; rw [qv]; exact g) hv.1
  have pb : p.bk = r.bk ++ [x] := by rw [a1]; exact qb
  have pt : p.tg = r.tg := by rw [a1]; exact qt
  have k4 : Hd L p.i (tkT b.t ++ (sg 125 :: l)) := by rw [pi]; exact (hd_app k3).2
  obtain ⟨tg', c1, c2, c3⟩ := term_hd hb.1.2 pe k4 pv hv.2
  have k5 : Hd L (mvt p (p.i + (tkT b.t).length) (vsO p.vs b.t.x.v) tg').i (sg 125 :: l) := (hd_app k4).2
  obtain ⟨t5, _, _⟩ := took_mv k5 (k := 3) (s := st [125]) (by decide) (isB_same (r := mvt p (p.i + (tkT b.t).length) (vsO p.vs b.t.x.v) tg') pe k5 rfl rfl)
  have eR : blockR L r = mvt p (p.i + (tkT b.t).length + 1) (vsO p.vs b.t.x.v) tg' := by unfold blockR; rw [eEnd, c1, t5]; rfl
  refine ⟨?_, ?_⟩
  · unfold blockB blockN varS
    rw [eN, t3, eBody, a2, eEnd, c2]; rfl
  · rw [eR]
    refine ⟨pe, ?_, ?_, pv.opt hv.2, ?_, ?_⟩
    · show p.i + (tkT b.t).length + 1 = _
      rw [pi, qi]
      simp only [List.length_cons, List.length_append, List.length_nil]; omega
    · show p.n = _
      rw [pn]; omega
    · show p.bk.map Tk.Tok.s = _
      rw [pb, List.map_append, hbk, List.map_cons, hx, t3]; rfl
    · show tg'.map Tk.Tok.s = _
      rw [c3, pt, htg]

theorem blks_hd {m : T3} (hm : m.k = 0) : ∀ (P : List Bl) (k : Nat) {r : R} {i n : Nat} {bk tg : List ByteArray}, (∀ b ∈ P, Pr.blockB b = true ∧ InB V b ∧ b.l.length ≤ L.length) → Rd V r i n bk tg → Hd L i (tkP P ++ [m]) →
    n + Pr.stmtsOf P ≤ 512 → bk.length + P.length ≤ 128 → P.length ≤ k →
    blksL L k r = P.map toBk ∧ Rd V (blksR L k r) (i + (tkP P).length) (n + Pr.stmtsOf P) (bk ++ P.map Bl.n) (tg ++ P.flatMap fun b => targets b.t)
  | [], k, r, i, n, bk, tg, hP, hr, h, hn, hb, hk => by
    have hx : isB L r 0 (st []) = true := isB_any hr.e (by rw [hr.i]; exact h) hm
    have hs := blks_stop (L := L) k (.inr hx)
    rw [hs.1, hs.2]
    refine ⟨rfl, ?_⟩
    simp only [List.map_nil, List.flatMap_nil, List.append_nil]
    exact hr
  | b :: P, k, r, i, n, bk, tg, hP, hr, h, hn, hb, hk => by
    obtain ⟨k, rfl⟩ : ∃ j, k = j + 1 := ⟨k - 1, by rw [List.length_cons] at hk; omega⟩
    have e : tkP (b :: P) = tkB b ++ tkP P := rfl
    have es : Pr.stmtsOf (b :: P) = b.l.length + Pr.stmtsOf P := by unfold Pr.stmtsOf; rw [List.map_cons, List.sum_cons]
    rw [List.length_cons] at hb hk
    rw [e, List.append_assoc] at h
    obtain ⟨b1, b2, b3⟩ := hP b (by simp)
    have hne : isB L r 0 (st []) = false := by
      refine isB_ne (x := ⟨4, blockS, 0⟩) (l := (⟨1, b.n, 0⟩ :: sg 123 :: (tkL b.l ++ (tkT b.t ++ [sg 125]))) ++ (tkP P ++ [m])) ?_ _ (by show (4 : Int) ≠ 0; decide)
      rw [hr.i]; exact h
    obtain ⟨a1, a2⟩ := block_hd b1 hr h b2 (by omega) (by omega) b3
    obtain ⟨s1, s2⟩ := blks_step (L := L) k hr.e hne
    have h2 := (hd_app h).2
    obtain ⟨c1, c2⟩ := blks_hd hm P k (fun u hu => hP u (by simp [hu])) a2 h2 (by omega) (by rw [List.length_append, List.length_cons, List.length_nil]; omega) (by omega)
    rw [s1, s2, a1, c1]
    refine ⟨rfl, ?_⟩
    rw [e, es, List.length_append, List.map_cons, List.flatMap_cons]
    have := c2
    simp only [List.append_assoc, List.cons_append, List.nil_append] at this
    rw [← Nat.add_assoc, ← Nat.add_assoc]
    exact this
end

end Go.Proofs.Ytmnplnhblniimaa.Gr

namespace Go.Proofs.Ytmnplnhblniimaa.Gr
set_option linter.unusedVariables false
set_option linter.unusedSimpArgs false
open Go Tk Pr

theorem empty_size {s : ByteArray} (h : s.size = 0) : emptyB s = true := by
  have : s = st [] := ByteArray.ext (Array.eq_empty_of_size_eq_zero h)
  rw [this]; exact empty0
theorem putS_sub {T : List ByteArray} {s x : ByteArray} (h : x ∈ T) : x ∈ putS T s := by
  unfold putS
  split
  · exact h
  · split
    · exact h
    · rw [← List.take_append_drop (posS T s) T] at h
      rcases List.mem_append.1 h with h | h
      · exact List.mem_append_left _ h
      · exact List.mem_append_right _ (List.mem_cons_of_mem _ h)
theorem putS_in (T : List ByteArray) (s : ByteArray) : In (putS T s) s := by
  unfold putS
  split
  · rename_i h; exact .inl (empty_size h)
  · split
    · rename_i h; exact .inr (List.mem_of_getElem? h)
    · exact .inr (List.mem_append_right _ (List.mem_cons_self ..))
theorem In.mono {V W : List ByteArray} {v : ByteArray} (h : In V v) (hs : ∀ x ∈ V, x ∈ W) : In W v := h.imp id (hs v)
theorem stVars_sub (l : List St) (T : List ByteArray) : ∀ k, ∀ x ∈ T, x ∈ stVars l T k
  | 0, x, hx => hx
  | k + 1, x, hx => by
    have ih := stVars_sub l T k x hx
    simp only [stVars]
    split
    · exact putS_sub (putS_sub (putS_sub ih))
    · exact ih
theorem stVars_in (l : List St) (T : List ByteArray) : ∀ k, ∀ j s, j < k → l[j]? = some s → InS (stVars l T k) s
  | 0, j, s, hj, _ => by omega
  | k + 1, j, s, hj, hs => by
    simp only [stVars]
    by_cases hjk : j = k
    · subst hjk
      rw [hs]
      exact ⟨(putS_in _ _).mono (fun x hx => putS_sub (putS_sub hx)), (putS_in _ _).mono (fun x hx => putS_sub hx), putS_in _ _⟩
    · obtain ⟨a, b, c⟩ := stVars_in l T k j s (by omega) hs
      split
      · exact ⟨a.mono (fun x hx => putS_sub (putS_sub (putS_sub hx))), b.mono (fun x hx => putS_sub (putS_sub (putS_sub hx))), c.mono (fun x hx => putS_sub (putS_sub (putS_sub hx)))⟩
      · exact ⟨a, b, c⟩
theorem InB.mono {V W : List ByteArray} {b : Bl} (h : InB V b) (hs : ∀ x ∈ V, x ∈ W) : InB W b := ⟨fun s hs2 => ⟨(h.1 s hs2).1.mono hs, (h.1 s hs2).2.1.mono hs, (h.1 s hs2).2.2.mono hs⟩, h.2.mono hs⟩
theorem blVars_in (P : List Bl) : ∀ k, ∀ j b, j < k → P[j]? = some b → InB (blVars P k) b
  | 0, j, b, hj, _ => by omega
  | k + 1, j, b, hj, hb => by
    simp only [blVars]
    by_cases hjk : j = k
    · subst hjk
      rw [hb]
      refine ⟨fun s hs => ?_, putS_in _ _⟩
      obtain ⟨m, hm⟩ := List.mem_iff_getElem?.1 hs
      obtain ⟨x, y, z⟩ := stVars_in b.l (blVars P j) b.l.length m s (List.getElem?_eq_some_iff.1 hm).1 hm
      exact ⟨x.mono (fun x hx => putS_sub hx), y.mono (fun x hx => putS_sub hx), z.mono (fun x hx => putS_sub hx)⟩
    · have ih := blVars_in P k j b (by omega) hb
      split
      · exact ih.mono (fun x hx => putS_sub (stVars_sub _ _ _ x hx))
      · exact ih

/-! What a proper program is. -/
theorem check_zero {P : List Bl} (h : checkOf P = 0) : P.length ≠ 0 ∧ P.length ≤ 128 ∧ stmtsOf P ≤ 512 ∧ P.all Pr.blockB = true ∧ (vars P).length ≤ 64 ∧ twiceB P P.length = false ∧ P.any (badEnd P) = false := by
  unfold checkOf at h
  split at h
  · exact absurd h (by decide)
  · rename_i h1
    split at h
    · exact absurd h (by decide)
    · rename_i h2
      split at h
      · exact absurd h (by decide)
      · rename_i h3
        split at h
        · exact absurd h (by decide)
        · rename_i h4
          split at h
          · exact absurd h (by decide)
          · rename_i h5
            exact ⟨by omega, by omega, by omega, by simpa using h2, by omega, by simpa using h4, by simpa using h5⟩
theorem twice_no {P : List Bl} (h : twiceB P P.length = false) {k : Nat} (hk : k < P.length) : Pr.hasN P k (P[k]'hk).n = false := by
  unfold twiceB at h
  rw [List.any_eq_false] at h
  have := h k (List.mem_range.2 hk)
  rw [List.getElem?_eq_getElem hk] at this
  simpa using this

theorem names_none (bk : List Tok) (h : ∀ (j : Nat) (t : Tok), bk[j]? = some t → hasT (bk.take j) t.s = false) : ∀ k, namesN bk k = (0, 0)
  | 0 => rfl
  | k + 1 => by
    have ih := names_none bk h k
    unfold namesN
    cases hq : bk[k]? with
    | none => exact ih
    | some t =>
      simp only
      rw [h k t hq, ih]; rfl
theorem tgt_none (bk tg : List Tok) (a : Int × Int) (h : ∀ t ∈ tg, hasT bk t.s = true) : ∀ k, tgtN bk tg a k = a
  | 0 => rfl
  | k + 1 => by
    have ih := tgt_none bk tg a h k
    unfold tgtN
    cases hq : tg[k]? with
    | none => exact ih
    | some t =>
      simp only
      rw [h t (List.mem_of_getElem? hq), ih]; rfl

theorem hd_map {L : List Tok} : ∀ (l p m : List T3), L.map Tk.pr = p ++ l ++ m → Hd L p.length l
  | [], _, _, _ => trivial
  | x :: l, p, m, h => by
    refine ⟨?_, ?_⟩
    · have h1 : (L.map Tk.pr)[p.length]? = some x := by rw [h]; simp
      rw [List.getElem?_map] at h1
      cases hq : L[p.length]? with
      | none => rw [hq] at h1; cases h1
      | some t => rw [hq] at h1; exact ⟨t, rfl, by simpa using h1⟩
    · have := hd_map l (p ++ [x]) m (by rw [h]; simp)
      rw [List.length_append] at this
      exact this
theorem tkS_len (s : St) : 1 ≤ (tkS s).length := by
  unfold tkS
  split
  · simp
  · split <;> simp
theorem tkL_len (l : List St) : l.length ≤ (tkL l).length := by
  induction l with
  | nil => exact Nat.le_refl _
  | cons s l ih => have := tkS_len s; show l.length + 1 ≤ (tkS s ++ tkL l).length; rw [List.length_append]; omega
theorem tkP_len : ∀ (P : List Bl), P.length ≤ (tkP P).length ∧ ∀ b ∈ P, b.l.length ≤ (tkP P).length
  | [] => ⟨Nat.le_refl _, fun b hb => by cases hb⟩
  | c :: P => by
    obtain ⟨h1, h2⟩ := tkP_len P
    have hc : c.l.length + 1 ≤ (tkB c).length := by
      have := tkL_len c.l
      unfold tkB
      simp only [List.length_cons, List.length_append]; omega
    have e : (tkP (c :: P)).length = (tkB c).length + (tkP P).length := by show (tkB c ++ tkP P).length = _; rw [List.length_append]
    rw [e]
    refine ⟨by rw [List.length_cons]; omega, fun b hb => ?_⟩
    rcases List.mem_cons.1 hb with rfl | hb
    · omega
    · have := h2 b hb; omega

/-- The reader, on the tokens of a proper program. -/
theorem read_prog {P : List Bl} (hc : checkOf P = 0) {L : List Tok} {z : Int} {l' : List Tok} (hL : L = l' ++ [⟨0, z, bs [], 0⟩]) (hl : l'.map Tk.pr = tkP P) : allL L = P.map toBk ∧ (parseL L).1 = 0 := by
  obtain ⟨c0, c1, c2, c3, c4, c5, c6⟩ := check_zero hc
  have hm : L.map Tk.pr = [] ++ (tkP P ++ [⟨0, bs [], 0⟩]) ++ [] := by rw [hL, List.map_append, hl]; simp; rfl
  have hd := hd_map _ _ _ hm
  have hlen : L.length = (tkP P).length + 1 := by rw [hL, List.length_append, ← hl, List.length_map]; rfl
  obtain ⟨k1, k2⟩ := tkP_len P
  have hin : ∀ b ∈ P, InB (vars P) b := fun b hb => by
    obtain ⟨j, hj⟩ := List.mem_iff_getElem?.1 hb
    exact blVars_in P P.length j b (List.getElem?_eq_some_iff.1 hj).1 hj
  have hall : ∀ b ∈ P, Pr.blockB b = true := fun b hb => List.all_eq_true.1 c3 b hb
  have hr0 : Rd (vars P) r0 0 0 [] [] := ⟨rfl, rfl, rfl, ⟨c4, List.nodup_nil, fun x hx => by cases hx⟩, rfl, rfl⟩
  have main : allL L = P.map toBk ∧ ∃ i n, Rd (vars P) (allR L) i n (P.map Bl.n) (P.flatMap fun b => targets b.t) := by
    obtain ⟨b, P', rfl⟩ : ∃ b P', P = b :: P' := by cases P with | nil => exact absurd rfl c0 | cons b P' => exact ⟨b, P', rfl⟩
    have es : Pr.stmtsOf (b :: P') = b.l.length + Pr.stmtsOf P' := by unfold Pr.stmtsOf; rw [List.map_cons, List.sum_cons]
    have et : tkP (b :: P') = tkB b ++ tkP P' := rfl
    rw [et, List.append_assoc] at hd
    obtain ⟨a1, a2⟩ := block_hd (V := vars (b :: P')) (hall b (by simp)) hr0 hd (hin b (by simp)) (by omega) (by decide) (by have := k2 b (by simp); omega)
    have h2 := (hd_app hd).2
    rw [List.length_cons] at c1 k1
    obtain ⟨d1, d2⟩ := blks_hd (V := vars (b :: P')) (m := ⟨0, bs [], 0⟩) rfl P' L.length (fun u hu => ⟨hall u (by simp [hu]), hin u (by simp [hu]), by have := k2 u (by simp [hu]); omega⟩) a2 h2 (by omega) (by rw [List.length_append]; simp only [List.length_cons, List.length_nil]; omega) (by omega)
    refine ⟨?_, _, _, d2⟩
    unfold allL
    rw [a1, d1]; rfl
  obtain ⟨m1, i, n, m2⟩ := main
  refine ⟨m1, ?_⟩
  unfold parseL
  rw [if_pos m2.e]
  unfold namedE
  have hbk := m2.bk
  have htg := m2.tg
  generalize (allR L).bk = bk at hbk
  generalize (allR L).tg = tg at htg
  have hlb : bk.length = P.length := by have := congrArg List.length hbk; simpa using this
  rw [names_none bk (fun j t ht => ?_), tgt_none bk tg _ (fun t ht => ?_)]
  · rw [hasT_map, hbk]
    have h1 : t.s ∈ P.flatMap fun b => targets b.t := by rw [← htg]; exact List.mem_map_of_mem ht
    obtain ⟨b, hb, hbt⟩ := List.mem_flatMap.1 h1
    have hbad : badEnd P b = false := by rw [List.any_eq_false] at c6; simpa using c6 b hb
    unfold badEnd at hbad
    have hn : ∀ x, Pr.hasN P P.length x = (P.map Bl.n).any fun y => decide (y = x) := fun x => by rw [hasN_map, List.take_of_length_le (by simp)]
    rw [hn, hn] at hbad
    simp only [Bool.or_eq_false_iff, Bool.and_eq_false_iff, Bool.not_eq_false'] at hbad
    unfold targets at hbt
    split at hbt
    · rename_i q
      obtain h9 := List.mem_singleton.1 hbt
      rw [h9]
      rcases hbad.1 with ⟨h, _⟩ | h
      · rw [q] at h; exact absurd h (by decide)
      · exact h
    · split at hbt
      · rename_i q1 q
        simp only [List.mem_cons, List.not_mem_nil, or_false] at hbt
        rcases hbt with h9 | h9
        · rw [h9]
          rcases hbad.1 with ⟨_, h⟩ | h
          · rw [q] at h; exact absurd h (by decide)
          · exact h
        · rw [h9]
          rcases hbad.2 with h | h
          · rw [q] at h; exact absurd h (by decide)
          · exact h
      · cases hbt
  · have hj : j < P.length := by have := (List.getElem?_eq_some_iff.1 ht).1; omega
    rw [hasT_map, List.map_take, hbk]
    have e : t.s = (P[j]'hj).n := by
      have h1 : (bk.map Tk.Tok.s)[j]? = (P.map Bl.n)[j]? := by rw [hbk]
      rw [List.getElem?_map, List.getElem?_map, ht, List.getElem?_eq_getElem hj] at h1
      simpa using h1
    rw [e, ← hasN_map]
    exact twice_no c5 hj

/-- What is printed is parsed as it was. -/
theorem parse_prog {P : List Bl} (hc : checkOf P = 0) (hs : (progT P).size ≤ 16384) : parse (progT P) = (P.map toBk, 0, 0) := by
  obtain ⟨c0, c1, c2, c3, c4, c5, c6⟩ := check_zero hc
  obtain ⟨l', h1, h2⟩ := scan_prog c3
  have ho : Tk.ofText (progT P) = ⟨l' ++ [⟨0, ((progT P).size : Nat), bs [], 0⟩], 0, 0⟩ := by unfold Tk.ofText; rw [if_neg (by omega)]; exact h1
  obtain ⟨m1, m2⟩ := read_prog hc (L := l' ++ [⟨0, ((progT P).size : Nat), bs [], 0⟩]) rfl h2
  have hP : parse (progT P) = if (Tk.ofText (progT P)).e = 0 then (if (parseL (Tk.ofText (progT P)).l).1 = 0 then (allL (Tk.ofText (progT P)).l, 0, 0) else ([], parseL (Tk.ofText (progT P)).l)) else ([], (Tk.ofText (progT P)).e, (Tk.ofText (progT P)).pos) := rfl
  rw [hP, ho]
  simp only [if_true]
  rw [if_pos m2, m1]
/-- Unlike programs have unlike texts. -/
theorem progT_inj {P Q : List Bl} (hP : checkOf P = 0) (hQ : checkOf Q = 0) (h : progT P = progT Q) : P.map toBk = Q.map toBk := by
  obtain ⟨l1, a1, a2⟩ := scan_prog (check_zero hP).2.2.2.1
  obtain ⟨l2, b1, b2⟩ := scan_prog (check_zero hQ).2.2.2.1
  rw [h] at a1
  rw [a1] at b1
  injection b1 with e1
  have e2 : l1 = l2 := List.append_cancel_right e1
  subst e2
  have x := (read_prog hP (L := l1 ++ [⟨0, 0, bs [], 0⟩]) rfl a2).1
  have y := (read_prog hQ (L := l1 ++ [⟨0, 0, bs [], 0⟩]) rfl b2).1
  exact x.symm.trans y
theorem linP_of : ∀ {P Q : List Bl}, P.map toBk = Q.map toBk → linP P = linP Q
  | [], [], _ => rfl
  | [], _ :: _, h => by simp at h
  | _ :: _, [], h => by simp at h
  | x :: P, y :: Q, h => by
    simp only [List.map_cons, List.cons.injEq] at h
    have h1 : x.n = y.n := congrArg Bk.n h.1
    have h2 : x.l = y.l := congrArg Bk.l h.1
    have h3 : x.t = y.t := congrArg Bk.t h.1
    show linB x ++ linP P = linB y ++ linP Q
    rw [linP_of h.2]
    unfold linB
    rw [h1, h2, h3]
theorem progT_of {P Q : List Bl} (h : P.map toBk = Q.map toBk) : progT P = progT Q := by rw [progT_lin, progT_lin, linP_of h]

end Go.Proofs.Ytmnplnhblniimaa.Gr
