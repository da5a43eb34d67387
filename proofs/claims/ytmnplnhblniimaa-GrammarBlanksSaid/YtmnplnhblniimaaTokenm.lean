/- The tokens of tokens shown with a blank behind each: what a loop over them adds. Plain. -/
import Derived.Test.YtmnplnhblniimaaTokenk
namespace Go.Proofs.Ytmnplnhblniimaa.Tk
set_option linter.unusedVariables false
set_option linter.unusedSimpArgs false
open Go

theorem scan_pos (s : ByteArray) : ∀ (n i : Nat) (out : List Tok), (scan s n i out).e = 0 → (scan s n i out).pos = 0
  | 0, i, out, h => by simp [scan] at h
  | n + 1, i, out, h => by
    simp only [scan] at h ⊢
    split at h
    · rfl
    · exact scan_pos s n _ out h
    · rename_i e he
      simp only at h
      subst h
      exfalso
      simp only [stepAt] at he
      repeat (first | (split at he) | cases he)
    · exact scan_pos s n _ _ h

theorem has_step {kind n : Int} {s : ByteArray} (h : hasB kind n s = true) (hs : s.size ≤ 16384) : stepAt s 0 = .tok ⟨kind, 0, s, n⟩ := by
  unfold hasB at h
  split at h
  · rename_i t t2 he hl
    simp only [Bool.and_eq_true, beq_iff_eq] at h
    obtain ⟨h1, h2, h3⟩ := h
    have he' : (ofText s).e = 0 := (beq_iff_eq).1 he
    have hp : (ofText s).pos = 0 := by
      rw [ofText, if_neg (by omega)] at he' ⊢
      exact scan_pos _ _ _ _ he'
    have hR : ofText s = ⟨[t, t2], 0, 0⟩ := by
      cases hq : ofText s
      rw [hq] at hl he' hp
      simp only at hl he' hp
      subst hl he' hp
      rfl
    have hts : t.s = s := by
      have a1 : t.s.data.toList = s.data.toList := by simpa [ByteArray.toList_eq] using h3
      exact ByteArray.ext (Array.ext' a1)
    have h4 := first_tok hR hts hs
    rw [h4]
    have h5 := (stepAt_tok h4).2.2
    congr 1
    cases t
    simp only at h1 h2 h5 hts
    subst h1 h2 h5 hts
    rfl
  · cases h

theorem joined_snoc (S : List Tok) (t : Tok) : joined (S ++ [t]) = joined S ++ (t.s ++ bs [32]) := by
  induction S with
  | nil =>
    show t.s ++ (bs [32] ++ bs []) = bs [] ++ (t.s ++ bs [32])
    have e1 : bs [32] ++ bs [] = bs [32] := rfl
    have e2 : ∀ x : ByteArray, bs [] ++ x = x := fun x => ByteArray.empty_append
    rw [e1, e2]
  | cons u S ih =>
    show u.s ++ (bs [32] ++ joined (S ++ [t])) = (u.s ++ (bs [32] ++ joined S)) ++ (t.s ++ bs [32])
    rw [ih, ByteArray.append_assoc, ByteArray.append_assoc]

theorem placed_snoc (S : List Tok) (t : Tok) : ∀ i : Nat, placed (S ++ [t]) i = placed S i ++ [{ t with pos := ((i + (joined S).size : Nat) : Int) }] := by
  induction S with
  | nil => intro i; simp [placed, joined, bs]; rfl
  | cons u S ih =>
    intro i
    have e : (joined (u :: S)).size = u.s.size + 1 + (joined S).size := by
      simp only [joined, ByteArray.size_append]
      have : (bs [32]).size = 1 := rfl
      omega
    simp only [List.cons_append, placed, ih, e]
    congr 4
    omega

theorem ofText_joined (S : List Tok) (h : ∀ t ∈ S, stepAt t.s 0 = .tok { t with pos := 0 }) (hs : (joined S).size ≤ 16384) :
    ofText (joined S) = ⟨placed S 0 ++ [⟨0, ((joined S).size : Nat), bs [], 0⟩], 0, 0⟩ := by
  rw [ofText, if_neg (by omega)]
  have := scan_joined S (bs []) [] ((joined S).size + 1) h (by omega)
  have e2 : ∀ x : ByteArray, bs [] ++ x = x := fun x => ByteArray.empty_append
  rw [e2] at this
  exact this

theorem placed_length (S : List Tok) (i : Nat) : (placed S i).length = S.length := by
  induction S generalizing i with
  | nil => rfl
  | cons t S ih => simp [placed, ih]

end Go.Proofs.Ytmnplnhblniimaa.Tk
