/- What a token is that has a text; how many tokens a text has: plain. -/
import Derived.Test.YtmnplnhblniimaaTokb
namespace Go.Proofs.Ytmnplnhblniimaa.Tk
set_option linter.unusedVariables false
set_option linter.unusedSimpArgs false
open Go

theorem scan_len (s : ByteArray) : ∀ (n i : Nat) (out : List Tok), i ≤ s.size → (scan s n i out).l.length ≤ out.length + (s.size - i) + 1
  | 0, i, out, hi => by simp [scan]
  | n + 1, i, out, hi => by
    simp only [scan]
    split
    · simp
    · rename_i j hj
      have hs := stepAt_skip hj
      have := scan_len s n j out hs.2
      omega
    · simp
    · rename_i t ht
      have hs := stepAt_tok ht
      have := scan_len s n (i + t.s.size) (out ++ [t]) (by omega)
      simp only [List.length_append, List.length_cons, List.length_nil] at this
      omega

theorem ofText_len (s : ByteArray) : (ofText s).l.length ≤ s.size + 1 := by
  rw [ofText]
  split
  · simp
  · have := scan_len s (s.size + 1) 0 [] (Nat.zero_le _)
    simpa using this

/-- Whether a text is just one token, of that kind and number. -/
def hasB (kind n : Int) (s : ByteArray) : Bool :=
  match (ofText s).e == 0, (ofText s).l with
  | true, [t, _] => t.kind == kind && (t.n == n && (t.s.toList == s.toList))
  | _, _ => false

def showS (kind n : Int) (s : ByteArray) : ByteArray := if hasB kind n s then s else ⟨#[]⟩

theorem has_cases (kind n : Int) (s : ByteArray) :
    ((ofText s).e == 0) = false ∧ hasB kind n s = false ∨
    ((ofText s).e == 0) = true ∧ (((ofText s).l.length : Int) == 2) = false ∧ hasB kind n s = false ∨
    ∃ t t2, ((ofText s).e == 0) = true ∧ (ofText s).l = [t, t2] ∧
      ((t.kind == kind) = false ∧ hasB kind n s = false ∨ (t.kind == kind) = true ∧ (t.n == n) = false ∧ hasB kind n s = false ∨
       (t.kind == kind) = true ∧ (t.n == n) = true ∧ (t.s.toList == s.toList) = false ∧ hasB kind n s = false ∨
       (t.kind == kind) = true ∧ (t.n == n) = true ∧ (t.s.toList == s.toList) = true ∧ hasB kind n s = true) := by
  cases he : ((ofText s).e == 0)
  · exact .inl ⟨rfl, by simp [hasB, he]⟩
  right
  cases hl : (((ofText s).l.length : Int) == 2)
  · refine .inl ⟨rfl, rfl, ?_⟩
    rw [hasB, he]
    split
    · rename_i t2 _ h
      rw [h] at hl
      simp at hl
    · rfl
  right
  have hl2 : (ofText s).l.length = 2 := by have := (beq_iff_eq).1 hl; omega
  match hm : (ofText s).l, hl2 with
  | [t, t2], _ =>
    refine ⟨t, t2, rfl, rfl, ?_⟩
    have e : hasB kind n s = (t.kind == kind && (t.n == n && (t.s.toList == s.toList))) := by rw [hasB, he, hm]
    rw [e]
    cases (t.kind == kind) <;> cases (t.n == n) <;> cases (t.s.toList == s.toList) <;> simp

end Go.Proofs.Ytmnplnhblniimaa.Tk
