/- THE TOKENS OF A TEXT, as a plain function: what token.Of and soughref02.Of both compute. No program in sight. -/
import Derived.WalkKit
namespace Go.Proofs.Ytjjmoibnmdbpeaa.Tk
set_option linter.unusedVariables false
open Go

/-- A byte of a text, as a number. -/
def byt (s : ByteArray) (i : Nat) : Int := ((s.get! i).toNat : Int)
theorem byt_nonneg (s : ByteArray) (i : Nat) : 0 ≤ byt s i := by unfold byt; omega
theorem byt_le (s : ByteArray) (i : Nat) : byt s i ≤ 255 := by
  have := (s.get! i).toNat_lt
  unfold byt; omega

def letterB (c : Int) : Bool := decide (97 ≤ c) && decide (c ≤ 122) || decide (65 ≤ c) && decide (c ≤ 90) || decide (c = 95)
def digitB (c : Int) : Bool := decide (48 ≤ c) && decide (c ≤ 57)
def blankB (c : Int) : Bool := decide (c = 32) || decide (c = 9) || decide (c = 10)
def signB (c : Int) : Bool := decide (c = 123) || decide (c = 125) || decide (c = 59) || decide (c = 61) || decide (c = 43) || decide (c = 45) || decide (c = 42) || decide (c = 40) || decide (c = 41) || decide (c = 44)
def alnumB (c : Int) : Bool := letterB c || digitB c

def bs (l : List UInt8) : ByteArray := ⟨l.toArray⟩
def words : List (List UInt8) := [[98,108,111,99,107], [103,111,116,111], [105,102], [116,104,101,110], [101,108,115,101], [114,101,116], [105,110], [111,117,116], [99,111,110,106]]
def wordB (s : ByteArray) : Bool := words.any fun w => s.toList == w

/-- Where a run of bytes of a kind ends, from a place on. -/
def runTo (p : Int → Bool) (s : ByteArray) (i : Nat) : Nat := if h : i < s.size ∧ p (byt s i) = true then runTo p s (i + 1) else i
termination_by s.size - i

theorem runTo_go {p : Int → Bool} {s : ByteArray} {i : Nat} (h : i < s.size) (hp : p (byt s i) = true) : runTo p s i = runTo p s (i + 1) := by
  rw [runTo, dif_pos ⟨h, hp⟩]
theorem runTo_stop {p : Int → Bool} {s : ByteArray} {i : Nat} (h : i < s.size → p (byt s i) = false) : runTo p s i = i := by
  rw [runTo, dif_neg]
  rintro ⟨h1, h2⟩
  rw [h h1] at h2; cases h2
theorem runTo_ge (p : Int → Bool) (s : ByteArray) (i : Nat) : i ≤ runTo p s i := by
  induction i using runTo.induct (p := p) (s := s) with
  | case1 i h ih => rw [runTo_go h.1 h.2]; omega
  | case2 i h => rw [runTo, dif_neg h]; exact Nat.le_refl _
theorem runTo_le (p : Int → Bool) (s : ByteArray) (i : Nat) (hi : i ≤ s.size) : runTo p s i ≤ s.size := by
  induction i using runTo.induct (p := p) (s := s) with
  | case1 i h ih => rw [runTo_go h.1 h.2]; exact ih h.1
  | case2 i h => rw [runTo, dif_neg h]; exact hi
theorem runTo_mem (p : Int → Bool) (s : ByteArray) (i j : Nat) (h1 : i ≤ j) (h2 : j < runTo p s i) : p (byt s j) = true := by
  induction i using runTo.induct (p := p) (s := s) with
  | case1 i h ih =>
    rw [runTo_go h.1 h.2] at h2
    by_cases e : i = j
    · subst e; exact h.2
    · exact ih (by omega) h2
  | case2 i h => rw [runTo, dif_neg h] at h2; omega

/-- A number of digits, not above 32769. -/
def numAt (s : ByteArray) (i : Nat) (n : Int) : Int := if h : i < s.size then numAt s (i + 1) (min (10 * n + byt s i - 48) 32769) else n
termination_by s.size - i
def num (s : ByteArray) : Int := numAt s 0 0

theorem numAt_go {s : ByteArray} {i : Nat} {n : Int} (h : i < s.size) : numAt s i n = numAt s (i + 1) (min (10 * n + byt s i - 48) 32769) := by rw [numAt, dif_pos h]
theorem numAt_end {s : ByteArray} {i : Nat} {n : Int} (h : ¬ i < s.size) : numAt s i n = n := by rw [numAt, dif_neg h]

/-- All bytes are digits. -/
def digits (s : ByteArray) : Prop := ∀ i, i < s.size → digitB (byt s i) = true
theorem digit_ge {c : Int} (h : digitB c = true) : 48 ≤ c ∧ c ≤ 57 := by simpa [digitB] using h
theorem numAt_top {s : ByteArray} (hd : digits s) : ∀ i, numAt s i 32769 = 32769 := by
  intro i
  induction h : s.size - i using Nat.strongRecOn generalizing i with
  | _ k ih =>
    by_cases hi : i < s.size
    · rw [numAt_go hi]
      have := digit_ge (hd i hi)
      have e : min (10 * 32769 + byt s i - 48) 32769 = 32769 := by omega
      rw [e]
      exact ih _ (by omega) (i + 1) rfl
    · exact numAt_end hi
theorem numAt_bounds {s : ByteArray} (hd : digits s) : ∀ i n, 0 ≤ n → n ≤ 32769 → 0 ≤ numAt s i n ∧ numAt s i n ≤ 32769 := by
  intro i
  induction h : s.size - i using Nat.strongRecOn generalizing i with
  | _ k ih =>
    intro n h0 h1
    by_cases hi : i < s.size
    · rw [numAt_go hi]
      have := digit_ge (hd i hi)
      exact ih _ (by omega) (i + 1) rfl _ (by omega) (by omega)
    · rw [numAt_end hi]; exact ⟨h0, h1⟩

structure Tok where
  kind : Int
  pos : Int
  s : ByteArray
  n : Int
deriving DecidableEq

def Tok.cells (t : Tok) : List Value := [.int .i64 t.kind, .int .i64 t.pos, .string t.s, .int .i64 t.n]
def cells (l : List Tok) : List Value := l.flatMap Tok.cells
theorem cells_snoc (l : List Tok) (t : Tok) : cells (l ++ [t]) = cells l ++ t.cells := by simp [cells]
theorem cells_length (l : List Tok) : (cells l).length = l.length * 4 := by
  induction l with
  | nil => rfl
  | cons t l ih => simp only [cells, List.flatMap_cons, List.length_append, List.length_cons] at ih ⊢; rw [ih]; simp [Tok.cells]; omega

/-- What is at a place: the text's end; something passed over; what is wrong; a token. -/
inductive Step where
  | stop
  | skip (i : Nat)
  | bad (e : Int)
  | tok (t : Tok)

def stepAt (s : ByteArray) (i : Nat) : Step :=
  if i < s.size then
    let c := byt s i
    if blankB c then .skip (i + 1)
    else if c = 35 then .skip (runTo (fun c => !decide (c = 10)) s i)
    else if letterB c then
      let w := s.extract i (runTo alnumB s i)
      if wordB w then .tok ⟨4, i, w, 0⟩ else if w.size > 12 then .bad 6 else .tok ⟨1, i, w, 0⟩
    else if digitB c then
      let w := s.extract i (runTo digitB s i)
      if num w > 32768 then .bad 6 else if w.size > 1 && decide (byt w 0 = 48) then .bad 3 else .tok ⟨2, i, w, num w⟩
    else if signB c then .tok ⟨3, i, s.extract i (i + 1), 0⟩
    else .bad 3
  else .stop

structure Res where
  l : List Tok
  e : Int
  pos : Int

/-- n: fuel. -/
def scan (s : ByteArray) : Nat → Nat → List Tok → Res
  | 0, _, _ => ⟨[], 99, 0⟩
  | n + 1, i, out => match stepAt s i with
    | .stop => ⟨out ++ [⟨0, i, bs [], 0⟩], 0, 0⟩
    | .skip j => scan s n j out
    | .bad e => ⟨[], e, i⟩
    | .tok t => scan s n (i + t.s.size) (out ++ [t])

def ofText (s : ByteArray) : Res := if s.size > 16384 then ⟨[], 6, 0⟩ else scan s (s.size + 1) 0 []

end Go.Proofs.Ytjjmoibnmdbpeaa.Tk
