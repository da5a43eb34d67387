/- PLAIN: places in lists; the variables and sites of programs. -/
import Derived.Test.YtjjmoibnmdbpeaaOrd
import Derived.Test.YtjjmoibnmdbpeaaPgm
import Derived.Test.YtjjmoibnmdbpeaaGaussc
namespace Go.Proofs.Ytjjmoibnmdbpeaa.Pr
set_option linter.unusedVariables false
set_option linter.unusedSimpArgs false
open Go

/-- The first place of x in a list; -1: there is none. -/
def idx {α : Type} [DecidableEq α] : List α → α → Int
  | [], _ => -1
  | y :: L, x => if y = x then 0 else if idx L x < 0 then -1 else idx L x + 1

theorem idx_hit {α : Type} [DecidableEq α] {x : α} : ∀ {L : List α} {k : Nat}, (∀ j, j < k → L[j]? ≠ some x) → L[k]? = some x → idx L x = k
  | [], _, _, h => by simp at h
  | y :: L, 0, _, h => by
    have e : y = x := by simpa using h
    simp [idx, e]
  | y :: L, k + 1, h0, h => by
    have e : y ≠ x := by simpa using h0 0 (by omega)
    have ih := idx_hit (L := L) (k := k) (fun j hj => by simpa using h0 (j + 1) (by omega)) (by simpa using h)
    have : ¬ ((k : Int) < 0) := by omega
    simp [idx, e, ih, this]

theorem idx_none {α : Type} [DecidableEq α] {x : α} : ∀ {L : List α}, (∀ j, j < L.length → L[j]? ≠ some x) → idx L x = -1
  | [], _ => rfl
  | y :: L, h0 => by
    have e : y ≠ x := by simpa using h0 0 (by simp)
    have ih := idx_none (L := L) (x := x) (fun j hj => by simpa using h0 (j + 1) (by simp; omega))
    simp [idx, e, ih]

theorem idx_mem {α : Type} [DecidableEq α] {x : α} : ∀ {L : List α}, 0 ≤ idx L x ↔ x ∈ L
  | [] => by simp [idx]
  | y :: L => by
    have ih := idx_mem (L := L) (x := x)
    by_cases e : y = x
    · simp [idx, e]
    · have e' : ¬ x = y := fun h => e h.symm
      simp only [idx, e, if_false, List.mem_cons, e', false_or]
      rw [← ih]
      split <;> omega

theorem idx_range {α : Type} [DecidableEq α] (x : α) : ∀ (L : List α), -1 ≤ idx L x ∧ idx L x < L.length
  | [] => by simp [idx]
  | y :: L => by
    have ih := idx_range x L
    simp only [idx, List.length_cons]
    split
    · omega
    · split <;> omega

/-! Variables. -/
def stVars (l : List St) (T : List ByteArray) : Nat → List ByteArray
  | 0 => T
  | k + 1 => match l[k]? with
    | some s => putS (putS (putS (stVars l T k) s.v) s.e.x.v) s.e.y.v
    | none => stVars l T k
def blVars (P : List Bl) : Nat → List ByteArray
  | 0 => []
  | i + 1 => match P[i]? with
    | some b => putS (stVars b.l (blVars P i) b.l.length) b.t.x.v
    | none => blVars P i
def vars (P : List Bl) : List ByteArray := blVars P P.length

theorem putS_len (T : List ByteArray) (s : ByteArray) : (putS T s).length ≤ T.length + 1 := by
  unfold putS
  split
  · omega
  · split
    · omega
    · have := posS_le T s
      simp only [List.length_append, List.length_cons, List.length_take, List.length_drop]
      omega
theorem stVars_len (l : List St) (T : List ByteArray) : ∀ k, (stVars l T k).length ≤ T.length + 3 * k
  | 0 => by simp [stVars]
  | k + 1 => by
    have ih := stVars_len l T k
    simp only [stVars]
    split
    · rename_i s _
      have h1 := putS_len (stVars l T k) s.v
      have h2 := putS_len (putS (stVars l T k) s.v) s.e.x.v
      have h3 := putS_len (putS (putS (stVars l T k) s.v) s.e.x.v) s.e.y.v
      omega
    · omega
theorem stVars_rise {l : List St} {T : List ByteArray} (h : Rise T) : ∀ k, Rise (stVars l T k)
  | 0 => h
  | k + 1 => by
    have ih := stVars_rise (l := l) h k
    simp only [stVars]
    split
    · exact putS_rise (putS_rise (putS_rise ih _) _) _
    · exact ih
theorem blVars_rise (P : List Bl) : ∀ i, Rise (blVars P i)
  | 0 => List.Pairwise.nil
  | i + 1 => by
    have ih := blVars_rise P i
    simp only [blVars]
    split
    · exact putS_rise (stVars_rise ih _) _
    · exact ih
theorem blVars_len {P : List Bl} (h : ∀ b ∈ P, b.l.length ≤ 12) : ∀ i, (blVars P i).length ≤ 37 * i
  | 0 => by simp [blVars]
  | i + 1 => by
    have ih := blVars_len h i
    simp only [blVars]
    split
    · rename_i b hb
      have h1 := stVars_len b.l (blVars P i) b.l.length
      have h2 := putS_len (stVars b.l (blVars P i) b.l.length) b.t.x.v
      have h3 := h b (List.mem_of_getElem? hb)
      omega
    · omega

/-! Sites. -/
structure Si where
  b : Int
  k : Int
  v : ByteArray
deriving DecidableEq, Inhabited
def Si.cs (s : Si) : List Value := [.int .i64 s.b, .int .i64 s.k, .string s.v]
theorem Si.cs_len (s : Si) : s.cs.length = 3 := rfl

def siteOf (i k : Nat) (s : St) : List Si := if s.k = 1 ∨ s.k = 2 then [⟨i, k, s.v⟩] else []
def stSites (i : Nat) (l : List St) : Nat → List Si
  | 0 => []
  | k + 1 => stSites i l k ++ match l[k]? with | some s => siteOf i k s | none => []
def blSites (P : List Bl) : Nat → List Si
  | 0 => []
  | i + 1 => blSites P i ++ match P[i]? with | some b => stSites i b.l b.l.length | none => []
def sitesOf (P : List Bl) : List Si := (vars P).map (fun v => ⟨-1, 0, v⟩) ++ blSites P P.length

theorem stSites_mem {i : Nat} {l : List St} {x : Si} : ∀ {n : Nat}, x ∈ stSites i l n → x.b = i ∧ ∃ k : Nat, k < l.length ∧ x.k = k
  | 0, h => by simp [stSites] at h
  | n + 1, h => by
    simp only [stSites, List.mem_append] at h
    rcases h with h | h
    · exact stSites_mem h
    · split at h
      · rename_i s hs
        have hlt := (List.getElem?_eq_some_iff.1 hs).1
        unfold siteOf at h
        split at h
        · simp at h; subst h; exact ⟨rfl, n, hlt, rfl⟩
        · simp at h
      · simp at h
theorem blSites_mem {P : List Bl} {x : Si} : ∀ {n : Nat}, x ∈ blSites P n → ∃ (i : Nat) (b : Bl) (k : Nat), P[i]? = some b ∧ x.b = i ∧ k < b.l.length ∧ x.k = k
  | 0, h => by simp [blSites] at h
  | n + 1, h => by
    simp only [blSites, List.mem_append] at h
    rcases h with h | h
    · exact blSites_mem h
    · split at h
      · rename_i b hb
        obtain ⟨h1, k, h2, h3⟩ := stSites_mem h
        exact ⟨n, b, k, hb, h1, h2, h3⟩
      · simp at h
theorem stSites_len (i : Nat) (l : List St) : ∀ n, (stSites i l n).length ≤ n
  | 0 => by simp [stSites]
  | n + 1 => by
    have ih := stSites_len i l n
    simp only [stSites, List.length_append]
    split
    · unfold siteOf; split <;> simp <;> omega
    · simp; omega
theorem blSites_len {P : List Bl} (h : ∀ b ∈ P, b.l.length ≤ 12) : ∀ n, (blSites P n).length ≤ 12 * n
  | 0 => by simp [blSites]
  | n + 1 => by
    have ih := blSites_len h n
    simp only [blSites, List.length_append]
    split
    · rename_i b hb
      have h1 := stSites_len n b.l b.l.length
      have h3 := h b (List.mem_of_getElem? hb)
      omega
    · simp; omega

/-- Site names. -/
def digS (n : Nat) : ByteArray := ⟨(digN n).toArray⟩
def startS : ByteArray := ⟨#[64, 115, 116, 97, 114, 116]⟩
def nameOf (P : List Bl) (s : Si) : ByteArray :=
  if s.b = -1 then s.v ++ startS else
  if s ∈ sitesOf P then s.v ++ ⟨#[64]⟩ ++ (P.getD s.b.toNat default).n ++ ⟨#[46]⟩ ++ digS s.k.toNat else ⟨#[]⟩

end Go.Proofs.Ytjjmoibnmdbpeaa.Pr
