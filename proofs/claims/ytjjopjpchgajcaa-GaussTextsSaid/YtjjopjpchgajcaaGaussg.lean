/- THE WALK of the law GaussTexts: true, for any numbers and any word; with the plain laws on texts and words. -/
import Derived.Test.YtjjopjpchgajcaaGaussp
namespace Go.Proofs.Ytjjopjpchgajcaa
set_option linter.unusedVariables false
set_option linter.unusedSimpArgs false
open Go.RowKit Flo

theorem digN_digit (n : Nat) : ∀ c ∈ digN n, 48 ≤ c.toNat ∧ c.toNat ≤ 57 := by
  induction n using Nat.strongRecOn with
  | _ n ih =>
    rw [digN]
    split
    · rename_i h
      intro c hc
      simp only [List.mem_singleton] at hc
      subst hc
      rw [UInt8.toNat_ofNat']
      omega
    · intro c hc
      rcases List.mem_append.1 hc with hc | hc
      · exact ih (n / 10) (by omega) c hc
      · simp only [List.mem_singleton] at hc
        subst hc
        rw [UInt8.toNat_ofNat']
        omega

theorem digN_ne (n : Nat) : digN n ≠ [] := by
  rw [digN]; split <;> simp

/-- The number of digits, read back. -/
def undig (l : List UInt8) : Nat := l.foldl (fun a c => 10 * a + (c.toNat - 48)) 0

theorem undig_digN (n : Nat) : undig (digN n) = n := by
  induction n using Nat.strongRecOn with
  | _ n ih =>
    rw [digN]
    split
    · rename_i h
      simp only [undig, List.foldl_cons, List.foldl_nil, UInt8.toNat_ofNat']
      omega
    · have := ih (n / 10) (by omega)
      simp only [undig, List.foldl_append, List.foldl_cons, List.foldl_nil, UInt8.toNat_ofNat'] at this ⊢
      rw [this]
      omega

theorem digN_inj {m n : Nat} (h : digN m = digN n) : m = n := by rw [← undig_digN m, h, undig_digN]

theorem digs_char (n : Int) : ∀ c ∈ digs n, c ≠ 40 ∧ c ≠ 44 ∧ c ≠ 41 := by
  have key : ∀ m : Nat, ∀ c ∈ digN m, c ≠ 40 ∧ c ≠ 44 ∧ c ≠ 41 := fun m c hc => by
    have := digN_digit m c hc
    refine ⟨?_, ?_, ?_⟩ <;> (intro e; subst e; simp at this)
  unfold digs
  split
  · intro c hc
    rcases List.mem_cons.1 hc with rfl | hc
    · decide
    · exact key _ c hc
  · exact key _

theorem digs_inj {m n : Int} (h : digs m = digs n) : m = n := by
  have key : ∀ k : Nat, ∀ l, digN k ≠ 45 :: l := fun k l e => by
    have := digN_digit k 45 (by rw [e]; simp)
    simp at this
  unfold digs at h
  split at h <;> split at h
  · have := digN_inj (List.cons.inj h).2; omega
  · exact absurd h.symm (key _ _)
  · exact absurd h (key _ _)
  · have := digN_inj h; omega

/-- Two lists in front of a mark that neither holds. -/
theorem split_at {l m r s : List UInt8} {c : UInt8} (hl : ∀ x ∈ l, x ≠ c) (hm : ∀ x ∈ m, x ≠ c) (h : l ++ c :: r = m ++ c :: s) : l = m ∧ r = s := by
  induction l generalizing m with
  | nil =>
    cases m with
    | nil => simpa using h
    | cons y m =>
      simp at h
      exact absurd h.1.symm (hm y (by simp))
  | cons x l ih =>
    cases m with
    | nil =>
      simp at h
      exact absurd h.1 (hl x (by simp))
    | cons y m =>
      simp only [List.cons_append, List.cons.injEq] at h
      obtain ⟨rfl, h⟩ := h
      have := ih (fun z hz => hl z (by simp [hz])) (fun z hz => hm z (by simp [hz])) h
      exact ⟨by rw [this.1], this.2⟩

theorem textN_iff (a b c d : Int) : textN a b = textN c d ↔ (wr a = wr c ∧ wr b = wr d) := by
  refine ⟨fun h => ?_, fun h => by unfold textN; rw [h.1, h.2]⟩
  have key : ∀ k l, digs k ≠ 40 :: l := fun k l e => by
    have := digs_char k 40 (by rw [e]; simp)
    simp at this
  unfold textN at h
  split at h <;> split at h
  · rename_i h1 h2
    exact ⟨digs_inj h, by rw [h1, h2]⟩
  · exact absurd h (key _ _)
  · exact absurd h.symm (key _ _)
  · have h' := (List.cons.inj h).2
    obtain ⟨e1, e2⟩ := split_at (fun x hx => (digs_char _ x hx).2.1) (fun x hx => (digs_char _ x hx).2.1) h'
    obtain ⟨e3, _⟩ := split_at (c := 41) (r := []) (s := []) (fun x hx => (digs_char _ x hx).2.2) (fun x hx => (digs_char _ x hx).2.2) e2
    exact ⟨digs_inj e1, digs_inj e3⟩

theorem wordN_back1 (a b : Int) : wr (wordN a b % 65536) = wr a := by unfold wordN wr; omega
theorem wordN_back2 (a b : Int) : wr (wordN a b / 65536) = wr b := by unfold wordN wr; omega
theorem wordN_unword (n : Int) (h0 : 0 ≤ n) (h1 : n < 4294967296) : wordN (wr (n % 65536)) (wr (n / 65536)) = n := by unfold wordN wr; omega
end Go.Proofs.Ytjjopjpchgajcaa
