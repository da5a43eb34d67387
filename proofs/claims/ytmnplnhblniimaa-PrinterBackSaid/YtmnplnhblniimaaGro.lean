/- A TEXT'S TOKENS: their kinds, numbers; how many. No program in sight. -/
import Derived.Test.YtmnplnhblniimaaGrn
import Derived.Test.YtmnplnhblniimaaTokb
namespace Go.Proofs.Ytmnplnhblniimaa.Gr
set_option linter.unusedVariables false
set_option linter.unusedSimpArgs false
open Go Tk

theorem extract_get (s : ByteArray) (i j k : Nat) (hj : j ≤ s.size) (hk : k < (s.extract i j).size) : byt (s.extract i j) k = byt s (i + k) := by
  unfold byt
  obtain ⟨⟨s⟩⟩ := s
  have hj' : j ≤ s.length := hj
  have hsz : (ByteArray.extract { data := { toList := s } } i j).size = j - i := by
    rw [ByteArray.size_extract]
    show min j s.length - i = j - i
    rw [Nat.min_eq_left hj']
  rw [hsz] at hk
  simp only [ByteArray.get!, ByteArray.data_extract]
  simp only [Array.getElem!_eq_getD, Array.getD_eq_getD_getElem?]
  rw [Array.getElem?_extract]
  rw [if_pos (by show k < min j s.length - i; rw [Nat.min_eq_left hj']; exact hk)]

theorem step_facts {s : ByteArray} {i : Nat} {t : Tk.Tok} (h : stepAt s i = .tok t) : t.kind ≠ 0 ∧ 0 ≤ t.n ∧ t.n ≤ 32768 := by
  unfold stepAt at h
  split at h
  · rename_i hi
    simp only at h
    split at h
    · cases h
    · split at h
      · cases h
      · split at h
        · split at h
          · cases h; exact ⟨by simp, by simp, by simp⟩
          · split at h
            · cases h
            · cases h; exact ⟨by simp, by simp, by simp⟩
        · split at h
          · split at h
            · cases h
            · split at h
              · cases h
              · rename_i h1 h2
                cases h
                refine ⟨by simp, ?_, by show num _ ≤ 32768; omega⟩
                have hd : digits (s.extract i (runTo digitB s i)) := fun k hk => by
                  have hle := runTo_le digitB s i (Nat.le_of_lt hi)
                  rw [extract_get s i _ k hle hk]
                  have hsz := size_run digitB s i (Nat.le_of_lt hi)
                  exact runTo_mem digitB s i (i + k) (by omega) (by omega)
                exact (numAt_bounds hd 0 0 (by decide) (by decide)).1
          · split at h
            · cases h; exact ⟨by simp, by simp, by simp⟩
            · cases h
  · cases h

theorem scan_lok (s : ByteArray) : ∀ (n i : Nat) (out : List Tk.Tok), i ≤ s.size → (∀ t ∈ out, t.kind ≠ 0 ∧ 0 ≤ t.n ∧ t.n ≤ 32768) → (scan s n i out).e = 0 →
    ∃ l' z, (scan s n i out).l = l' ++ [z] ∧ z.kind = 0 ∧ z.n = 0 ∧ (∀ t ∈ l', t.kind ≠ 0 ∧ 0 ≤ t.n ∧ t.n ≤ 32768) ∧ l'.length + i ≤ out.length + s.size ∧ (scan s n i out).pos = 0
  | 0, i, out, hi, ho, h => by have h' : (99 : Int) = 0 := h; omega
  | n + 1, i, out, hi, ho, h => by
    unfold scan at h ⊢
    cases hs : stepAt s i with
    | stop => exact ⟨out, ⟨0, i, bs [], 0⟩, rfl, rfl, rfl, ho, by omega, rfl⟩
    | skip j =>
      rw [hs] at h
      have hj := stepAt_skip hs
      obtain ⟨l', z, h1, h2, h3, h4, h5, h6⟩ := scan_lok s n j out hj.2 ho h
      exact ⟨l', z, h1, h2, h3, h4, by omega, h6⟩
    | bad e =>
      rw [hs] at h
      have he : e = 0 := h
      exfalso
      unfold stepAt at hs
      split at hs
      · simp only at hs
        split at hs
        · cases hs
        · split at hs
          · cases hs
          · split at hs
            · split at hs
              · cases hs
              · split at hs
                · cases hs; cases he
                · cases hs
            · split at hs
              · split at hs
                · cases hs; cases he
                · split at hs
                  · cases hs; cases he
                  · cases hs
              · split at hs
                · cases hs
                · cases hs; cases he
      · cases hs
    | tok t =>
      rw [hs] at h
      have ht := stepAt_tok hs
      obtain ⟨l', z, h1, h2, h3, h4, h5, h6⟩ := scan_lok s n (i + t.s.size) (out ++ [t]) (by omega) (fun x hx => by
        rcases List.mem_append.1 hx with hx | hx
        · exact ho x hx
        · obtain rfl := List.mem_singleton.1 hx; exact step_facts hs) h
      refine ⟨l', z, h1, h2, h3, h4, ?_, h6⟩
      rw [List.length_append] at h5
      have : [t].length = 1 := rfl
      omega

theorem text_lok {s : ByteArray} (h : (ofText s).e = 0) : Lok (ofText s).l ∧ (ofText s).l.length ≤ 16385 ∧ 0 < (ofText s).l.length ∧ s.size ≤ 16384 ∧ (ofText s).pos = 0 := by
  unfold ofText at h ⊢
  by_cases hs : s.size > 16384
  · rw [if_pos hs] at h
    have : (6 : Int) = 0 := h
    omega
  · rw [if_neg hs] at h ⊢
    obtain ⟨l', z, h1, h2, h3, h4, h5, h6⟩ := scan_lok s (s.size + 1) 0 [] (Nat.zero_le _) (fun t ht => by simp at ht) h
    rw [h1]
    have hl : (l' ++ [z]).length = l'.length + 1 := by simp
    simp only [List.length_nil] at h5
    refine ⟨⟨by omega, fun t ht => ?_, fun i hi => ?_⟩, by omega, by omega, by omega, h6⟩
    · rcases List.mem_append.1 ht with ht | ht
      · exact (h4 t ht).2
      · obtain rfl := List.mem_singleton.1 ht; rw [h3]; exact ⟨by decide, by decide⟩
    · rcases Nat.lt_or_ge i l'.length with hlt | hge
      · rw [List.getElem_append_left hlt]
        exact ⟨fun hh => absurd hh (h4 _ (List.getElem_mem hlt)).1, fun hh => by omega⟩
      · have : i = l'.length := by omega
        subst this
        simp [h2]
theorem text_bad {s : ByteArray} (h : (ofText s).e ≠ 0) : (ofText s).l = [] := by
  have hs : ∀ (n i : Nat) (out : List Tk.Tok), (scan s n i out).e ≠ 0 → (scan s n i out).l = [] := by
    intro n
    induction n with
    | zero => intro i out _; rfl
    | succ n ih =>
      intro i out h
      unfold scan at h ⊢
      cases hs : stepAt s i with
      | stop => rw [hs] at h; exact absurd rfl h
      | skip j => rw [hs] at h; exact ih _ _ h
      | bad e => rfl
      | tok t => rw [hs] at h; exact ih _ _ h
  unfold ofText at h ⊢
  split
  · rfl
  · rename_i h2
    rw [if_neg h2] at h
    exact hs _ _ _ h

end Go.Proofs.Ytmnplnhblniimaa.Gr
