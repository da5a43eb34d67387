/- PLAIN: what checkOf says, step by step; heads of slices. -/
import Derived.Test.YtjjmoibnmdbpeaaChkf
namespace Go.Proofs.Ytjjmoibnmdbpeaa.Pr
set_option linter.unusedVariables false
set_option linter.unusedSimpArgs false
open Go Go.RowKit

theorem Sl.take {α : Type} {enc : α → List Value} {w : World} {p : Option Addr} {n c i : Nat} {L : List α} (h : Sl w (.slice p n c) enc L) (hi : i ≤ n) : Sl w (.slice p i c) enc (L.take i) := by
  obtain ⟨b, off, p', cap, hv, hp, hc⟩ := h
  cases hv
  refine ⟨b, off, p, c, by rw [List.length_take, Nat.min_eq_left hi], fun h0 => hp ?_, fun j u hu => hc j u ?_⟩
  · rw [List.length_take] at h0; omega
  · have e : L.flatMap enc = (L.take i).flatMap enc ++ (L.drop i).flatMap enc := by rw [← List.flatMap_append, List.take_append_drop]
    rw [e, List.getElem?_append_left (List.getElem?_eq_some_iff.1 hu).1]
    exact hu

theorem own_cap {w : World} {base : Nat} {e : TypeId} {size n : Nat} {v : Value} {xs : List Value} (h : w.ownsRow base e size v n xs) : ∃ p cap, v = .slice p n cap ∧ n ≤ cap := by
  rcases h.2 with ⟨rfl, rfl⟩ | ⟨g, cap, cur, rfl, _, _, hc, _⟩
  · exact ⟨_, _, rfl, Nat.le_refl _⟩
  · exact ⟨_, _, rfl, hc⟩

theorem names_get {P : List Bl} {k : Nat} (hk : k < P.length) : (P.map fun b => b.n)[k]? = some (P[k]'hk).n := by simp [List.getElem?_eq_getElem hk]

/-- Whether a name is one of the first ones. -/
theorem mem_hasN (P : List Bl) (n : Nat) (x : ByteArray) : decide (0 ≤ idx ((namesOf P).take n) x) = hasN P n x := by
  rw [Bool.eq_iff_iff, decide_eq_true_eq, idx_mem]
  unfold hasN namesOf
  rw [List.any_eq_true, ← List.map_take, List.mem_map]
  simp only [decide_eq_true_eq]

theorem no_twice {P : List Bl} (h : ∀ k (hk : k < P.length), hasN P k (P[k]'hk).n = false) : twiceB P P.length = false := by
  unfold twiceB
  rw [List.any_eq_false]
  intro k hk
  rw [List.getElem?_eq_getElem (List.mem_range.1 hk)]
  simp [h k (List.mem_range.1 hk)]

section
variable {P : List Bl} (h0 : P.length ≠ 0) (h12 : P.length ≤ 128) (hs5 : stmtsOf P ≤ 512)
include h0 h12 hs5
theorem check_form : checkOf P = if P.all blockB = false then 12 else if 64 < (vars P).length then 6 else if twiceB P P.length then 5 else if P.any (badEnd P) then 4 else 0 := by
  unfold checkOf
  rw [if_neg (by omega)]
theorem check_12 {k : Nat} (hk : k < P.length) (h : blockB (P[k]'hk) = false) : checkOf P = 12 := by
  rw [check_form h0 h12 hs5, if_pos (all_bad hk h)]
theorem check_6 (ha : P.all blockB = true) (h : 64 < (vars P).length) : checkOf P = 6 := by
  rw [check_form h0 h12 hs5, if_neg (by rw [ha]; simp), if_pos h]
theorem check_5 (ha : P.all blockB = true) (h : ¬ 64 < (vars P).length) {k : Nat} (hk : k < P.length) (ht : hasN P k (P[k]'hk).n = true) : checkOf P = 5 := by
  rw [check_form h0 h12 hs5, if_neg (by rw [ha]; simp), if_neg h, if_pos]
  unfold twiceB
  rw [List.any_eq_true]
  exact ⟨k, List.mem_range.2 hk, by rw [List.getElem?_eq_getElem hk]; exact ht⟩
theorem check_4 (ha : P.all blockB = true) (h : ¬ 64 < (vars P).length) (ht : ∀ k (hk : k < P.length), hasN P k (P[k]'hk).n = false) {k : Nat} (hk : k < P.length) (hb : badEnd P (P[k]'hk) = true) : checkOf P = 4 := by
  rw [check_form h0 h12 hs5, if_neg (by rw [ha]; simp), if_neg h, if_neg (by rw [no_twice ht]; simp), if_pos]
  rw [List.any_eq_true]
  exact ⟨_, List.getElem_mem hk, hb⟩
theorem check_0 (ha : P.all blockB = true) (h : ¬ 64 < (vars P).length) (ht : ∀ k (hk : k < P.length), hasN P k (P[k]'hk).n = false) (hb : ∀ k (hk : k < P.length), badEnd P (P[k]'hk) = false) : checkOf P = 0 := by
  rw [check_form h0 h12 hs5, if_neg (by rw [ha]; simp), if_neg h, if_neg (by rw [no_twice ht]; simp), if_neg]
  rw [Bool.not_eq_true, List.any_eq_false]
  intro b hm
  obtain ⟨k, hk1⟩ := List.mem_iff_getElem?.1 hm
  obtain ⟨hk2, hk3⟩ := List.getElem?_eq_some_iff.1 hk1
  rw [← hk3, hb k hk2]; simp
end

/-- A name that an end goes to and that is no block's. -/
theorem badEnd_names (P : List Bl) (b : Bl) : badEnd P b = true ↔ ∃ x ∈ namesT b.t, hasN P P.length x = false := by
  unfold badEnd namesT
  by_cases h1 : b.t.k = 1
  · simp [h1]
  · by_cases h2 : b.t.k = 2
    · simp [h2]
    · simp [h1, h2]

end Go.Proofs.Ytjjmoibnmdbpeaa.Pr
