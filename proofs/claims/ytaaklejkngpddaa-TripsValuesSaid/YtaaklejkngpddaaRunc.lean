/- WALK of exec.check. -/
import Derived.Test.YtaaklejkngpddaaExa
import Derived.Test.YtaaklejkngpddaaChkh
namespace Go.Proofs.Ytaaklejkngpddaa.Pr
set_option linter.unusedVariables false
set_option linter.unusedSimpArgs false
open Go Go.RowKit

set_option maxRecDepth 100000 in
set_option maxHeartbeats 8000000 in
theorem checkS_ne (P : List Bl) (b i : Int) (E : List Nu) (pv ev ov : Value) (w : World) (h : Pg w pv P) (h12 : P.length ≤ 12) (hl12 : ∀ b ∈ P, b.l.length ≤ 12) (hE : Sl w ev Nu.cs E) (hR0 : checkOf P = 0) (hc0 : ¬ b < 0) (hc1 : ¬ (P.length : Int) ≤ b) (hn0 : E.length ≠ (vars P).length) :
    Calls Try.prog 48 #[.agg #[pv], .agg #[.int .i64 b, ev, .int .i64 i, ov]] w fun e w' => e = .returned (.int .i64 (ChkS P b E.length i)) ∧ Below w.heap.size w w' := by
  obtain ⟨p, cap, hpv⟩ : ∃ p cap, pv = .slice p P.length cap := by obtain ⟨b, off, p, cap, hv, _⟩ := h.1; exact ⟨p, cap, hv⟩
  subst hpv
  have ht1 := fun (W : World) (hB : Below w.heap.size w W) => pcheck_any P h12 hl12 _ W (h.below hB)
  have ht2 := fun (W : World) (hB : Below w.heap.size w W) => vars_any P _ W (h.below hB) h12 hl12
  have hvl : (vars P).length ≤ 444 := by have := blVars_len hl12 P.length; show (blVars P P.length).length ≤ _; omega
  obtain ⟨ep, ec, hev⟩ : ∃ p cap, ev = .slice p E.length cap := by obtain ⟨b, off, p, cap, hv, _⟩ := hE; exact ⟨p, cap, hv⟩
  subst hev
  have hb2 : Below w.heap.size w ((w.alloc (.cells #[.slice p P.length cap] 24)).alloc (.cells #[.int .i64 b, .slice ep E.length ec, .int .i64 i, ov] 47)) := ((Below.refl _ _).alloc (Nat.le_refl _) _).alloc (by simp) _
  have hH := And.intro True.intro (rfl : ChkS P b E.length i = ChkS P b E.length i)
  unfold ChkS
  have hn : ¬ ((E.length : Int) = (vars P).length) := by omega
  clear hn0
  generalize vars P = V at ht2 hvl hn
  rw [hR0] at ht1 ⊢
  clear h hE
  rw [if_pos rfl]
  have hK : ∀ c : Prop, [Decidable c] → ∀ K : Int, K = (if c then 9 else 0) → (c → K = 9) ∧ (¬ c → K = 0) := fun c _ K h => ⟨fun hc => by rw [h, if_pos hc], fun hc => by rw [h, if_neg hc]⟩
  obtain ⟨K, hKe⟩ : ∃ K : Int, K = (if b < 0 ∨ (P.length : Int) ≤ b ∨ E.length ≠ V.length ∨ i < 0 then 9 else 0) := ⟨_, rfl⟩
  rw [← hKe]
  have hKK := And.intro True.intro (hK _ K hKe)
  clear hK hKe
  go_enter Try.func48, Try.ntmps48
  go_wp2_with (go_at_call 80; refine' Calls.aft _ _ (ht1 _ hb2) _; rotate_left 2; (first | (with_reducible exact After.below _; rfl) | (with_reducible exact below_drew (After.below _); rfl) | (with_reducible exact below_set (After.below _) _ _; (go_simp; rfl)) | (with_reducible exact below_set (below_set (After.below _) _ _) _ _; (go_simp; rfl)) | (with_reducible exact below_set (below_set (below_set (After.below _) _ _) _ _) _ _; (go_simp; rfl)) | (with_reducible exact below_set (below_set (below_set (below_set (After.below _) _ _) _ _) _ _) _ _; (go_simp; rfl)) | (exact Below.refl _ _; rfl)); intro x1; have hle := After.le x1; (try simp at hle))
  obtain ⟨W1, hW1⟩ : ∃ W1, W1 = x1.val := ⟨_, rfl⟩
  have hB1 : Below w.heap.size w W1.drew := by rw [hW1]; exact (hb2.trans (x1.below.mono hb2.size)).drew
  have hbb := x1.below
  rw [← hW1] at hbb ⊢
  have c0 : W1.drew.cell? ⟨w.heap.size, 0, none⟩ = some (.slice p P.length cap) := (hbb.cell (p := ⟨w.heap.size, 0, none⟩) (by simp; omega)).trans (by simp)
  have d0 : W1.drew.cell? ⟨w.heap.size + 1, 0, none⟩ = some (.int .i64 b) := (hbb.cell (p := ⟨w.heap.size + 1, 0, none⟩) (by simp)).trans (by simp)
  have d1 : W1.drew.cell? ⟨w.heap.size + 1, 1, none⟩ = some (.slice ep E.length ec) := (hbb.cell (p := ⟨w.heap.size + 1, 1, none⟩) (by simp)).trans (by simp)
  have d2 : W1.drew.cell? ⟨w.heap.size + 1, 2, none⟩ = some (.int .i64 i) := (hbb.cell (p := ⟨w.heap.size + 1, 2, none⟩) (by simp)).trans (by simp)
  have dl := World.block_lt_of_cell? _ _ d0
  have cl := World.block_lt_of_cell? _ _ c0
  clear hW1 hbb ht1 hb2
  obtain rfl := hKK.2.1 (.inr (.inr (.inl (by omega))))
  by_cases hb0 : b < 0
  · exact absurd hb0 (by omega)
  by_cases hb1 : (P.length : Int) ≤ b
  · exact absurd hb1 (by omega)
  by_cases hn2 : (E.length : Int) = V.length
  · exact absurd hn2 (by omega)
  have hnb : ((E.length : Int) != (V.length : Int)) = true := by simp; omega
  first | (go_region_law (first | (refine stepSG ?hg5 46 #[.agg #[.slice p P.length cap]] id (fun v w' => Sl w' v encS V) ?hop5 (ht2 _ hB1) ?_; (case hg5 => (first | rfl | (go_simp; done))); (case hop5 => (go_simp; done)); intro v5 q5 hv5 hq5; have hB5 := nextB hq5 hB1; obtain ⟨vb, voff, vp, vcap, rfl, _, _⟩ := Sl.strs hv5; have e0 := nextC hq5 d0; have e1 := nextC hq5 d1; have e2 := nextC hq5 d2; have ecc := nextC hq5 c0; have el := World.block_lt_of_cell? _ _ e0))) | fail
  all_goals (
    go_wp2_with fail
    go_ret
    exact ⟨rfl, hB5⟩)

set_option maxRecDepth 100000 in
set_option maxHeartbeats 8000000 in
theorem checkS_any (P : List Bl) (b i : Int) (E : List Nu) (pv ev ov : Value) (w : World) (h : Pg w pv P) (h12 : P.length ≤ 12) (hl12 : ∀ b ∈ P, b.l.length ≤ 12) (hE : Sl w ev Nu.cs E) :
    Calls Try.prog 48 #[.agg #[pv], .agg #[.int .i64 b, ev, .int .i64 i, ov]] w fun e w' => e = .returned (.int .i64 (ChkS P b E.length i)) ∧ Below w.heap.size w w' := by
  obtain ⟨p, cap, hpv⟩ : ∃ p cap, pv = .slice p P.length cap := by obtain ⟨b, off, p, cap, hv, _⟩ := h.1; exact ⟨p, cap, hv⟩
  subst hpv
  have ht1 := fun (W : World) (hB : Below w.heap.size w W) => pcheck_any P h12 hl12 _ W (h.below hB)
  have ht2 := fun (W : World) (hB : Below w.heap.size w W) => vars_any P _ W (h.below hB) h12 hl12
  have hvl : (vars P).length ≤ 444 := by have := blVars_len hl12 P.length; show (blVars P P.length).length ≤ _; omega
  obtain ⟨ep, ec, hev⟩ : ∃ p cap, ev = .slice p E.length cap := by obtain ⟨b, off, p, cap, hv, _⟩ := hE; exact ⟨p, cap, hv⟩
  subst hev
  have hb2 : Below w.heap.size w ((w.alloc (.cells #[.slice p P.length cap] 24)).alloc (.cells #[.int .i64 b, .slice ep E.length ec, .int .i64 i, ov] 47)) := ((Below.refl _ _).alloc (Nat.le_refl _) _).alloc (by simp) _
  by_cases hne : checkOf P = 0 ∧ ¬ b < 0 ∧ ¬ (P.length : Int) ≤ b ∧ E.length ≠ (vars P).length
  · exact checkS_ne P b i E _ _ ov w h h12 hl12 hE hne.1 hne.2.1 hne.2.2.1 hne.2.2.2
  have hH := And.intro True.intro (rfl : ChkS P b E.length i = ChkS P b E.length i)
  unfold ChkS
  generalize vars P = V at ht2 hvl hne
  generalize checkOf P = R at ht1 hne
  clear h hE
  by_cases hR : R = 0
  · subst hR
    rw [if_pos rfl]
    have hK : ∀ c : Prop, [Decidable c] → ∀ K : Int, K = (if c then 9 else 0) → (c → K = 9) ∧ (¬ c → K = 0) := fun c _ K h => ⟨fun hc => by rw [h, if_pos hc], fun hc => by rw [h, if_neg hc]⟩
    obtain ⟨K, hKe⟩ : ∃ K : Int, K = (if b < 0 ∨ (P.length : Int) ≤ b ∨ E.length ≠ V.length ∨ i < 0 then 9 else 0) := ⟨_, rfl⟩
    rw [← hKe]
    have hKK := And.intro True.intro (hK _ K hKe)
    clear hK hKe
    go_enter Try.func48, Try.ntmps48
    go_wp2_with (go_at_call 80; refine' Calls.aft _ _ (ht1 _ hb2) _; rotate_left 2; (first | (with_reducible exact After.below _; rfl) | (with_reducible exact below_drew (After.below _); rfl) | (with_reducible exact below_set (After.below _) _ _; (go_simp; rfl)) | (with_reducible exact below_set (below_set (After.below _) _ _) _ _; (go_simp; rfl)) | (with_reducible exact below_set (below_set (below_set (After.below _) _ _) _ _) _ _; (go_simp; rfl)) | (with_reducible exact below_set (below_set (below_set (below_set (After.below _) _ _) _ _) _ _) _ _; (go_simp; rfl)) | (exact Below.refl _ _; rfl)); intro x1; have hle := After.le x1; (try simp at hle))
    obtain ⟨W1, hW1⟩ : ∃ W1, W1 = x1.val := ⟨_, rfl⟩
    have hB1 : Below w.heap.size w W1.drew := by rw [hW1]; exact (hb2.trans (x1.below.mono hb2.size)).drew
    have hbb := x1.below
    rw [← hW1] at hbb ⊢
    have c0 : W1.drew.cell? ⟨w.heap.size, 0, none⟩ = some (.slice p P.length cap) := (hbb.cell (p := ⟨w.heap.size, 0, none⟩) (by simp; omega)).trans (by simp)
    have d0 : W1.drew.cell? ⟨w.heap.size + 1, 0, none⟩ = some (.int .i64 b) := (hbb.cell (p := ⟨w.heap.size + 1, 0, none⟩) (by simp)).trans (by simp)
    have d1 : W1.drew.cell? ⟨w.heap.size + 1, 1, none⟩ = some (.slice ep E.length ec) := (hbb.cell (p := ⟨w.heap.size + 1, 1, none⟩) (by simp)).trans (by simp)
    have d2 : W1.drew.cell? ⟨w.heap.size + 1, 2, none⟩ = some (.int .i64 i) := (hbb.cell (p := ⟨w.heap.size + 1, 2, none⟩) (by simp)).trans (by simp)
    have dl := World.block_lt_of_cell? _ _ d0
    have cl := World.block_lt_of_cell? _ _ c0
    clear hW1 hbb ht1 hb2
    by_cases hb0 : b < 0
    · obtain rfl := hKK.2.1 (.inl hb0)
      go_region
      all_goals (
        go_wp2_with fail
        go_ret
        exact ⟨rfl, hB1⟩)
    by_cases hb1 : (P.length : Int) ≤ b
    · obtain rfl := hKK.2.1 (.inr (.inl hb1))
      go_region
      all_goals (
        go_wp2_with fail
        go_ret
        exact ⟨rfl, hB1⟩)
    have hn' : (E.length : Int) = V.length := by first | omega | exact Classical.byContradiction fun h => hne ⟨trivial, by omega, by omega, by omega⟩
    by_cases hn : (E.length : Int) = V.length
    · by_cases hi : i < 0
      · obtain rfl := hKK.2.1 (.inr (.inr (.inr hi)))
        first | (go_region_law (first | (refine stepSG ?hg5 46 #[.agg #[.slice p P.length cap]] id (fun v w' => Sl w' v encS V) ?hop5 (ht2 _ hB1) ?_; (case hg5 => (first | rfl | (go_simp; done))); (case hop5 => (go_simp; done)); intro v5 q5 hv5 hq5; have hB5 := nextB hq5 hB1; obtain ⟨vb, voff, vp, vcap, rfl, _, _⟩ := Sl.strs hv5; have e0 := nextC hq5 d0; have e1 := nextC hq5 d1; have e2 := nextC hq5 d2; have ecc := nextC hq5 c0; have el := World.block_lt_of_cell? _ _ e0))) | fail
        all_goals (
          go_wp2_with fail
          go_ret
          exact ⟨rfl, hB5⟩)
      · obtain rfl := hKK.2.2 (by omega)
        first | (go_region_law (first | (refine stepSG ?hg5 46 #[.agg #[.slice p P.length cap]] id (fun v w' => Sl w' v encS V) ?hop5 (ht2 _ hB1) ?_; (case hg5 => (first | rfl | (go_simp; done))); (case hop5 => (go_simp; done)); intro v5 q5 hv5 hq5; have hB5 := nextB hq5 hB1; obtain ⟨vb, voff, vp, vcap, rfl, _, _⟩ := Sl.strs hv5; have e0 := nextC hq5 d0; have e1 := nextC hq5 d1; have e2 := nextC hq5 d2; have ecc := nextC hq5 c0; have el := World.block_lt_of_cell? _ _ e0))) | fail
        all_goals (
          go_wp2_with fail
          go_ret
          exact ⟨rfl, hB5⟩)
    · exact absurd hn' hn
  · rw [if_neg hR]
    have hRb : (R == 0) = false := by simp [hR]
    go_enter Try.func48, Try.ntmps48
    go_wp2_with (go_at_call 80; refine' Calls.aft _ _ (ht1 _ hb2) _; rotate_left 2; (first | (with_reducible exact After.below _; rfl) | (with_reducible exact below_drew (After.below _); rfl) | (with_reducible exact below_set (After.below _) _ _; (go_simp; rfl)) | (with_reducible exact below_set (below_set (After.below _) _ _) _ _; (go_simp; rfl)) | (with_reducible exact below_set (below_set (below_set (After.below _) _ _) _ _) _ _; (go_simp; rfl)) | (with_reducible exact below_set (below_set (below_set (below_set (After.below _) _ _) _ _) _ _) _ _; (go_simp; rfl)) | (exact Below.refl _ _; rfl)); intro x1; have hle := After.le x1; (try simp at hle))
    go_ret
    exact ⟨rfl, hb2.trans (x1.below.mono hb2.size)⟩

end Go.Proofs.Ytaaklejkngpddaa.Pr
