/- soughlaw12.awake, LatticeParts: both answer true. -/
import Derived.Test.YtjjopjpchgajcaaLatte
namespace Go.Proofs.Ytjjopjpchgajcaa.Ws
set_option linter.unusedVariables false
set_option linter.unusedSimpArgs false
open Go Go.RowKit

theorem full3 : topW 1 3 = [7] := by decide +kernel
theorem height3 : heightN 3 3 = 6 := by decide +kernel

theorem lawake_any (w : World) : Calls Try.prog 46 #[] w fun e w' => e = .returned (.bool true) ∧ Below w.heap.size w w' := by
  have h1 := height_any 3 3
  rw [height3] at h1
  have h2 := ltop_any 1 3
  rw [full3] at h2
  have hF := And.intro True.intro h2
  clear h2
  go_enter Try.func46, Try.ntmps46
  go_wp2_with (first | (go_at_call 57; refine Calls.same (h1 _) ?_) | ((go_at_call 53; refine' Calls.aftS _ _ (hF.2 _) _; rotate_left 2; (first | (with_reducible exact After.below _; rfl) | (with_reducible exact below_drew (After.below _); rfl) | (with_reducible exact below_set (After.below _) _ _; (go_simp; rfl)) | (with_reducible exact below_set (below_set (After.below _) _ _) _ _; (go_simp; rfl)) | (with_reducible exact below_set (below_set (below_set (After.below _) _ _) _ _) _ _; (go_simp; rfl)) | (with_reducible exact below_set (below_set (below_set (below_set (After.below _) _ _) _ _) _ _) _ _; (go_simp; rfl)) | (exact Below.refl _ _; rfl)); intro v1 x1 ho; have hle := After.le x1; (try simp at hle)); obtain ⟨g, cap, rfl, hgb, hgl⟩ := own_some ho (by decide); have c0 := ho.cellAt 0 (by decide); rw [flat_words] at c0; simp at c0))
  go_ret
  refine ⟨rfl, ?_⟩
  (repeat (first | exact Below.refl _ _ | apply Below.drew | refine Below.alloc ?_ ?_ _ | refine Below.setCell ?_ ?_ _ | refine Below.trans ?_ (Below.mono (After.below _) ?_))); (all_goals (first | (simp; done) | (simp; omega) | omega))

set_option maxRecDepth 100000 in
theorem latticeParts_any (what width : Int) (L : List Nat) (hok : okW L) (v : Value) (w : World) (h : Sl w v encW L) :
    Calls Try.prog 10 #[.int .i64 what, .int .i64 width, v] w fun e w' => e = .returned (.bool true) ∧ Below w.heap.size w w' := by
  obtain ⟨p, cap, hv⟩ : ∃ p cap, v = .slice p L.length cap := by obtain ⟨b, off, p, cap, hv, _⟩ := h; exact ⟨p, cap, hv⟩
  subst hv
  have hfew : ∀ w1 : World, Calls Try.prog 47 #[.int .i64 width, .slice (some ⟨w1.heap.size, 0, none⟩) 1 1] (w1.alloc (.cells #[.slice p L.length cap] 52)) fun e w' => e = .returned (.bool (fewB width [.slice p L.length cap])) ∧ w1.alloc (.cells #[.slice p L.length cap] 52) = w' := fun w1 =>
    few_any width [.slice p L.length cap] (by intro u hu; simp at hu; subst hu; exact ⟨_, _, _, rfl⟩) (by simp) _ _ ⟨w1.heap.size, 0, _, 1, rfl, fun _ => rfl, fun j u hu => by
      rw [Nat.zero_add, cell_alloc_at rfl]
      simpa [encV] using hu⟩
  have hwo := words_any what width
  have hrwo := rwords_any what width
  have hb := bottom_any what width
  have hrb := rbottom_any what width
  have ht := ltop_any what width
  have hrt := rtop_any what width
  have hbl : (botW what width).length ≤ 1000000 := by rw [botW_length]; have := wordsN_le what width; omega
  have htl : (topW what width).length ≤ 1000000 := by rw [topW_length]; have := wordsN_le what width; omega
  have hhe := height_any what width
  have hrhe := rheight_any what width
  generalize botW what width = B at hb hrb hbl
  generalize topW what width = T at ht hrt htl
  generalize wordsN what width = n at hwo hrwo
  generalize heightN what width = m at hhe hrhe
  cases hfb : fewB width [.slice p L.length cap]
  · rw [hfb] at hfew
    go_enter Try.func10, Try.ntmps10
    go_wp2_with (first | (go_at_call 46; refine' Calls.aft _ _ (lawake_any _) _; rotate_left 2; (first | (with_reducible exact After.below _; rfl) | (with_reducible exact below_drew (After.below _); rfl) | (with_reducible exact below_set (After.below _) _ _; (go_simp; rfl)) | (with_reducible exact below_set (below_set (After.below _) _ _) _ _; (go_simp; rfl)) | (with_reducible exact below_set (below_set (below_set (After.below _) _ _) _ _) _ _; (go_simp; rfl)) | (with_reducible exact below_set (below_set (below_set (below_set (After.below _) _ _) _ _) _ _) _ _; (go_simp; rfl)) | (exact Below.refl _ _; rfl)); intro xa; have hle := After.le xa; (try simp at hle)) | (go_at_call 47; refine Calls.same (hfew _) ?_))
    go_ret
    refine ⟨rfl, ?_⟩
    (repeat (first | exact Below.refl _ _ | apply Below.drew | refine Below.alloc ?_ ?_ _ | refine Below.setCell ?_ ?_ _ | refine Below.trans ?_ (Below.mono (After.below _) ?_))); (all_goals (first | (simp; done) | (simp; omega) | omega))
  · rw [hfb] at hfew
    have hl : L.length ≤ 1000000 := by
      have h9 := hfb
      unfold fewB at h9
      rw [Bool.and_eq_true] at h9
      have h10 : vlen (.slice p L.length cap) ≤ 70 := of_decide_eq_true (List.all_eq_true.1 h9.1 _ (List.mem_singleton_self _))
      have h11 : L.length ≤ 70 := h10
      omega
    have his := fun w h => lis_any what width L hok hl (.slice p L.length cap) w h
    have hrv := fun w h => rvalue_any what width L hok hl (.slice p L.length cap) w h
    generalize valueB what width L = y at his hrv
    go_enter Try.func10, Try.ntmps10
    go_wp2_with (first | (go_at_call 46; refine' Calls.aft _ _ (lawake_any _) _; rotate_left 2; (first | (with_reducible exact After.below _; rfl) | (with_reducible exact below_drew (After.below _); rfl) | (with_reducible exact below_set (After.below _) _ _; (go_simp; rfl)) | (with_reducible exact below_set (below_set (After.below _) _ _) _ _; (go_simp; rfl)) | (with_reducible exact below_set (below_set (below_set (After.below _) _ _) _ _) _ _; (go_simp; rfl)) | (with_reducible exact below_set (below_set (below_set (below_set (After.below _) _ _) _ _) _ _) _ _; (go_simp; rfl)) | (exact Below.refl _ _; rfl)); intro xa; have hle := After.le xa; (try simp at hle)) | ((go_at_call 47; refine Calls.same (hfew _) ?_); have hS := (h.below xa.below).below (Below.alloc (Below.refl xa.val.heap.size xa.val) (Nat.le_refl _) (.cells #[.slice p L.length cap] 52))) | (go_at_call 48; refine Calls.same (hwo _) ?_) | (go_at_call 49; refine Calls.same (hrwo _) ?_) | (go_at_call 51; refine' Calls.aftS _ _ (hb _) _; rotate_left 2; (first | (with_reducible exact After.below _; rfl) | (with_reducible exact below_drew (After.below _); rfl) | (with_reducible exact below_set (After.below _) _ _; (go_simp; rfl)) | (with_reducible exact below_set (below_set (After.below _) _ _) _ _; (go_simp; rfl)) | (with_reducible exact below_set (below_set (below_set (After.below _) _ _) _ _) _ _; (go_simp; rfl)) | (with_reducible exact below_set (below_set (below_set (below_set (After.below _) _ _) _ _) _ _) _ _; (go_simp; rfl)) | (exact Below.refl _ _; rfl)); intro v1 x1 ho1; have hle := After.le x1; (try simp at hle)) | (go_at_call 52; refine' Calls.aftS _ _ (hrb _) _; rotate_left 2; (exact Below.refl _ _; rfl); intro v2 x2 ho2; have hle := After.le x2; (try simp at hle)) | (go_at_call 53; refine' Calls.aftS _ _ (ht _) _; rotate_left 2; (first | (with_reducible exact After.below _; rfl) | (with_reducible exact below_drew (After.below _); rfl) | (with_reducible exact below_set (After.below _) _ _; (go_simp; rfl)) | (with_reducible exact below_set (below_set (After.below _) _ _) _ _; (go_simp; rfl)) | (with_reducible exact below_set (below_set (below_set (After.below _) _ _) _ _) _ _; (go_simp; rfl)) | (with_reducible exact below_set (below_set (below_set (below_set (After.below _) _ _) _ _) _ _) _ _; (go_simp; rfl)) | (exact Below.refl _ _; rfl)); intro v3 x3 ho3; have hle := After.le x3; (try simp at hle)) | (go_at_call 54; refine' Calls.aftS _ _ (hrt _) _; rotate_left 2; (exact Below.refl _ _; rfl); intro v4 x4 ho4; have hle := After.le x4; (try simp at hle)) | (go_at_call 50; refine' Calls.aft _ _ (rsame_any B hbl _ _ _ (Sl.of_own (own_below ho1 x2.below)) (Sl.of_own ho2)) _; rotate_left 2; (first | (with_reducible exact After.below _; rfl) | (with_reducible exact below_drew (After.below _); rfl) | (with_reducible exact below_set (After.below _) _ _; (go_simp; rfl)) | (with_reducible exact below_set (below_set (After.below _) _ _) _ _; (go_simp; rfl)) | (with_reducible exact below_set (below_set (below_set (After.below _) _ _) _ _) _ _; (go_simp; rfl)) | (with_reducible exact below_set (below_set (below_set (below_set (After.below _) _ _) _ _) _ _) _ _; (go_simp; rfl)) | (exact Below.refl _ _; rfl)); intro x5; have hle := After.le x5; (try simp at hle)) | (go_at_call 50; refine' Calls.aft _ _ (rsame_any T htl _ _ _ (Sl.of_own (own_below ho3 x4.below)) (Sl.of_own ho4)) _; rotate_left 2; (first | (with_reducible exact After.below _; rfl) | (with_reducible exact below_drew (After.below _); rfl) | (with_reducible exact below_set (After.below _) _ _; (go_simp; rfl)) | (with_reducible exact below_set (below_set (After.below _) _ _) _ _; (go_simp; rfl)) | (with_reducible exact below_set (below_set (below_set (After.below _) _ _) _ _) _ _; (go_simp; rfl)) | (with_reducible exact below_set (below_set (below_set (below_set (After.below _) _ _) _ _) _ _) _ _; (go_simp; rfl)) | (exact Below.refl _ _; rfl)); intro x6; have hle := After.le x6; (try simp at hle)) | (go_at_call 55; refine' Calls.aft _ _ (his _ (by repeat (first | exact hS | refine Sl.below ?_ (After.below _)))) _; rotate_left 2; (first | (with_reducible exact After.below _; rfl) | (with_reducible exact below_drew (After.below _); rfl) | (with_reducible exact below_set (After.below _) _ _; (go_simp; rfl)) | (with_reducible exact below_set (below_set (After.below _) _ _) _ _; (go_simp; rfl)) | (with_reducible exact below_set (below_set (below_set (After.below _) _ _) _ _) _ _; (go_simp; rfl)) | (with_reducible exact below_set (below_set (below_set (below_set (After.below _) _ _) _ _) _ _) _ _; (go_simp; rfl)) | (exact Below.refl _ _; rfl)); intro x7; have hle := After.le x7; (try simp at hle)) | (go_at_call 56; refine' Calls.aft _ _ (hrv _ (by repeat (first | exact hS | refine Sl.below ?_ (After.below _)))) _; rotate_left 2; (first | (with_reducible exact After.below _; rfl) | (with_reducible exact below_drew (After.below _); rfl) | (with_reducible exact below_set (After.below _) _ _; (go_simp; rfl)) | (with_reducible exact below_set (below_set (After.below _) _ _) _ _; (go_simp; rfl)) | (with_reducible exact below_set (below_set (below_set (After.below _) _ _) _ _) _ _; (go_simp; rfl)) | (with_reducible exact below_set (below_set (below_set (below_set (After.below _) _ _) _ _) _ _) _ _; (go_simp; rfl)) | (exact Below.refl _ _; rfl)); intro x8; have hle := After.le x8; (try simp at hle)) | (go_at_call 57; refine Calls.same (hhe _) ?_) | (go_at_call 58; refine Calls.same (hrhe _) ?_))
    go_ret
    refine ⟨rfl, ?_⟩
    (repeat (first | exact Below.refl _ _ | apply Below.drew | refine Below.alloc ?_ ?_ _ | refine Below.setCell ?_ ?_ _ | refine Below.trans ?_ (Below.mono (After.below _) ?_))); (all_goals (first | (simp; done) | (simp; omega) | omega))

end Go.Proofs.Ytjjopjpchgajcaa.Ws
