/- soughlaw12.LatticeJoins, put together: it answers true. -/
import Derived.Test.YtjjopjpchgajcaaLattl
namespace Go.Proofs.Ytjjopjpchgajcaa.Ws
set_option linter.unusedVariables false
set_option linter.unusedSimpArgs false
open Go Go.RowKit

theorem checkE_cases2 (what width : Int) (L M : List Nat) (hL : isL what width = true) :
    checkE what width [L, M] = if valueB what width L = true ∧ valueB what width M = true then 0 else 2 := by
  unfold checkE
  rw [hL, if_pos rfl]
  simp only [List.all_cons, List.all_nil, Bool.and_true, Bool.and_eq_true]
theorem checkE_cases1 (what width : Int) (L : List Nat) (hL : isL what width = true) : checkE what width [L] = if valueB what width L = true then 0 else 2 := by
  unfold checkE
  rw [hL, if_pos rfl]
  simp only [List.all_cons, List.all_nil, Bool.and_true]
theorem checkE_not (what width : Int) (Ls : List (List Nat)) (hL : isL what width = false) : checkE what width Ls = 10 := by
  unfold checkE
  rw [hL]; rfl

theorem latticeJoins_any (what width : Int) (L : List Nat) (okL : okW L) (v : Value) (M : List Nat) (okM : okW M) (v' : Value) (x : Int) (hx0 : 0 ≤ x) (hx1 : x < 18446744073709551616) (y : Int) (hy0 : 0 ≤ y) (hy1 : y < 18446744073709551616) (w : World)
    (h : Sl w v encW L) (h' : Sl w v' encW M) :
    Calls Try.prog 11 #[.int .i64 what, .int .i64 width, v, v', .int .u64 x, .int .u64 y] w fun r w' => r = .returned (.bool true) ∧ Below w.heap.size w w' := by
  obtain ⟨p, cap, rfl⟩ : ∃ p cap, v = .slice p L.length cap := by obtain ⟨b, off, p, cap, hv, _⟩ := h; exact ⟨p, cap, hv⟩
  obtain ⟨p', cap', rfl⟩ : ∃ p cap, v' = .slice p M.length cap := by obtain ⟨b, off, p, cap, hv, _⟩ := h'; exact ⟨p, cap, hv⟩
  obtain ⟨x, rfl⟩ := Int.eq_ofNat_of_zero_le hx0
  obtain ⟨y, rfl⟩ := Int.eq_ofNat_of_zero_le hy0
  cases hfb : fewB width [.slice p L.length cap, .slice p' M.length cap']
  · have hfew : ∀ w1 : World, Calls Try.prog 47 #[.int .i64 width, .slice (some ⟨w1.heap.size, 0, none⟩) 2 2] (w1.alloc (.cells #[.slice p L.length cap, .slice p' M.length cap'] 52)) fun e w' => e = .returned (.bool false) ∧ w1.alloc (.cells #[.slice p L.length cap, .slice p' M.length cap'] 52) = w' := fun w1 => by
      have := few_any width [.slice p L.length cap, .slice p' M.length cap'] (by intro u hu; simp at hu; rcases hu with rfl | rfl <;> exact ⟨_, _, _, rfl⟩) (by simp) _ _ (sl_two _ _ 52 w1)
      rwa [hfb] at this
    clear hfb h h'
    go_enter Try.func11, Try.ntmps11
    go_wp2_with (first | (go_at_call 46; refine' Calls.aft _ _ (lawake_any _) _; rotate_left 2; (first | (with_reducible exact After.below _; rfl) | (with_reducible exact below_drew (After.below _); rfl) | (with_reducible exact below_set (After.below _) _ _; (go_simp; rfl)) | (with_reducible exact below_set (below_set (After.below _) _ _) _ _; (go_simp; rfl)) | (with_reducible exact below_set (below_set (below_set (After.below _) _ _) _ _) _ _; (go_simp; rfl)) | (with_reducible exact below_set (below_set (below_set (below_set (After.below _) _ _) _ _) _ _) _ _; (go_simp; rfl)) | (exact Below.refl _ _; rfl)); intro xa; have hle := After.le xa; (try simp at hle)) | ((go_at_call 47; refine Calls.same (hfew _) ?_); have hB := Below.alloc xa.below xa.below.size (.cells #[.slice p L.length cap, .slice p' M.length cap'] 52)))
    go_ret
    exact ⟨rfl, hB⟩
  · obtain ⟨hl70, hm70⟩ := few_two hfb
    have hl : L.length ≤ 1000000 := by omega
    have hm : M.length ≤ 1000000 := by omega
    have hJl := joinRes_len what width L M
    have hx2 : x < 18446744073709551616 := by omega
    have hy2 : y < 18446744073709551616 := by omega
    refine joins_with what width L M (joinRes what width L M) [] x y (wordV what x y) (checkE what width [L, M]) (checkE what width [L]) (rankR what width L) (isL what width) (valueB what width L) (valueB what width M) (belowL what width L M) p p' cap cap' w h h' hfb
      (fun w1 hB => ljoin_any what width L M okL okM hl hm _ _ w1 (h.below hB) (h'.below hB)) (fun w1 hB => lrank_any what width L okL hl _ w1 (h.below hB))
      (fun w1 => lword_any what x y hx2 hy2 w1) (fun w1 => rlword_any what x y hx2 hy2 w1) (fun w1 => ris_any what width w1) (fun w1 hB => lbelow_any what width L M okL okM hl hm _ _ w1 (h.below hB) (h'.below hB))
      (fun w1 hB => rvalue_any what width L okL hl _ w1 (h.below hB)) (fun w1 hB => rvalue_any what width M okM hm _ w1 (h'.below hB)) ?rr ?rj ?rb ?cases (by omega)
    case rr =>
      intro hv w1 hB
      have hi : isL what width = true := by unfold valueB at hv; simp only [Bool.and_eq_true] at hv; exact hv.1
      obtain ⟨h1, h2, h3⟩ := isL_facts hi
      have e : rankR what width L = rankV what width L := by unfold rankR; rw [checkE_cases1 _ _ _ hi, if_pos hv, if_pos rfl]
      rw [e]
      exact rlrank_any what width h1 h2 h3 L okL hl _ w1 (h.below hB)
    case rj =>
      intro hv hv' w1 hB
      have hi : isL what width = true := by unfold valueB at hv; simp only [Bool.and_eq_true] at hv; exact hv.1
      have h0 : checkE what width [L, M] = 0 := by rw [checkE_cases2 _ _ _ _ hi, if_pos ⟨hv, hv'⟩]
      have e : joinRes what width L M = joinV what L M := by unfold joinRes; rw [if_pos h0]
      rw [e]
      exact rjoinV_any what L M okL okM (by rw [valueB_len hv, valueB_len hv']) hl _ _ w1 (h.below hB) (h'.below hB)
    case rb =>
      intro hv hv' w1 hB
      have hi : isL what width = true := by unfold valueB at hv; simp only [Bool.and_eq_true] at hv; exact hv.1
      have e : belowL what width L M = decide (joinV what L M = M) := by
        have h0 : checkE what width [L, M] = 0 := by rw [checkE_cases2 _ _ _ _ hi, if_pos ⟨hv, hv'⟩]
        unfold belowL joinRes
        rw [h0, if_pos rfl]; simp
      rw [e]
      exact rlbelow_any what L M okL okM hl (by rw [valueB_len hv, valueB_len hv']) _ _ w1 (h.below hB) (h'.below hB)
    case cases =>
      cases hi : isL what width
      · have e1 := checkE_not what width [L, M] hi
        have e2 := checkE_not what width [L] hi
        refine .inl ⟨rfl, e1, e2, ?_, ?_, ?_⟩
        · unfold rankR; rw [e2]; rfl
        · unfold joinRes; rw [e1]; rfl
        · unfold belowL; rw [e1]; rfl
      · have e1 := checkE_cases2 what width L M hi
        have e2 := checkE_cases1 what width L hi
        right
        cases hv : valueB what width L
        · right; right
          rw [hv] at e1 e2
          simp at e1 e2
          refine ⟨rfl, rfl, e1, e2, ?_, ?_, ?_⟩
          · unfold rankR; rw [e2]; rfl
          · unfold joinRes; rw [e1]; rfl
          · unfold belowL; rw [e1]; rfl
        · cases hv' : valueB what width M
          · right; left
            rw [hv, hv'] at e1
            rw [hv] at e2
            simp at e1 e2
            refine ⟨rfl, rfl, rfl, e1, e2, ?_, ?_⟩
            · unfold joinRes; rw [e1]; rfl
            · unfold belowL; rw [e1]; rfl
          · left
            rw [hv, hv'] at e1
            rw [hv] at e2
            simp at e1 e2
            exact ⟨rfl, rfl, rfl, e1, e2⟩

end Go.Proofs.Ytjjopjpchgajcaa.Ws
