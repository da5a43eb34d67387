/- soughlaw12.LatticeLaws, put together: it answers true. -/
import Derived.Test.YtjjopjpchgajcaaLattp
import Derived.Test.YtjjopjpchgajcaaLattq
import Derived.Test.YtjjopjpchgajcaaLattr
namespace Go.Proofs.Ytjjopjpchgajcaa.Ws
set_option linter.unusedVariables false
set_option linter.unusedSimpArgs false
open Go Go.RowKit

theorem few_three {width : Int} {p p' p'' : Option Addr} {n n' n'' cap cap' cap'' : Nat} (h : fewB width [.slice p n cap, .slice p' n' cap', .slice p'' n'' cap''] = true) : n ≤ 70 ∧ n' ≤ 70 ∧ n'' ≤ 70 := by
  unfold fewB at h
  rw [Bool.and_eq_true] at h
  have h1 : vlen (.slice p n cap) ≤ 70 := of_decide_eq_true (List.all_eq_true.1 h.1 _ (by simp))
  have h2 : vlen (.slice p' n' cap') ≤ 70 := of_decide_eq_true (List.all_eq_true.1 h.1 (.slice p' n' cap') (by simp))
  have h3 : vlen (.slice p'' n'' cap'') ≤ 70 := of_decide_eq_true (List.all_eq_true.1 h.1 (.slice p'' n'' cap'') (by simp))
  exact ⟨h1, h2, h3⟩

theorem checkE_vals {what width : Int} {L M : List Nat} (hL : valueB what width L = true) (hM : valueB what width M = true) : checkE what width [L, M] = 0 := by
  have hi : isL what width = true := by unfold valueB at hL; simp only [Bool.and_eq_true] at hL; exact hL.1
  rw [checkE_cases2 _ _ _ _ hi, if_pos ⟨hL, hM⟩]
theorem belowL_vals {what width : Int} {L M : List Nat} (hL : valueB what width L = true) (hM : valueB what width M = true) : belowL what width L M = decide (joinV what L M = M) := by
  unfold belowL joinRes
  rw [checkE_vals hL hM, if_pos rfl]; simp
theorem rank_val {what width : Int} {L : List Nat} (hL : valueB what width L = true) : checkE what width [L] = 0 ∧ rankR what width L = rankV what width L := by
  have hi : isL what width = true := by unfold valueB at hL; simp only [Bool.and_eq_true] at hL; exact hL.1
  have h0 : checkE what width [L] = 0 := by rw [checkE_cases1 _ _ _ hi, if_pos hL]
  exact ⟨h0, by unfold rankR; rw [if_pos h0]⟩

set_option maxRecDepth 100000 in
theorem latticeLaws_any (what width : Int) (A : List Nat) (okA : okW A) (v : Value) (B : List Nat) (okB : okW B) (v' : Value) (C : List Nat) (okC : okW C) (v'' : Value) (w : World)
    (h : Sl w v encW A) (h' : Sl w v' encW B) (h'' : Sl w v'' encW C) :
    Calls Try.prog 12 #[.int .i64 what, .int .i64 width, v, v', v''] w fun r w' => r = .returned (.bool true) ∧ Below w.heap.size w w' := by
  obtain ⟨p, cap, rfl⟩ : ∃ p cap, v = .slice p A.length cap := by obtain ⟨b, off, p, cap, hv, _⟩ := h; exact ⟨p, cap, hv⟩
  obtain ⟨p', cap', rfl⟩ : ∃ p cap, v' = .slice p B.length cap := by obtain ⟨b, off, p, cap, hv, _⟩ := h'; exact ⟨p, cap, hv⟩
  obtain ⟨p'', cap'', rfl⟩ : ∃ p cap, v'' = .slice p C.length cap := by obtain ⟨b, off, p, cap, hv, _⟩ := h''; exact ⟨p, cap, hv⟩
  have hfew : ∀ w1 : World, Calls Try.prog 47 #[.int .i64 width, .slice (some ⟨w1.heap.size, 0, none⟩) 3 3] (w1.alloc (.cells #[.slice p A.length cap, .slice p' B.length cap', .slice p'' C.length cap''] 52)) fun e w' => e = .returned (.bool (fewB width [.slice p A.length cap, .slice p' B.length cap', .slice p'' C.length cap''])) ∧ w1.alloc (.cells #[.slice p A.length cap, .slice p' B.length cap', .slice p'' C.length cap''] 52) = w' := fun w1 =>
    few_any width [.slice p A.length cap, .slice p' B.length cap', .slice p'' C.length cap''] (by intro u hu; simp at hu; rcases hu with rfl | rfl | rfl <;> exact ⟨_, _, _, rfl⟩) (by simp) _ _ (sl_three _ _ _ 52 w1)
  cases hfb : fewB width [.slice p A.length cap, .slice p' B.length cap', .slice p'' C.length cap'']
  · rw [hfb] at hfew
    clear hfb h h' h''
    go_enter Try.func12, Try.ntmps12
    go_wp2_with (first | (go_at_call 46; refine' Calls.aft _ _ (lawake_any _) _; rotate_left 2; (first | (with_reducible exact After.below _; rfl) | (with_reducible exact below_drew (After.below _); rfl) | (with_reducible exact below_set (After.below _) _ _; (go_simp; rfl)) | (with_reducible exact below_set (below_set (After.below _) _ _) _ _; (go_simp; rfl)) | (with_reducible exact below_set (below_set (below_set (After.below _) _ _) _ _) _ _; (go_simp; rfl)) | (with_reducible exact below_set (below_set (below_set (below_set (After.below _) _ _) _ _) _ _) _ _; (go_simp; rfl)) | (exact Below.refl _ _; rfl)); intro xa; have hle := After.le xa; (try simp at hle)) | ((go_at_call 47; refine Calls.same (hfew _) ?_); have hB0 := Below.alloc xa.below xa.below.size (.cells #[.slice p A.length cap, .slice p' B.length cap', .slice p'' C.length cap''] 52)))
    go_ret
    exact ⟨rfl, hB0⟩
  · rw [hfb] at hfew
    obtain ⟨la, lb, lc⟩ := few_three hfb
    have kva := fun w1 (hB : Below w.heap.size w w1) => rvalue_any what width A okA (by omega) _ w1 (h.below hB)
    have kvb := fun w1 (hB : Below w.heap.size w w1) => rvalue_any what width B okB (by omega) _ w1 (h'.below hB)
    have kvc := fun w1 (hB : Below w.heap.size w w1) => rvalue_any what width C okC (by omega) _ w1 (h''.below hB)
    cases hva : valueB what width A
    · exact laws_early what width A B C [] [] [] 0 0 0 p p' p'' cap cap' cap'' w true _ _ _ hfew (by rw [hva] at kva; exact kva) kvb kvc (.inr (.inl ⟨rfl, rfl⟩))
    cases hvb : valueB what width B
    · exact laws_early what width A B C [] [] [] 0 0 0 p p' p'' cap cap' cap'' w true _ _ _ hfew (by rw [hva] at kva; exact kva) (by rw [hvb] at kvb; exact kvb) kvc (.inr (.inr (.inl ⟨rfl, rfl, rfl⟩)))
    cases hvc : valueB what width C
    · exact laws_early what width A B C [] [] [] 0 0 0 p p' p'' cap cap' cap'' w true _ _ _ hfew (by rw [hva] at kva; exact kva) (by rw [hvb] at kvb; exact kvb) (by rw [hvc] at kvc; exact kvc) (.inr (.inr (.inr ⟨rfl, rfl, rfl, rfl⟩)))
    have F := facts_all okA okB okC hva hvb hvc
    have okJ := joinV_ok (what := what) okA okB
    have lj : (joinV what A B).length = A.length := joinV_length _ _ _
    have okBo : okW (botW what width) := by
      unfold botW; split
      · exact fullW_ok _
      · intro x hx; rw [List.eq_of_mem_replicate hx]; omega
    have okTo : okW (topW what width) := by
      unfold topW; split
      · exact fullW_ok _
      · intro x hx; rw [List.eq_of_mem_replicate hx]; split <;> omega
    have lbo : (botW what width).length ≤ 1000000 := by rw [botW_length]; have := wordsN_le what width; omega
    have lto : (topW what width).length ≤ 1000000 := by rw [topW_length]; have := wordsN_le what width; omega
    have kj1 := fun w1 (hB : Below w.heap.size w w1) => ljoin_any what width A B okA okB (by omega) (by omega) _ _ w1 (h.below hB) (h'.below hB)
    rw [show joinRes what width A B = joinV what A B from by unfold joinRes; rw [if_pos (checkE_vals hva hvb)], checkE_vals hva hvb] at kj1
    have kj2 := fun w1 (hB : Below w.heap.size w w1) => ljoin_any what width B A okB okA (by omega) (by omega) _ _ w1 (h'.below hB) (h.below hB)
    rw [show joinRes what width B A = joinV what A B from by unfold joinRes; rw [if_pos (checkE_vals hvb hva), F.comm], checkE_vals hvb hva] at kj2
    have kaj := fun w1 o (hB : Below w.heap.size w w1) (hS : Sl w1 o encW (joinV what A B)) => lbelow_any what width A _ okA okJ (by omega) (by omega) _ o w1 (h.below hB) hS
    rw [belowL_vals hva F.val, decide_eq_true F.left] at kaj
    have kbj := fun w1 o (hB : Below w.heap.size w w1) (hS : Sl w1 o encW (joinV what A B)) => lbelow_any what width B _ okB okJ (by omega) (by omega) _ o w1 (h'.below hB) hS
    rw [belowL_vals hvb F.val, decide_eq_true F.right] at kbj
    have kac := fun w1 (hB : Below w.heap.size w w1) => lbelow_any what width A C okA okC (by omega) (by omega) _ _ w1 (h.below hB) (h''.below hB)
    rw [belowL_vals hva hvc] at kac
    have kbc := fun w1 (hB : Below w.heap.size w w1) => lbelow_any what width B C okB okC (by omega) (by omega) _ _ w1 (h'.below hB) (h''.below hB)
    rw [belowL_vals hvb hvc] at kbc
    have kjc := fun w1 o (hB : Below w.heap.size w w1) (hS : Sl w1 o encW (joinV what A B)) => lbelow_any what width _ C okJ okC (by omega) (by omega) o _ w1 hS (h''.below hB)
    rw [belowL_vals F.val hvc] at kjc
    have kba := fun w1 o (hB : Below w.heap.size w w1) (hS : Sl w1 o encW (botW what width)) => lbelow_any what width _ A okBo okA lbo (by omega) o _ w1 hS (h.below hB)
    rw [belowL_vals F.botv hva, decide_eq_true F.bot] at kba
    have kat := fun w1 o (hB : Below w.heap.size w w1) (hS : Sl w1 o encW (topW what width)) => lbelow_any what width A _ okA okTo (by omega) lto _ o w1 (h.below hB) hS
    rw [belowL_vals hva F.topv, decide_eq_true F.top] at kat
    have kra := fun w1 (hB : Below w.heap.size w w1) => lrank_any what width A okA (by omega) _ w1 (h.below hB)
    rw [(rank_val hva).1, (rank_val hva).2] at kra
    have krj := fun w1 o (_ : Below w.heap.size w w1) (hS : Sl w1 o encW (joinV what A B)) => lrank_any what width _ okJ (by omega) o w1 hS
    rw [(rank_val F.val).1, (rank_val F.val).2] at krj
    have ksj := fun w1 o (hB : Below w.heap.size w w1) (hS : Sl w1 o encW (joinV what A B)) => rsame2_any A _ (by omega) _ o w1 (h.below hB) hS
    have kab := fun w1 (hB : Below w.heap.size w w1) => lbelow_any what width A B okA okB (by omega) (by omega) _ _ w1 (h.below hB) (h'.below hB)
    rw [belowL_vals hva hvb] at kab
    have kbA := fun w1 (hB : Below w.heap.size w w1) => lbelow_any what width B A okB okA (by omega) (by omega) _ _ w1 (h'.below hB) (h.below hB)
    rw [belowL_vals hvb hva] at kbA
    have ksb := fun w1 (hB : Below w.heap.size w w1) => rsame2_any A B (by omega) _ _ w1 (h.below hB) (h'.below hB)
    rw [hva] at kva
    rw [hvb] at kvb
    rw [hvc] at kvc
    have f1 : ¬ (heightN what width : Int) < rankV what width (joinV what A B) := by have := F.high; omega
    have f2 : ¬ rankV what width (joinV what A B) < rankV what width A := by have := F.up; omega
    have h11 : ((rankV what width A == rankV what width (joinV what A B)) = true ∧ decide (A = joinV what A B) = true) ∨ ((rankV what width A == rankV what width (joinV what A B)) = false ∧ decide (A = joinV what A B) = false) := by
      by_cases e : A = joinV what A B
      · left; refine ⟨?_, decide_eq_true e⟩
        rw [← e]; simp
      · right; refine ⟨?_, decide_eq_false e⟩
        rw [beq_eq_false_iff_ne]
        exact fun he => e (F.same he)
    have h13 : decide (joinV what A B = B) = false ∨ (decide (joinV what A B = B) = true ∧ decide (joinV what B A = A) = false) ∨ (decide (joinV what A B = B) = true ∧ decide (joinV what B A = A) = true ∧ decide (A = B) = true) := by
      by_cases e1 : joinV what A B = B
      · by_cases e2 : joinV what B A = A
        · exact .inr (.inr ⟨decide_eq_true e1, decide_eq_true e2, decide_eq_true (F.anti e1 e2)⟩)
        · exact .inr (.inl ⟨decide_eq_true e1, decide_eq_false e2⟩)
      · exact .inl (decide_eq_false e1)
    by_cases g1 : joinV what A C = C
    · by_cases g2 : joinV what B C = C
      · have g3 := F.lub g1 g2
        exact laws_c what width A B C (joinV what A B) (botW what width) (topW what width) _ _ _ p p' p'' cap cap' cap'' w true true true _ _ _ _ true true true true ⟨rfl, rfl, rfl, rfl⟩ hfew kva kvb kvc kj1 kj2 kaj kbj (by rw [decide_eq_true g1] at kac; exact kac) (by rw [decide_eq_true g2] at kbc; exact kbc) (by rw [decide_eq_true g3] at kjc; exact kjc) (fun w1 => bottom_any what width w1) (fun w1 => ltop_any what width w1) kba kat kra krj (fun w1 => height_any what width w1) ksj kab kbA ksb (by omega) f1 f2 ⟨rfl, rfl, rfl⟩ h11 h13
      · exact laws_b what width A B C (joinV what A B) (botW what width) (topW what width) _ _ _ p p' p'' cap cap' cap'' w true false _ _ _ _ _ true true true true ⟨rfl, rfl, rfl, rfl⟩ hfew kva kvb kvc kj1 kj2 kaj kbj (by rw [decide_eq_true g1] at kac; exact kac) (by rw [decide_eq_false g2] at kbc; exact kbc) kjc (fun w1 => bottom_any what width w1) (fun w1 => ltop_any what width w1) kba kat kra krj (fun w1 => height_any what width w1) ksj kab kbA ksb (by omega) f1 f2 ⟨rfl, rfl⟩ h11 h13
    · exact laws_a what width A B C (joinV what A B) (botW what width) (topW what width) _ _ _ p p' p'' cap cap' cap'' w false _ _ _ _ _ _ true true true true ⟨rfl, rfl, rfl, rfl⟩ hfew kva kvb kvc kj1 kj2 kaj kbj (by rw [decide_eq_false g1] at kac; exact kac) kbc kjc (fun w1 => bottom_any what width w1) (fun w1 => ltop_any what width w1) kba kat kra krj (fun w1 => height_any what width w1) ksj kab kbA ksb (by omega) f1 f2 rfl h11 h13

end Go.Proofs.Ytjjopjpchgajcaa.Ws
