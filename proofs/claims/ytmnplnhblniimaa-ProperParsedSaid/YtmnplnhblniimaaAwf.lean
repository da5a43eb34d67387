/- soughlaw04.awake: it answers true. -/
import Derived.Test.YtmnplnhblniimaaChkh
import Derived.Test.YtmnplnhblniimaaLit
namespace Go.Proofs.Ytmnplnhblniimaa.Pr
set_option linter.unusedVariables false
set_option linter.unusedSimpArgs false
open Go Go.RowKit

theorem nameB_a : Tk.nameB ⟨#[97]⟩ = true := by
  have h : Tk.runTo Tk.alnumB ⟨#[97]⟩ 0 = 1 := by rw [Tk.runTo_go (by decide) (by decide), Tk.runTo_stop (fun h => absurd h (by decide))]
  rw [Tk.nameB, h]; decide +kernel

def P1 : List Bl := [⟨⟨#[97]⟩, [], ⟨3, (⟨⟨#[]⟩, 0, 0⟩ : At), ⟨#[]⟩, ⟨#[]⟩⟩, .slice none 0 0⟩]
theorem P1_pg (W : World) (sb : Nat) (hsb : sb = W.heap.size) : Pg (W.alloc (.cells #[.string ⟨#[97]⟩, .slice none 0 0, .int .i64 3, .string ⟨#[]⟩, .int .i64 0, .int .i64 0, .string ⟨#[]⟩, .string ⟨#[]⟩] 61)) (.slice (some ⟨sb, 0, none⟩) 1 1) P1 := by
  subst hsb
  refine ⟨Sl.lit P1 rfl rfl (heap_alloc_new W _), fun b hb => ?_⟩
  have : b = ⟨⟨#[97]⟩, [], ⟨3, (⟨⟨#[]⟩, 0, 0⟩ : At), ⟨#[]⟩, ⟨#[]⟩⟩, .slice none 0 0⟩ := by simpa [P1] using hb
  subst this
  exact Sl.nil
theorem P1_check : checkOf P1 = 0 := by
  refine check_0 (by decide) (by decide) (by decide) ?_ (by show ¬ 64 < (putS [] ⟨#[]⟩).length; decide +kernel) (fun k hk => ?_) (fun k hk => ?_)
  · show (blockB _ && true) = true
    unfold blockB
    show ((Tk.nameB ⟨#[97]⟩ && _ && _) && true) = true
    rw [nameB_a]
    decide +kernel
  · have : k = 0 := by simp [P1] at hk; exact hk
    subst this
    rfl
  · have : k = 0 := by simp [P1] at hk; exact hk
    subst this
    rfl

set_option maxRecDepth 100000 in
theorem awake4_any (w : World) : Calls Try.prog 16 #[] w fun e w' => e = .returned (.bool true) ∧ Below w.heap.size w w' := by
  have h2 := fun (W : World) (sb : Nat) (hsb : sb = W.heap.size) => pcheck_any P1 (by decide) (by simp [P1]) _ _ (P1_pg W sb hsb)
  rw [P1_check] at h2
  go_enter Try.func16, Try.ntmps16
  go_wp2_with (go_at_call 17; first | (with_reducible refine' Calls.aft _ _ (check_none none 0 _) _; rotate_left 2; (first | (with_reducible exact After.below _; rfl) | (with_reducible exact below_drew (After.below _); rfl) | (with_reducible exact below_set (After.below _) _ _; (go_simp; rfl)) | (with_reducible exact below_set (below_set (After.below _) _ _) _ _; (go_simp; rfl)) | (with_reducible exact below_set (below_set (below_set (After.below _) _ _) _ _) _ _; (go_simp; rfl)) | (with_reducible exact below_set (below_set (below_set (below_set (After.below _) _ _) _ _) _ _) _ _; (go_simp; rfl)) | (exact Below.refl _ _; rfl)); intro x1; have hle := After.le x1; (try simp at hle)) | (with_reducible refine' Calls.aft _ _ (h2 _ _ (by simp)) _; rotate_left 2; (first | (with_reducible exact After.below _; rfl) | (with_reducible exact below_drew (After.below _); rfl) | (with_reducible exact below_set (After.below _) _ _; (go_simp; rfl)) | (with_reducible exact below_set (below_set (After.below _) _ _) _ _; (go_simp; rfl)) | (with_reducible exact below_set (below_set (below_set (After.below _) _ _) _ _) _ _; (go_simp; rfl)) | (with_reducible exact below_set (below_set (below_set (below_set (After.below _) _ _) _ _) _ _) _ _; (go_simp; rfl)) | (exact Below.refl _ _; rfl)); intro x2; have hle := After.le x2; (try simp at hle)))
  go_ret
  refine ⟨rfl, ?_⟩
  (repeat (first | exact Below.refl _ _ | apply Below.drew | refine Below.alloc ?_ ?_ _ | refine Below.setCell ?_ ?_ _ | refine Below.trans ?_ (Below.mono (After.below _) ?_))); (all_goals (first | (simp; done) | (simp; omega) | omega))

end Go.Proofs.Ytmnplnhblniimaa.Pr
