/- WordsetMakes: the law answers true. -/
import Derived.Test.YtjjopjpchgajcaaDoorWordsk
namespace Go.Proofs.YtjjopjpchgajcaaDoor.Ws
set_option linter.unusedVariables false
set_option linter.unusedSimpArgs false
open Go Go.RowKit

theorem size_full (n : Int) : size (fullW n) = cutN n := by
  unfold size
  rw [fullW_len]
  have h : cutN n ≤ 64 * sizeN n := by unfold sizeN; omega
  obtain ⟨r, hr⟩ := Nat.exists_eq_add_of_le h
  rw [hr, cnt_add, cnt_all (cutN n) (fun i hi => by rw [fullW_has]; simpa using hi), cnt_congr (q := fun _ => false) r (fun i _ => by rw [fullW_has]; simp), cnt_zero]
  rfl
theorem fits_full (n : Int) : fitsB (fullW n) n = true := by
  unfold fitsB
  rw [Bool.and_eq_true, decide_eq_true_iff, within_iff (fullW_ok n)]
  exact ⟨fullW_len n, fun m h => h⟩

set_option maxRecDepth 100000 in
theorem wordsetMakes_any (n : Int) (M : List Int) (L : List Nat) (hok : okW L) (v v' : Value) (w : World) (hM : Sl w v encI M) (hL : Sl w v' encW L) (hT : Tab w) :
    Calls Tryd.prog 3 #[.int .i64 n, v, v'] w fun e w' => e = .returned (.bool true) ∧ Below w.heap.size w w' := by
  obtain ⟨p, cap, hv⟩ : ∃ p cap, v = .slice p M.length cap := by obtain ⟨b, off, p, cap, hv, _⟩ := hM; exact ⟨p, cap, hv⟩
  obtain ⟨p', cap', hv'⟩ : ∃ p cap, v' = .slice p L.length cap := by obtain ⟨b, off, p, cap, hv, _⟩ := hL; exact ⟨p, cap, hv⟩
  subst hv hv'
  by_cases hbig : (200 < n ∧ n < 1024) ∨ 60 < M.length ∨ 17 < L.length
  · go_enter Tryd.func3, Tryd.ntmps3
    go_wp2_with (first | (go_at_call 6; refine' Calls.aft _ _ (awake10_any _ hT) _; rotate_left 2; (first | (with_reducible exact After.below _; rfl) | (with_reducible exact below_drew (After.below _); rfl) | (with_reducible exact below_set (After.below _) _ _; (go_simp; rfl)) | (with_reducible exact below_set (below_set (After.below _) _ _) _ _; (go_simp; rfl)) | (with_reducible exact below_set (below_set (below_set (After.below _) _ _) _ _) _ _; (go_simp; rfl)) | (with_reducible exact below_set (below_set (below_set (below_set (After.below _) _ _) _ _) _ _) _ _; (go_simp; rfl)) | (exact Below.refl _ _; rfl)); intro xa; have hle := After.le xa; (try simp at hle)))
    all_goals (go_ret; exact ⟨rfl, xa.below⟩)
  · have h60 : ¬ (60 < (M.length : Int)) := by omega
    have h17 : ¬ (17 < (L.length : Int)) := by omega
    have hB := Below.refl w.heap.size w
    have hsz := sizeN_le n
    have hfl := fullW_len n
    have hws := size_any n
    have hrs := rsize_any n
    have hfu := full_any n
    have hwo := fun v w h => wof_any n M (by omega) v w h
    have hro := fun v w h => rof_any n M (by omega) v w h
    have hwl : (wordsOf (inB M (cutN n)) (sizeN n)).length = sizeN n := wordsOf_length _ _
    have hsm := fun v v' w h h' => rsame_any (wordsOf (inB M (cutN n)) (sizeN n)) (by omega) v v' w h h'
    have hln := fun v w h => len_any (fullW n) (fullW_ok n) (by omega) v w h
    rw [size_full] at hln
    have hwi := width_any n
    have hff := fun v w h => fits_any (fullW n) (fullW_ok n) (by omega) n v w h
    rw [fits_full] at hff
    have hfa := fun w h => fits_any L hok (by omega) n (.slice p' L.length cap') w h
    have hra := fun w h => rfits_any L hok n (.slice p' L.length cap') w h
    generalize fitsB L n = y at hfa hra
    generalize wordsOf (inB M (cutN n)) (sizeN n) = Z at hwo hro hsm hwl
    rw [← hwl] at hwo hro
    rw [← hfl] at hfu
    generalize fullW n = Fu at hfu hln hff
    go_enter Tryd.func3, Tryd.ntmps3
    go_wp2_with (first | (go_at_call 6; refine' Calls.aft _ _ (awake10_any _ hT) _; rotate_left 2; (first | (with_reducible exact After.below _; rfl) | (with_reducible exact below_drew (After.below _); rfl) | (with_reducible exact below_set (After.below _) _ _; (go_simp; rfl)) | (with_reducible exact below_set (below_set (After.below _) _ _) _ _; (go_simp; rfl)) | (with_reducible exact below_set (below_set (below_set (After.below _) _ _) _ _) _ _; (go_simp; rfl)) | (with_reducible exact below_set (below_set (below_set (below_set (After.below _) _ _) _ _) _ _) _ _; (go_simp; rfl)) | (exact Below.refl _ _; rfl)); intro xa; have hle := After.le xa; (try simp at hle)) | (go_at_call 8; refine Calls.same (hws _) ?_) | (go_at_call 9; refine Calls.same (hrs _) ?_) | (go_at_call 7; refine' Calls.aftS _ _ (hfu _) _; rotate_left 2; (exact Below.refl _ _; rfl); intro v1 x1 ho1; have hle := After.le x1; (try simp at hle)) | (go_at_call 11; refine' Calls.aftS _ _ (hwo _ _ (by repeat (first | exact hM | refine Sl.below ?_ (After.below _)))) _; rotate_left 2; (exact Below.refl _ _; rfl); intro v2 x2 ho2; have hle := After.le x2; (try simp at hle)) | (go_at_call 12; refine' Calls.aftS _ _ (hro _ _ (by repeat (first | exact hM | refine Sl.below ?_ (After.below _)))) _; rotate_left 2; (exact Below.refl _ _; rfl); intro v3 x3 ho3; have hle := After.le x3; (try simp at hle)) | (go_at_call 10; refine' Calls.aft _ _ (hsm _ _ _ (by repeat (first | exact Sl.of_own ho2 | refine Sl.below ?_ (After.below _))) (Sl.of_own ho3)) _; rotate_left 2; (exact Below.refl _ _; rfl); intro x4; have hle := After.le x4; (try simp at hle)) | (go_at_call 13; refine Calls.same (hln _ _ (by repeat (first | exact Sl.of_own ho1 | refine Sl.below ?_ (After.below _)))) ?_) | (go_at_call 14; refine Calls.same (hwi _) ?_) | (go_at_call 15; first | (with_reducible refine' Calls.aft _ _ (hff v1 _ (by repeat (first | exact Sl.of_own ho1 | refine Sl.below ?_ (After.below _)))) _; rotate_left 2; (exact Below.refl _ _; rfl); intro xx; have hle := After.le xx; (try simp at hle)) | (with_reducible refine' Calls.aft _ _ (hfa _ (by repeat (first | exact hL | refine Sl.below ?_ (After.below _)))) _; rotate_left 2; (exact Below.refl _ _; rfl); intro xx; have hle := After.le xx; (try simp at hle))) | (go_at_call 16; refine Calls.same (hra _ (by repeat (first | exact hL | refine Sl.below ?_ (After.below _)))) ?_))
    all_goals (go_ret; exact ⟨rfl, (by repeat (first | exact xa.below | refine below_after ?_ _))⟩)

end Go.Proofs.YtjjopjpchgajcaaDoor.Ws
