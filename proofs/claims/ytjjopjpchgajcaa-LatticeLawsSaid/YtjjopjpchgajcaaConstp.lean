/- PLAIN LAWS of what is known of numbers; and the walks of the laws ConstantOps, ConstantJoins, ConstantLaws. -/
import Derived.Test.YtjjopjpchgajcaaConstf
namespace Go.Proofs.Ytjjopjpchgajcaa
set_option linter.unusedVariables false
set_option linter.unusedSimpArgs false
open Go.RowKit Flo

/-- Is the one below the other? -/
def belowB (a b : Int) : Bool := joinW a b == normW b

theorem below_iff (a b : Int) : belowB a b = true ↔ (normW a = normW b ∨ normW a = 0 ∨ normW b = 1) := by
  unfold belowB joinW joinN
  simp only [beq_iff_eq]
  by_cases h1 : normW a = normW b
  · rw [if_pos h1]; omega
  · rw [if_neg h1]
    by_cases h2 : normW b = 0
    · rw [if_pos h2]; omega
    · rw [if_neg h2]
      by_cases h3 : normW a = 0
      · rw [if_pos h3]; omega
      · rw [if_neg h3]; omega

theorem normW_normW (a : Int) : normW (normW a) = normW a := by
  rcases norm_cases a with h | h | ⟨h, e⟩
  · rw [h]; rfl
  · rw [h]; decide
  · rw [e, e]

theorem joinW_cases (a b : Int) : (joinW a b = normW a ∧ (normW a = normW b ∨ normW b = 0)) ∨ (joinW a b = normW b ∧ normW a = 0) ∨ (joinW a b = 1 ∧ normW a ≠ normW b ∧ normW b ≠ 0 ∧ normW a ≠ 0) := by
  unfold joinW joinN
  by_cases h1 : normW a = normW b
  · rw [if_pos h1]; exact .inl ⟨rfl, .inl h1⟩
  · rw [if_neg h1]
    by_cases h2 : normW b = 0
    · rw [if_pos h2]; exact .inl ⟨rfl, .inr h2⟩
    · rw [if_neg h2]
      by_cases h3 : normW a = 0
      · rw [if_pos h3]; exact .inr (.inl ⟨rfl, h3⟩)
      · rw [if_neg h3]; exact .inr (.inr ⟨rfl, h1, h2, h3⟩)

theorem normW_joinW (a b : Int) : normW (joinW a b) = joinW a b := by
  rcases joinW_cases a b with ⟨h, _⟩ | ⟨h, _⟩ | ⟨h, _⟩
  · rw [h, normW_normW]
  · rw [h, normW_normW]
  · rw [h]; decide

theorem joinW_lo (a b : Int) (h0 : 0 ≤ a) (g0 : 0 ≤ b) : 0 ≤ joinW a b := by
  have := normW_lo a h0; have := normW_lo b g0
  rcases joinW_cases a b with ⟨h, _⟩ | ⟨h, _⟩ | ⟨h, _⟩ <;> omega
theorem joinW_hi (a b : Int) (h1 : a < 18446744073709551616) (g1 : b < 18446744073709551616) : joinW a b < 18446744073709551616 := by
  have := normW_hi a h1; have := normW_hi b g1
  rcases joinW_cases a b with ⟨h, _⟩ | ⟨h, _⟩ | ⟨h, _⟩ <;> omega

theorem below_left (a b : Int) : belowB a (joinW a b) = true := by
  rw [below_iff, normW_joinW]
  rcases joinW_cases a b with ⟨h, _⟩ | ⟨h, g⟩ | ⟨h, _⟩ <;> omega
theorem below_right (a b : Int) : belowB b (joinW a b) = true := by
  rw [below_iff, normW_joinW]
  rcases joinW_cases a b with ⟨h, g⟩ | ⟨h, g⟩ | ⟨h, _⟩ <;> omega
theorem below_lub (a b c : Int) (h1 : belowB a c = true) (h2 : belowB b c = true) : belowB (joinW a b) c = true := by
  rw [below_iff] at h1 h2 ⊢
  rw [normW_joinW]
  rcases joinW_cases a b with ⟨h, g⟩ | ⟨h, g⟩ | ⟨h, g⟩ <;> omega
theorem rank_less (a b : Int) (h : belowB a b = true) (hn : normW a ≠ normW b) : rankN (normW a) < rankN (normW b) := by
  rw [below_iff] at h
  unfold rankN
  rcases h with h | h | h
  · exact absurd h hn
  · rw [if_pos h, if_neg (by omega)]; split <;> omega
  · rw [h, if_neg (by omega : ¬ (1 : Int) = 0), if_pos rfl]
    split
    · omega
    · rw [if_neg (by omega)]; omega

theorem isN_numW (a b : Int) : isN (numW a b) := by
  have := wordN_lo a b; have := wordN_hi a b
  unfold isN numW; omega

theorem opW_cases (op a b : Int) : opW op a b = 0 ∨ opW op a b = 1 ∨ ∃ p q, opW op a b = numW p q := by
  by_cases g : op = 0 ∨ op = 4
  · by_cases h0 : normW a = 0
    · exact .inl (opW_z1 op a b h0)
    · by_cases h1 : normW a = 1
      · exact .inr (.inl (opW_o1 op a b g h1))
      · rw [opW_n1 op a b g h0 h1]; exact .inr (.inr ⟨_, _, rfl⟩)
  · by_cases h0 : normW a = 0
    · exact .inl (opW_z1 op a b h0)
    · by_cases g0 : normW b = 0
      · exact .inl (opW_z2 op a b g g0)
      · by_cases h1 : normW a = 1 ∨ normW b = 1
        · exact .inr (.inl (opW_o2 op a b g h0 g0 h1))
        · rw [opW_n2 op a b g h0 g0 (by omega) (by omega)]
          split
          · exact .inr (.inr ⟨_, _, rfl⟩)
          · exact .inr (.inl rfl)

theorem normW_opW (op a b : Int) : normW (opW op a b) = opW op a b := by
  rcases opW_cases op a b with h | h | ⟨p, q, h⟩
  · rw [h]; rfl
  · rw [h]; decide
  · rw [h]; exact normW_N (isN_numW _ _)

theorem opW_lo (op a b : Int) : 0 ≤ opW op a b := by
  rcases opW_cases op a b with h | h | ⟨p, q, h⟩
  · omega
  · omega
  · rw [h]; exact numW_lo _ _
theorem opW_hi (op a b : Int) : opW op a b < 18446744073709551616 := by
  rcases opW_cases op a b with h | h | ⟨p, q, h⟩
  · omega
  · omega
  · rw [h]; exact numW_hi _ _

theorem same_num {a b : Int} (h : normW a = normW b) (h0 : normW a ≠ 0) (h1 : normW a ≠ 1) : a = b := by
  rcases norm_cases a with e | e | ⟨_, e⟩
  · omega
  · omega
  · rcases norm_cases b with f | f | ⟨_, f⟩ <;> omega

theorem op_mono (op a b c d : Int) (h1 : belowB a b = true) (h2 : belowB c d = true) : belowB (opW op a c) (opW op b d) = true := by
  rw [below_iff] at h1 h2 ⊢
  rw [normW_opW, normW_opW]
  by_cases ha : normW a = 0
  · exact .inr (.inl (opW_z1 op a c ha))
  · by_cases g : op = 0 ∨ op = 4
    · by_cases hb : normW b = 1
      · exact .inr (.inr (opW_o1 op b d g hb))
      · have e : a = b := same_num (by omega) ha (by omega)
        subst e
        left
        rw [opW_n1 op a c g ha hb, opW_n1 op a d g ha hb]
        rcases g with rfl | rfl <;> rfl
    · by_cases hc : normW c = 0
      · exact .inr (.inl (opW_z2 op a c g hc))
      · have hb0 : normW b ≠ 0 := by omega
        have hd0 : normW d ≠ 0 := by omega
        by_cases hbd : normW b = 1 ∨ normW d = 1
        · exact .inr (.inr (opW_o2 op b d g hb0 hd0 hbd))
        · have e : a = b := same_num (by omega) ha (by omega)
          have e2 : c = d := same_num (by omega) hc (by omega)
          subst e; subst e2
          exact .inl rfl

theorem belowB_any (a b : Int) (h0 : 0 ≤ a) (h1 : a < 18446744073709551616) (g0 : 0 ≤ b) (g1 : b < 18446744073709551616) (w : World) :
    Calls Try.prog 35 #[.int .u64 a, .int .u64 b] w fun e w' => e = .returned (.bool (belowB a b)) ∧ Below w.heap.size w w' := below_any a b h0 h1 g0 g1 w

theorem constantOps_any (op a : Int) (h0 : 0 ≤ a) (h1 : a < 18446744073709551616) (b : Int) (g0 : 0 ≤ b) (g1 : b < 18446744073709551616) (w : World) :
    Calls Try.prog 6 #[.int .i64 op, .int .u64 a, .int .u64 b] w fun e w' => e = .returned (.bool true) ∧ Below w.heap.size w w' := by
  go_enter Try.func6, Try.ntmps6
  go_wp2_with (first | (go_at_call 30; refine' Calls.aft _ _ (cawake_any _) _; rotate_left 2; (first | (with_reducible exact After.below _; rfl) | (with_reducible exact below_drew (After.below _); rfl) | (with_reducible exact below_set (After.below _) _ _; (go_simp; rfl)) | (with_reducible exact below_set (below_set (After.below _) _ _) _ _; (go_simp; rfl)) | (with_reducible exact below_set (below_set (below_set (After.below _) _ _) _ _) _ _; (go_simp; rfl)) | (with_reducible exact below_set (below_set (below_set (below_set (After.below _) _ _) _ _) _ _) _ _; (go_simp; rfl)) | (exact Below.refl _ _; rfl)); intro x; have hle := After.le x; (try simp at hle)) | (go_at_call 31; refine' Calls.aft _ _ (cop_any a b h0 h1 g0 g1 _ op) _; rotate_left 2; (first | (with_reducible exact After.below _; rfl) | (with_reducible exact below_drew (After.below _); rfl) | (with_reducible exact below_set (After.below _) _ _; (go_simp; rfl)) | (with_reducible exact below_set (below_set (After.below _) _ _) _ _; (go_simp; rfl)) | (with_reducible exact below_set (below_set (below_set (After.below _) _ _) _ _) _ _; (go_simp; rfl)) | (with_reducible exact below_set (below_set (below_set (below_set (After.below _) _ _) _ _) _ _) _ _; (go_simp; rfl)) | (exact Below.refl _ _; rfl)); intro x; have hle := After.le x; (try simp at hle)) | (go_at_call 32; refine' Calls.aft _ _ (rcop_any a b h0 h1 g0 g1 _ op) _; rotate_left 2; (first | (with_reducible exact After.below _; rfl) | (with_reducible exact below_drew (After.below _); rfl) | (with_reducible exact below_set (After.below _) _ _; (go_simp; rfl)) | (with_reducible exact below_set (below_set (After.below _) _ _) _ _; (go_simp; rfl)) | (with_reducible exact below_set (below_set (below_set (After.below _) _ _) _ _) _ _; (go_simp; rfl)) | (with_reducible exact below_set (below_set (below_set (below_set (After.below _) _ _) _ _) _ _) _ _; (go_simp; rfl)) | (exact Below.refl _ _; rfl)); intro x; have hle := After.le x; (try simp at hle)))
  go_ret
  refine ⟨by simp, ?_⟩
  (repeat (first | exact Below.refl _ _ | apply Below.drew | refine Below.alloc ?_ ?_ _ | refine Below.setCell ?_ ?_ _ | refine Below.trans ?_ (Below.mono (After.below _) ?_))); (all_goals (first | (simp; done) | (simp; omega) | omega))

theorem constantJoins_any (a : Int) (h0 : 0 ≤ a) (h1 : a < 18446744073709551616) (b : Int) (g0 : 0 ≤ b) (g1 : b < 18446744073709551616) (w : World) :
    Calls Try.prog 7 #[.int .u64 a, .int .u64 b] w fun e w' => e = .returned (.bool true) ∧ Below w.heap.size w w' := by
  go_enter Try.func7, Try.ntmps7
  go_wp2_with (first | (go_at_call 30; refine' Calls.aft _ _ (cawake_any _) _; rotate_left 2; (first | (with_reducible exact After.below _; rfl) | (with_reducible exact below_drew (After.below _); rfl) | (with_reducible exact below_set (After.below _) _ _; (go_simp; rfl)) | (with_reducible exact below_set (below_set (After.below _) _ _) _ _; (go_simp; rfl)) | (with_reducible exact below_set (below_set (below_set (After.below _) _ _) _ _) _ _; (go_simp; rfl)) | (with_reducible exact below_set (below_set (below_set (below_set (After.below _) _ _) _ _) _ _) _ _; (go_simp; rfl)) | (exact Below.refl _ _; rfl)); intro x; have hle := After.le x; (try simp at hle)) | (go_at_call 33; refine' Calls.aft _ _ (join_any a b h0 h1 g0 g1 _) _; rotate_left 2; (first | (with_reducible exact After.below _; rfl) | (with_reducible exact below_drew (After.below _); rfl) | (with_reducible exact below_set (After.below _) _ _; (go_simp; rfl)) | (with_reducible exact below_set (below_set (After.below _) _ _) _ _; (go_simp; rfl)) | (with_reducible exact below_set (below_set (below_set (After.below _) _ _) _ _) _ _; (go_simp; rfl)) | (with_reducible exact below_set (below_set (below_set (below_set (After.below _) _ _) _ _) _ _) _ _; (go_simp; rfl)) | (exact Below.refl _ _; rfl)); intro x; have hle := After.le x; (try simp at hle)) | (go_at_call 34; refine' Calls.aft _ _ (rjoin_any a b h0 h1 g0 g1 _) _; rotate_left 2; (first | (with_reducible exact After.below _; rfl) | (with_reducible exact below_drew (After.below _); rfl) | (with_reducible exact below_set (After.below _) _ _; (go_simp; rfl)) | (with_reducible exact below_set (below_set (After.below _) _ _) _ _; (go_simp; rfl)) | (with_reducible exact below_set (below_set (below_set (After.below _) _ _) _ _) _ _; (go_simp; rfl)) | (with_reducible exact below_set (below_set (below_set (below_set (After.below _) _ _) _ _) _ _) _ _; (go_simp; rfl)) | (exact Below.refl _ _; rfl)); intro x; have hle := After.le x; (try simp at hle)) | (go_at_call 35; refine' Calls.aft _ _ (below_any a b h0 h1 g0 g1 _) _; rotate_left 2; (first | (with_reducible exact After.below _; rfl) | (with_reducible exact below_drew (After.below _); rfl) | (with_reducible exact below_set (After.below _) _ _; (go_simp; rfl)) | (with_reducible exact below_set (below_set (After.below _) _ _) _ _; (go_simp; rfl)) | (with_reducible exact below_set (below_set (below_set (After.below _) _ _) _ _) _ _; (go_simp; rfl)) | (with_reducible exact below_set (below_set (below_set (below_set (After.below _) _ _) _ _) _ _) _ _; (go_simp; rfl)) | (exact Below.refl _ _; rfl)); intro x; have hle := After.le x; (try simp at hle)) | (go_at_call 36; refine' Calls.aft _ _ (rnorm_any b g0 g1 _) _; rotate_left 2; (first | (with_reducible exact After.below _; rfl) | (with_reducible exact below_drew (After.below _); rfl) | (with_reducible exact below_set (After.below _) _ _; (go_simp; rfl)) | (with_reducible exact below_set (below_set (After.below _) _ _) _ _; (go_simp; rfl)) | (with_reducible exact below_set (below_set (below_set (After.below _) _ _) _ _) _ _; (go_simp; rfl)) | (with_reducible exact below_set (below_set (below_set (below_set (After.below _) _ _) _ _) _ _) _ _; (go_simp; rfl)) | (exact Below.refl _ _; rfl)); intro x; have hle := After.le x; (try simp at hle)) | (go_at_call 37; refine' Calls.aft _ _ (rank_any a h0 h1 _) _; rotate_left 2; (first | (with_reducible exact After.below _; rfl) | (with_reducible exact below_drew (After.below _); rfl) | (with_reducible exact below_set (After.below _) _ _; (go_simp; rfl)) | (with_reducible exact below_set (below_set (After.below _) _ _) _ _; (go_simp; rfl)) | (with_reducible exact below_set (below_set (below_set (After.below _) _ _) _ _) _ _; (go_simp; rfl)) | (with_reducible exact below_set (below_set (below_set (below_set (After.below _) _ _) _ _) _ _) _ _; (go_simp; rfl)) | (exact Below.refl _ _; rfl)); intro x; have hle := After.le x; (try simp at hle)) | (go_at_call 38; refine' Calls.aft _ _ (rrank_any a h0 h1 _) _; rotate_left 2; (first | (with_reducible exact After.below _; rfl) | (with_reducible exact below_drew (After.below _); rfl) | (with_reducible exact below_set (After.below _) _ _; (go_simp; rfl)) | (with_reducible exact below_set (below_set (After.below _) _ _) _ _; (go_simp; rfl)) | (with_reducible exact below_set (below_set (below_set (After.below _) _ _) _ _) _ _; (go_simp; rfl)) | (with_reducible exact below_set (below_set (below_set (below_set (After.below _) _ _) _ _) _ _) _ _; (go_simp; rfl)) | (exact Below.refl _ _; rfl)); intro x; have hle := After.le x; (try simp at hle)))
  go_ret
  refine ⟨by simp, ?_⟩
  (repeat (first | exact Below.refl _ _ | apply Below.drew | refine Below.alloc ?_ ?_ _ | refine Below.setCell ?_ ?_ _ | refine Below.trans ?_ (Below.mono (After.below _) ?_))); (all_goals (first | (simp; done) | (simp; omega) | omega))

end Go.Proofs.Ytjjopjpchgajcaa
