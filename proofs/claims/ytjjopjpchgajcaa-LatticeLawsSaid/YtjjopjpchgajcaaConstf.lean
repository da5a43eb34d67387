/- WALKS of package constant and of its reference: Op, put together; the laws' awake. -/
import Derived.Test.YtjjopjpchgajcaaConste
namespace Go.Proofs.Ytjjopjpchgajcaa
set_option linter.unusedVariables false
set_option linter.unusedSimpArgs false
open Go.RowKit Flo

theorem norm_cases (n : Int) : normW n = 0 ∨ normW n = 1 ∨ (isN n ∧ normW n = n) := by
  by_cases h : isN n
  · exact .inr (.inr ⟨h, normW_N h⟩)
  · by_cases e0 : n = 0
    · subst e0; exact .inl normW_0
    · exact .inr (.inl (normW_X h e0))

theorem opN_of (op : Int) : (opE op = true ∧ opN op = 0) ∨ (opE op = false ∧ opN op = 10) := by
  unfold opN
  cases opE op <;> simp

section
variable (op a b : Int)
theorem opW_z1 (h : normW a = 0) : opW op a b = 0 := by unfold opW; rw [if_pos (.inl h)]
theorem opW_o1 (g : op = 0 ∨ op = 4) (h : normW a = 1) : opW op a b = 1 := by
  unfold opW; rw [if_pos g, if_neg (by omega), if_pos (.inl h)]
theorem opW_n1 (g : op = 0 ∨ op = 4) (h0 : normW a ≠ 0) (h1 : normW a ≠ 1) : opW op a b = numW (opA op (numA a) (numB a) (numA b) (numB b)) (opB op (numA a) (numB a) (numA b) (numB b)) := by
  unfold opW; rw [if_pos g, if_neg (by omega), if_neg (by omega), if_pos]
  unfold opE; simp; omega
theorem opW_z2 (g : ¬ (op = 0 ∨ op = 4)) (h : normW b = 0) : opW op a b = 0 := by unfold opW; rw [if_neg g, if_pos (.inr h)]
theorem opW_o2 (g : ¬ (op = 0 ∨ op = 4)) (h0 : normW a ≠ 0) (g0 : normW b ≠ 0) (h : normW a = 1 ∨ normW b = 1) : opW op a b = 1 := by
  unfold opW; rw [if_neg g, if_neg (by omega), if_pos h]
theorem opW_n2 (g : ¬ (op = 0 ∨ op = 4)) (h0 : normW a ≠ 0) (g0 : normW b ≠ 0) (h1 : normW a ≠ 1) (g1 : normW b ≠ 1) :
    opW op a b = if opE op then numW (opA op (numA a) (numB a) (numA b) (numB b)) (opB op (numA a) (numB a) (numA b) (numB b)) else 1 := by
  unfold opW; rw [if_neg g, if_neg (by omega), if_neg (by omega)]
end

section
variable (a b : Int) (h0 : 0 ≤ a) (h1 : a < 18446744073709551616) (g0 : 0 ≤ b) (g1 : b < 18446744073709551616) (w : World)
include h0 h1 g0 g1

theorem l2_any (x y : Int) (hx : normW a = x) (hy : normW b = y) (W : World) : Calls Try.prog 72 #[.slice (some ⟨W.heap.size, 0, none⟩) 2 2] (W.alloc (.cells #[.int .u64 a, .int .u64 b] 29)) fun e w' => e = .returned (.int .u64 (least2 x y)) ∧ Below (W.alloc (.cells #[.int .u64 a, .int .u64 b] 29)).heap.size (W.alloc (.cells #[.int .u64 a, .int .u64 b] 29)) w' := by
  subst hx; subst hy
  exact least2_any a b _ _ (norm_any a h0 h1) (norm_any b g0 g1) W.heap.size _ (by simp) (by simp) (by simp)
omit g0 g1 in
theorem l1_any (x : Int) (hx : normW a = x) (W : World) : Calls Try.prog 72 #[.slice (some ⟨W.heap.size, 0, none⟩) 1 1] (W.alloc (.cells #[.int .u64 a] 29)) fun e w' => e = .returned (.int .u64 (least1 x)) ∧ Below (W.alloc (.cells #[.int .u64 a] 29)).heap.size (W.alloc (.cells #[.int .u64 a] 29)) w' := by
  subst hx
  exact least1_any a _ (norm_any a h0 h1) W.heap.size _ (by simp) (by simp)

theorem cop_04 (op : Int) (g : op = 0 ∨ op = 4) :
    Calls Try.prog 31 #[.int .i64 op, .int .u64 a, .int .u64 b] w fun e w' => e = .returned (.int .u64 (opW op a b)) ∧ Below w.heap.size w w' := by
  have hL := l2_any a b h0 h1 g0 g1 _ _ rfl rfl
  rcases norm_cases a with hx | hx | ⟨hN, hx⟩
  · rw [opW_z1 op a b hx]
    have hL1 := l1_any a h0 h1 _ hx
    rcases g with rfl | rfl
    · exact cop_small_0 a b _ 0 rfl hL hL1 w
    · exact cop_small_4 a b _ 0 rfl hL hL1 w
  · rw [opW_o1 op a b g hx]
    have hL1 := l1_any a h0 h1 _ hx
    rcases g with rfl | rfl
    · exact cop_small_0 a b _ 1 rfl hL hL1 w
    · exact cop_small_4 a b _ 1 rfl hL hL1 w
  · obtain ⟨e0, e1⟩ := isN_pos hN
    rw [opW_n1 op a b g (by omega) (by omega)]
    have hL1 := l1_any a h0 h1 _ hx
    rw [show least1 a = 2 by unfold least1; rw [if_neg e0, if_neg e1]] at hL1
    have hA := cnum_yes a h0 h1 hN
    by_cases hM : isN b
    · have hB := cnum_yes b g0 g1 hM
      rcases g with rfl | rfl
      · exact cop_num_0_ok a b _ _ _ _ _ _ hL hL1 hA hB rfl w
      · exact cop_num_4_ok a b _ _ _ _ _ _ hL hL1 hA hB rfl w
    · have hB := cnum_no b g0 g1 hM
      rcases g with rfl | rfl
      · exact cop_num_0_ok a b _ _ _ _ _ _ hL hL1 hA hB rfl w
      · exact cop_num_4_ok a b _ _ _ _ _ _ hL hL1 hA hB rfl w

theorem cop_x (op : Int) (g : ¬ (op = 0 ∨ op = 4)) :
    Calls Try.prog 31 #[.int .i64 op, .int .u64 a, .int .u64 b] w fun e w' => e = .returned (.int .u64 (opW op a b)) ∧ Below w.heap.size w w' := by
  have q0 : (op == 0) = false := by simp; omega
  have q4 : (op == 4) = false := by simp; omega
  have hL := l2_any a b h0 h1 g0 g1 _ _ rfl rfl
  by_cases hx0 : normW a = 0
  · rw [opW_z1 op a b hx0]
    rw [show least2 (normW a) (normW b) = 0 by unfold least2; rw [if_pos (.inl hx0)]] at hL
    exact cop_small_x a b op q0 q4 0 0 rfl hL w
  by_cases hy0 : normW b = 0
  · rw [opW_z2 op a b g hy0]
    rw [show least2 (normW a) (normW b) = 0 by unfold least2; rw [if_pos (.inr hy0)]] at hL
    exact cop_small_x a b op q0 q4 0 0 rfl hL w
  by_cases ho : normW a = 1 ∨ normW b = 1
  · rw [opW_o2 op a b g hx0 hy0 ho]
    rw [show least2 (normW a) (normW b) = 1 by unfold least2; rw [if_neg (by omega), if_pos ho]] at hL
    exact cop_small_x a b op q0 q4 1 1 rfl hL w
  rw [opW_n2 op a b g hx0 hy0 (by omega) (by omega)]
  rw [show least2 (normW a) (normW b) = 2 by unfold least2; rw [if_neg (by omega), if_neg ho]] at hL
  have hN : isN a := by rcases norm_cases a with h | h | ⟨h, _⟩; omega; omega; exact h
  have hM : isN b := by rcases norm_cases b with h | h | ⟨h, _⟩; omega; omega; exact h
  have hA := cnum_yes a h0 h1 hN
  have hB := cnum_yes b g0 g1 hM
  rcases opN_of op with ⟨hE, hn⟩ | ⟨hE, hn⟩
  · rw [hE, if_pos rfl]
    exact cop_num_x_ok a b _ _ _ _ _ op q0 q4 0 hL hA hB hn w
  · rw [hE, if_neg (by simp)]
    exact cop_num_x_no a b _ _ _ _ _ op q0 q4 0 hL hA hB hn w

theorem cop_any (op : Int) :
    Calls Try.prog 31 #[.int .i64 op, .int .u64 a, .int .u64 b] w fun e w' => e = .returned (.int .u64 (opW op a b)) ∧ Below w.heap.size w w' := by
  by_cases g : op = 0 ∨ op = 4
  · exact cop_04 a b h0 h1 g0 g1 w op g
  · exact cop_x a b h0 h1 g0 g1 w op g

theorem rcop_04 (op : Int) (g : op = 0 ∨ op = 4) :
    Calls Try.prog 32 #[.int .i64 op, .int .u64 a, .int .u64 b] w fun e w' => e = .returned (.int .u64 (opW op a b)) ∧ Below w.heap.size w w' := by
  have hx' := rnorm_any a h0 h1
  have hy' := rnorm_any b g0 g1
  rcases norm_cases a with hx | hx | ⟨hN, hx⟩
  · rw [opW_z1 op a b hx]
    rcases g with rfl | rfl
    · exact rcop_0_z1 a b _ _ hx' hy' (by simp [hx]) w
    · exact rcop_4_z1 a b _ _ hx' hy' (by simp [hx]) w
  · rw [opW_o1 op a b g hx]
    rcases g with rfl | rfl
    · exact rcop_0_o1 a b _ _ hx' hy' (by simp [hx]) (by simp [hx]) w
    · exact rcop_4_o1 a b _ _ hx' hy' (by simp [hx]) (by simp [hx]) w
  · obtain ⟨e0, e1⟩ := isN_pos hN
    rw [opW_n1 op a b g (by omega) (by omega)]
    have hA := rnum_yes a h0 h1 hN
    have hB := rnum_yes 2 (by omega) (by omega) (by decide)
    have f1 : (normW a == 0) = false := by rw [hx]; exact bne e0
    have f3 : (normW a == 1) = false := by rw [hx]; exact bne e1
    have hA' : ∀ w, Calls Try.prog 40 #[.int .u64 (normW a)] w fun e w' => e = .returned (.tuple #[.agg #[.int .i64 (numA a), .int .i64 (numB a)], .bool true]) ∧ Below w.heap.size w w' := by rw [hx]; exact hA
    rcases g with rfl | rfl
    · exact rcop_0_ntrue a b _ _ _ _ _ _ hx' hy' f1 f3 hA' hB rfl w
    · exact rcop_4_ntrue a b _ _ _ _ _ _ hx' hy' f1 f3 hA' hB rfl w

theorem rcop_x (op : Int) (g : ¬ (op = 0 ∨ op = 4)) :
    Calls Try.prog 32 #[.int .i64 op, .int .u64 a, .int .u64 b] w fun e w' => e = .returned (.int .u64 (opW op a b)) ∧ Below w.heap.size w w' := by
  have q0 : (op == 0) = false := by simp; omega
  have q4 : (op == 4) = false := by simp; omega
  have hx' := rnorm_any a h0 h1
  have hy' := rnorm_any b g0 g1
  by_cases hx0 : normW a = 0
  · rw [opW_z1 op a b hx0]
    exact rcop_x_z1 a b _ _ op q0 q4 hx' hy' (by simp [hx0]) w
  have f1 := bne hx0
  by_cases hy0 : normW b = 0
  · rw [opW_z2 op a b g hy0]
    exact rcop_x_z2 a b _ _ op q0 q4 hx' hy' f1 (by simp [hy0]) w
  have f2 := bne hy0
  by_cases ho : normW a = 1
  · rw [opW_o2 op a b g hx0 hy0 (.inl ho)]
    exact rcop_x_o1 a b _ _ op q0 q4 hx' hy' f1 f2 (by simp [ho]) w
  have f3 := bne ho
  by_cases ho2 : normW b = 1
  · rw [opW_o2 op a b g hx0 hy0 (.inr ho2)]
    exact rcop_x_o2 a b _ _ op q0 q4 hx' hy' f1 f2 f3 (by simp [ho2]) w
  have f4 := bne ho2
  rw [opW_n2 op a b g hx0 hy0 ho ho2]
  have hN : isN a ∧ normW a = a := by rcases norm_cases a with h | h | h; omega; omega; exact h
  have hM : isN b ∧ normW b = b := by rcases norm_cases b with h | h | h; omega; omega; exact h
  have hA : ∀ w, Calls Try.prog 40 #[.int .u64 (normW a)] w fun e w' => e = .returned (.tuple #[.agg #[.int .i64 (numA a), .int .i64 (numB a)], .bool true]) ∧ Below w.heap.size w w' := by rw [hN.2]; exact rnum_yes a h0 h1 hN.1
  have hB : ∀ w, Calls Try.prog 40 #[.int .u64 (normW b)] w fun e w' => e = .returned (.tuple #[.agg #[.int .i64 (numA b), .int .i64 (numB b)], .bool true]) ∧ Below w.heap.size w w' := by rw [hM.2]; exact rnum_yes b g0 g1 hM.1
  cases hE : opE op
  · rw [if_neg (by simp)]
    exact rcop_x_nfalse a b _ _ _ _ _ _ op q0 q4 hx' hy' f1 f2 f3 f4 hA hB hE w
  · rw [if_pos rfl]
    exact rcop_x_ntrue a b _ _ _ _ _ _ op q0 q4 hx' hy' f1 f2 f3 f4 hA hB hE w

theorem rcop_any (op : Int) :
    Calls Try.prog 32 #[.int .i64 op, .int .u64 a, .int .u64 b] w fun e w' => e = .returned (.int .u64 (opW op a b)) ∧ Below w.heap.size w w' := by
  by_cases g : op = 0 ∨ op = 4
  · exact rcop_04 a b h0 h1 g0 g1 w op g
  · exact rcop_x a b h0 h1 g0 g1 w op g
end

theorem numW_lo (a b : Int) : 0 ≤ numW a b := by have := wordN_lo a b; unfold numW; omega
theorem numW_hi (a b : Int) : numW a b < 18446744073709551616 := by have := wordN_hi a b; unfold numW; omega

theorem cawake_any (w : World) : Calls Try.prog 30 #[] w fun e w' => e = .returned (.bool true) ∧ Below w.heap.size w w' := by
  have e1 : joinW (numW 1 0) (numW 2 0) = 1 := by decide
  have e2 : opW 3 (numW 0 0) 1 = 1 := by decide
  go_enter Try.func30, Try.ntmps30
  go_wp2_with (first | (go_at_call 41; refine' Calls.aft _ _ (cof_any _ _ _) _; rotate_left 2; (first | (with_reducible exact After.below _; rfl) | (with_reducible exact below_drew (After.below _); rfl) | (with_reducible exact below_set (After.below _) _ _; (go_simp; rfl)) | (with_reducible exact below_set (below_set (After.below _) _ _) _ _; (go_simp; rfl)) | (with_reducible exact below_set (below_set (below_set (After.below _) _ _) _ _) _ _; (go_simp; rfl)) | (with_reducible exact below_set (below_set (below_set (below_set (After.below _) _ _) _ _) _ _) _ _; (go_simp; rfl)) | (exact Below.refl _ _; rfl)); intro x; have hle := After.le x; (try simp at hle)) | (go_at_call 33; refine' Calls.aft _ _ (join_any _ _ (numW_lo _ _) (numW_hi _ _) (numW_lo _ _) (numW_hi _ _) _) _; rotate_left 2; (first | (with_reducible exact After.below _; rfl) | (with_reducible exact below_drew (After.below _); rfl) | (with_reducible exact below_set (After.below _) _ _; (go_simp; rfl)) | (with_reducible exact below_set (below_set (After.below _) _ _) _ _; (go_simp; rfl)) | (with_reducible exact below_set (below_set (below_set (After.below _) _ _) _ _) _ _; (go_simp; rfl)) | (with_reducible exact below_set (below_set (below_set (below_set (After.below _) _ _) _ _) _ _) _ _; (go_simp; rfl)) | (exact Below.refl _ _; rfl)); intro x; have hle := After.le x; (try simp at hle)) | (go_at_call 31; refine' Calls.aft _ _ (cop_any _ 1 (numW_lo _ _) (numW_hi _ _) (Int.zero_le_ofNat 1) (Int.ofNat_lt.2 (Nat.lt_of_sub_pos (Nat.succ_pos _))) _ _) _; rotate_left 2; (first | (with_reducible exact After.below _; rfl) | (with_reducible exact below_drew (After.below _); rfl) | (with_reducible exact below_set (After.below _) _ _; (go_simp; rfl)) | (with_reducible exact below_set (below_set (After.below _) _ _) _ _; (go_simp; rfl)) | (with_reducible exact below_set (below_set (below_set (After.below _) _ _) _ _) _ _; (go_simp; rfl)) | (with_reducible exact below_set (below_set (below_set (below_set (After.below _) _ _) _ _) _ _) _ _; (go_simp; rfl)) | (exact Below.refl _ _; rfl)); intro x; have hle := After.le x; (try simp at hle)))
  go_ret
  refine ⟨rfl, ?_⟩
  (repeat (first | exact Below.refl _ _ | apply Below.drew | refine Below.alloc ?_ ?_ _ | refine Below.setCell ?_ ?_ _ | refine Below.trans ?_ (Below.mono (After.below _) ?_))); (all_goals (first | (simp; done) | (simp; omega) | omega))

end Go.Proofs.Ytjjopjpchgajcaa
