/- WALKS of package gauss and of its reference soughref01: what each function gives, for every argument. -/
import Derived.Test.YtaaklejkngpddaaRows
import Derived.Test.YtaaklejkngpddaaAfter
import Derived.Test.YtaaklejkngpddaaFloat
import Derived.WalkKit
import Derived.WalkSpells
import Derived.WalkLawsBesides
import Derived.Laws.ComplexArith
import Derived.Lib.Hide
namespace Go.Proofs.Ytaaklejkngpddaa
set_option linter.unusedVariables false
set_option linter.unusedSimpArgs false
open Go.RowKit Flo

/-- Wrap, plainly. -/
def wr (n : Int) : Int := (n + 32768) % 65536 - 32768

theorem tmod_facts (n : Int) : ∃ q : Int, n.tmod 65536 = n - 65536 * q ∧ (0 ≤ n → 0 ≤ n.tmod 65536) ∧ (n ≤ 0 → n.tmod 65536 ≤ 0) ∧ -65536 < n.tmod 65536 ∧ n.tmod 65536 < 65536 := by
  refine ⟨n.tdiv 65536, by have := Int.mul_tdiv_add_tmod n 65536; omega, fun h => Int.tmod_nonneg _ h, fun h => ?_, ?_, ?_⟩
  · have : (-n).tmod 65536 = - n.tmod 65536 := Int.neg_tmod ..
    have := Int.tmod_nonneg 65536 (a := -n) (by omega)
    omega
  · rcases Int.le_total 0 n with h | h
    · have := Int.tmod_nonneg 65536 h; omega
    · have e : (-n).tmod 65536 = - n.tmod 65536 := Int.neg_tmod ..
      have := Int.tmod_lt_of_pos (-n) (show (0:Int) < 65536 by omega)
      omega
  · exact Int.tmod_lt_of_pos n (by omega)

theorem wr_lo (n : Int) : -32768 ≤ wr n := by unfold wr; omega
theorem wr_hi (n : Int) : wr n ≤ 32767 := by unfold wr; omega
theorem wr_wr (n : Int) : wr (wr n) = wr n := by unfold wr; omega
theorem wr_abs (n : Int) : (wr n).natAbs < 2 ^ 53 := by have := wr_lo n; have := wr_hi n; omega

theorem ret_i64 {a b : Int} (h : a = b) : Ending.returned (.int .i64 a) = .returned (.int .i64 b) := by rw [h]

theorem wrap_any (n : Int) (w : World) :
    Calls Try.prog 74 #[.int .i64 n] w fun e w' => e = .returned (.int .i64 (wr n)) ∧ w = w' := by
  obtain ⟨q, hq, a1, a2, a3, a4⟩ := tmod_facts n
  have HQ := Lib.hid hq; clear hq
  go_enter Try.func74, Try.ntmps74
  go_wp2
  all_goals go_ret
  all_goals exact ⟨ret_i64 (by have := HQ.out; (try simp); unfold wr; omega), rfl⟩

theorem rwrap_any (n : Int) (w : World) :
    Calls Try.prog 73 #[.int .i64 n] w fun e w' => e = .returned (.int .i64 (wr n)) ∧ w = w' := by
  obtain ⟨q, hq, a1, a2, a3, a4⟩ := tmod_facts n
  have HQ := Lib.hid hq; clear hq
  go_enter Try.func73, Try.ntmps73
  go_wp2
  go_ret
  exact ⟨ret_i64 (by have := HQ.out; (try simp); unfold wr; omega), rfl⟩

/-- A Num as a value. -/
abbrev numV (a b : Int) : Value := .agg #[.int .i64 a, .int .i64 b]

theorem of_any (re im : Int) (w : World) :
    Calls Try.prog 43 #[.int .i64 re, .int .i64 im] w fun e w' => e = .returned (.agg #[.int .i64 (wr re), .int .i64 (wr im)]) ∧ Below w.heap.size w w' := by
  go_enter Try.func43, Try.ntmps43
  go_wp2_with (first | (go_at_call 74; refine (wrap_any _ _).mono ?_; rintro e w' ⟨rfl, rfl⟩))
  refine bodyPost_ret (v := .agg #[.int .i64 (wr re), .int .i64 (wr im)]) (by simp only [results, Try.results43]; go_simp) rfl ⟨rfl, ?_⟩
  exact ((Below.refl _ _).alloc (by simp) _)

theorem rof_any (re im : Int) (w : World) :
    Calls Try.prog 41 #[.int .i64 re, .int .i64 im] w fun e w' => e = .returned (.agg #[.int .i64 (wr re), .int .i64 (wr im)]) ∧ Below w.heap.size w w' := by
  go_enter Try.func41, Try.ntmps41
  go_wp2_with (first | (go_at_call 73; refine (rwrap_any _ _).mono ?_; rintro e w' ⟨rfl, rfl⟩))
  refine bodyPost_ret (v := .agg #[.int .i64 (wr re), .int .i64 (wr im)]) (by simp only [results, Try.results41]; go_simp) rfl ⟨rfl, ?_⟩
  exact ((Below.refl _ _).alloc (by simp) _)

theorem number_any (re im : Int) (w : World) :
    Calls Try.prog 93 #[.agg #[.int .i64 re, .int .i64 im]] w fun e w' => e = .returned (.complex .f64 (floatOfInt .f64 (wr re)) (floatOfInt .f64 (wr im))) ∧ Below w.heap.size w w' := by
  go_enter Try.func93, Try.ntmps93
  go_wp2_with (first | (go_at_call 43; refine' Calls.aft _ _ (of_any _ _ _) _; rotate_left 2; (first | (with_reducible exact After.below _; rfl) | (with_reducible exact below_drew (After.below _); rfl) | (with_reducible exact below_set (After.below _) _ _; (go_simp; rfl)) | (with_reducible exact below_set (below_set (After.below _) _ _) _ _; (go_simp; rfl)) | (with_reducible exact below_set (below_set (below_set (After.below _) _ _) _ _) _ _; (go_simp; rfl)) | (with_reducible exact below_set (below_set (below_set (below_set (After.below _) _ _) _ _) _ _) _ _; (go_simp; rfl)) | (exact Below.refl _ _; rfl)); intro x))
  refine bodyPost_ret (v := .complex .f64 (floatOfInt .f64 (wr re)) (floatOfInt .f64 (wr im))) (by simp only [results, Try.results93]; go_simp) rfl ⟨rfl, ?_⟩
  have hx := x.le; simp at hx
  (repeat (first | exact Below.refl _ _ | apply Below.drew | refine Below.alloc ?_ ?_ _ | refine Below.setCell ?_ ?_ _ | refine Below.trans ?_ (Below.mono (After.below _) ?_))); (all_goals (first | (simp; done) | (simp; omega) | omega))

theorem back_any (x y : Nat) (a b : Int) (w : World) (hx : floatToIntVal .f64 x .i64 = some a) (hy : floatToIntVal .f64 y .i64 = some b) :
    Calls Try.prog 92 #[.complex .f64 x y] w fun e w' => e = .returned (.agg #[.int .i64 (wr a), .int .i64 (wr b)]) ∧ Below w.heap.size w w' := by
  have cx : ∀ w, (convert 144 3 (.float .f64 x)).run Try.prog w = .ok (.int .i64 a) w := fun w => run_convert_float_int w 144 3 .f64 .i64 x a (by kernel_rfl) Try.underlying3 hx
  have cy : ∀ w, (convert 144 3 (.float .f64 y)).run Try.prog w = .ok (.int .i64 b) w := fun w => run_convert_float_int w 144 3 .f64 .i64 y b (by kernel_rfl) Try.underlying3 hy
  go_enter Try.func92, Try.ntmps92
  go_wp2_with (first | (go_at_call 43; refine' Calls.aft _ _ (of_any _ _ _) _; rotate_left 2; (first | (with_reducible exact After.below _; rfl) | (with_reducible exact below_drew (After.below _); rfl) | (with_reducible exact below_set (After.below _) _ _; (go_simp; rfl)) | (with_reducible exact below_set (below_set (After.below _) _ _) _ _; (go_simp; rfl)) | (with_reducible exact below_set (below_set (below_set (After.below _) _ _) _ _) _ _; (go_simp; rfl)) | (with_reducible exact below_set (below_set (below_set (below_set (After.below _) _ _) _ _) _ _) _ _; (go_simp; rfl)) | (exact Below.refl _ _; rfl)); intro z))
  refine bodyPost_ret (v := .agg #[.int .i64 (wr a), .int .i64 (wr b)]) (by simp only [results, Try.results92]; go_simp) rfl ⟨rfl, ?_⟩
  have hz := z.le; simp at hz
  (repeat (first | exact Below.refl _ _ | apply Below.drew | refine Below.alloc ?_ ?_ _ | refine Below.setCell ?_ ?_ _ | refine Below.trans ?_ (Below.mono (After.below _) ?_))); (all_goals (first | (simp; done) | (simp; omega) | omega))


def addR (a c : Int) : Int := wr (wr a + wr c)
def subR (a c : Int) : Int := wr (wr a - wr c)
def mulRe (a b c d : Int) : Int := wr (wr a * wr c - wr b * wr d)
def mulIm (a b c d : Int) : Int := wr (wr a * wr d + wr b * wr c)
def negR (b : Int) : Int := wr (- wr b)

theorem prod_abs (a b : Int) : -1073741824 ≤ wr a * wr b ∧ wr a * wr b ≤ 1073741824 := by
  have k1 := wr_lo a; have k2 := wr_hi a; have k3 := wr_lo b; have k4 := wr_hi b
  have h : (wr a * wr b).natAbs ≤ 32768 * 32768 := by rw [Int.natAbs_mul]; exact Nat.mul_le_mul (by omega) (by omega)
  omega

theorem add_any (a b c d : Int) (w : World) :
    Calls Try.prog 69 #[.agg #[.int .i64 a, .int .i64 b], .agg #[.int .i64 c, .int .i64 d]] w fun e w' => e = .returned (.agg #[.int .i64 (addR a c), .int .i64 (addR b d)]) ∧ Below w.heap.size w w' := by
  obtain ⟨x, y, hs, hx, hy⟩ : ∃ x y, (∀ w, (binOp .add 142 (.complex .f64 (floatOfInt .f64 (wr a)) (floatOfInt .f64 (wr b))) (.complex .f64 (floatOfInt .f64 (wr c)) (floatOfInt .f64 (wr d)))).run Try.prog w = .ok (.complex .f64 x y) w) ∧ floatToIntVal .f64 x .i64 = some (wr a + wr c) ∧ floatToIntVal .f64 y .i64 = some (wr b + wr d) := by
    have k1 := wr_lo a; have k2 := wr_hi a; have k3 := wr_lo b; have k4 := wr_hi b; have k5 := wr_lo c; have k6 := wr_hi c; have k7 := wr_lo d; have k8 := wr_hi d
    obtain ⟨x, e1, h1⟩ := add_holds (ofInt_holds _ (wr_abs a)) (ofInt_holds _ (wr_abs c)) (by omega)
    obtain ⟨y, e2, h2⟩ := add_holds (ofInt_holds _ (wr_abs b)) (ofInt_holds _ (wr_abs d)) (by omega)
    exact ⟨x, y, fun w => run_complex_sum w .add (.inl rfl) _ .f64 _ _ _ _ _ _ (by unfold cSumBits; rw [e1, e2]; rfl), toIntVal_holds h1 (by omega), toIntVal_holds h2 (by omega)⟩
  go_enter Try.func69, Try.ntmps69
  go_wp2_with fail
  refine' region_tail 6 _ _ (by kernel_rfl) (by kernel_rfl) _; rotate_left 2; (first | (with_reducible exact After.below _; rfl) | (with_reducible exact below_drew (After.below _); rfl) | (with_reducible exact below_set (After.below _) _ _; (go_simp; rfl)) | (with_reducible exact below_set (below_set (After.below _) _ _) _ _; (go_simp; rfl)) | (with_reducible exact below_set (below_set (below_set (After.below _) _ _) _ _) _ _; (go_simp; rfl)) | (with_reducible exact below_set (below_set (below_set (below_set (After.below _) _ _) _ _) _ _) _ _; (go_simp; rfl)) | (exact Below.refl _ _; rfl)); simp only [List.take_succ_cons, List.take_zero, List.drop_succ_cons, List.drop_zero]; (repeat (go_big_quiet_step (first | (go_at_call 93; exact Calls.after_of (number_any _ _ _)) | (go_at_call 92; exact Calls.after_of (back_any _ _ _ _ _ hx hy))))); refine wpQuiet_nil ?_; intro z
  go_wp2
  have hz := z.le; simp at hz
  refine bodyPost_ret (v := .agg #[.int .i64 (wr (wr a + wr c)), .int .i64 (wr (wr b + wr d))]) (by simp only [results, Try.results69]; go_simp) rfl ⟨rfl, ?_⟩
  (repeat (first | exact Below.refl _ _ | apply Below.drew | refine Below.alloc ?_ ?_ _ | refine Below.setCell ?_ ?_ _ | refine Below.trans ?_ (Below.mono (After.below _) ?_))); (all_goals (first | (simp; done) | (simp; omega) | omega))

theorem sub_any (a b c d : Int) (w : World) :
    Calls Try.prog 70 #[.agg #[.int .i64 a, .int .i64 b], .agg #[.int .i64 c, .int .i64 d]] w fun e w' => e = .returned (.agg #[.int .i64 (subR a c), .int .i64 (subR b d)]) ∧ Below w.heap.size w w' := by
  obtain ⟨x, y, hs, hx, hy⟩ : ∃ x y, (∀ w, (binOp .sub 142 (.complex .f64 (floatOfInt .f64 (wr a)) (floatOfInt .f64 (wr b))) (.complex .f64 (floatOfInt .f64 (wr c)) (floatOfInt .f64 (wr d)))).run Try.prog w = .ok (.complex .f64 x y) w) ∧ floatToIntVal .f64 x .i64 = some (wr a - wr c) ∧ floatToIntVal .f64 y .i64 = some (wr b - wr d) := by
    have k1 := wr_lo a; have k2 := wr_hi a; have k3 := wr_lo b; have k4 := wr_hi b; have k5 := wr_lo c; have k6 := wr_hi c; have k7 := wr_lo d; have k8 := wr_hi d
    obtain ⟨x, e1, h1⟩ := sub_holds (ofInt_holds _ (wr_abs a)) (ofInt_holds _ (wr_abs c)) (by omega)
    obtain ⟨y, e2, h2⟩ := sub_holds (ofInt_holds _ (wr_abs b)) (ofInt_holds _ (wr_abs d)) (by omega)
    exact ⟨x, y, fun w => run_complex_sum w .sub (.inr rfl) _ .f64 _ _ _ _ _ _ (by unfold cSumBits; rw [e1, e2]; rfl), toIntVal_holds h1 (by omega), toIntVal_holds h2 (by omega)⟩
  go_enter Try.func70, Try.ntmps70
  go_wp2_with fail
  refine' region_tail 6 _ _ (by kernel_rfl) (by kernel_rfl) _; rotate_left 2; (first | (with_reducible exact After.below _; rfl) | (with_reducible exact below_drew (After.below _); rfl) | (with_reducible exact below_set (After.below _) _ _; (go_simp; rfl)) | (with_reducible exact below_set (below_set (After.below _) _ _) _ _; (go_simp; rfl)) | (with_reducible exact below_set (below_set (below_set (After.below _) _ _) _ _) _ _; (go_simp; rfl)) | (with_reducible exact below_set (below_set (below_set (below_set (After.below _) _ _) _ _) _ _) _ _; (go_simp; rfl)) | (exact Below.refl _ _; rfl)); simp only [List.take_succ_cons, List.take_zero, List.drop_succ_cons, List.drop_zero]; (repeat (go_big_quiet_step (first | (go_at_call 93; exact Calls.after_of (number_any _ _ _)) | (go_at_call 92; exact Calls.after_of (back_any _ _ _ _ _ hx hy))))); refine wpQuiet_nil ?_; intro z
  go_wp2
  have hz := z.le; simp at hz
  refine bodyPost_ret (v := .agg #[.int .i64 (wr (wr a - wr c)), .int .i64 (wr (wr b - wr d))]) (by simp only [results, Try.results70]; go_simp) rfl ⟨rfl, ?_⟩
  (repeat (first | exact Below.refl _ _ | apply Below.drew | refine Below.alloc ?_ ?_ _ | refine Below.setCell ?_ ?_ _ | refine Below.trans ?_ (Below.mono (After.below _) ?_))); (all_goals (first | (simp; done) | (simp; omega) | omega))

theorem mul_any (a b c d : Int) (w : World) :
    Calls Try.prog 71 #[.agg #[.int .i64 a, .int .i64 b], .agg #[.int .i64 c, .int .i64 d]] w fun e w' => e = .returned (.agg #[.int .i64 (mulRe a b c d), .int .i64 (mulIm a b c d)]) ∧ Below w.heap.size w w' := by
  obtain ⟨x, y, hs, hx, hy⟩ : ∃ x y, (∀ w, (binOp .mul 142 (.complex .f64 (floatOfInt .f64 (wr a)) (floatOfInt .f64 (wr b))) (.complex .f64 (floatOfInt .f64 (wr c)) (floatOfInt .f64 (wr d)))).run Try.prog w = .ok (.complex .f64 x y) w) ∧ floatToIntVal .f64 x .i64 = some (wr a * wr c - wr b * wr d) ∧ floatToIntVal .f64 y .i64 = some (wr a * wr d + wr b * wr c) := by
    have k1 := prod_abs a c; have k2 := prod_abs b d; have k3 := prod_abs a d; have k4 := prod_abs b c
    obtain ⟨x1, e1, h1⟩ := mul_holds (ofInt_holds _ (wr_abs a)) (ofInt_holds _ (wr_abs c)) (by omega)
    obtain ⟨x2, e2, h2⟩ := mul_holds (ofInt_holds _ (wr_abs b)) (ofInt_holds _ (wr_abs d)) (by omega)
    obtain ⟨x3, e3, h3⟩ := sub_holds h1 h2 (by omega)
    obtain ⟨y1, f1, g1⟩ := mul_holds (ofInt_holds _ (wr_abs a)) (ofInt_holds _ (wr_abs d)) (by omega)
    obtain ⟨y2, f2, g2⟩ := mul_holds (ofInt_holds _ (wr_abs b)) (ofInt_holds _ (wr_abs c)) (by omega)
    obtain ⟨y3, f3, g3⟩ := add_holds g1 g2 (by omega)
    exact ⟨x3, y3, fun w => run_complex_mul w _ _ _ _ _ _ _ (by unfold cMulBits; rw [e1, e2, f1, f2]; simp only [Option.bind_some]; rw [e3, f3]; rfl), toIntVal_holds h3 (by omega), toIntVal_holds g3 (by omega)⟩
  go_enter Try.func71, Try.ntmps71
  go_wp2_with fail
  refine' region_tail 6 _ _ (by kernel_rfl) (by kernel_rfl) _; rotate_left 2; (first | (with_reducible exact After.below _; rfl) | (with_reducible exact below_drew (After.below _); rfl) | (with_reducible exact below_set (After.below _) _ _; (go_simp; rfl)) | (with_reducible exact below_set (below_set (After.below _) _ _) _ _; (go_simp; rfl)) | (with_reducible exact below_set (below_set (below_set (After.below _) _ _) _ _) _ _; (go_simp; rfl)) | (with_reducible exact below_set (below_set (below_set (below_set (After.below _) _ _) _ _) _ _) _ _; (go_simp; rfl)) | (exact Below.refl _ _; rfl)); simp only [List.take_succ_cons, List.take_zero, List.drop_succ_cons, List.drop_zero]; (repeat (go_big_quiet_step (first | (go_at_call 93; exact Calls.after_of (number_any _ _ _)) | (go_at_call 92; exact Calls.after_of (back_any _ _ _ _ _ hx hy))))); refine wpQuiet_nil ?_; intro z
  go_wp2
  have hz := z.le; simp at hz
  refine bodyPost_ret (v := .agg #[.int .i64 (wr (wr a * wr c - wr b * wr d)), .int .i64 (wr (wr a * wr d + wr b * wr c))]) (by simp only [results, Try.results71]; go_simp) rfl ⟨rfl, ?_⟩
  (repeat (first | exact Below.refl _ _ | apply Below.drew | refine Below.alloc ?_ ?_ _ | refine Below.setCell ?_ ?_ _ | refine Below.trans ?_ (Below.mono (After.below _) ?_))); (all_goals (first | (simp; done) | (simp; omega) | omega))

theorem conj_any (a b : Int) (w : World) :
    Calls Try.prog 72 #[.agg #[.int .i64 a, .int .i64 b]] w fun e w' => e = .returned (.agg #[.int .i64 (wr (wr a)), .int .i64 (negR b)]) ∧ Below w.heap.size w w' := by
  have hx : floatToIntVal .f64 (floatOfInt .f64 (wr a)) .i64 = some (wr a) := toIntVal_holds (ofInt_holds _ (wr_abs a)) (wr_abs a)
  have hy : floatToIntVal .f64 (Op.negFloat .f64 (floatOfInt .f64 (wr b))) .i64 = some (- wr b) := toIntVal_holds (neg_holds (ofInt_holds _ (wr_abs b))) (by have := wr_abs b; omega)
  have hneg : ∀ w, (Op.unary UnOp.neg (.float .f64 (floatOfInt .f64 (wr b)))).run Try.prog w = .ok (.float .f64 (Op.negFloat .f64 (floatOfInt .f64 (wr b)))) w := fun _ => rfl
  go_enter Try.func72, Try.ntmps72
  go_wp2_with (first | (go_at_call 93; refine' Calls.aft _ _ (number_any _ _ _) _; rotate_left 2; (first | (with_reducible exact After.below _; rfl) | (with_reducible exact below_drew (After.below _); rfl) | (with_reducible exact below_set (After.below _) _ _; (go_simp; rfl)) | (with_reducible exact below_set (below_set (After.below _) _ _) _ _; (go_simp; rfl)) | (with_reducible exact below_set (below_set (below_set (After.below _) _ _) _ _) _ _; (go_simp; rfl)) | (with_reducible exact below_set (below_set (below_set (below_set (After.below _) _ _) _ _) _ _) _ _; (go_simp; rfl)) | (exact Below.refl _ _; rfl)); intro x1) | (go_at_call 92; refine' Calls.aft _ _ (back_any _ _ _ _ _ hx hy) _; rotate_left 2; (first | (with_reducible exact After.below _; rfl) | (with_reducible exact below_drew (After.below _); rfl) | (with_reducible exact below_set (After.below _) _ _; (go_simp; rfl)) | (with_reducible exact below_set (below_set (After.below _) _ _) _ _; (go_simp; rfl)) | (with_reducible exact below_set (below_set (below_set (After.below _) _ _) _ _) _ _; (go_simp; rfl)) | (with_reducible exact below_set (below_set (below_set (below_set (After.below _) _ _) _ _) _ _) _ _; (go_simp; rfl)) | (exact Below.refl _ _; rfl)); intro x2))
  have h1 := x1.le; have h2 := x2.le; simp at h1
  refine bodyPost_ret (v := .agg #[.int .i64 (wr (wr a)), .int .i64 (wr (- wr b))]) (by simp only [results, Try.results72]; go_simp) rfl ⟨rfl, ?_⟩
  (repeat (first | exact Below.refl _ _ | apply Below.drew | refine Below.alloc ?_ ?_ _ | refine Below.setCell ?_ ?_ _ | refine Below.trans ?_ (Below.mono (After.below _) ?_))); (all_goals (first | (simp; done) | (simp; omega) | omega))

theorem eqNum (a b c d : Int) (w : World) : (Op.equalIn 10000 27 (.agg #[.int .i64 a, .int .i64 b]) (.agg #[.int .i64 c, .int .i64 d])).run Try.prog w = .ok (a == c && b == d) w := by
  have u3 := Try.underlying3
  have a3 := Try.isAgg3
  have z3 := Try.sizeOf3
  have hS : Try.prog.underlying 27 = some (.struct (Try.prog.fieldsOf 27)) := by kernel_rfl
  rw [show (10000 : Nat) = 9999 + 1 from rfl, run_equalIn_agg w 9999 27 _ _ hS (by kernel_rfl)]
  simp only [Program.fieldsOf, Try.underlying27]
  go_simp
  by_cases h1 : a = c <;> by_cases h2 : b = d <;> simp [h1, h2]

@[go_sem high] theorem binEqNum (a b c d : Int) (w : World) : (binOp .eql 27 (.agg #[.int .i64 a, .int .i64 b]) (.agg #[.int .i64 c, .int .i64 d])).run Try.prog w = .ok (.bool (a == c && b == d)) w := by
  rw [run_eql_struct, eqNum]; rfl
@[go_sem high] theorem binNeqNum (a b c d : Int) (w : World) : (binOp .neq 27 (.agg #[.int .i64 a, .int .i64 b]) (.agg #[.int .i64 c, .int .i64 d])).run Try.prog w = .ok (.bool !(a == c && b == d)) w := by
  simp only [binOp, Sem.run_bind]
  rw [show (Op.equal 27 (.agg #[.int .i64 a, .int .i64 b]) (.agg #[.int .i64 c, .int .i64 d])).run Try.prog w = .ok (a == c && b == d) w from eqNum a b c d w]; rfl
@[go_sem high] theorem eqGuardNum (op : BinOp) (x y : Operand) (xs ys : Array Value) (w : World) : (eqGuard op 27 x y (.agg xs) (.agg ys)).run Try.prog w = .ok () w := run_eqGuard_agg w op _ x y xs ys (by kernel_rfl)

theorem is_any (a b : Int) (w : World) :
    Calls Try.prog 119 #[.agg #[.int .i64 a, .int .i64 b]] w fun e w' => e = .returned (.bool (a == wr a && b == wr b)) ∧ Below w.heap.size w w' := by
  go_enter Try.func119, Try.ntmps119
  go_wp2_with fail
  refine' region_whole _ _ (by kernel_rfl) (by kernel_rfl) _; rotate_left 2; (first | (with_reducible exact After.below _; rfl) | (with_reducible exact below_drew (After.below _); rfl) | (with_reducible exact below_set (After.below _) _ _; (go_simp; rfl)) | (with_reducible exact below_set (below_set (After.below _) _ _) _ _; (go_simp; rfl)) | (with_reducible exact below_set (below_set (below_set (After.below _) _ _) _ _) _ _; (go_simp; rfl)) | (with_reducible exact below_set (below_set (below_set (below_set (After.below _) _ _) _ _) _ _) _ _; (go_simp; rfl)) | (exact Below.refl _ _; rfl)); (repeat (go_big_quiet_step (first | (go_at_call 43; exact Calls.after_of (of_any _ _ _))))); refine wpQuiet_nil ?_; intro z
  go_wp2
  have hz := z.le; simp at hz
  go_ret
  refine ⟨rfl, ?_⟩
  (repeat (first | exact Below.refl _ _ | apply Below.drew | refine Below.alloc ?_ ?_ _ | refine Below.setCell ?_ ?_ _ | refine Below.trans ?_ (Below.mono (After.below _) ?_))); (all_goals (first | (simp; done) | (simp; omega) | omega))

end Go.Proofs.Ytaaklejkngpddaa
