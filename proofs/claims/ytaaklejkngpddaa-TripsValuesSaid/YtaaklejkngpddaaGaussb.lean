/- WALKS of package gauss and of its reference soughref01, second part: operations, words. -/
import Derived.Test.YtaaklejkngpddaaGauss
namespace Go.Proofs.Ytaaklejkngpddaa
set_option linter.unusedVariables false
set_option linter.unusedSimpArgs false
open Go.RowKit Flo

def wordN (a b : Int) : Int := wr a % 65536 + 65536 * (wr b % 65536)

theorem wordN_lo (a b : Int) : 0 ≤ wordN a b := by unfold wordN; omega
theorem wordN_hi (a b : Int) : wordN a b < 4294967296 := by unfold wordN; omega

theorem or_words (x y : Int) (h0 : 0 ≤ x) (h1 : x < 65536) (g0 : 0 ≤ y) (g1 : y < 65536) : bits .or .u64 x (y * 65536) = x + 65536 * y := by
  rw [u64_or _ _ h0 (by omega) (by omega) (by omega), Nat.or_comm, nat_join 16 _ _ (by omega) (by omega)]
  omega

theorem u16w (n : Int) : IntKind.u16.wrap n = n % 65536 := IntKind.wrap_u16 n
theorem u64w (n : Int) (h0 : 0 ≤ n) (h1 : n < 18446744073709551616) : IntKind.u64.wrap n = n := by
  have : IntKind.u64.wrap n = n % 18446744073709551616 := by simp [IntKind.wrap, IntKind.bits, IntKind.signed]
  omega

theorem ret_u64 {a b : Int} (h : a = b) : Ending.returned (.int .u64 a) = .returned (.int .u64 b) := by rw [h]

/-- What any operation tells: the number, and whether there is one. -/
def opA (op a b c d : Int) : Int := if op = 0 then wr a else if op = 1 then addR a c else if op = 2 then subR a c else if op = 3 then mulRe a b c d else if op = 4 then wr (wr a) else 0
def opB (op a b c d : Int) : Int := if op = 0 then wr b else if op = 1 then addR b d else if op = 2 then subR b d else if op = 3 then mulIm a b c d else if op = 4 then negR b else 0
def opE (op : Int) : Bool := decide (0 ≤ op ∧ op ≤ 4)

set_option maxHeartbeats 1000000 in
theorem op0_any (a b c d : Int) (w : World) :
    Calls Try.prog 40 #[.int .i64 0, .agg #[.int .i64 a, .int .i64 b], .agg #[.int .i64 c, .int .i64 d]] w fun e w' => e = .returned (.tuple #[.agg #[.int .i64 (wr a), .int .i64 (wr b)], .int .i64 0]) ∧ Below w.heap.size w w' := by
  go_enter Try.func40, Try.ntmps40
  go_wp2_with fail
  refine scope_forward 0 rfl ?_
  go_wp2_with (first | (go_at_call 43; refine' Calls.aft _ _ (of_any _ _ _) _; rotate_left 2; (first | (with_reducible exact After.below _; rfl) | (with_reducible exact below_drew (After.below _); rfl) | (with_reducible exact below_set (After.below _) _ _; (go_simp; rfl)) | (with_reducible exact below_set (below_set (After.below _) _ _) _ _; (go_simp; rfl)) | (with_reducible exact below_set (below_set (below_set (After.below _) _ _) _ _) _ _; (go_simp; rfl)) | (with_reducible exact below_set (below_set (below_set (below_set (After.below _) _ _) _ _) _ _) _ _; (go_simp; rfl)) | (exact Below.refl _ _; rfl)); intro x1))
  go_step3
  refine And.intro (rfl : (0 : Nat) = 0) ?_
  go_wp2_with fail
  have hz := x1.le; simp at hz
  try rw [Exit.noGoto_ret]
  refine bodyPost_ret (v := .tuple #[.agg #[.int .i64 (wr a), .int .i64 (wr b)], .int .i64 0]) (by simp only [results, Try.results40]; go_simp) rfl ⟨rfl, ?_⟩
  (repeat (first | exact Below.refl _ _ | apply Below.drew | refine Below.alloc ?_ ?_ _ | refine Below.setCell ?_ ?_ _ | refine Below.trans ?_ (Below.mono (After.below _) ?_))); (all_goals (first | (simp; done) | (simp; omega) | omega))

set_option maxHeartbeats 1000000 in
theorem op1_any (a b c d : Int) (w : World) :
    Calls Try.prog 40 #[.int .i64 1, .agg #[.int .i64 a, .int .i64 b], .agg #[.int .i64 c, .int .i64 d]] w fun e w' => e = .returned (.tuple #[.agg #[.int .i64 (addR a c), .int .i64 (addR b d)], .int .i64 0]) ∧ Below w.heap.size w w' := by
  go_enter Try.func40, Try.ntmps40
  go_wp2_with fail
  refine scope_forward 0 rfl ?_
  go_wp2_with (first | (go_at_call 69; refine' Calls.aft _ _ (add_any _ _ _ _ _) _; rotate_left 2; (first | (with_reducible exact After.below _; rfl) | (with_reducible exact below_drew (After.below _); rfl) | (with_reducible exact below_set (After.below _) _ _; (go_simp; rfl)) | (with_reducible exact below_set (below_set (After.below _) _ _) _ _; (go_simp; rfl)) | (with_reducible exact below_set (below_set (below_set (After.below _) _ _) _ _) _ _; (go_simp; rfl)) | (with_reducible exact below_set (below_set (below_set (below_set (After.below _) _ _) _ _) _ _) _ _; (go_simp; rfl)) | (exact Below.refl _ _; rfl)); intro x1))
  go_step3
  refine And.intro (rfl : (0 : Nat) = 0) ?_
  go_wp2_with fail
  have hz := x1.le; simp at hz
  try rw [Exit.noGoto_ret]
  refine bodyPost_ret (v := .tuple #[.agg #[.int .i64 (addR a c), .int .i64 (addR b d)], .int .i64 0]) (by simp only [results, Try.results40]; go_simp) rfl ⟨rfl, ?_⟩
  (repeat (first | exact Below.refl _ _ | apply Below.drew | refine Below.alloc ?_ ?_ _ | refine Below.setCell ?_ ?_ _ | refine Below.trans ?_ (Below.mono (After.below _) ?_))); (all_goals (first | (simp; done) | (simp; omega) | omega))

set_option maxHeartbeats 1000000 in
theorem op2_any (a b c d : Int) (w : World) :
    Calls Try.prog 40 #[.int .i64 2, .agg #[.int .i64 a, .int .i64 b], .agg #[.int .i64 c, .int .i64 d]] w fun e w' => e = .returned (.tuple #[.agg #[.int .i64 (subR a c), .int .i64 (subR b d)], .int .i64 0]) ∧ Below w.heap.size w w' := by
  go_enter Try.func40, Try.ntmps40
  go_wp2_with fail
  refine scope_forward 0 rfl ?_
  go_wp2_with (first | (go_at_call 70; refine' Calls.aft _ _ (sub_any _ _ _ _ _) _; rotate_left 2; (first | (with_reducible exact After.below _; rfl) | (with_reducible exact below_drew (After.below _); rfl) | (with_reducible exact below_set (After.below _) _ _; (go_simp; rfl)) | (with_reducible exact below_set (below_set (After.below _) _ _) _ _; (go_simp; rfl)) | (with_reducible exact below_set (below_set (below_set (After.below _) _ _) _ _) _ _; (go_simp; rfl)) | (with_reducible exact below_set (below_set (below_set (below_set (After.below _) _ _) _ _) _ _) _ _; (go_simp; rfl)) | (exact Below.refl _ _; rfl)); intro x1))
  go_step3
  refine And.intro (rfl : (0 : Nat) = 0) ?_
  go_wp2_with fail
  have hz := x1.le; simp at hz
  try rw [Exit.noGoto_ret]
  refine bodyPost_ret (v := .tuple #[.agg #[.int .i64 (subR a c), .int .i64 (subR b d)], .int .i64 0]) (by simp only [results, Try.results40]; go_simp) rfl ⟨rfl, ?_⟩
  (repeat (first | exact Below.refl _ _ | apply Below.drew | refine Below.alloc ?_ ?_ _ | refine Below.setCell ?_ ?_ _ | refine Below.trans ?_ (Below.mono (After.below _) ?_))); (all_goals (first | (simp; done) | (simp; omega) | omega))

set_option maxHeartbeats 1000000 in
theorem op3_any (a b c d : Int) (w : World) :
    Calls Try.prog 40 #[.int .i64 3, .agg #[.int .i64 a, .int .i64 b], .agg #[.int .i64 c, .int .i64 d]] w fun e w' => e = .returned (.tuple #[.agg #[.int .i64 (mulRe a b c d), .int .i64 (mulIm a b c d)], .int .i64 0]) ∧ Below w.heap.size w w' := by
  go_enter Try.func40, Try.ntmps40
  go_wp2_with fail
  refine scope_forward 0 rfl ?_
  go_wp2_with (first | (go_at_call 71; refine' Calls.aft _ _ (mul_any _ _ _ _ _) _; rotate_left 2; (first | (with_reducible exact After.below _; rfl) | (with_reducible exact below_drew (After.below _); rfl) | (with_reducible exact below_set (After.below _) _ _; (go_simp; rfl)) | (with_reducible exact below_set (below_set (After.below _) _ _) _ _; (go_simp; rfl)) | (with_reducible exact below_set (below_set (below_set (After.below _) _ _) _ _) _ _; (go_simp; rfl)) | (with_reducible exact below_set (below_set (below_set (below_set (After.below _) _ _) _ _) _ _) _ _; (go_simp; rfl)) | (exact Below.refl _ _; rfl)); intro x1))
  go_step3
  refine And.intro (rfl : (0 : Nat) = 0) ?_
  go_wp2_with fail
  have hz := x1.le; simp at hz
  try rw [Exit.noGoto_ret]
  refine bodyPost_ret (v := .tuple #[.agg #[.int .i64 (mulRe a b c d), .int .i64 (mulIm a b c d)], .int .i64 0]) (by simp only [results, Try.results40]; go_simp) rfl ⟨rfl, ?_⟩
  (repeat (first | exact Below.refl _ _ | apply Below.drew | refine Below.alloc ?_ ?_ _ | refine Below.setCell ?_ ?_ _ | refine Below.trans ?_ (Below.mono (After.below _) ?_))); (all_goals (first | (simp; done) | (simp; omega) | omega))

set_option maxHeartbeats 1000000 in
theorem op4_any (a b c d : Int) (w : World) :
    Calls Try.prog 40 #[.int .i64 4, .agg #[.int .i64 a, .int .i64 b], .agg #[.int .i64 c, .int .i64 d]] w fun e w' => e = .returned (.tuple #[.agg #[.int .i64 (wr (wr a)), .int .i64 (negR b)], .int .i64 0]) ∧ Below w.heap.size w w' := by
  go_enter Try.func40, Try.ntmps40
  go_wp2_with fail
  refine scope_forward 0 rfl ?_
  go_wp2_with (first | (go_at_call 72; refine' Calls.aft _ _ (conj_any _ _ _) _; rotate_left 2; (first | (with_reducible exact After.below _; rfl) | (with_reducible exact below_drew (After.below _); rfl) | (with_reducible exact below_set (After.below _) _ _; (go_simp; rfl)) | (with_reducible exact below_set (below_set (After.below _) _ _) _ _; (go_simp; rfl)) | (with_reducible exact below_set (below_set (below_set (After.below _) _ _) _ _) _ _; (go_simp; rfl)) | (with_reducible exact below_set (below_set (below_set (below_set (After.below _) _ _) _ _) _ _) _ _; (go_simp; rfl)) | (exact Below.refl _ _; rfl)); intro x1))
  go_step3
  refine And.intro (rfl : (0 : Nat) = 0) ?_
  go_wp2_with fail
  have hz := x1.le; simp at hz
  try rw [Exit.noGoto_ret]
  refine bodyPost_ret (v := .tuple #[.agg #[.int .i64 (wr (wr a)), .int .i64 (negR b)], .int .i64 0]) (by simp only [results, Try.results40]; go_simp) rfl ⟨rfl, ?_⟩
  (repeat (first | exact Below.refl _ _ | apply Below.drew | refine Below.alloc ?_ ?_ _ | refine Below.setCell ?_ ?_ _ | refine Below.trans ?_ (Below.mono (After.below _) ?_))); (all_goals (first | (simp; done) | (simp; omega) | omega))

set_option maxHeartbeats 1000000 in
theorem opx_any (op a b c d : Int) (h : op < 0 ∨ 4 < op) (w : World) :
    Calls Try.prog 40 #[.int .i64 op, .agg #[.int .i64 a, .int .i64 b], .agg #[.int .i64 c, .int .i64 d]] w fun e w' => e = .returned (.tuple #[.agg #[.int .i64 0, .int .i64 0], .int .i64 10]) ∧ Below w.heap.size w w' := by
  have e0 : (op == 0) = false := by simp; omega
  have e1 : (op == 1) = false := by simp; omega
  have e2 : (op == 2) = false := by simp; omega
  have e3 : (op == 3) = false := by simp; omega
  have e4 : (op == 4) = false := by simp; omega
  clear h
  go_enter Try.func40, Try.ntmps40
  go_wp2_with fail
  go_step3
  go_wp2_with fail
  try rw [Exit.noGoto_ret]
  refine bodyPost_ret (v := .tuple #[.agg #[.int .i64 0, .int .i64 0], .int .i64 10]) (by simp only [results, Try.results40]; go_simp) rfl ⟨rfl, ?_⟩
  (repeat (first | exact Below.refl _ _ | apply Below.drew | refine Below.alloc ?_ ?_ _ | refine Below.setCell ?_ ?_ _ | refine Below.trans ?_ (Below.mono (After.below _) ?_))); (all_goals (first | (simp; done) | (simp; omega) | omega))

theorem opE_of (op : Int) : opE op = true ↔ (op = 0 ∨ op = 1 ∨ op = 2 ∨ op = 3 ∨ op = 4) := by unfold opE; simp; omega

/-- The error's number. -/
def opN (op : Int) : Int := if opE op then 0 else 10

theorem op_any (op a b c d : Int) (w : World) :
    Calls Try.prog 40 #[.int .i64 op, .agg #[.int .i64 a, .int .i64 b], .agg #[.int .i64 c, .int .i64 d]] w fun e w' => e = .returned (.tuple #[.agg #[.int .i64 (opA op a b c d), .int .i64 (opB op a b c d)], .int .i64 (opN op)]) ∧ Below w.heap.size w w' := by
  have hcase : op = 0 ∨ op = 1 ∨ op = 2 ∨ op = 3 ∨ op = 4 ∨ (op < 0 ∨ 4 < op) := by omega
  rcases hcase with rfl | rfl | rfl | rfl | rfl | h
  · exact op0_any a b c d w
  · exact op1_any a b c d w
  · exact op2_any a b c d w
  · exact op3_any a b c d w
  · exact op4_any a b c d w
  · have r1 : opA op a b c d = 0 := by
      unfold opA
      rw [if_neg (by omega), if_neg (by omega), if_neg (by omega), if_neg (by omega), if_neg (by omega)]
    have r2 : opB op a b c d = 0 := by
      unfold opB
      rw [if_neg (by omega), if_neg (by omega), if_neg (by omega), if_neg (by omega), if_neg (by omega)]
    have r3 : opN op = 10 := by unfold opN opE; simp; omega
    rw [r1, r2, r3]
    exact opx_any op a b c d h w

set_option maxHeartbeats 2000000 in
theorem rop0_any (a b c d : Int) (w : World) :
    Calls Try.prog 12 #[.int .i64 0, .agg #[.int .i64 a, .int .i64 b], .agg #[.int .i64 c, .int .i64 d]] w fun e w' => e = .returned (.tuple #[.agg #[.int .i64 (wr a), .int .i64 (wr b)], .bool true]) ∧ Below w.heap.size w w' := by
  have k1 := wr_lo a; have k2 := wr_hi a; have k3 := wr_lo b; have k4 := wr_hi b; have k5 := wr_lo c; have k6 := wr_hi c; have k7 := wr_lo d; have k8 := wr_hi d
  have p1 := prod_abs a c; have p2 := prod_abs b d; have p3 := prod_abs a d; have p4 := prod_abs b c
  go_enter Try.func12, Try.ntmps12
  go_wp2_with (first | (go_at_call 41; refine' Calls.aft _ _ (rof_any _ _ _) _; rotate_left 2; (first | (with_reducible exact After.below _; rfl) | (with_reducible exact below_drew (After.below _); rfl) | (with_reducible exact below_set (After.below _) _ _; (go_simp; rfl)) | (with_reducible exact below_set (below_set (After.below _) _ _) _ _; (go_simp; rfl)) | (with_reducible exact below_set (below_set (below_set (After.below _) _ _) _ _) _ _; (go_simp; rfl)) | (with_reducible exact below_set (below_set (below_set (below_set (After.below _) _ _) _ _) _ _) _ _; (go_simp; rfl)) | (exact Below.refl _ _; rfl)); intro x1; have hz := x1.le; (try simp at hz)))
  refine bodyPost_ret (v := .tuple #[.agg #[.int .i64 (wr a), .int .i64 (wr b)], .bool true]) (by simp only [results, Try.results12]; go_simp; try (first | exact ⟨rfl, rfl⟩ | rfl | (unfold negR; simp))) rfl ⟨rfl, ?_⟩
  clear p1 p2 p3 p4
  (repeat (first | exact Below.refl _ _ | apply Below.drew | refine Below.alloc ?_ ?_ _ | refine Below.setCell ?_ ?_ _ | refine Below.trans ?_ (Below.mono (After.below _) ?_))); (all_goals (first | (simp; done) | (simp; omega) | omega))

set_option maxHeartbeats 2000000 in
theorem rop1_any (a b c d : Int) (w : World) :
    Calls Try.prog 12 #[.int .i64 1, .agg #[.int .i64 a, .int .i64 b], .agg #[.int .i64 c, .int .i64 d]] w fun e w' => e = .returned (.tuple #[.agg #[.int .i64 (addR a c), .int .i64 (addR b d)], .bool true]) ∧ Below w.heap.size w w' := by
  have k1 := wr_lo a; have k2 := wr_hi a; have k3 := wr_lo b; have k4 := wr_hi b; have k5 := wr_lo c; have k6 := wr_hi c; have k7 := wr_lo d; have k8 := wr_hi d
  have p1 := prod_abs a c; have p2 := prod_abs b d; have p3 := prod_abs a d; have p4 := prod_abs b c
  go_enter Try.func12, Try.ntmps12
  go_wp2_with (first | (go_at_call 41; refine' Calls.aft _ _ (rof_any _ _ _) _; rotate_left 2; (first | (with_reducible exact After.below _; rfl) | (with_reducible exact below_drew (After.below _); rfl) | (with_reducible exact below_set (After.below _) _ _; (go_simp; rfl)) | (with_reducible exact below_set (below_set (After.below _) _ _) _ _; (go_simp; rfl)) | (with_reducible exact below_set (below_set (below_set (After.below _) _ _) _ _) _ _; (go_simp; rfl)) | (with_reducible exact below_set (below_set (below_set (below_set (After.below _) _ _) _ _) _ _) _ _; (go_simp; rfl)) | (exact Below.refl _ _; rfl)); intro x1; have hz := x1.le; (try simp at hz)))
  refine bodyPost_ret (v := .tuple #[.agg #[.int .i64 (addR a c), .int .i64 (addR b d)], .bool true]) (by simp only [results, Try.results12]; go_simp; try (first | exact ⟨rfl, rfl⟩ | rfl | (unfold negR; simp))) rfl ⟨rfl, ?_⟩
  clear p1 p2 p3 p4
  (repeat (first | exact Below.refl _ _ | apply Below.drew | refine Below.alloc ?_ ?_ _ | refine Below.setCell ?_ ?_ _ | refine Below.trans ?_ (Below.mono (After.below _) ?_))); (all_goals (first | (simp; done) | (simp; omega) | omega))

set_option maxHeartbeats 2000000 in
theorem rop2_any (a b c d : Int) (w : World) :
    Calls Try.prog 12 #[.int .i64 2, .agg #[.int .i64 a, .int .i64 b], .agg #[.int .i64 c, .int .i64 d]] w fun e w' => e = .returned (.tuple #[.agg #[.int .i64 (subR a c), .int .i64 (subR b d)], .bool true]) ∧ Below w.heap.size w w' := by
  have k1 := wr_lo a; have k2 := wr_hi a; have k3 := wr_lo b; have k4 := wr_hi b; have k5 := wr_lo c; have k6 := wr_hi c; have k7 := wr_lo d; have k8 := wr_hi d
  have p1 := prod_abs a c; have p2 := prod_abs b d; have p3 := prod_abs a d; have p4 := prod_abs b c
  go_enter Try.func12, Try.ntmps12
  go_wp2_with (first | (go_at_call 41; refine' Calls.aft _ _ (rof_any _ _ _) _; rotate_left 2; (first | (with_reducible exact After.below _; rfl) | (with_reducible exact below_drew (After.below _); rfl) | (with_reducible exact below_set (After.below _) _ _; (go_simp; rfl)) | (with_reducible exact below_set (below_set (After.below _) _ _) _ _; (go_simp; rfl)) | (with_reducible exact below_set (below_set (below_set (After.below _) _ _) _ _) _ _; (go_simp; rfl)) | (with_reducible exact below_set (below_set (below_set (below_set (After.below _) _ _) _ _) _ _) _ _; (go_simp; rfl)) | (exact Below.refl _ _; rfl)); intro x1; have hz := x1.le; (try simp at hz)))
  refine bodyPost_ret (v := .tuple #[.agg #[.int .i64 (subR a c), .int .i64 (subR b d)], .bool true]) (by simp only [results, Try.results12]; go_simp; try (first | exact ⟨rfl, rfl⟩ | rfl | (unfold negR; simp))) rfl ⟨rfl, ?_⟩
  clear p1 p2 p3 p4
  (repeat (first | exact Below.refl _ _ | apply Below.drew | refine Below.alloc ?_ ?_ _ | refine Below.setCell ?_ ?_ _ | refine Below.trans ?_ (Below.mono (After.below _) ?_))); (all_goals (first | (simp; done) | (simp; omega) | omega))

set_option maxHeartbeats 2000000 in
theorem rop3_any (a b c d : Int) (w : World) :
    Calls Try.prog 12 #[.int .i64 3, .agg #[.int .i64 a, .int .i64 b], .agg #[.int .i64 c, .int .i64 d]] w fun e w' => e = .returned (.tuple #[.agg #[.int .i64 (mulRe a b c d), .int .i64 (mulIm a b c d)], .bool true]) ∧ Below w.heap.size w w' := by
  have k1 := wr_lo a; have k2 := wr_hi a; have k3 := wr_lo b; have k4 := wr_hi b; have k5 := wr_lo c; have k6 := wr_hi c; have k7 := wr_lo d; have k8 := wr_hi d
  have p1 := prod_abs a c; have p2 := prod_abs b d; have p3 := prod_abs a d; have p4 := prod_abs b c
  go_enter Try.func12, Try.ntmps12
  go_wp2_with (first | (go_at_call 41; refine' Calls.aft _ _ (rof_any _ _ _) _; rotate_left 2; (first | (with_reducible exact After.below _; rfl) | (with_reducible exact below_drew (After.below _); rfl) | (with_reducible exact below_set (After.below _) _ _; (go_simp; rfl)) | (with_reducible exact below_set (below_set (After.below _) _ _) _ _; (go_simp; rfl)) | (with_reducible exact below_set (below_set (below_set (After.below _) _ _) _ _) _ _; (go_simp; rfl)) | (with_reducible exact below_set (below_set (below_set (below_set (After.below _) _ _) _ _) _ _) _ _; (go_simp; rfl)) | (exact Below.refl _ _; rfl)); intro x1; have hz := x1.le; (try simp at hz)))
  refine bodyPost_ret (v := .tuple #[.agg #[.int .i64 (mulRe a b c d), .int .i64 (mulIm a b c d)], .bool true]) (by simp only [results, Try.results12]; go_simp; try (first | exact ⟨rfl, rfl⟩ | rfl | (unfold negR; simp))) rfl ⟨rfl, ?_⟩
  clear p1 p2 p3 p4
  (repeat (first | exact Below.refl _ _ | apply Below.drew | refine Below.alloc ?_ ?_ _ | refine Below.setCell ?_ ?_ _ | refine Below.trans ?_ (Below.mono (After.below _) ?_))); (all_goals (first | (simp; done) | (simp; omega) | omega))

set_option maxHeartbeats 2000000 in
theorem rop4_any (a b c d : Int) (w : World) :
    Calls Try.prog 12 #[.int .i64 4, .agg #[.int .i64 a, .int .i64 b], .agg #[.int .i64 c, .int .i64 d]] w fun e w' => e = .returned (.tuple #[.agg #[.int .i64 (wr (wr a)), .int .i64 (negR b)], .bool true]) ∧ Below w.heap.size w w' := by
  have k1 := wr_lo a; have k2 := wr_hi a; have k3 := wr_lo b; have k4 := wr_hi b; have k5 := wr_lo c; have k6 := wr_hi c; have k7 := wr_lo d; have k8 := wr_hi d
  have p1 := prod_abs a c; have p2 := prod_abs b d; have p3 := prod_abs a d; have p4 := prod_abs b c
  go_enter Try.func12, Try.ntmps12
  go_wp2_with (first | (go_at_call 41; refine' Calls.aft _ _ (rof_any _ _ _) _; rotate_left 2; (first | (with_reducible exact After.below _; rfl) | (with_reducible exact below_drew (After.below _); rfl) | (with_reducible exact below_set (After.below _) _ _; (go_simp; rfl)) | (with_reducible exact below_set (below_set (After.below _) _ _) _ _; (go_simp; rfl)) | (with_reducible exact below_set (below_set (below_set (After.below _) _ _) _ _) _ _; (go_simp; rfl)) | (with_reducible exact below_set (below_set (below_set (below_set (After.below _) _ _) _ _) _ _) _ _; (go_simp; rfl)) | (exact Below.refl _ _; rfl)); intro x1; have hz := x1.le; (try simp at hz)))
  refine bodyPost_ret (v := .tuple #[.agg #[.int .i64 (wr (wr a)), .int .i64 (negR b)], .bool true]) (by simp only [results, Try.results12]; go_simp; try (first | exact ⟨rfl, rfl⟩ | rfl | (unfold negR; simp))) rfl ⟨rfl, ?_⟩
  clear p1 p2 p3 p4
  (repeat (first | exact Below.refl _ _ | apply Below.drew | refine Below.alloc ?_ ?_ _ | refine Below.setCell ?_ ?_ _ | refine Below.trans ?_ (Below.mono (After.below _) ?_))); (all_goals (first | (simp; done) | (simp; omega) | omega))

set_option maxHeartbeats 1000000 in
theorem ropx_any (op a b c d : Int) (h : op < 0 ∨ 4 < op) (w : World) :
    Calls Try.prog 12 #[.int .i64 op, .agg #[.int .i64 a, .int .i64 b], .agg #[.int .i64 c, .int .i64 d]] w fun e w' => e = .returned (.tuple #[.agg #[.int .i64 0, .int .i64 0], .bool false]) ∧ Below w.heap.size w w' := by
  have e0 : (op == 0) = false := by simp; omega
  have e1 : (op == 1) = false := by simp; omega
  have e2 : (op == 2) = false := by simp; omega
  have e3 : (op == 3) = false := by simp; omega
  have e4 : (op == 4) = false := by simp; omega
  clear h
  go_enter Try.func12, Try.ntmps12
  go_wp2_with (first | (go_at_call 41; refine' Calls.aft _ _ (rof_any _ _ _) _; rotate_left 2; (first | (with_reducible exact After.below _; rfl) | (with_reducible exact below_drew (After.below _); rfl) | (with_reducible exact below_set (After.below _) _ _; (go_simp; rfl)) | (with_reducible exact below_set (below_set (After.below _) _ _) _ _; (go_simp; rfl)) | (with_reducible exact below_set (below_set (below_set (After.below _) _ _) _ _) _ _; (go_simp; rfl)) | (with_reducible exact below_set (below_set (below_set (below_set (After.below _) _ _) _ _) _ _) _ _; (go_simp; rfl)) | (exact Below.refl _ _; rfl)); intro x1; have hz := x1.le; (try simp at hz)))
  refine bodyPost_ret (v := .tuple #[.agg #[.int .i64 0, .int .i64 0], .bool false]) (by simp only [results, Try.results12]; go_simp; try (first | exact ⟨rfl, rfl⟩ | rfl | (unfold negR; simp))) rfl ⟨rfl, ?_⟩
  (repeat (first | exact Below.refl _ _ | apply Below.drew | refine Below.alloc ?_ ?_ _ | refine Below.setCell ?_ ?_ _ | refine Below.trans ?_ (Below.mono (After.below _) ?_))); (all_goals (first | (simp; done) | (simp; omega) | omega))

theorem rop_any (op a b c d : Int) (w : World) :
    Calls Try.prog 12 #[.int .i64 op, .agg #[.int .i64 a, .int .i64 b], .agg #[.int .i64 c, .int .i64 d]] w fun e w' => e = .returned (.tuple #[.agg #[.int .i64 (opA op a b c d), .int .i64 (opB op a b c d)], .bool (opE op)]) ∧ Below w.heap.size w w' := by
  have hcase : op = 0 ∨ op = 1 ∨ op = 2 ∨ op = 3 ∨ op = 4 ∨ (op < 0 ∨ 4 < op) := by omega
  rcases hcase with rfl | rfl | rfl | rfl | rfl | h
  · exact rop0_any a b c d w
  · exact rop1_any a b c d w
  · exact rop2_any a b c d w
  · exact rop3_any a b c d w
  · exact rop4_any a b c d w
  · have r1 : opA op a b c d = 0 := by
      unfold opA
      rw [if_neg (by omega), if_neg (by omega), if_neg (by omega), if_neg (by omega), if_neg (by omega)]
    have r2 : opB op a b c d = 0 := by
      unfold opB
      rw [if_neg (by omega), if_neg (by omega), if_neg (by omega), if_neg (by omega), if_neg (by omega)]
    have r3 : opE op = false := by unfold opE; simp; omega
    rw [r1, r2, r3]
    exact ropx_any op a b c d h w

end Go.Proofs.Ytaaklejkngpddaa
