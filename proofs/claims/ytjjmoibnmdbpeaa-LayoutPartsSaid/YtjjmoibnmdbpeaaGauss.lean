/- WALKS of package gauss and of its reference soughref01: what each function gives, for every argument. -/
import Derived.Test.YtjjmoibnmdbpeaaRows
import Derived.Test.YtjjmoibnmdbpeaaAfter
import Derived.Test.YtjjmoibnmdbpeaaFloat
import Derived.WalkKit
import Derived.WalkSpells
import Derived.WalkLawsBesides
import Derived.Laws.ComplexArith
import Derived.Lib.Hide
namespace Go.Proofs.Ytjjmoibnmdbpeaa
set_option linter.unusedVariables false
set_option linter.unusedSimpArgs false
open Go.RowKit Flo

/-- Wrap, plainly. -/
def wr (n : Int) : Int := (n + 32768) % 65536 - 32768

theorem tmod_facts (n : Int) : ∃ q : Int, n.tmod 65536 = n - 65536 * q ∧ (0 ≤ n → 0 ≤ n.tmod 65536) ∧ (n ≤ 0 → n.tmod 65536 ≤ 0) ∧ -65536 < n.tmod 65536 ∧ n.tmod 65536 < 65536 := by
  refine ⟨n.tdiv 65536, by have := Int.mul_tdiv_add_tmod n 65536; omega, fun h => Int.tmod_nonneg _ h, fun h => ?_, ?_, ?_⟩
  · have : (-n).tmod 65536 = - n.tmod 65536 := Int.neg_tmod ..
    have := Int.tmod_nonneg 65536 (a := -n) (by omega)
    omega
  · rcases Int.le_total 0 n with h | h
    · have := Int.tmod_nonneg 65536 h; omega
    · have e : (-n).tmod 65536 = - n.tmod 65536 := Int.neg_tmod ..
      have := Int.tmod_lt_of_pos (-n) (show (0:Int) < 65536 by omega)
      omega
  · exact Int.tmod_lt_of_pos n (by omega)

theorem wr_lo (n : Int) : -32768 ≤ wr n := by unfold wr; omega
theorem wr_hi (n : Int) : wr n ≤ 32767 := by unfold wr; omega
theorem wr_wr (n : Int) : wr (wr n) = wr n := by unfold wr; omega
theorem wr_abs (n : Int) : (wr n).natAbs < 2 ^ 53 := by have := wr_lo n; have := wr_hi n; omega

theorem ret_i64 {a b : Int} (h : a = b) : Ending.returned (.int .i64 a) = .returned (.int .i64 b) := by rw [h]

theorem wrap_any (n : Int) (w : World) :
    Calls Try.prog 149 #[.int .i64 n] w fun e w' => e = .returned (.int .i64 (wr n)) ∧ w = w' := by
  obtain ⟨q, hq, a1, a2, a3, a4⟩ := tmod_facts n
  have HQ := Lib.hid hq; clear hq
  go_enter Try.func149, Try.ntmps149
  go_wp2
  all_goals go_ret
  all_goals exact ⟨ret_i64 (by have := HQ.out; (try simp); unfold wr; omega), rfl⟩

theorem rwrap_any (n : Int) (w : World) :
    Calls Try.prog 143 #[.int .i64 n] w fun e w' => e = .returned (.int .i64 (wr n)) ∧ w = w' := by
  obtain ⟨q, hq, a1, a2, a3, a4⟩ := tmod_facts n
  have HQ := Lib.hid hq; clear hq
  go_enter Try.func143, Try.ntmps143
  go_wp2
  go_ret
  exact ⟨ret_i64 (by have := HQ.out; (try simp); unfold wr; omega), rfl⟩

/-- A Num as a value. -/
abbrev numV (a b : Int) : Value := .agg #[.int .i64 a, .int .i64 b]

theorem of_any (re im : Int) (w : World) :
    Calls Try.prog 141 #[.int .i64 re, .int .i64 im] w fun e w' => e = .returned (.agg #[.int .i64 (wr re), .int .i64 (wr im)]) ∧ Below w.heap.size w w' := by
  go_enter Try.func141, Try.ntmps141
  go_wp2_with (first | (go_at_call 149; refine (wrap_any _ _).mono ?_; rintro e w' ⟨rfl, rfl⟩))
  refine bodyPost_ret (v := .agg #[.int .i64 (wr re), .int .i64 (wr im)]) (by simp only [results, Try.results141]; go_simp) rfl ⟨rfl, ?_⟩
  exact ((Below.refl _ _).alloc (by simp) _)

theorem rof_any (re im : Int) (w : World) :
    Calls Try.prog 127 #[.int .i64 re, .int .i64 im] w fun e w' => e = .returned (.agg #[.int .i64 (wr re), .int .i64 (wr im)]) ∧ Below w.heap.size w w' := by
  go_enter Try.func127, Try.ntmps127
  go_wp2_with (first | (go_at_call 143; refine (rwrap_any _ _).mono ?_; rintro e w' ⟨rfl, rfl⟩))
  refine bodyPost_ret (v := .agg #[.int .i64 (wr re), .int .i64 (wr im)]) (by simp only [results, Try.results127]; go_simp) rfl ⟨rfl, ?_⟩
  exact ((Below.refl _ _).alloc (by simp) _)


def addR (a c : Int) : Int := wr (wr a + wr c)
def subR (a c : Int) : Int := wr (wr a - wr c)
def mulRe (a b c d : Int) : Int := wr (wr a * wr c - wr b * wr d)
def mulIm (a b c d : Int) : Int := wr (wr a * wr d + wr b * wr c)
def negR (b : Int) : Int := wr (- wr b)

theorem prod_abs (a b : Int) : -1073741824 ≤ wr a * wr b ∧ wr a * wr b ≤ 1073741824 := by
  have k1 := wr_lo a; have k2 := wr_hi a; have k3 := wr_lo b; have k4 := wr_hi b
  have h : (wr a * wr b).natAbs ≤ 32768 * 32768 := by rw [Int.natAbs_mul]; exact Nat.mul_le_mul (by omega) (by omega)
  omega

theorem eqNum (a b c d : Int) (w : World) : (Op.equalIn 10000 69 (.agg #[.int .i64 a, .int .i64 b]) (.agg #[.int .i64 c, .int .i64 d])).run Try.prog w = .ok (a == c && b == d) w := by
  have u3 := Try.underlying3
  have a3 := Try.isAgg3
  have z3 := Try.sizeOf3
  have hS : Try.prog.underlying 69 = some (.struct (Try.prog.fieldsOf 69)) := by kernel_rfl
  rw [show (10000 : Nat) = 9999 + 1 from rfl, run_equalIn_agg w 9999 69 _ _ hS (by kernel_rfl)]
  simp only [Program.fieldsOf, Try.underlying69]
  go_simp
  by_cases h1 : a = c <;> by_cases h2 : b = d <;> simp [h1, h2]

@[go_sem high] theorem binEqNum (a b c d : Int) (w : World) : (binOp .eql 69 (.agg #[.int .i64 a, .int .i64 b]) (.agg #[.int .i64 c, .int .i64 d])).run Try.prog w = .ok (.bool (a == c && b == d)) w := by
  rw [run_eql_struct, eqNum]; rfl
@[go_sem high] theorem binNeqNum (a b c d : Int) (w : World) : (binOp .neq 69 (.agg #[.int .i64 a, .int .i64 b]) (.agg #[.int .i64 c, .int .i64 d])).run Try.prog w = .ok (.bool !(a == c && b == d)) w := by
  simp only [binOp, Sem.run_bind]
  rw [show (Op.equal 69 (.agg #[.int .i64 a, .int .i64 b]) (.agg #[.int .i64 c, .int .i64 d])).run Try.prog w = .ok (a == c && b == d) w from eqNum a b c d w]; rfl
@[go_sem high] theorem eqGuardNum (op : BinOp) (x y : Operand) (xs ys : Array Value) (w : World) : (eqGuard op 69 x y (.agg xs) (.agg ys)).run Try.prog w = .ok () w := run_eqGuard_agg w op _ x y xs ys (by kernel_rfl)

theorem is_any (a b : Int) (w : World) :
    Calls Try.prog 138 #[.agg #[.int .i64 a, .int .i64 b]] w fun e w' => e = .returned (.bool (a == wr a && b == wr b)) ∧ Below w.heap.size w w' := by
  go_enter Try.func138, Try.ntmps138
  go_wp2_with fail
  refine' region_whole _ _ (by kernel_rfl) (by kernel_rfl) _; rotate_left 2; (first | (with_reducible exact After.below _; rfl) | (with_reducible exact below_drew (After.below _); rfl) | (with_reducible exact below_set (After.below _) _ _; (go_simp; rfl)) | (with_reducible exact below_set (below_set (After.below _) _ _) _ _; (go_simp; rfl)) | (with_reducible exact below_set (below_set (below_set (After.below _) _ _) _ _) _ _; (go_simp; rfl)) | (with_reducible exact below_set (below_set (below_set (below_set (After.below _) _ _) _ _) _ _) _ _; (go_simp; rfl)) | (exact Below.refl _ _; rfl)); (repeat (go_big_quiet_step (first | (go_at_call 141; exact Calls.after_of (of_any _ _ _))))); refine wpQuiet_nil ?_; intro z
  go_wp2
  have hz := z.le; simp at hz
  go_ret
  refine ⟨rfl, ?_⟩
  (repeat (first | exact Below.refl _ _ | apply Below.drew | refine Below.alloc ?_ ?_ _ | refine Below.setCell ?_ ?_ _ | refine Below.trans ?_ (Below.mono (After.below _) ?_))); (all_goals (first | (simp; done) | (simp; omega) | omega))

end Go.Proofs.Ytjjmoibnmdbpeaa
