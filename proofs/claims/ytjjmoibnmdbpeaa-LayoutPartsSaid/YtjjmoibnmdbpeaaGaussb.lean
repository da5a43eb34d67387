/- WALKS of package gauss and of its reference soughref01, second part: operations, words. -/
import Derived.Test.YtjjmoibnmdbpeaaGauss
namespace Go.Proofs.Ytjjmoibnmdbpeaa
set_option linter.unusedVariables false
set_option linter.unusedSimpArgs false
open Go.RowKit Flo

def wordN (a b : Int) : Int := wr a % 65536 + 65536 * (wr b % 65536)

theorem wordN_lo (a b : Int) : 0 ≤ wordN a b := by unfold wordN; omega
theorem wordN_hi (a b : Int) : wordN a b < 4294967296 := by unfold wordN; omega

theorem or_words (x y : Int) (h0 : 0 ≤ x) (h1 : x < 65536) (g0 : 0 ≤ y) (g1 : y < 65536) : bits .or .u64 x (y * 65536) = x + 65536 * y := by
  rw [u64_or _ _ h0 (by omega) (by omega) (by omega), Nat.or_comm, nat_join 16 _ _ (by omega) (by omega)]
  omega

theorem u16w (n : Int) : IntKind.u16.wrap n = n % 65536 := IntKind.wrap_u16 n
theorem u64w (n : Int) (h0 : 0 ≤ n) (h1 : n < 18446744073709551616) : IntKind.u64.wrap n = n := by
  have : IntKind.u64.wrap n = n % 18446744073709551616 := by simp [IntKind.wrap, IntKind.bits, IntKind.signed]
  omega

theorem ret_u64 {a b : Int} (h : a = b) : Ending.returned (.int .u64 a) = .returned (.int .u64 b) := by rw [h]

theorem unword_yes (n : Int) (h0 : 0 ≤ n) (h1 : n < 4294967296) (w : World) :
    Calls Try.prog 147 #[.int .u64 n] w fun e w' => e = .returned (.tuple #[.agg #[.int .i64 (wr (n % 65536)), .int .i64 (wr (n / 65536))], .bool true]) ∧ Below w.heap.size w w' := by
  have hn : (n / 4294967296 != 0) = false := by simp; omega
  have hand : bits .and .u64 n 65535 = n % 65536 := by
    rw [u64_and _ _ h0 (by omega) (by omega) (by omega)]
    have : n.toNat &&& (65535 : Int).toNat = n.toNat % 65536 := Nat.and_two_pow_sub_one_eq_mod _ 16
    rw [this]; omega
  go_enter Try.func147, Try.ntmps147
  go_wp2_with (first | (go_at_call 141; refine' Calls.aft _ _ (of_any _ _ _) _; rotate_left 2; (first | (with_reducible exact After.below _; rfl) | (with_reducible exact below_drew (After.below _); rfl) | (with_reducible exact below_set (After.below _) _ _; (go_simp; rfl)) | (with_reducible exact below_set (below_set (After.below _) _ _) _ _; (go_simp; rfl)) | (with_reducible exact below_set (below_set (below_set (After.below _) _ _) _ _) _ _; (go_simp; rfl)) | (with_reducible exact below_set (below_set (below_set (below_set (After.below _) _ _) _ _) _ _) _ _; (go_simp; rfl)) | (exact Below.refl _ _; rfl)); intro x1))
  have hz := x1.le; simp at hz
  refine bodyPost_ret (v := .tuple #[.agg #[.int .i64 (wr (n % 65536)), .int .i64 (wr (n / 65536))], .bool true]) (by simp only [results, Try.results147]; go_simp) rfl ⟨rfl, ?_⟩
  (repeat (first | exact Below.refl _ _ | apply Below.drew | refine Below.alloc ?_ ?_ _ | refine Below.setCell ?_ ?_ _ | refine Below.trans ?_ (Below.mono (After.below _) ?_))); (all_goals (first | (simp; done) | (simp; omega) | omega))

theorem unword_no (n : Int) (h0 : 4294967296 ≤ n) (h1 : n < 18446744073709551616) (w : World) :
    Calls Try.prog 147 #[.int .u64 n] w fun e w' => e = .returned (.tuple #[.agg #[.int .i64 0, .int .i64 0], .bool false]) ∧ Below w.heap.size w w' := by
  have hn : (n / 4294967296 != 0) = true := by simp; omega
  go_enter Try.func147, Try.ntmps147
  go_wp2_with fail
  refine bodyPost_ret (v := .tuple #[.agg #[.int .i64 0, .int .i64 0], .bool false]) (by simp only [results, Try.results147]; go_simp) rfl ⟨rfl, ?_⟩
  (repeat (first | exact Below.refl _ _ | apply Below.drew | refine Below.alloc ?_ ?_ _ | refine Below.setCell ?_ ?_ _ | refine Below.trans ?_ (Below.mono (After.below _) ?_))); (all_goals (first | (simp; done) | (simp; omega) | omega))

/-- What any operation tells: the number, and whether there is one. -/
def opA (op a b c d : Int) : Int := if op = 0 then wr a else if op = 1 then addR a c else if op = 2 then subR a c else if op = 3 then mulRe a b c d else if op = 4 then wr (wr a) else 0
def opB (op a b c d : Int) : Int := if op = 0 then wr b else if op = 1 then addR b d else if op = 2 then subR b d else if op = 3 then mulIm a b c d else if op = 4 then negR b else 0
def opE (op : Int) : Bool := decide (0 ≤ op ∧ op ≤ 4)

theorem opE_of (op : Int) : opE op = true ↔ (op = 0 ∨ op = 1 ∨ op = 2 ∨ op = 3 ∨ op = 4) := by unfold opE; simp; omega

/-- The error's number. -/
def opN (op : Int) : Int := if opE op then 0 else 10

end Go.Proofs.Ytjjmoibnmdbpeaa
