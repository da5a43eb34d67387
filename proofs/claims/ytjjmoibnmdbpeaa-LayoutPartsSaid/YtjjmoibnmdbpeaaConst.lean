/- WALKS of package constant and of its reference soughref11, first part: Num, Of, Is, norm. -/
import Derived.Test.YtjjmoibnmdbpeaaGaussd
namespace Go.Proofs.Ytjjmoibnmdbpeaa
set_option linter.unusedVariables false
set_option linter.unusedSimpArgs false
open Go.RowKit Flo

/-- The word is a number's. -/
def isN (n : Int) : Prop := n % 4 = 2 ∧ n / 4 < 4294967296
instance (n : Int) : Decidable (isN n) := by unfold isN; infer_instance
def numA (n : Int) : Int := wr (n / 4 % 65536)
def numB (n : Int) : Int := wr (n / 4 / 65536)
/-- The word that counts. -/
def normW (n : Int) : Int := if n = 0 then 0 else if isN n then n else 1
/-- A number's word. -/
def numW (a b : Int) : Int := 2 + 4 * wordN a b

theorem and3 (n : Int) (h0 : 0 ≤ n) (h1 : n < 18446744073709551616) : bits .and .u64 n 3 = n % 4 := by
  rw [u64_and _ _ h0 (by omega) (by omega) (by omega)]
  have : n.toNat &&& (3 : Int).toNat = n.toNat % 4 := Nat.and_two_pow_sub_one_eq_mod _ 2
  rw [this]; omega

theorem or2 (x : Int) (h0 : 0 ≤ x) (h1 : x < 4294967296) : bits .or .u64 2 (x * 4) = 2 + 4 * x := by
  rw [u64_or _ _ (by omega) (by omega) (by omega) (by omega), Nat.or_comm, nat_join 2 _ _ (by omega) (by omega)]
  omega

theorem cnum_yes (n : Int) (h0 : 0 ≤ n) (h1 : n < 18446744073709551616) (h : isN n) (w : World) :
    Calls Try.prog 132 #[.int .u64 n] w fun e w' => e = .returned (.tuple #[.agg #[.int .i64 (numA n), .int .i64 (numB n)], .bool true]) ∧ Below w.heap.size w w' := by
  obtain ⟨g1, g2⟩ := h
  have ha := and3 n h0 h1
  have hb : (n % 4 != 2) = false := by simp [g1]
  clear g1
  go_enter Try.func132, Try.ntmps132
  go_wp2_with (first | (go_at_call 147; refine' Calls.aft _ _ (unword_yes (n / 4) (by omega) g2 _) _; rotate_left 2; (first | (with_reducible exact After.below _; rfl) | (with_reducible exact below_drew (After.below _); rfl) | (with_reducible exact below_set (After.below _) _ _; (go_simp; rfl)) | (with_reducible exact below_set (below_set (After.below _) _ _) _ _; (go_simp; rfl)) | (with_reducible exact below_set (below_set (below_set (After.below _) _ _) _ _) _ _; (go_simp; rfl)) | (with_reducible exact below_set (below_set (below_set (below_set (After.below _) _ _) _ _) _ _) _ _; (go_simp; rfl)) | (exact Below.refl _ _; rfl)); intro x; have hle := After.le x; (try simp at hle)))
  refine bodyPost_ret (v := .tuple #[.agg #[.int .i64 (wr (n / 4 % 65536)), .int .i64 (wr (n / 4 / 65536))], .bool true]) (by simp only [results, Try.results132]; go_simp) rfl ⟨rfl, ?_⟩
  (repeat (first | exact Below.refl _ _ | apply Below.drew | refine Below.alloc ?_ ?_ _ | refine Below.setCell ?_ ?_ _ | refine Below.trans ?_ (Below.mono (After.below _) ?_))); (all_goals (first | (simp; done) | (simp; omega) | omega))

theorem cnum_no (n : Int) (h0 : 0 ≤ n) (h1 : n < 18446744073709551616) (h : ¬ isN n) (w : World) :
    Calls Try.prog 132 #[.int .u64 n] w fun e w' => e = .returned (.tuple #[.agg #[.int .i64 0, .int .i64 0], .bool false]) ∧ Below w.heap.size w w' := by
  have ha := and3 n h0 h1
  by_cases g1 : n % 4 = 2
  · have hb : (n % 4 != 2) = false := by simp [g1]
    have g2 : 4294967296 ≤ n / 4 := by unfold isN at h; omega
    clear g1 h
    go_enter Try.func132, Try.ntmps132
    go_wp2_with (first | (go_at_call 147; refine' Calls.aft _ _ (unword_no (n / 4) g2 (by omega) _) _; rotate_left 2; (first | (with_reducible exact After.below _; rfl) | (with_reducible exact below_drew (After.below _); rfl) | (with_reducible exact below_set (After.below _) _ _; (go_simp; rfl)) | (with_reducible exact below_set (below_set (After.below _) _ _) _ _; (go_simp; rfl)) | (with_reducible exact below_set (below_set (below_set (After.below _) _ _) _ _) _ _; (go_simp; rfl)) | (with_reducible exact below_set (below_set (below_set (below_set (After.below _) _ _) _ _) _ _) _ _; (go_simp; rfl)) | (exact Below.refl _ _; rfl)); intro x; have hle := After.le x; (try simp at hle)))
    refine bodyPost_ret (v := .tuple #[.agg #[.int .i64 0, .int .i64 0], .bool false]) (by simp only [results, Try.results132]; go_simp) rfl ⟨rfl, ?_⟩
    (repeat (first | exact Below.refl _ _ | apply Below.drew | refine Below.alloc ?_ ?_ _ | refine Below.setCell ?_ ?_ _ | refine Below.trans ?_ (Below.mono (After.below _) ?_))); (all_goals (first | (simp; done) | (simp; omega) | omega))
  · have hb : (n % 4 != 2) = true := by simp [g1]
    clear g1 h
    go_enter Try.func132, Try.ntmps132
    go_wp2_with fail
    refine bodyPost_ret (v := .tuple #[.agg #[.int .i64 0, .int .i64 0], .bool false]) (by simp only [results, Try.results132]; go_simp) rfl ⟨rfl, ?_⟩
    (repeat (first | exact Below.refl _ _ | apply Below.drew | refine Below.alloc ?_ ?_ _ | refine Below.setCell ?_ ?_ _ | refine Below.trans ?_ (Below.mono (After.below _) ?_))); (all_goals (first | (simp; done) | (simp; omega) | omega))

theorem rnum_yes (n : Int) (h0 : 0 ≤ n) (h1 : n < 18446744073709551616) (h : isN n) (w : World) :
    Calls Try.prog 137 #[.int .u64 n] w fun e w' => e = .returned (.tuple #[.agg #[.int .i64 (numA n), .int .i64 (numB n)], .bool true]) ∧ Below w.heap.size w w' := by
  obtain ⟨g1, g2⟩ := h
  have hb : (n % 4 != 2) = false := by simp [g1]
  clear g1
  go_enter Try.func137, Try.ntmps137
  go_wp2_with (first | (go_at_call 127; refine' Calls.aft _ _ (rof_any _ _ _) _; rotate_left 2; (first | (with_reducible exact After.below _; rfl) | (with_reducible exact below_drew (After.below _); rfl) | (with_reducible exact below_set (After.below _) _ _; (go_simp; rfl)) | (with_reducible exact below_set (below_set (After.below _) _ _) _ _; (go_simp; rfl)) | (with_reducible exact below_set (below_set (below_set (After.below _) _ _) _ _) _ _; (go_simp; rfl)) | (with_reducible exact below_set (below_set (below_set (below_set (After.below _) _ _) _ _) _ _) _ _; (go_simp; rfl)) | (exact Below.refl _ _; rfl)); intro x; have hle := After.le x; (try simp at hle)))
  refine bodyPost_ret (v := .tuple #[.agg #[.int .i64 (wr (n / 4 % 65536)), .int .i64 (wr (n / 4 / 65536))], .bool true]) (by simp only [results, Try.results137]; go_simp) rfl ⟨rfl, ?_⟩
  (repeat (first | exact Below.refl _ _ | apply Below.drew | refine Below.alloc ?_ ?_ _ | refine Below.setCell ?_ ?_ _ | refine Below.trans ?_ (Below.mono (After.below _) ?_))); (all_goals (first | (simp; done) | (simp; omega) | omega))

theorem rnum_no (n : Int) (h0 : 0 ≤ n) (h1 : n < 18446744073709551616) (h : ¬ isN n) (w : World) :
    Calls Try.prog 137 #[.int .u64 n] w fun e w' => e = .returned (.tuple #[.agg #[.int .i64 0, .int .i64 0], .bool false]) ∧ Below w.heap.size w w' := by
  by_cases g1 : n % 4 = 2
  · have hb : (n % 4 != 2) = false := by simp [g1]
    have g2 : 4294967296 ≤ n / 4 := by unfold isN at h; omega
    clear g1 h
    go_enter Try.func137, Try.ntmps137
    go_wp2_with fail
    refine bodyPost_ret (v := .tuple #[.agg #[.int .i64 0, .int .i64 0], .bool false]) (by simp only [results, Try.results137]; go_simp) rfl ⟨rfl, ?_⟩
    (repeat (first | exact Below.refl _ _ | apply Below.drew | refine Below.alloc ?_ ?_ _ | refine Below.setCell ?_ ?_ _ | refine Below.trans ?_ (Below.mono (After.below _) ?_))); (all_goals (first | (simp; done) | (simp; omega) | omega))
  · have hb : (n % 4 != 2) = true := by simp [g1]
    clear g1 h
    go_enter Try.func137, Try.ntmps137
    go_wp2_with fail
    refine bodyPost_ret (v := .tuple #[.agg #[.int .i64 0, .int .i64 0], .bool false]) (by simp only [results, Try.results137]; go_simp) rfl ⟨rfl, ?_⟩
    (repeat (first | exact Below.refl _ _ | apply Below.drew | refine Below.alloc ?_ ?_ _ | refine Below.setCell ?_ ?_ _ | refine Below.trans ?_ (Below.mono (After.below _) ?_))); (all_goals (first | (simp; done) | (simp; omega) | omega))

end Go.Proofs.Ytjjmoibnmdbpeaa
