/- WALKS of package constant: least, at one word and at two. -/
import Derived.Test.YtjjopjpchgajcaaConstc
namespace Go.Proofs.Ytjjopjpchgajcaa
set_option linter.unusedVariables false
set_option linter.unusedSimpArgs false
open Go.RowKit Flo

/-- What 'least' gives for words that count. -/
def least1 (x : Int) : Int := if x = 0 then 0 else if x = 1 then 1 else 2
def least2 (x y : Int) : Int := if x = 0 ∨ y = 0 then 0 else if x = 1 ∨ y = 1 then 1 else 2

theorem least_0 (a : Int) (na : ∀ w, Calls Try.prog 73 #[.int .u64 a] w fun e w' => e = .returned (.int .u64 0) ∧ Below w.heap.size w w')
    (blk : Nat) (w : World) (hb : blk < w.heap.size) (hc0 : w.cell? ⟨blk, 0, none⟩ = some (.int .u64 a)) :
    Calls Try.prog 72 #[.slice (some ⟨blk, 0, none⟩) 1 1] w fun e w' => e = .returned (.int .u64 0) ∧ Below w.heap.size w w' := by
  go_enter Try.func72, Try.ntmps72
  go_wp2_with fail
  refine scope_forward 0 rfl ?_
  go_wp2_with fail
  refine wp_loop_rounds 2 ?_
  rw [rounds_succ]
  go_wp2_with (go_at_call 73; first | (with_reducible refine' Calls.aft _ _ (na _) _; rotate_left 2; (first | (with_reducible exact After.below _; rfl) | (with_reducible exact below_drew (After.below _); rfl) | (with_reducible exact below_set (After.below _) _ _; (go_simp; rfl)) | (with_reducible exact below_set (below_set (After.below _) _ _) _ _; (go_simp; rfl)) | (with_reducible exact below_set (below_set (below_set (After.below _) _ _) _ _) _ _; (go_simp; rfl)) | (with_reducible exact below_set (below_set (below_set (below_set (After.below _) _ _) _ _) _ _) _ _; (go_simp; rfl)) | (exact Below.refl _ _; rfl)); intro x9; have hle := After.le x9; (try simp at hle)))
  go_step3
  refine And.intro (rfl : (0 : Nat) = 0) ?_
  go_wp2_with fail
  try rw [Exit.noGoto_ret]
  go_ret
  refine ⟨rfl, ?_⟩
  (repeat (first | exact Below.refl _ _ | apply Below.drew | refine Below.alloc ?_ ?_ _ | refine Below.setCell ?_ ?_ _ | refine Below.trans ?_ (Below.mono (After.below _) ?_))); (all_goals (first | (simp; done) | (simp; omega) | omega))

theorem least_1 (a : Int) (na : ∀ w, Calls Try.prog 73 #[.int .u64 a] w fun e w' => e = .returned (.int .u64 1) ∧ Below w.heap.size w w')
    (blk : Nat) (w : World) (hb : blk < w.heap.size) (hc0 : w.cell? ⟨blk, 0, none⟩ = some (.int .u64 a)) :
    Calls Try.prog 72 #[.slice (some ⟨blk, 0, none⟩) 1 1] w fun e w' => e = .returned (.int .u64 1) ∧ Below w.heap.size w w' := by
  go_enter Try.func72, Try.ntmps72
  go_wp2_with fail
  refine scope_forward 0 rfl ?_
  go_wp2_with fail
  refine wp_loop_rounds 2 ?_
  rw [rounds_succ]
  go_wp2_with (go_at_call 73; first | (with_reducible refine' Calls.aft _ _ (na _) _; rotate_left 2; (first | (with_reducible exact After.below _; rfl) | (with_reducible exact below_drew (After.below _); rfl) | (with_reducible exact below_set (After.below _) _ _; (go_simp; rfl)) | (with_reducible exact below_set (below_set (After.below _) _ _) _ _; (go_simp; rfl)) | (with_reducible exact below_set (below_set (below_set (After.below _) _ _) _ _) _ _; (go_simp; rfl)) | (with_reducible exact below_set (below_set (below_set (below_set (After.below _) _ _) _ _) _ _) _ _; (go_simp; rfl)) | (exact Below.refl _ _; rfl)); intro x9; have hle := After.le x9; (try simp at hle)))
  rw [rounds_succ]
  go_wp2_with (go_at_call 73; first | (with_reducible refine' Calls.aft _ _ (na _) _; rotate_left 2; (first | (with_reducible exact After.below _; rfl) | (with_reducible exact below_drew (After.below _); rfl) | (with_reducible exact below_set (After.below _) _ _; (go_simp; rfl)) | (with_reducible exact below_set (below_set (After.below _) _ _) _ _; (go_simp; rfl)) | (with_reducible exact below_set (below_set (below_set (After.below _) _ _) _ _) _ _; (go_simp; rfl)) | (with_reducible exact below_set (below_set (below_set (below_set (After.below _) _ _) _ _) _ _) _ _; (go_simp; rfl)) | (exact Below.refl _ _; rfl)); intro x9; have hle := After.le x9; (try simp at hle)))
  go_step3
  go_wp2_with fail
  try simp only [Exit.jump]
  go_ret
  refine ⟨rfl, ?_⟩
  (repeat (first | exact Below.refl _ _ | apply Below.drew | refine Below.alloc ?_ ?_ _ | refine Below.setCell ?_ ?_ _ | refine Below.trans ?_ (Below.mono (After.below _) ?_))); (all_goals (first | (simp; done) | (simp; omega) | omega))

theorem least_x (a : Int) (x : Int) (f0x : (x == 0) = false) (f1x : (x == 1) = false) (na : ∀ w, Calls Try.prog 73 #[.int .u64 a] w fun e w' => e = .returned (.int .u64 x) ∧ Below w.heap.size w w')
    (blk : Nat) (w : World) (hb : blk < w.heap.size) (hc0 : w.cell? ⟨blk, 0, none⟩ = some (.int .u64 a)) :
    Calls Try.prog 72 #[.slice (some ⟨blk, 0, none⟩) 1 1] w fun e w' => e = .returned (.int .u64 2) ∧ Below w.heap.size w w' := by
  go_enter Try.func72, Try.ntmps72
  go_wp2_with fail
  refine scope_forward 0 rfl ?_
  go_wp2_with fail
  refine wp_loop_rounds 2 ?_
  rw [rounds_succ]
  go_wp2_with (go_at_call 73; first | (with_reducible refine' Calls.aft _ _ (na _) _; rotate_left 2; (first | (with_reducible exact After.below _; rfl) | (with_reducible exact below_drew (After.below _); rfl) | (with_reducible exact below_set (After.below _) _ _; (go_simp; rfl)) | (with_reducible exact below_set (below_set (After.below _) _ _) _ _; (go_simp; rfl)) | (with_reducible exact below_set (below_set (below_set (After.below _) _ _) _ _) _ _; (go_simp; rfl)) | (with_reducible exact below_set (below_set (below_set (below_set (After.below _) _ _) _ _) _ _) _ _; (go_simp; rfl)) | (exact Below.refl _ _; rfl)); intro x9; have hle := After.le x9; (try simp at hle)))
  rw [rounds_succ]
  go_wp2_with (go_at_call 73; first | (with_reducible refine' Calls.aft _ _ (na _) _; rotate_left 2; (first | (with_reducible exact After.below _; rfl) | (with_reducible exact below_drew (After.below _); rfl) | (with_reducible exact below_set (After.below _) _ _; (go_simp; rfl)) | (with_reducible exact below_set (below_set (After.below _) _ _) _ _; (go_simp; rfl)) | (with_reducible exact below_set (below_set (below_set (After.below _) _ _) _ _) _ _; (go_simp; rfl)) | (with_reducible exact below_set (below_set (below_set (below_set (After.below _) _ _) _ _) _ _) _ _; (go_simp; rfl)) | (exact Below.refl _ _; rfl)); intro x9; have hle := After.le x9; (try simp at hle)))
  go_step3
  go_wp2_with fail
  try simp only [Exit.jump]
  go_ret
  refine ⟨rfl, ?_⟩
  (repeat (first | exact Below.refl _ _ | apply Below.drew | refine Below.alloc ?_ ?_ _ | refine Below.setCell ?_ ?_ _ | refine Below.trans ?_ (Below.mono (After.below _) ?_))); (all_goals (first | (simp; done) | (simp; omega) | omega))

theorem least_00 (a b : Int) (na : ∀ w, Calls Try.prog 73 #[.int .u64 a] w fun e w' => e = .returned (.int .u64 0) ∧ Below w.heap.size w w') (nb : ∀ w, Calls Try.prog 73 #[.int .u64 b] w fun e w' => e = .returned (.int .u64 0) ∧ Below w.heap.size w w')
    (blk : Nat) (w : World) (hb : blk < w.heap.size) (hc0 : w.cell? ⟨blk, 0, none⟩ = some (.int .u64 a)) (hc1 : w.cell? ⟨blk, 1, none⟩ = some (.int .u64 b)) :
    Calls Try.prog 72 #[.slice (some ⟨blk, 0, none⟩) 2 2] w fun e w' => e = .returned (.int .u64 0) ∧ Below w.heap.size w w' := by
  go_enter Try.func72, Try.ntmps72
  go_wp2_with fail
  refine scope_forward 0 rfl ?_
  go_wp2_with fail
  refine wp_loop_rounds 3 ?_
  rw [rounds_succ]
  go_wp2_with (go_at_call 73; first | (with_reducible refine' Calls.aft _ _ (na _) _; rotate_left 2; (first | (with_reducible exact After.below _; rfl) | (with_reducible exact below_drew (After.below _); rfl) | (with_reducible exact below_set (After.below _) _ _; (go_simp; rfl)) | (with_reducible exact below_set (below_set (After.below _) _ _) _ _; (go_simp; rfl)) | (with_reducible exact below_set (below_set (below_set (After.below _) _ _) _ _) _ _; (go_simp; rfl)) | (with_reducible exact below_set (below_set (below_set (below_set (After.below _) _ _) _ _) _ _) _ _; (go_simp; rfl)) | (exact Below.refl _ _; rfl)); intro x9; have hle := After.le x9; (try simp at hle)) | (with_reducible refine' Calls.aft _ _ (nb _) _; rotate_left 2; (first | (with_reducible exact After.below _; rfl) | (with_reducible exact below_drew (After.below _); rfl) | (with_reducible exact below_set (After.below _) _ _; (go_simp; rfl)) | (with_reducible exact below_set (below_set (After.below _) _ _) _ _; (go_simp; rfl)) | (with_reducible exact below_set (below_set (below_set (After.below _) _ _) _ _) _ _; (go_simp; rfl)) | (with_reducible exact below_set (below_set (below_set (below_set (After.below _) _ _) _ _) _ _) _ _; (go_simp; rfl)) | (exact Below.refl _ _; rfl)); intro x9; have hle := After.le x9; (try simp at hle)))
  go_step3
  refine And.intro (rfl : (0 : Nat) = 0) ?_
  go_wp2_with fail
  try rw [Exit.noGoto_ret]
  go_ret
  refine ⟨rfl, ?_⟩
  (repeat (first | exact Below.refl _ _ | apply Below.drew | refine Below.alloc ?_ ?_ _ | refine Below.setCell ?_ ?_ _ | refine Below.trans ?_ (Below.mono (After.below _) ?_))); (all_goals (first | (simp; done) | (simp; omega) | omega))

theorem least_01 (a b : Int) (na : ∀ w, Calls Try.prog 73 #[.int .u64 a] w fun e w' => e = .returned (.int .u64 0) ∧ Below w.heap.size w w') (nb : ∀ w, Calls Try.prog 73 #[.int .u64 b] w fun e w' => e = .returned (.int .u64 1) ∧ Below w.heap.size w w')
    (blk : Nat) (w : World) (hb : blk < w.heap.size) (hc0 : w.cell? ⟨blk, 0, none⟩ = some (.int .u64 a)) (hc1 : w.cell? ⟨blk, 1, none⟩ = some (.int .u64 b)) :
    Calls Try.prog 72 #[.slice (some ⟨blk, 0, none⟩) 2 2] w fun e w' => e = .returned (.int .u64 0) ∧ Below w.heap.size w w' := by
  go_enter Try.func72, Try.ntmps72
  go_wp2_with fail
  refine scope_forward 0 rfl ?_
  go_wp2_with fail
  refine wp_loop_rounds 3 ?_
  rw [rounds_succ]
  go_wp2_with (go_at_call 73; first | (with_reducible refine' Calls.aft _ _ (na _) _; rotate_left 2; (first | (with_reducible exact After.below _; rfl) | (with_reducible exact below_drew (After.below _); rfl) | (with_reducible exact below_set (After.below _) _ _; (go_simp; rfl)) | (with_reducible exact below_set (below_set (After.below _) _ _) _ _; (go_simp; rfl)) | (with_reducible exact below_set (below_set (below_set (After.below _) _ _) _ _) _ _; (go_simp; rfl)) | (with_reducible exact below_set (below_set (below_set (below_set (After.below _) _ _) _ _) _ _) _ _; (go_simp; rfl)) | (exact Below.refl _ _; rfl)); intro x9; have hle := After.le x9; (try simp at hle)) | (with_reducible refine' Calls.aft _ _ (nb _) _; rotate_left 2; (first | (with_reducible exact After.below _; rfl) | (with_reducible exact below_drew (After.below _); rfl) | (with_reducible exact below_set (After.below _) _ _; (go_simp; rfl)) | (with_reducible exact below_set (below_set (After.below _) _ _) _ _; (go_simp; rfl)) | (with_reducible exact below_set (below_set (below_set (After.below _) _ _) _ _) _ _; (go_simp; rfl)) | (with_reducible exact below_set (below_set (below_set (below_set (After.below _) _ _) _ _) _ _) _ _; (go_simp; rfl)) | (exact Below.refl _ _; rfl)); intro x9; have hle := After.le x9; (try simp at hle)))
  go_step3
  refine And.intro (rfl : (0 : Nat) = 0) ?_
  go_wp2_with fail
  try rw [Exit.noGoto_ret]
  go_ret
  refine ⟨rfl, ?_⟩
  (repeat (first | exact Below.refl _ _ | apply Below.drew | refine Below.alloc ?_ ?_ _ | refine Below.setCell ?_ ?_ _ | refine Below.trans ?_ (Below.mono (After.below _) ?_))); (all_goals (first | (simp; done) | (simp; omega) | omega))

theorem least_0x (a b : Int) (y : Int) (f0y : (y == 0) = false) (f1y : (y == 1) = false) (na : ∀ w, Calls Try.prog 73 #[.int .u64 a] w fun e w' => e = .returned (.int .u64 0) ∧ Below w.heap.size w w') (nb : ∀ w, Calls Try.prog 73 #[.int .u64 b] w fun e w' => e = .returned (.int .u64 y) ∧ Below w.heap.size w w')
    (blk : Nat) (w : World) (hb : blk < w.heap.size) (hc0 : w.cell? ⟨blk, 0, none⟩ = some (.int .u64 a)) (hc1 : w.cell? ⟨blk, 1, none⟩ = some (.int .u64 b)) :
    Calls Try.prog 72 #[.slice (some ⟨blk, 0, none⟩) 2 2] w fun e w' => e = .returned (.int .u64 0) ∧ Below w.heap.size w w' := by
  go_enter Try.func72, Try.ntmps72
  go_wp2_with fail
  refine scope_forward 0 rfl ?_
  go_wp2_with fail
  refine wp_loop_rounds 3 ?_
  rw [rounds_succ]
  go_wp2_with (go_at_call 73; first | (with_reducible refine' Calls.aft _ _ (na _) _; rotate_left 2; (first | (with_reducible exact After.below _; rfl) | (with_reducible exact below_drew (After.below _); rfl) | (with_reducible exact below_set (After.below _) _ _; (go_simp; rfl)) | (with_reducible exact below_set (below_set (After.below _) _ _) _ _; (go_simp; rfl)) | (with_reducible exact below_set (below_set (below_set (After.below _) _ _) _ _) _ _; (go_simp; rfl)) | (with_reducible exact below_set (below_set (below_set (below_set (After.below _) _ _) _ _) _ _) _ _; (go_simp; rfl)) | (exact Below.refl _ _; rfl)); intro x9; have hle := After.le x9; (try simp at hle)) | (with_reducible refine' Calls.aft _ _ (nb _) _; rotate_left 2; (first | (with_reducible exact After.below _; rfl) | (with_reducible exact below_drew (After.below _); rfl) | (with_reducible exact below_set (After.below _) _ _; (go_simp; rfl)) | (with_reducible exact below_set (below_set (After.below _) _ _) _ _; (go_simp; rfl)) | (with_reducible exact below_set (below_set (below_set (After.below _) _ _) _ _) _ _; (go_simp; rfl)) | (with_reducible exact below_set (below_set (below_set (below_set (After.below _) _ _) _ _) _ _) _ _; (go_simp; rfl)) | (exact Below.refl _ _; rfl)); intro x9; have hle := After.le x9; (try simp at hle)))
  go_step3
  refine And.intro (rfl : (0 : Nat) = 0) ?_
  go_wp2_with fail
  try rw [Exit.noGoto_ret]
  go_ret
  refine ⟨rfl, ?_⟩
  (repeat (first | exact Below.refl _ _ | apply Below.drew | refine Below.alloc ?_ ?_ _ | refine Below.setCell ?_ ?_ _ | refine Below.trans ?_ (Below.mono (After.below _) ?_))); (all_goals (first | (simp; done) | (simp; omega) | omega))

theorem least_10 (a b : Int) (na : ∀ w, Calls Try.prog 73 #[.int .u64 a] w fun e w' => e = .returned (.int .u64 1) ∧ Below w.heap.size w w') (nb : ∀ w, Calls Try.prog 73 #[.int .u64 b] w fun e w' => e = .returned (.int .u64 0) ∧ Below w.heap.size w w')
    (blk : Nat) (w : World) (hb : blk < w.heap.size) (hc0 : w.cell? ⟨blk, 0, none⟩ = some (.int .u64 a)) (hc1 : w.cell? ⟨blk, 1, none⟩ = some (.int .u64 b)) :
    Calls Try.prog 72 #[.slice (some ⟨blk, 0, none⟩) 2 2] w fun e w' => e = .returned (.int .u64 0) ∧ Below w.heap.size w w' := by
  go_enter Try.func72, Try.ntmps72
  go_wp2_with fail
  refine scope_forward 0 rfl ?_
  go_wp2_with fail
  refine wp_loop_rounds 3 ?_
  rw [rounds_succ]
  go_wp2_with (go_at_call 73; first | (with_reducible refine' Calls.aft _ _ (na _) _; rotate_left 2; (first | (with_reducible exact After.below _; rfl) | (with_reducible exact below_drew (After.below _); rfl) | (with_reducible exact below_set (After.below _) _ _; (go_simp; rfl)) | (with_reducible exact below_set (below_set (After.below _) _ _) _ _; (go_simp; rfl)) | (with_reducible exact below_set (below_set (below_set (After.below _) _ _) _ _) _ _; (go_simp; rfl)) | (with_reducible exact below_set (below_set (below_set (below_set (After.below _) _ _) _ _) _ _) _ _; (go_simp; rfl)) | (exact Below.refl _ _; rfl)); intro x9; have hle := After.le x9; (try simp at hle)) | (with_reducible refine' Calls.aft _ _ (nb _) _; rotate_left 2; (first | (with_reducible exact After.below _; rfl) | (with_reducible exact below_drew (After.below _); rfl) | (with_reducible exact below_set (After.below _) _ _; (go_simp; rfl)) | (with_reducible exact below_set (below_set (After.below _) _ _) _ _; (go_simp; rfl)) | (with_reducible exact below_set (below_set (below_set (After.below _) _ _) _ _) _ _; (go_simp; rfl)) | (with_reducible exact below_set (below_set (below_set (below_set (After.below _) _ _) _ _) _ _) _ _; (go_simp; rfl)) | (exact Below.refl _ _; rfl)); intro x9; have hle := After.le x9; (try simp at hle)))
  rw [rounds_succ]
  go_wp2_with (go_at_call 73; first | (with_reducible refine' Calls.aft _ _ (na _) _; rotate_left 2; (first | (with_reducible exact After.below _; rfl) | (with_reducible exact below_drew (After.below _); rfl) | (with_reducible exact below_set (After.below _) _ _; (go_simp; rfl)) | (with_reducible exact below_set (below_set (After.below _) _ _) _ _; (go_simp; rfl)) | (with_reducible exact below_set (below_set (below_set (After.below _) _ _) _ _) _ _; (go_simp; rfl)) | (with_reducible exact below_set (below_set (below_set (below_set (After.below _) _ _) _ _) _ _) _ _; (go_simp; rfl)) | (exact Below.refl _ _; rfl)); intro x9; have hle := After.le x9; (try simp at hle)) | (with_reducible refine' Calls.aft _ _ (nb _) _; rotate_left 2; (first | (with_reducible exact After.below _; rfl) | (with_reducible exact below_drew (After.below _); rfl) | (with_reducible exact below_set (After.below _) _ _; (go_simp; rfl)) | (with_reducible exact below_set (below_set (After.below _) _ _) _ _; (go_simp; rfl)) | (with_reducible exact below_set (below_set (below_set (After.below _) _ _) _ _) _ _; (go_simp; rfl)) | (with_reducible exact below_set (below_set (below_set (below_set (After.below _) _ _) _ _) _ _) _ _; (go_simp; rfl)) | (exact Below.refl _ _; rfl)); intro x9; have hle := After.le x9; (try simp at hle)))
  go_step3
  refine And.intro (rfl : (0 : Nat) = 0) ?_
  go_wp2_with fail
  try rw [Exit.noGoto_ret]
  go_ret
  refine ⟨rfl, ?_⟩
  (repeat (first | exact Below.refl _ _ | apply Below.drew | refine Below.alloc ?_ ?_ _ | refine Below.setCell ?_ ?_ _ | refine Below.trans ?_ (Below.mono (After.below _) ?_))); (all_goals (first | (simp; done) | (simp; omega) | omega))

theorem least_11 (a b : Int) (na : ∀ w, Calls Try.prog 73 #[.int .u64 a] w fun e w' => e = .returned (.int .u64 1) ∧ Below w.heap.size w w') (nb : ∀ w, Calls Try.prog 73 #[.int .u64 b] w fun e w' => e = .returned (.int .u64 1) ∧ Below w.heap.size w w')
    (blk : Nat) (w : World) (hb : blk < w.heap.size) (hc0 : w.cell? ⟨blk, 0, none⟩ = some (.int .u64 a)) (hc1 : w.cell? ⟨blk, 1, none⟩ = some (.int .u64 b)) :
    Calls Try.prog 72 #[.slice (some ⟨blk, 0, none⟩) 2 2] w fun e w' => e = .returned (.int .u64 1) ∧ Below w.heap.size w w' := by
  go_enter Try.func72, Try.ntmps72
  go_wp2_with fail
  refine scope_forward 0 rfl ?_
  go_wp2_with fail
  refine wp_loop_rounds 3 ?_
  rw [rounds_succ]
  go_wp2_with (go_at_call 73; first | (with_reducible refine' Calls.aft _ _ (na _) _; rotate_left 2; (first | (with_reducible exact After.below _; rfl) | (with_reducible exact below_drew (After.below _); rfl) | (with_reducible exact below_set (After.below _) _ _; (go_simp; rfl)) | (with_reducible exact below_set (below_set (After.below _) _ _) _ _; (go_simp; rfl)) | (with_reducible exact below_set (below_set (below_set (After.below _) _ _) _ _) _ _; (go_simp; rfl)) | (with_reducible exact below_set (below_set (below_set (below_set (After.below _) _ _) _ _) _ _) _ _; (go_simp; rfl)) | (exact Below.refl _ _; rfl)); intro x9; have hle := After.le x9; (try simp at hle)) | (with_reducible refine' Calls.aft _ _ (nb _) _; rotate_left 2; (first | (with_reducible exact After.below _; rfl) | (with_reducible exact below_drew (After.below _); rfl) | (with_reducible exact below_set (After.below _) _ _; (go_simp; rfl)) | (with_reducible exact below_set (below_set (After.below _) _ _) _ _; (go_simp; rfl)) | (with_reducible exact below_set (below_set (below_set (After.below _) _ _) _ _) _ _; (go_simp; rfl)) | (with_reducible exact below_set (below_set (below_set (below_set (After.below _) _ _) _ _) _ _) _ _; (go_simp; rfl)) | (exact Below.refl _ _; rfl)); intro x9; have hle := After.le x9; (try simp at hle)))
  rw [rounds_succ]
  go_wp2_with (go_at_call 73; first | (with_reducible refine' Calls.aft _ _ (na _) _; rotate_left 2; (first | (with_reducible exact After.below _; rfl) | (with_reducible exact below_drew (After.below _); rfl) | (with_reducible exact below_set (After.below _) _ _; (go_simp; rfl)) | (with_reducible exact below_set (below_set (After.below _) _ _) _ _; (go_simp; rfl)) | (with_reducible exact below_set (below_set (below_set (After.below _) _ _) _ _) _ _; (go_simp; rfl)) | (with_reducible exact below_set (below_set (below_set (below_set (After.below _) _ _) _ _) _ _) _ _; (go_simp; rfl)) | (exact Below.refl _ _; rfl)); intro x9; have hle := After.le x9; (try simp at hle)) | (with_reducible refine' Calls.aft _ _ (nb _) _; rotate_left 2; (first | (with_reducible exact After.below _; rfl) | (with_reducible exact below_drew (After.below _); rfl) | (with_reducible exact below_set (After.below _) _ _; (go_simp; rfl)) | (with_reducible exact below_set (below_set (After.below _) _ _) _ _; (go_simp; rfl)) | (with_reducible exact below_set (below_set (below_set (After.below _) _ _) _ _) _ _; (go_simp; rfl)) | (with_reducible exact below_set (below_set (below_set (below_set (After.below _) _ _) _ _) _ _) _ _; (go_simp; rfl)) | (exact Below.refl _ _; rfl)); intro x9; have hle := After.le x9; (try simp at hle)))
  rw [rounds_succ]
  go_wp2_with (go_at_call 73; first | (with_reducible refine' Calls.aft _ _ (na _) _; rotate_left 2; (first | (with_reducible exact After.below _; rfl) | (with_reducible exact below_drew (After.below _); rfl) | (with_reducible exact below_set (After.below _) _ _; (go_simp; rfl)) | (with_reducible exact below_set (below_set (After.below _) _ _) _ _; (go_simp; rfl)) | (with_reducible exact below_set (below_set (below_set (After.below _) _ _) _ _) _ _; (go_simp; rfl)) | (with_reducible exact below_set (below_set (below_set (below_set (After.below _) _ _) _ _) _ _) _ _; (go_simp; rfl)) | (exact Below.refl _ _; rfl)); intro x9; have hle := After.le x9; (try simp at hle)) | (with_reducible refine' Calls.aft _ _ (nb _) _; rotate_left 2; (first | (with_reducible exact After.below _; rfl) | (with_reducible exact below_drew (After.below _); rfl) | (with_reducible exact below_set (After.below _) _ _; (go_simp; rfl)) | (with_reducible exact below_set (below_set (After.below _) _ _) _ _; (go_simp; rfl)) | (with_reducible exact below_set (below_set (below_set (After.below _) _ _) _ _) _ _; (go_simp; rfl)) | (with_reducible exact below_set (below_set (below_set (below_set (After.below _) _ _) _ _) _ _) _ _; (go_simp; rfl)) | (exact Below.refl _ _; rfl)); intro x9; have hle := After.le x9; (try simp at hle)))
  go_step3
  go_wp2_with fail
  try simp only [Exit.jump]
  go_ret
  refine ⟨rfl, ?_⟩
  (repeat (first | exact Below.refl _ _ | apply Below.drew | refine Below.alloc ?_ ?_ _ | refine Below.setCell ?_ ?_ _ | refine Below.trans ?_ (Below.mono (After.below _) ?_))); (all_goals (first | (simp; done) | (simp; omega) | omega))

theorem least_1x (a b : Int) (y : Int) (f0y : (y == 0) = false) (f1y : (y == 1) = false) (na : ∀ w, Calls Try.prog 73 #[.int .u64 a] w fun e w' => e = .returned (.int .u64 1) ∧ Below w.heap.size w w') (nb : ∀ w, Calls Try.prog 73 #[.int .u64 b] w fun e w' => e = .returned (.int .u64 y) ∧ Below w.heap.size w w')
    (blk : Nat) (w : World) (hb : blk < w.heap.size) (hc0 : w.cell? ⟨blk, 0, none⟩ = some (.int .u64 a)) (hc1 : w.cell? ⟨blk, 1, none⟩ = some (.int .u64 b)) :
    Calls Try.prog 72 #[.slice (some ⟨blk, 0, none⟩) 2 2] w fun e w' => e = .returned (.int .u64 1) ∧ Below w.heap.size w w' := by
  go_enter Try.func72, Try.ntmps72
  go_wp2_with fail
  refine scope_forward 0 rfl ?_
  go_wp2_with fail
  refine wp_loop_rounds 3 ?_
  rw [rounds_succ]
  go_wp2_with (go_at_call 73; first | (with_reducible refine' Calls.aft _ _ (na _) _; rotate_left 2; (first | (with_reducible exact After.below _; rfl) | (with_reducible exact below_drew (After.below _); rfl) | (with_reducible exact below_set (After.below _) _ _; (go_simp; rfl)) | (with_reducible exact below_set (below_set (After.below _) _ _) _ _; (go_simp; rfl)) | (with_reducible exact below_set (below_set (below_set (After.below _) _ _) _ _) _ _; (go_simp; rfl)) | (with_reducible exact below_set (below_set (below_set (below_set (After.below _) _ _) _ _) _ _) _ _; (go_simp; rfl)) | (exact Below.refl _ _; rfl)); intro x9; have hle := After.le x9; (try simp at hle)) | (with_reducible refine' Calls.aft _ _ (nb _) _; rotate_left 2; (first | (with_reducible exact After.below _; rfl) | (with_reducible exact below_drew (After.below _); rfl) | (with_reducible exact below_set (After.below _) _ _; (go_simp; rfl)) | (with_reducible exact below_set (below_set (After.below _) _ _) _ _; (go_simp; rfl)) | (with_reducible exact below_set (below_set (below_set (After.below _) _ _) _ _) _ _; (go_simp; rfl)) | (with_reducible exact below_set (below_set (below_set (below_set (After.below _) _ _) _ _) _ _) _ _; (go_simp; rfl)) | (exact Below.refl _ _; rfl)); intro x9; have hle := After.le x9; (try simp at hle)))
  rw [rounds_succ]
  go_wp2_with (go_at_call 73; first | (with_reducible refine' Calls.aft _ _ (na _) _; rotate_left 2; (first | (with_reducible exact After.below _; rfl) | (with_reducible exact below_drew (After.below _); rfl) | (with_reducible exact below_set (After.below _) _ _; (go_simp; rfl)) | (with_reducible exact below_set (below_set (After.below _) _ _) _ _; (go_simp; rfl)) | (with_reducible exact below_set (below_set (below_set (After.below _) _ _) _ _) _ _; (go_simp; rfl)) | (with_reducible exact below_set (below_set (below_set (below_set (After.below _) _ _) _ _) _ _) _ _; (go_simp; rfl)) | (exact Below.refl _ _; rfl)); intro x9; have hle := After.le x9; (try simp at hle)) | (with_reducible refine' Calls.aft _ _ (nb _) _; rotate_left 2; (first | (with_reducible exact After.below _; rfl) | (with_reducible exact below_drew (After.below _); rfl) | (with_reducible exact below_set (After.below _) _ _; (go_simp; rfl)) | (with_reducible exact below_set (below_set (After.below _) _ _) _ _; (go_simp; rfl)) | (with_reducible exact below_set (below_set (below_set (After.below _) _ _) _ _) _ _; (go_simp; rfl)) | (with_reducible exact below_set (below_set (below_set (below_set (After.below _) _ _) _ _) _ _) _ _; (go_simp; rfl)) | (exact Below.refl _ _; rfl)); intro x9; have hle := After.le x9; (try simp at hle)))
  rw [rounds_succ]
  go_wp2_with (go_at_call 73; first | (with_reducible refine' Calls.aft _ _ (na _) _; rotate_left 2; (first | (with_reducible exact After.below _; rfl) | (with_reducible exact below_drew (After.below _); rfl) | (with_reducible exact below_set (After.below _) _ _; (go_simp; rfl)) | (with_reducible exact below_set (below_set (After.below _) _ _) _ _; (go_simp; rfl)) | (with_reducible exact below_set (below_set (below_set (After.below _) _ _) _ _) _ _; (go_simp; rfl)) | (with_reducible exact below_set (below_set (below_set (below_set (After.below _) _ _) _ _) _ _) _ _; (go_simp; rfl)) | (exact Below.refl _ _; rfl)); intro x9; have hle := After.le x9; (try simp at hle)) | (with_reducible refine' Calls.aft _ _ (nb _) _; rotate_left 2; (first | (with_reducible exact After.below _; rfl) | (with_reducible exact below_drew (After.below _); rfl) | (with_reducible exact below_set (After.below _) _ _; (go_simp; rfl)) | (with_reducible exact below_set (below_set (After.below _) _ _) _ _; (go_simp; rfl)) | (with_reducible exact below_set (below_set (below_set (After.below _) _ _) _ _) _ _; (go_simp; rfl)) | (with_reducible exact below_set (below_set (below_set (below_set (After.below _) _ _) _ _) _ _) _ _; (go_simp; rfl)) | (exact Below.refl _ _; rfl)); intro x9; have hle := After.le x9; (try simp at hle)))
  go_step3
  go_wp2_with fail
  try simp only [Exit.jump]
  go_ret
  refine ⟨rfl, ?_⟩
  (repeat (first | exact Below.refl _ _ | apply Below.drew | refine Below.alloc ?_ ?_ _ | refine Below.setCell ?_ ?_ _ | refine Below.trans ?_ (Below.mono (After.below _) ?_))); (all_goals (first | (simp; done) | (simp; omega) | omega))

theorem least_x0 (a b : Int) (x : Int) (f0x : (x == 0) = false) (f1x : (x == 1) = false) (na : ∀ w, Calls Try.prog 73 #[.int .u64 a] w fun e w' => e = .returned (.int .u64 x) ∧ Below w.heap.size w w') (nb : ∀ w, Calls Try.prog 73 #[.int .u64 b] w fun e w' => e = .returned (.int .u64 0) ∧ Below w.heap.size w w')
    (blk : Nat) (w : World) (hb : blk < w.heap.size) (hc0 : w.cell? ⟨blk, 0, none⟩ = some (.int .u64 a)) (hc1 : w.cell? ⟨blk, 1, none⟩ = some (.int .u64 b)) :
    Calls Try.prog 72 #[.slice (some ⟨blk, 0, none⟩) 2 2] w fun e w' => e = .returned (.int .u64 0) ∧ Below w.heap.size w w' := by
  go_enter Try.func72, Try.ntmps72
  go_wp2_with fail
  refine scope_forward 0 rfl ?_
  go_wp2_with fail
  refine wp_loop_rounds 3 ?_
  rw [rounds_succ]
  go_wp2_with (go_at_call 73; first | (with_reducible refine' Calls.aft _ _ (na _) _; rotate_left 2; (first | (with_reducible exact After.below _; rfl) | (with_reducible exact below_drew (After.below _); rfl) | (with_reducible exact below_set (After.below _) _ _; (go_simp; rfl)) | (with_reducible exact below_set (below_set (After.below _) _ _) _ _; (go_simp; rfl)) | (with_reducible exact below_set (below_set (below_set (After.below _) _ _) _ _) _ _; (go_simp; rfl)) | (with_reducible exact below_set (below_set (below_set (below_set (After.below _) _ _) _ _) _ _) _ _; (go_simp; rfl)) | (exact Below.refl _ _; rfl)); intro x9; have hle := After.le x9; (try simp at hle)) | (with_reducible refine' Calls.aft _ _ (nb _) _; rotate_left 2; (first | (with_reducible exact After.below _; rfl) | (with_reducible exact below_drew (After.below _); rfl) | (with_reducible exact below_set (After.below _) _ _; (go_simp; rfl)) | (with_reducible exact below_set (below_set (After.below _) _ _) _ _; (go_simp; rfl)) | (with_reducible exact below_set (below_set (below_set (After.below _) _ _) _ _) _ _; (go_simp; rfl)) | (with_reducible exact below_set (below_set (below_set (below_set (After.below _) _ _) _ _) _ _) _ _; (go_simp; rfl)) | (exact Below.refl _ _; rfl)); intro x9; have hle := After.le x9; (try simp at hle)))
  rw [rounds_succ]
  go_wp2_with (go_at_call 73; first | (with_reducible refine' Calls.aft _ _ (na _) _; rotate_left 2; (first | (with_reducible exact After.below _; rfl) | (with_reducible exact below_drew (After.below _); rfl) | (with_reducible exact below_set (After.below _) _ _; (go_simp; rfl)) | (with_reducible exact below_set (below_set (After.below _) _ _) _ _; (go_simp; rfl)) | (with_reducible exact below_set (below_set (below_set (After.below _) _ _) _ _) _ _; (go_simp; rfl)) | (with_reducible exact below_set (below_set (below_set (below_set (After.below _) _ _) _ _) _ _) _ _; (go_simp; rfl)) | (exact Below.refl _ _; rfl)); intro x9; have hle := After.le x9; (try simp at hle)) | (with_reducible refine' Calls.aft _ _ (nb _) _; rotate_left 2; (first | (with_reducible exact After.below _; rfl) | (with_reducible exact below_drew (After.below _); rfl) | (with_reducible exact below_set (After.below _) _ _; (go_simp; rfl)) | (with_reducible exact below_set (below_set (After.below _) _ _) _ _; (go_simp; rfl)) | (with_reducible exact below_set (below_set (below_set (After.below _) _ _) _ _) _ _; (go_simp; rfl)) | (with_reducible exact below_set (below_set (below_set (below_set (After.below _) _ _) _ _) _ _) _ _; (go_simp; rfl)) | (exact Below.refl _ _; rfl)); intro x9; have hle := After.le x9; (try simp at hle)))
  go_step3
  refine And.intro (rfl : (0 : Nat) = 0) ?_
  go_wp2_with fail
  try rw [Exit.noGoto_ret]
  go_ret
  refine ⟨rfl, ?_⟩
  (repeat (first | exact Below.refl _ _ | apply Below.drew | refine Below.alloc ?_ ?_ _ | refine Below.setCell ?_ ?_ _ | refine Below.trans ?_ (Below.mono (After.below _) ?_))); (all_goals (first | (simp; done) | (simp; omega) | omega))

theorem least_x1 (a b : Int) (x : Int) (f0x : (x == 0) = false) (f1x : (x == 1) = false) (na : ∀ w, Calls Try.prog 73 #[.int .u64 a] w fun e w' => e = .returned (.int .u64 x) ∧ Below w.heap.size w w') (nb : ∀ w, Calls Try.prog 73 #[.int .u64 b] w fun e w' => e = .returned (.int .u64 1) ∧ Below w.heap.size w w')
    (blk : Nat) (w : World) (hb : blk < w.heap.size) (hc0 : w.cell? ⟨blk, 0, none⟩ = some (.int .u64 a)) (hc1 : w.cell? ⟨blk, 1, none⟩ = some (.int .u64 b)) :
    Calls Try.prog 72 #[.slice (some ⟨blk, 0, none⟩) 2 2] w fun e w' => e = .returned (.int .u64 1) ∧ Below w.heap.size w w' := by
  go_enter Try.func72, Try.ntmps72
  go_wp2_with fail
  refine scope_forward 0 rfl ?_
  go_wp2_with fail
  refine wp_loop_rounds 3 ?_
  rw [rounds_succ]
  go_wp2_with (go_at_call 73; first | (with_reducible refine' Calls.aft _ _ (na _) _; rotate_left 2; (first | (with_reducible exact After.below _; rfl) | (with_reducible exact below_drew (After.below _); rfl) | (with_reducible exact below_set (After.below _) _ _; (go_simp; rfl)) | (with_reducible exact below_set (below_set (After.below _) _ _) _ _; (go_simp; rfl)) | (with_reducible exact below_set (below_set (below_set (After.below _) _ _) _ _) _ _; (go_simp; rfl)) | (with_reducible exact below_set (below_set (below_set (below_set (After.below _) _ _) _ _) _ _) _ _; (go_simp; rfl)) | (exact Below.refl _ _; rfl)); intro x9; have hle := After.le x9; (try simp at hle)) | (with_reducible refine' Calls.aft _ _ (nb _) _; rotate_left 2; (first | (with_reducible exact After.below _; rfl) | (with_reducible exact below_drew (After.below _); rfl) | (with_reducible exact below_set (After.below _) _ _; (go_simp; rfl)) | (with_reducible exact below_set (below_set (After.below _) _ _) _ _; (go_simp; rfl)) | (with_reducible exact below_set (below_set (below_set (After.below _) _ _) _ _) _ _; (go_simp; rfl)) | (with_reducible exact below_set (below_set (below_set (below_set (After.below _) _ _) _ _) _ _) _ _; (go_simp; rfl)) | (exact Below.refl _ _; rfl)); intro x9; have hle := After.le x9; (try simp at hle)))
  rw [rounds_succ]
  go_wp2_with (go_at_call 73; first | (with_reducible refine' Calls.aft _ _ (na _) _; rotate_left 2; (first | (with_reducible exact After.below _; rfl) | (with_reducible exact below_drew (After.below _); rfl) | (with_reducible exact below_set (After.below _) _ _; (go_simp; rfl)) | (with_reducible exact below_set (below_set (After.below _) _ _) _ _; (go_simp; rfl)) | (with_reducible exact below_set (below_set (below_set (After.below _) _ _) _ _) _ _; (go_simp; rfl)) | (with_reducible exact below_set (below_set (below_set (below_set (After.below _) _ _) _ _) _ _) _ _; (go_simp; rfl)) | (exact Below.refl _ _; rfl)); intro x9; have hle := After.le x9; (try simp at hle)) | (with_reducible refine' Calls.aft _ _ (nb _) _; rotate_left 2; (first | (with_reducible exact After.below _; rfl) | (with_reducible exact below_drew (After.below _); rfl) | (with_reducible exact below_set (After.below _) _ _; (go_simp; rfl)) | (with_reducible exact below_set (below_set (After.below _) _ _) _ _; (go_simp; rfl)) | (with_reducible exact below_set (below_set (below_set (After.below _) _ _) _ _) _ _; (go_simp; rfl)) | (with_reducible exact below_set (below_set (below_set (below_set (After.below _) _ _) _ _) _ _) _ _; (go_simp; rfl)) | (exact Below.refl _ _; rfl)); intro x9; have hle := After.le x9; (try simp at hle)))
  rw [rounds_succ]
  go_wp2_with (go_at_call 73; first | (with_reducible refine' Calls.aft _ _ (na _) _; rotate_left 2; (first | (with_reducible exact After.below _; rfl) | (with_reducible exact below_drew (After.below _); rfl) | (with_reducible exact below_set (After.below _) _ _; (go_simp; rfl)) | (with_reducible exact below_set (below_set (After.below _) _ _) _ _; (go_simp; rfl)) | (with_reducible exact below_set (below_set (below_set (After.below _) _ _) _ _) _ _; (go_simp; rfl)) | (with_reducible exact below_set (below_set (below_set (below_set (After.below _) _ _) _ _) _ _) _ _; (go_simp; rfl)) | (exact Below.refl _ _; rfl)); intro x9; have hle := After.le x9; (try simp at hle)) | (with_reducible refine' Calls.aft _ _ (nb _) _; rotate_left 2; (first | (with_reducible exact After.below _; rfl) | (with_reducible exact below_drew (After.below _); rfl) | (with_reducible exact below_set (After.below _) _ _; (go_simp; rfl)) | (with_reducible exact below_set (below_set (After.below _) _ _) _ _; (go_simp; rfl)) | (with_reducible exact below_set (below_set (below_set (After.below _) _ _) _ _) _ _; (go_simp; rfl)) | (with_reducible exact below_set (below_set (below_set (below_set (After.below _) _ _) _ _) _ _) _ _; (go_simp; rfl)) | (exact Below.refl _ _; rfl)); intro x9; have hle := After.le x9; (try simp at hle)))
  go_step3
  go_wp2_with fail
  try simp only [Exit.jump]
  go_ret
  refine ⟨rfl, ?_⟩
  (repeat (first | exact Below.refl _ _ | apply Below.drew | refine Below.alloc ?_ ?_ _ | refine Below.setCell ?_ ?_ _ | refine Below.trans ?_ (Below.mono (After.below _) ?_))); (all_goals (first | (simp; done) | (simp; omega) | omega))

theorem least_xx (a b : Int) (x : Int) (f0x : (x == 0) = false) (f1x : (x == 1) = false) (y : Int) (f0y : (y == 0) = false) (f1y : (y == 1) = false) (na : ∀ w, Calls Try.prog 73 #[.int .u64 a] w fun e w' => e = .returned (.int .u64 x) ∧ Below w.heap.size w w') (nb : ∀ w, Calls Try.prog 73 #[.int .u64 b] w fun e w' => e = .returned (.int .u64 y) ∧ Below w.heap.size w w')
    (blk : Nat) (w : World) (hb : blk < w.heap.size) (hc0 : w.cell? ⟨blk, 0, none⟩ = some (.int .u64 a)) (hc1 : w.cell? ⟨blk, 1, none⟩ = some (.int .u64 b)) :
    Calls Try.prog 72 #[.slice (some ⟨blk, 0, none⟩) 2 2] w fun e w' => e = .returned (.int .u64 2) ∧ Below w.heap.size w w' := by
  go_enter Try.func72, Try.ntmps72
  go_wp2_with fail
  refine scope_forward 0 rfl ?_
  go_wp2_with fail
  refine wp_loop_rounds 3 ?_
  rw [rounds_succ]
  go_wp2_with (go_at_call 73; first | (with_reducible refine' Calls.aft _ _ (na _) _; rotate_left 2; (first | (with_reducible exact After.below _; rfl) | (with_reducible exact below_drew (After.below _); rfl) | (with_reducible exact below_set (After.below _) _ _; (go_simp; rfl)) | (with_reducible exact below_set (below_set (After.below _) _ _) _ _; (go_simp; rfl)) | (with_reducible exact below_set (below_set (below_set (After.below _) _ _) _ _) _ _; (go_simp; rfl)) | (with_reducible exact below_set (below_set (below_set (below_set (After.below _) _ _) _ _) _ _) _ _; (go_simp; rfl)) | (exact Below.refl _ _; rfl)); intro x9; have hle := After.le x9; (try simp at hle)) | (with_reducible refine' Calls.aft _ _ (nb _) _; rotate_left 2; (first | (with_reducible exact After.below _; rfl) | (with_reducible exact below_drew (After.below _); rfl) | (with_reducible exact below_set (After.below _) _ _; (go_simp; rfl)) | (with_reducible exact below_set (below_set (After.below _) _ _) _ _; (go_simp; rfl)) | (with_reducible exact below_set (below_set (below_set (After.below _) _ _) _ _) _ _; (go_simp; rfl)) | (with_reducible exact below_set (below_set (below_set (below_set (After.below _) _ _) _ _) _ _) _ _; (go_simp; rfl)) | (exact Below.refl _ _; rfl)); intro x9; have hle := After.le x9; (try simp at hle)))
  rw [rounds_succ]
  go_wp2_with (go_at_call 73; first | (with_reducible refine' Calls.aft _ _ (na _) _; rotate_left 2; (first | (with_reducible exact After.below _; rfl) | (with_reducible exact below_drew (After.below _); rfl) | (with_reducible exact below_set (After.below _) _ _; (go_simp; rfl)) | (with_reducible exact below_set (below_set (After.below _) _ _) _ _; (go_simp; rfl)) | (with_reducible exact below_set (below_set (below_set (After.below _) _ _) _ _) _ _; (go_simp; rfl)) | (with_reducible exact below_set (below_set (below_set (below_set (After.below _) _ _) _ _) _ _) _ _; (go_simp; rfl)) | (exact Below.refl _ _; rfl)); intro x9; have hle := After.le x9; (try simp at hle)) | (with_reducible refine' Calls.aft _ _ (nb _) _; rotate_left 2; (first | (with_reducible exact After.below _; rfl) | (with_reducible exact below_drew (After.below _); rfl) | (with_reducible exact below_set (After.below _) _ _; (go_simp; rfl)) | (with_reducible exact below_set (below_set (After.below _) _ _) _ _; (go_simp; rfl)) | (with_reducible exact below_set (below_set (below_set (After.below _) _ _) _ _) _ _; (go_simp; rfl)) | (with_reducible exact below_set (below_set (below_set (below_set (After.below _) _ _) _ _) _ _) _ _; (go_simp; rfl)) | (exact Below.refl _ _; rfl)); intro x9; have hle := After.le x9; (try simp at hle)))
  rw [rounds_succ]
  go_wp2_with (go_at_call 73; first | (with_reducible refine' Calls.aft _ _ (na _) _; rotate_left 2; (first | (with_reducible exact After.below _; rfl) | (with_reducible exact below_drew (After.below _); rfl) | (with_reducible exact below_set (After.below _) _ _; (go_simp; rfl)) | (with_reducible exact below_set (below_set (After.below _) _ _) _ _; (go_simp; rfl)) | (with_reducible exact below_set (below_set (below_set (After.below _) _ _) _ _) _ _; (go_simp; rfl)) | (with_reducible exact below_set (below_set (below_set (below_set (After.below _) _ _) _ _) _ _) _ _; (go_simp; rfl)) | (exact Below.refl _ _; rfl)); intro x9; have hle := After.le x9; (try simp at hle)) | (with_reducible refine' Calls.aft _ _ (nb _) _; rotate_left 2; (first | (with_reducible exact After.below _; rfl) | (with_reducible exact below_drew (After.below _); rfl) | (with_reducible exact below_set (After.below _) _ _; (go_simp; rfl)) | (with_reducible exact below_set (below_set (After.below _) _ _) _ _; (go_simp; rfl)) | (with_reducible exact below_set (below_set (below_set (After.below _) _ _) _ _) _ _; (go_simp; rfl)) | (with_reducible exact below_set (below_set (below_set (below_set (After.below _) _ _) _ _) _ _) _ _; (go_simp; rfl)) | (exact Below.refl _ _; rfl)); intro x9; have hle := After.le x9; (try simp at hle)))
  go_step3
  go_wp2_with fail
  try simp only [Exit.jump]
  go_ret
  refine ⟨rfl, ?_⟩
  (repeat (first | exact Below.refl _ _ | apply Below.drew | refine Below.alloc ?_ ?_ _ | refine Below.setCell ?_ ?_ _ | refine Below.trans ?_ (Below.mono (After.below _) ?_))); (all_goals (first | (simp; done) | (simp; omega) | omega))


theorem bne {x c : Int} (h : x ≠ c) : (x == c) = false := by simp [h]

theorem least1_any (a : Int) (x : Int) (na : ∀ w, Calls Try.prog 73 #[.int .u64 a] w fun e w' => e = .returned (.int .u64 x) ∧ Below w.heap.size w w') (blk : Nat) (w : World) (hb : blk < w.heap.size) (hc0 : w.cell? ⟨blk, 0, none⟩ = some (.int .u64 a)) :
    Calls Try.prog 72 #[.slice (some ⟨blk, 0, none⟩) 1 1] w fun e w' => e = .returned (.int .u64 (least1 x)) ∧ Below w.heap.size w w' := by
  by_cases h0 : x = 0
  · subst h0; exact least_0 a na blk w hb hc0
  · by_cases h1 : x = 1
    · subst h1; exact least_1 a na blk w hb hc0
    · have e : least1 x = 2 := by unfold least1; rw [if_neg h0, if_neg h1]
      rw [e]; exact least_x a x (bne h0) (bne h1) na blk w hb hc0

theorem least2_any (a b : Int) (x y : Int) (na : ∀ w, Calls Try.prog 73 #[.int .u64 a] w fun e w' => e = .returned (.int .u64 x) ∧ Below w.heap.size w w') (nb : ∀ w, Calls Try.prog 73 #[.int .u64 b] w fun e w' => e = .returned (.int .u64 y) ∧ Below w.heap.size w w') (blk : Nat) (w : World) (hb : blk < w.heap.size) (hc0 : w.cell? ⟨blk, 0, none⟩ = some (.int .u64 a)) (hc1 : w.cell? ⟨blk, 1, none⟩ = some (.int .u64 b)) :
    Calls Try.prog 72 #[.slice (some ⟨blk, 0, none⟩) 2 2] w fun e w' => e = .returned (.int .u64 (least2 x y)) ∧ Below w.heap.size w w' := by
  by_cases h0 : x = 0
  · subst h0
    rw [show least2 0 y = 0 by unfold least2; rw [if_pos (.inl rfl)]]
    by_cases g0 : y = 0
    · subst g0; exact least_00 a b na nb blk w hb hc0 hc1
    · by_cases g1 : y = 1
      · subst g1; exact least_01 a b na nb blk w hb hc0 hc1
      · exact least_0x a b y (bne g0) (bne g1) na nb blk w hb hc0 hc1
  · by_cases h1 : x = 1
    · subst h1
      by_cases g0 : y = 0
      · subst g0; exact least_10 a b na nb blk w hb hc0 hc1
      · rw [show least2 1 y = 1 by unfold least2; rw [if_neg (by omega), if_pos (.inl rfl)]]
        by_cases g1 : y = 1
        · subst g1; exact least_11 a b na nb blk w hb hc0 hc1
        · exact least_1x a b y (bne g0) (bne g1) na nb blk w hb hc0 hc1
    · by_cases g0 : y = 0
      · subst g0
        rw [show least2 x 0 = 0 by unfold least2; rw [if_pos (.inr rfl)]]
        exact least_x0 a b x (bne h0) (bne h1) na nb blk w hb hc0 hc1
      · by_cases g1 : y = 1
        · subst g1
          rw [show least2 x 1 = 1 by unfold least2; rw [if_neg (by omega), if_pos (.inr rfl)]]
          exact least_x1 a b x (bne h0) (bne h1) na nb blk w hb hc0 hc1
        · rw [show least2 x y = 2 by unfold least2; rw [if_neg (by omega), if_neg (by omega)]]
          exact least_xx a b x (bne h0) (bne h1) y (bne g0) (bne g1) na nb blk w hb hc0 hc1

end Go.Proofs.Ytjjopjpchgajcaa
