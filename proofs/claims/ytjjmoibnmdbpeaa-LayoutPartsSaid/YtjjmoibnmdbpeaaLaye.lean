/- Layouts: which part an address belongs to. WALK of Part. -/
import Derived.Test.YtjjmoibnmdbpeaaME
namespace Go.Proofs.Ytjjmoibnmdbpeaa.Pr
set_option linter.unusedVariables false
set_option linter.unusedSimpArgs false
open Go Go.RowKit

theorem four {W : World} {B : Nat} {v0 v1 v2 v3 : Value} {t : TypeId} (h : W.heap[B]? = some (.cells #[v0, v1, v2, v3] t (0, 0))) :
    W.cell? ⟨B, 0, none⟩ = some v0 ∧ W.cell? ⟨B, 1, none⟩ = some v1 ∧ W.cell? ⟨B, 2, none⟩ = some v2 ∧ W.cell? ⟨B, 3, none⟩ = some v3 ∧ B < W.heap.size :=
  ⟨(cell_of_row W B 0 _ t (0, 0) h).trans rfl, (cell_of_row W B 1 _ t (0, 0) h).trans rfl, (cell_of_row W B 2 _ t (0, 0) h).trans rfl, (cell_of_row W B 3 _ t (0, 0) h).trans rfl, lt_of_block h⟩

theorem long3_any (b : Nat) (w : World) : Calls Try.prog 39 #[.int .i64 3, .pointer (some ⟨b, 0, none⟩)] w fun e w' => e = .returned (.tuple #[.int .i64 1, .int .i64 1]) ∧ Below w.heap.size w w' := by
  go_enter Try.func39, Try.ntmps39
  go_wp2_with fail
  refine bodyPost_ret (v := .tuple #[.int .i64 1, .int .i64 1]) (by simp only [results, Try.results39]; go_simp) rfl ⟨rfl, ?_⟩
  exact Below.refl _ _

section
variable (what n nodes k : Int) (b : Nat) (w : World) (h : w.heap[b]? = some (.cells #[.int .i64 what, .int .i64 n, .int .i64 nodes, .int .i64 k] 31 (0, 0)))
include h
theorem long1_any : Calls Try.prog 39 #[.int .i64 1, .pointer (some ⟨b, 0, none⟩)] w fun e w' => e = .returned (.tuple #[.int .i64 nodes, .int .i64 n]) ∧ Below w.heap.size w w' := by
  obtain ⟨y0, y1, y2, y3, yl⟩ := four h
  go_enter Try.func39, Try.ntmps39
  go_wp2_with fail
  refine' region_whole _ _ (by kernel_rfl) (by kernel_rfl) _; rotate_left 2; (exact Below.refl _ _; rfl); (repeat (go_big_quiet_step (first | fail))); refine wpQuiet_nil ?_; intro z
  go_wp2_with fail
  refine bodyPost_ret (v := .tuple #[.int .i64 nodes, .int .i64 n]) (by simp only [results, Try.results39]; go_simp) rfl ⟨rfl, ?_⟩
  exact z.below
theorem long2_any : Calls Try.prog 39 #[.int .i64 2, .pointer (some ⟨b, 0, none⟩)] w fun e w' => e = .returned (.tuple #[.int .i64 nodes, .int .i64 1]) ∧ Below w.heap.size w w' := by
  obtain ⟨y0, y1, y2, y3, yl⟩ := four h
  go_enter Try.func39, Try.ntmps39
  go_wp2_with fail
  refine bodyPost_ret (v := .tuple #[.int .i64 nodes, .int .i64 1]) (by simp only [results, Try.results39]; go_simp) rfl ⟨rfl, ?_⟩
  exact Below.refl _ _
theorem long4_any (g0 : 0 ≤ nodes) (g1 : nodes ≤ 1000) : Calls Try.prog 39 #[.int .i64 4, .pointer (some ⟨b, 0, none⟩)] w fun e w' => e = .returned (.tuple #[.int .i64 k, .int .i64 (2 + (nodes + 1))]) ∧ Below w.heap.size w w' := by
  obtain ⟨y0, y1, y2, y3, yl⟩ := four h
  have f0 := fun W => lroom_any what n nodes k g0 g1 W
  have f2 := fun W => dwords_any (nodes + 1) (by omega) (by omega) W
  go_enter Try.func39, Try.ntmps39
  go_wp2_with fail
  refine' region_whole _ _ (by kernel_rfl) (by kernel_rfl) _; rotate_left 2; (exact Below.refl _ _; rfl); (repeat (go_big_quiet_step (first | (go_at_call 16; exact Calls.after_of (f0 _)) | (go_at_call 37; exact Calls.after_of (Calls.behind (f2 _)))))); refine wpQuiet_nil ?_; intro z
  go_wp2_with fail
  refine bodyPost_ret (v := .tuple #[.int .i64 k, .int .i64 (2 + (nodes + 1))]) (by simp only [results, Try.results39]; go_simp) rfl ⟨rfl, ?_⟩
  exact z.below
end

def partY (n nodes k a : Int) : Int × Int :=
  if a < 0 then (0, 0)
  else if a < nodes * n then (1, a / n)
  else if a - nodes * n < nodes then (2, a - nodes * n)
  else if a - nodes * n - nodes < 1 then (3, a - nodes * n - nodes)
  else if a - nodes * n - nodes - 1 < k * (2 + (nodes + 1)) then (4, (a - nodes * n - nodes - 1) / (2 + (nodes + 1)))
  else (0, 0)

set_option maxRecDepth 100000 in
set_option maxHeartbeats 4000000 in
theorem part_any (what n nodes k a : Int) (h0 : 0 ≤ nodes * n) (h1 : nodes * n ≤ 1000000) (g0 : 1 ≤ nodes) (g1 : nodes ≤ 1000) (e0 : 0 ≤ k * (2 + (nodes + 1))) (e1 : k * (2 + (nodes + 1)) ≤ 1000000) (hn : 0 ≤ n)
    (a0 : -9223372036854775808 ≤ a) (a1 : a ≤ 9223372036854775807) (w : World) :
    Calls Try.prog 19 #[.agg #[.int .i64 what, .int .i64 n, .int .i64 nodes, .int .i64 k], .int .i64 a] w fun e w' => e = .returned (.tuple #[.int .i64 (partY n nodes k a).1, .int .i64 (partY n nodes k a).2]) ∧ Below w.heap.size w w' := by
  have hbox := heap_alloc_new w (.cells #[.int .i64 what, .int .i64 n, .int .i64 nodes, .int .i64 k] 31)
  have hb1 : Below w.heap.size w (w.alloc (.cells #[.int .i64 what, .int .i64 n, .int .i64 nodes, .int .i64 k] 31)) := (Below.refl _ _).alloc (Nat.le_refl _) _
  unfold partY
  by_cases q0 : a < 0
  · simp only [q0, if_true]
    go_enter Try.func19, Try.ntmps19
    go_wp2_with fail
    refine scope_forward 0 rfl ?_
    go_wp2_with fail
    try simp only [Exit.jump]
    refine bodyPost_ret (v := .tuple #[.int .i64 0, .int .i64 0]) (by simp only [results, Try.results19]; go_simp) rfl ⟨rfl, ?_⟩
    exact hb1
  have l1 := fun (W : World) hW => long1_any what n nodes k w.heap.size W hW
  by_cases q1 : a < nodes * n
  · have hn0 : n ≠ 0 := by
      rintro rfl
      rw [Int.mul_zero] at q1
      omega
    have hnb : (n == 0) = false := by simpa using hn0
    simp only [q0, q1, if_true, if_false]
    go_enter Try.func19, Try.ntmps19
    go_wp2_with fail
    refine scope_forward 0 rfl ?_
    go_wp2_with fail
    go_step3
    go_wp2_with fail
    refine wp_loop_rounds 1 ?_
    rw [rounds_succ]
    go_wp2_with (go_at_call 39; refine' Calls.aft _ _ (l1 _ hbox) _; rotate_left 2; (exact Below.refl _ _; rfl); intro x1; have hle := After.le x1; (try simp at hle))
    go_region
    all_goals (
      go_wp2_with fail
      try simp only [Exit.jump]
      refine bodyPost_ret (v := .tuple #[.int .i64 1, .int .i64 (a / n)]) (by simp only [results, Try.results19]; go_simp) rfl ⟨rfl, ?_⟩
      exact (nextB ((Below.refl _ _).drew) (nextB x1.below hb1)))
  have l2 := fun (W : World) hW => long2_any what n nodes k w.heap.size W hW
  by_cases q2 : a - nodes * n < nodes
  · simp only [q0, q1, q2, if_true, if_false]
    go_enter Try.func19, Try.ntmps19
    go_wp2_with fail
    refine scope_forward 0 rfl ?_
    go_wp2_with fail
    go_step3
    go_wp2_with fail
    refine wp_loop_rounds 2 ?_
    rw [rounds_succ]
    go_wp2_with (go_at_call 39; refine' Calls.aft _ _ (l1 _ hbox) _; rotate_left 2; (exact Below.refl _ _; rfl); intro x1; have hle := After.le x1; (try simp at hle))
    rw [rounds_succ]
    go_wp2_with (go_at_call 39; refine' Calls.aft _ _ (l2 _ (blk9 x1.below hbox)) _; rotate_left 2; (exact Below.refl _ _; rfl); intro x2; have hle := After.le x2; (try simp at hle))
    go_region
    all_goals (
      go_wp2_with fail
      try simp only [Exit.jump]
      refine bodyPost_ret (v := .tuple #[.int .i64 2, .int .i64 (a - nodes * n)]) (by simp only [results, Try.results19]; go_simp) rfl ⟨rfl, ?_⟩
      exact (nextB ((Below.refl _ _).drew) (nextB x2.below (nextB x1.below hb1))))
  have l3 := fun (W : World) => long3_any w.heap.size W
  by_cases q3 : a - nodes * n - nodes < 1
  · simp only [q0, q1, q2, q3, if_true, if_false]
    go_enter Try.func19, Try.ntmps19
    go_wp2_with fail
    refine scope_forward 0 rfl ?_
    go_wp2_with fail
    go_step3
    go_wp2_with fail
    refine wp_loop_rounds 3 ?_
    rw [rounds_succ]
    go_wp2_with (go_at_call 39; refine' Calls.aft _ _ (l1 _ hbox) _; rotate_left 2; (exact Below.refl _ _; rfl); intro x1; have hle := After.le x1; (try simp at hle))
    rw [rounds_succ]
    go_wp2_with (go_at_call 39; refine' Calls.aft _ _ (l2 _ (blk9 x1.below hbox)) _; rotate_left 2; (exact Below.refl _ _; rfl); intro x2; have hle := After.le x2; (try simp at hle))
    rw [rounds_succ]
    go_wp2_with (go_at_call 39; refine' Calls.aft _ _ (l3 _) _; rotate_left 2; (exact Below.refl _ _; rfl); intro x3; have hle := After.le x3; (try simp at hle))
    go_region
    all_goals (
      go_wp2_with fail
      try simp only [Exit.jump]
      refine bodyPost_ret (v := .tuple #[.int .i64 3, .int .i64 (a - nodes * n - nodes)]) (by simp only [results, Try.results19]; go_simp) rfl ⟨rfl, ?_⟩
      exact (nextB ((Below.refl _ _).drew) (nextB x3.below (nextB x2.below (nextB x1.below hb1)))))
  have l4 := fun (W : World) hW => long4_any what n nodes k w.heap.size W hW (by omega) g1
  by_cases q4 : a - nodes * n - nodes - 1 < k * (2 + (nodes + 1))
  · simp only [q0, q1, q2, q3, q4, if_true, if_false]
    go_enter Try.func19, Try.ntmps19
    go_wp2_with fail
    refine scope_forward 0 rfl ?_
    go_wp2_with fail
    go_step3
    go_wp2_with fail
    refine wp_loop_rounds 4 ?_
    rw [rounds_succ]
    go_wp2_with (go_at_call 39; refine' Calls.aft _ _ (l1 _ hbox) _; rotate_left 2; (exact Below.refl _ _; rfl); intro x1; have hle := After.le x1; (try simp at hle))
    rw [rounds_succ]
    go_wp2_with (go_at_call 39; refine' Calls.aft _ _ (l2 _ (blk9 x1.below hbox)) _; rotate_left 2; (exact Below.refl _ _; rfl); intro x2; have hle := After.le x2; (try simp at hle))
    rw [rounds_succ]
    go_wp2_with (go_at_call 39; refine' Calls.aft _ _ (l3 _) _; rotate_left 2; (exact Below.refl _ _; rfl); intro x3; have hle := After.le x3; (try simp at hle))
    rw [rounds_succ]
    go_wp2_with (go_at_call 39; refine' Calls.aft _ _ (l4 _ (blk9 x3.below (blk9 x2.below (blk9 x1.below hbox)))) _; rotate_left 2; (exact Below.refl _ _; rfl); intro x4; have hle := After.le x4; (try simp at hle))
    go_region
    all_goals (
      go_wp2_with fail
      try simp only [Exit.jump]
      refine bodyPost_ret (v := .tuple #[.int .i64 4, .int .i64 ((a - nodes * n - nodes - 1) / (2 + (nodes + 1)))]) (by simp only [results, Try.results19]; go_simp) rfl ⟨rfl, ?_⟩
      exact (nextB ((Below.refl _ _).drew) (nextB x4.below (nextB x3.below (nextB x2.below (nextB x1.below hb1))))))
  simp only [q0, q1, q2, q3, q4, if_false]
  go_enter Try.func19, Try.ntmps19
  go_wp2_with fail
  refine scope_forward 0 rfl ?_
  go_wp2_with fail
  go_step3
  go_wp2_with fail
  refine wp_loop_rounds 5 ?_
  rw [rounds_succ]
  go_wp2_with (go_at_call 39; refine' Calls.aft _ _ (l1 _ hbox) _; rotate_left 2; (exact Below.refl _ _; rfl); intro x1; have hle := After.le x1; (try simp at hle))
  rw [rounds_succ]
  go_wp2_with (go_at_call 39; refine' Calls.aft _ _ (l2 _ (blk9 x1.below hbox)) _; rotate_left 2; (exact Below.refl _ _; rfl); intro x2; have hle := After.le x2; (try simp at hle))
  rw [rounds_succ]
  go_wp2_with (go_at_call 39; refine' Calls.aft _ _ (l3 _) _; rotate_left 2; (exact Below.refl _ _; rfl); intro x3; have hle := After.le x3; (try simp at hle))
  rw [rounds_succ]
  go_wp2_with (go_at_call 39; refine' Calls.aft _ _ (l4 _ (blk9 x3.below (blk9 x2.below (blk9 x1.below hbox)))) _; rotate_left 2; (exact Below.refl _ _; rfl); intro x4; have hle := After.le x4; (try simp at hle))
  rw [rounds_succ]
  go_wp2_with fail
  try simp only [Exit.jump]
  refine bodyPost_ret (v := .tuple #[.int .i64 0, .int .i64 0]) (by simp only [results, Try.results19]; go_simp) rfl ⟨rfl, ?_⟩
  exact (nextB x4.below (nextB x3.below (nextB x2.below (nextB x1.below hb1))))


end Go.Proofs.Ytjjmoibnmdbpeaa.Pr
