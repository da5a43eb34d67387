/- WALKS of package printer and of its reference soughref05: Atom. WALKS of package printer: Expr at the three signs. WALKS of package printer: Expr, Stmt, Term. WALKS of package printer: Stmt. WALKS of package printer: Stmt whole, Term. WALKS of soughref04.Atoms and soughref05.Expr. WALKS of soughref05: Expr whole, Stmt, Term. WALK of soughlaw05.awake. PLAIN: a program's text. WALK of soughref05.Program. -/
import Derived.Test.YtmnplnhblniimaaGaussd
import Derived.Test.YtmnplnhblniimaaMJ

namespace Go.Proofs.Ytmnplnhblniimaa
set_option linter.unusedVariables false
set_option linter.unusedSimpArgs false
open Go.RowKit Flo

/-- An atom's text. -/
def atomT (v : ByteArray) (a b : Int) : ByteArray := if v.toList = [] then ⟨(textN a b).toArray⟩ else v

theorem atom_var (v : ByteArray) (a b : Int) (h : v.toList.isEmpty = false) (w : World) :
    Calls Try.prog 99 #[.agg #[.string v, .int .i64 a, .int .i64 b]] w fun e w' => e = .returned (.string v) ∧ Below w.heap.size w w' := by
  go_enter Try.func99, Try.ntmps99
  go_wp2_with fail
  go_ret
  refine ⟨rfl, ?_⟩
  (repeat (first | exact Below.refl _ _ | apply Below.drew | refine Below.alloc ?_ ?_ _ | refine Below.setCell ?_ ?_ _ | refine Below.trans ?_ (Below.mono (After.below _) ?_))); (all_goals (first | (simp; done) | (simp; omega) | omega))

theorem atom_num (v : ByteArray) (a b : Int) (h : v.toList.isEmpty = true) (w : World) :
    Calls Try.prog 99 #[.agg #[.string v, .int .i64 a, .int .i64 b]] w fun e w' => e = .returned (.string ⟨(textN a b).toArray⟩) ∧ Below w.heap.size w w' := by
  go_enter Try.func99, Try.ntmps99
  go_wp2_with (go_at_call 106; refine' Calls.aft _ _ (text_any _ _ _) _; rotate_left 2; (first | (with_reducible exact After.below _; rfl) | (with_reducible exact below_drew (After.below _); rfl) | (with_reducible exact below_set (After.below _) _ _; (go_simp; rfl)) | (with_reducible exact below_set (below_set (After.below _) _ _) _ _; (go_simp; rfl)) | (with_reducible exact below_set (below_set (below_set (After.below _) _ _) _ _) _ _; (go_simp; rfl)) | (with_reducible exact below_set (below_set (below_set (below_set (After.below _) _ _) _ _) _ _) _ _; (go_simp; rfl)) | (exact Below.refl _ _; rfl)); intro x; have hle := After.le x; (try simp at hle))
  go_ret
  refine ⟨rfl, ?_⟩
  (repeat (first | exact Below.refl _ _ | apply Below.drew | refine Below.alloc ?_ ?_ _ | refine Below.setCell ?_ ?_ _ | refine Below.trans ?_ (Below.mono (After.below _) ?_))); (all_goals (first | (simp; done) | (simp; omega) | omega))

theorem atomT_var {v : ByteArray} {a b : Int} (h : v.toList.isEmpty = false) : atomT v a b = v := by
  unfold atomT; rw [if_neg (by intro e; rw [e] at h; cases h)]
theorem atomT_num {v : ByteArray} {a b : Int} (h : v.toList.isEmpty = true) : atomT v a b = ⟨(textN a b).toArray⟩ := by
  unfold atomT; rw [if_pos (by simpa using h)]

theorem atom_any (v : ByteArray) (a b : Int) (w : World) :
    Calls Try.prog 99 #[.agg #[.string v, .int .i64 a, .int .i64 b]] w fun e w' => e = .returned (.string (atomT v a b)) ∧ Below w.heap.size w w' := by
  cases h : v.toList.isEmpty
  · rw [atomT_var h]; exact atom_var v a b h w
  · rw [atomT_num h]; exact atom_num v a b h w

theorem textN_len (a b : Int) : (textN a b).length ≤ 65600 := by
  have h1 := digs_len (wr a) (wr_lo a) (wr_hi a)
  have h2 := digs_len (wr b) (wr_lo b) (wr_hi b)
  unfold textN
  split
  · omega
  · simp; omega

theorem atomT_size (v : ByteArray) (a b : Int) : (atomT v a b).size ≤ v.size + 65600 := by
  have := textN_len a b
  unfold atomT
  split
  · simp only [ByteArray.size, List.size_toArray]; omega
  · omega

set_option maxRecDepth 100000 in
set_option maxHeartbeats 1000000 in
theorem expr_0 (v1 v2 : ByteArray) (a1 b1 a2 b2 : Int) (w : World) :
    Calls Try.prog 72 #[.agg #[.int .i64 0, .string v1, .int .i64 a1, .int .i64 b1, .string v2, .int .i64 a2, .int .i64 b2]] w fun e w' => e = .returned (.string (atomT v1 a1 b1)) ∧ Below w.heap.size w w' := by
  go_enter Try.func72, Try.ntmps72
  go_wp2_with (go_at_call 99; refine' Calls.aft _ _ (atom_any _ _ _ _) _; rotate_left 2; (first | (with_reducible exact After.below _; rfl) | (with_reducible exact below_drew (After.below _); rfl) | (with_reducible exact below_set (After.below _) _ _; (go_simp; rfl)) | (with_reducible exact below_set (below_set (After.below _) _ _) _ _; (go_simp; rfl)) | (with_reducible exact below_set (below_set (below_set (After.below _) _ _) _ _) _ _; (go_simp; rfl)) | (with_reducible exact below_set (below_set (below_set (below_set (After.below _) _ _) _ _) _ _) _ _; (go_simp; rfl)) | (exact Below.refl _ _; rfl)); intro x; have hle := After.le x; (try simp at hle))
  go_ret
  refine ⟨rfl, ?_⟩
  (repeat (first | exact Below.refl _ _ | apply Below.drew | refine Below.alloc ?_ ?_ _ | refine Below.setCell ?_ ?_ _ | refine Below.trans ?_ (Below.mono (After.below _) ?_))); (all_goals (first | (simp; done) | (simp; omega) | omega))

set_option maxRecDepth 100000 in
set_option maxHeartbeats 1000000 in
theorem expr_4 (v1 v2 : ByteArray) (a1 b1 a2 b2 : Int) (hl : (atomT v1 a1 b1).size ≤ 281474976710656) (w : World) :
    Calls Try.prog 72 #[.agg #[.int .i64 4, .string v1, .int .i64 a1, .int .i64 b1, .string v2, .int .i64 a2, .int .i64 b2]] w fun e w' => e = .returned (.string (⟨#[99, 111, 110, 106, 32]⟩ ++ atomT v1 a1 b1)) ∧ Below w.heap.size w w' := by
  have hif : ¬ (9223372036854775807 < 5 + (atomT v1 a1 b1).size) := by omega
  clear hl
  go_enter Try.func72, Try.ntmps72
  go_wp2_with (go_at_call 99; refine' Calls.aft _ _ (atom_any _ _ _ _) _; rotate_left 2; (first | (with_reducible exact After.below _; rfl) | (with_reducible exact below_drew (After.below _); rfl) | (with_reducible exact below_set (After.below _) _ _; (go_simp; rfl)) | (with_reducible exact below_set (below_set (After.below _) _ _) _ _; (go_simp; rfl)) | (with_reducible exact below_set (below_set (below_set (After.below _) _ _) _ _) _ _; (go_simp; rfl)) | (with_reducible exact below_set (below_set (below_set (below_set (After.below _) _ _) _ _) _ _) _ _; (go_simp; rfl)) | (exact Below.refl _ _; rfl)); intro x; have hle := After.le x; (try simp at hle))
  go_ret
  refine ⟨rfl, ?_⟩
  (repeat (first | exact Below.refl _ _ | apply Below.drew | refine Below.alloc ?_ ?_ _ | refine Below.setCell ?_ ?_ _ | refine Below.trans ?_ (Below.mono (After.below _) ?_))); (all_goals (first | (simp; done) | (simp; omega) | omega))

end Go.Proofs.Ytmnplnhblniimaa

namespace Go.Proofs.Ytmnplnhblniimaa
set_option linter.unusedVariables false
set_option linter.unusedSimpArgs false
open Go.RowKit Flo

set_option maxRecDepth 100000 in
set_option maxHeartbeats 1000000 in
theorem expr_1 (v1 v2 : ByteArray) (a1 b1 a2 b2 : Int) (hl : (atomT v1 a1 b1).size ≤ 281474976710656) (hl2 : (atomT v2 a2 b2).size ≤ 281474976710656) (w : World) :
    Calls Try.prog 72 #[.agg #[.int .i64 1, .string v1, .int .i64 a1, .int .i64 b1, .string v2, .int .i64 a2, .int .i64 b2]] w fun e w' => e = .returned (.string (atomT v1 a1 b1 ++ ⟨#[32, 43, 32]⟩ ++ atomT v2 a2 b2)) ∧ Below w.heap.size w w' := by
  have hif : ¬ (9223372036854775807 < (atomT v1 a1 b1).size + 3) := by omega
  have hig : ¬ (9223372036854775807 < (atomT v1 a1 b1).size + 3 + (atomT v2 a2 b2).size) := by omega
  clear hl hl2
  go_enter Try.func72, Try.ntmps72
  go_wp2_with refine' region_whole _ _ (by kernel_rfl) (by kernel_rfl) _; rotate_left 2; (first | (with_reducible exact After.below _; rfl) | (with_reducible exact below_drew (After.below _); rfl) | (with_reducible exact below_set (After.below _) _ _; (go_simp; rfl)) | (with_reducible exact below_set (below_set (After.below _) _ _) _ _; (go_simp; rfl)) | (with_reducible exact below_set (below_set (below_set (After.below _) _ _) _ _) _ _; (go_simp; rfl)) | (with_reducible exact below_set (below_set (below_set (below_set (After.below _) _ _) _ _) _ _) _ _; (go_simp; rfl)) | (exact Below.refl _ _; rfl)); (repeat (go_big_quiet_step (first | (go_at_call 99; exact Calls.after_of (atom_any _ _ _ _))))); refine wpQuiet_nil ?_; intro z
  go_wp2_with fail
  go_ret
  refine ⟨rfl, ?_⟩
  have hz := z.le
  (try simp at hz)
  (repeat (first | exact Below.refl _ _ | apply Below.drew | refine Below.alloc ?_ ?_ _ | refine Below.setCell ?_ ?_ _ | refine Below.trans ?_ (Below.mono (After.below _) ?_))); (all_goals (first | (simp; done) | (simp; omega) | omega))

set_option maxRecDepth 100000 in
set_option maxHeartbeats 1000000 in
theorem expr_2 (v1 v2 : ByteArray) (a1 b1 a2 b2 : Int) (hl : (atomT v1 a1 b1).size ≤ 281474976710656) (hl2 : (atomT v2 a2 b2).size ≤ 281474976710656) (w : World) :
    Calls Try.prog 72 #[.agg #[.int .i64 2, .string v1, .int .i64 a1, .int .i64 b1, .string v2, .int .i64 a2, .int .i64 b2]] w fun e w' => e = .returned (.string (atomT v1 a1 b1 ++ ⟨#[32, 45, 32]⟩ ++ atomT v2 a2 b2)) ∧ Below w.heap.size w w' := by
  have hif : ¬ (9223372036854775807 < (atomT v1 a1 b1).size + 3) := by omega
  have hig : ¬ (9223372036854775807 < (atomT v1 a1 b1).size + 3 + (atomT v2 a2 b2).size) := by omega
  clear hl hl2
  go_enter Try.func72, Try.ntmps72
  go_wp2_with refine' region_whole _ _ (by kernel_rfl) (by kernel_rfl) _; rotate_left 2; (first | (with_reducible exact After.below _; rfl) | (with_reducible exact below_drew (After.below _); rfl) | (with_reducible exact below_set (After.below _) _ _; (go_simp; rfl)) | (with_reducible exact below_set (below_set (After.below _) _ _) _ _; (go_simp; rfl)) | (with_reducible exact below_set (below_set (below_set (After.below _) _ _) _ _) _ _; (go_simp; rfl)) | (with_reducible exact below_set (below_set (below_set (below_set (After.below _) _ _) _ _) _ _) _ _; (go_simp; rfl)) | (exact Below.refl _ _; rfl)); (repeat (go_big_quiet_step (first | (go_at_call 99; exact Calls.after_of (atom_any _ _ _ _))))); refine wpQuiet_nil ?_; intro z
  go_wp2_with fail
  go_ret
  refine ⟨rfl, ?_⟩
  have hz := z.le
  (try simp at hz)
  (repeat (first | exact Below.refl _ _ | apply Below.drew | refine Below.alloc ?_ ?_ _ | refine Below.setCell ?_ ?_ _ | refine Below.trans ?_ (Below.mono (After.below _) ?_))); (all_goals (first | (simp; done) | (simp; omega) | omega))

set_option maxRecDepth 100000 in
set_option maxHeartbeats 1000000 in
theorem expr_3 (v1 v2 : ByteArray) (a1 b1 a2 b2 : Int) (hl : (atomT v1 a1 b1).size ≤ 281474976710656) (hl2 : (atomT v2 a2 b2).size ≤ 281474976710656) (w : World) :
    Calls Try.prog 72 #[.agg #[.int .i64 3, .string v1, .int .i64 a1, .int .i64 b1, .string v2, .int .i64 a2, .int .i64 b2]] w fun e w' => e = .returned (.string (atomT v1 a1 b1 ++ ⟨#[32, 42, 32]⟩ ++ atomT v2 a2 b2)) ∧ Below w.heap.size w w' := by
  have hif : ¬ (9223372036854775807 < (atomT v1 a1 b1).size + 3) := by omega
  have hig : ¬ (9223372036854775807 < (atomT v1 a1 b1).size + 3 + (atomT v2 a2 b2).size) := by omega
  clear hl hl2
  go_enter Try.func72, Try.ntmps72
  go_wp2_with refine' region_whole _ _ (by kernel_rfl) (by kernel_rfl) _; rotate_left 2; (first | (with_reducible exact After.below _; rfl) | (with_reducible exact below_drew (After.below _); rfl) | (with_reducible exact below_set (After.below _) _ _; (go_simp; rfl)) | (with_reducible exact below_set (below_set (After.below _) _ _) _ _; (go_simp; rfl)) | (with_reducible exact below_set (below_set (below_set (After.below _) _ _) _ _) _ _; (go_simp; rfl)) | (with_reducible exact below_set (below_set (below_set (below_set (After.below _) _ _) _ _) _ _) _ _; (go_simp; rfl)) | (exact Below.refl _ _; rfl)); (repeat (go_big_quiet_step (first | (go_at_call 99; exact Calls.after_of (atom_any _ _ _ _))))); refine wpQuiet_nil ?_; intro z
  go_wp2_with fail
  go_ret
  refine ⟨rfl, ?_⟩
  have hz := z.le
  (try simp at hz)
  (repeat (first | exact Below.refl _ _ | apply Below.drew | refine Below.alloc ?_ ?_ _ | refine Below.setCell ?_ ?_ _ | refine Below.trans ?_ (Below.mono (After.below _) ?_))); (all_goals (first | (simp; done) | (simp; omega) | omega))

set_option maxRecDepth 100000 in
set_option maxHeartbeats 1000000 in
theorem expr_else (op : Int) (v1 v2 : ByteArray) (a1 b1 a2 b2 : Int) (h0 : (op == 0) = false) (h1 : (op == 1) = false) (h2 : (op == 2) = false) (h3 : (op == 3) = false) (h4 : (op == 4) = false) (w : World) :
    Calls Try.prog 72 #[.agg #[.int .i64 op, .string v1, .int .i64 a1, .int .i64 b1, .string v2, .int .i64 a2, .int .i64 b2]] w fun e w' => e = .returned (.string ⟨#[]⟩) ∧ Below w.heap.size w w' := by
  go_enter Try.func72, Try.ntmps72
  go_wp2_with fail
  go_ret
  refine ⟨rfl, ?_⟩
  (repeat (first | exact Below.refl _ _ | apply Below.drew | refine Below.alloc ?_ ?_ _ | refine Below.setCell ?_ ?_ _ | refine Below.trans ?_ (Below.mono (After.below _) ?_))); (all_goals (first | (simp; done) | (simp; omega) | omega))

end Go.Proofs.Ytmnplnhblniimaa

namespace Go.Proofs.Ytmnplnhblniimaa
set_option linter.unusedVariables false
set_option linter.unusedSimpArgs false
open Go.RowKit Flo

/-- An expression's text. -/
def exprT (op : Int) (v1 : ByteArray) (a1 b1 : Int) (v2 : ByteArray) (a2 b2 : Int) : ByteArray :=
  if op = 0 then atomT v1 a1 b1
  else if op = 1 then atomT v1 a1 b1 ++ ⟨#[32, 43, 32]⟩ ++ atomT v2 a2 b2
  else if op = 2 then atomT v1 a1 b1 ++ ⟨#[32, 45, 32]⟩ ++ atomT v2 a2 b2
  else if op = 3 then atomT v1 a1 b1 ++ ⟨#[32, 42, 32]⟩ ++ atomT v2 a2 b2
  else if op = 4 then ⟨#[99, 111, 110, 106, 32]⟩ ++ atomT v1 a1 b1
  else ⟨#[]⟩

theorem expr_any (op : Int) (v1 v2 : ByteArray) (a1 b1 a2 b2 : Int) (hl : v1.size ≤ 1000) (hl2 : v2.size ≤ 1000) (w : World) :
    Calls Try.prog 72 #[.agg #[.int .i64 op, .string v1, .int .i64 a1, .int .i64 b1, .string v2, .int .i64 a2, .int .i64 b2]] w fun e w' => e = .returned (.string (exprT op v1 a1 b1 v2 a2 b2)) ∧ Below w.heap.size w w' := by
  have s1 := atomT_size v1 a1 b1
  have s2 := atomT_size v2 a2 b2
  unfold exprT
  by_cases h0 : op = 0
  · subst h0; rw [if_pos rfl]; exact expr_0 v1 v2 a1 b1 a2 b2 w
  rw [if_neg h0]
  by_cases h1 : op = 1
  · subst h1; rw [if_pos rfl]; exact expr_1 v1 v2 a1 b1 a2 b2 (by omega) (by omega) w
  rw [if_neg h1]
  by_cases h2 : op = 2
  · subst h2; rw [if_pos rfl]; exact expr_2 v1 v2 a1 b1 a2 b2 (by omega) (by omega) w
  rw [if_neg h2]
  by_cases h3 : op = 3
  · subst h3; rw [if_pos rfl]; exact expr_3 v1 v2 a1 b1 a2 b2 (by omega) (by omega) w
  rw [if_neg h3]
  by_cases h4 : op = 4
  · subst h4; rw [if_pos rfl]; exact expr_4 v1 v2 a1 b1 a2 b2 (by omega) w
  rw [if_neg h4]
  exact expr_else op v1 v2 a1 b1 a2 b2 (by simpa using h0) (by simpa using h1) (by simpa using h2) (by simpa using h3) (by simpa using h4) w

theorem exprT_size (op : Int) (v1 v2 : ByteArray) (a1 b1 a2 b2 : Int) (hl : v1.size ≤ 1000) (hl2 : v2.size ≤ 1000) :
    (exprT op v1 a1 b1 v2 a2 b2).size ≤ 140000 := by
  have s1 := atomT_size v1 a1 b1
  have s2 := atomT_size v2 a2 b2
  have k1 : (⟨#[32, 43, 32]⟩ : ByteArray).size = 3 := rfl
  have k2 : (⟨#[32, 45, 32]⟩ : ByteArray).size = 3 := rfl
  have k3 : (⟨#[32, 42, 32]⟩ : ByteArray).size = 3 := rfl
  have k4 : (⟨#[99, 111, 110, 106, 32]⟩ : ByteArray).size = 5 := rfl
  have k5 : (⟨#[]⟩ : ByteArray).size = 0 := rfl
  unfold exprT
  repeat' split
  all_goals (try simp only [ByteArray.size_append, k1, k2, k3, k4, k5])
  all_goals omega

end Go.Proofs.Ytmnplnhblniimaa

namespace Go.Proofs.Ytmnplnhblniimaa
set_option linter.unusedVariables false
set_option linter.unusedSimpArgs false
open Go.RowKit Flo

set_option maxRecDepth 100000 in
set_option maxHeartbeats 1000000 in
theorem stmt_1 (v op) (v1 v2 : ByteArray) (a1 b1 a2 b2 : Int) (hv : v.size ≤ 1000) (hl : v1.size ≤ 1000) (hl2 : v2.size ≤ 1000) (w : World) :
    Calls Try.prog 39 #[.agg #[.int .i64 1, .string v, .int .i64 op, .string v1, .int .i64 a1, .int .i64 b1, .string v2, .int .i64 a2, .int .i64 b2]] w fun e w' => e = .returned (.string (v ++ ⟨#[32, 61, 32]⟩ ++ exprT op v1 a1 b1 v2 a2 b2 ++ ⟨#[59]⟩)) ∧ Below w.heap.size w w' := by
  have hx := exprT_size op v1 v2 a1 b1 a2 b2 hl hl2
  have i1 : ¬ (9223372036854775807 < v.size + 3) := by omega
  have i2 : ¬ (9223372036854775807 < v.size + 3 + (exprT op v1 a1 b1 v2 a2 b2).size) := by omega
  have i3 : ¬ (9223372036854775807 < v.size + 3 + (exprT op v1 a1 b1 v2 a2 b2).size + 1) := by omega
  clear hx
  go_enter Try.func39, Try.ntmps39
  go_wp2_with refine' region_whole _ _ (by kernel_rfl) (by kernel_rfl) _; rotate_left 2; (first | (with_reducible exact After.below _; rfl) | (with_reducible exact below_drew (After.below _); rfl) | (with_reducible exact below_set (After.below _) _ _; (go_simp; rfl)) | (with_reducible exact below_set (below_set (After.below _) _ _) _ _; (go_simp; rfl)) | (with_reducible exact below_set (below_set (below_set (After.below _) _ _) _ _) _ _; (go_simp; rfl)) | (with_reducible exact below_set (below_set (below_set (below_set (After.below _) _ _) _ _) _ _) _ _; (go_simp; rfl)) | (exact Below.refl _ _; rfl)); (repeat (go_big_quiet_step (first | (go_at_call 72; exact Calls.after_of (expr_any _ _ _ _ _ _ _ hl hl2 _))))); refine wpQuiet_nil ?_; intro z
  go_wp2_with fail
  go_ret
  refine ⟨rfl, ?_⟩
  have hz := z.le
  (try simp at hz)
  (repeat (first | exact Below.refl _ _ | apply Below.drew | refine Below.alloc ?_ ?_ _ | refine Below.setCell ?_ ?_ _ | refine Below.trans ?_ (Below.mono (After.below _) ?_))); (all_goals (first | (simp; done) | (simp; omega) | omega))

set_option maxRecDepth 100000 in
set_option maxHeartbeats 1000000 in
theorem stmt_2 (v op) (v1 v2 : ByteArray) (a1 b1 a2 b2 : Int) (hv : v.size ≤ 1000) (w : World) :
    Calls Try.prog 39 #[.agg #[.int .i64 2, .string v, .int .i64 op, .string v1, .int .i64 a1, .int .i64 b1, .string v2, .int .i64 a2, .int .i64 b2]] w fun e w' => e = .returned (.string (⟨#[105, 110, 32]⟩ ++ v ++ ⟨#[59]⟩)) ∧ Below w.heap.size w w' := by
  have i1 : ¬ (9223372036854775807 < 3 + v.size) := by omega
  have i2 : ¬ (9223372036854775807 < 3 + v.size + 1) := by omega
  go_enter Try.func39, Try.ntmps39
  go_wp2_with fail
  go_ret
  refine ⟨rfl, ?_⟩
  (repeat (first | exact Below.refl _ _ | apply Below.drew | refine Below.alloc ?_ ?_ _ | refine Below.setCell ?_ ?_ _ | refine Below.trans ?_ (Below.mono (After.below _) ?_))); (all_goals (first | (simp; done) | (simp; omega) | omega))

set_option maxRecDepth 100000 in
set_option maxHeartbeats 1000000 in
theorem stmt_3 (v op) (v1 v2 : ByteArray) (a1 b1 a2 b2 : Int) (hl : v1.size ≤ 1000) (hl2 : v2.size ≤ 1000) (w : World) :
    Calls Try.prog 39 #[.agg #[.int .i64 3, .string v, .int .i64 op, .string v1, .int .i64 a1, .int .i64 b1, .string v2, .int .i64 a2, .int .i64 b2]] w fun e w' => e = .returned (.string (⟨#[111, 117, 116, 32]⟩ ++ exprT op v1 a1 b1 v2 a2 b2 ++ ⟨#[59]⟩)) ∧ Below w.heap.size w w' := by
  have hx := exprT_size op v1 v2 a1 b1 a2 b2 hl hl2
  have i2 : ¬ (9223372036854775807 < 4 + (exprT op v1 a1 b1 v2 a2 b2).size) := by omega
  have i3 : ¬ (9223372036854775807 < 4 + (exprT op v1 a1 b1 v2 a2 b2).size + 1) := by omega
  clear hx
  go_enter Try.func39, Try.ntmps39
  go_wp2_with (go_at_call 72; refine' Calls.aft _ _ (expr_any _ _ _ _ _ _ _ hl hl2 _) _; rotate_left 2; (first | (with_reducible exact After.below _; rfl) | (with_reducible exact below_drew (After.below _); rfl) | (with_reducible exact below_set (After.below _) _ _; (go_simp; rfl)) | (with_reducible exact below_set (below_set (After.below _) _ _) _ _; (go_simp; rfl)) | (with_reducible exact below_set (below_set (below_set (After.below _) _ _) _ _) _ _; (go_simp; rfl)) | (with_reducible exact below_set (below_set (below_set (below_set (After.below _) _ _) _ _) _ _) _ _; (go_simp; rfl)) | (exact Below.refl _ _; rfl)); intro x; have hle := After.le x; (try simp at hle))
  go_ret
  refine ⟨rfl, ?_⟩
  (repeat (first | exact Below.refl _ _ | apply Below.drew | refine Below.alloc ?_ ?_ _ | refine Below.setCell ?_ ?_ _ | refine Below.trans ?_ (Below.mono (After.below _) ?_))); (all_goals (first | (simp; done) | (simp; omega) | omega))

set_option maxRecDepth 100000 in
set_option maxHeartbeats 1000000 in
theorem stmt_else (k v op) (v1 v2 : ByteArray) (a1 b1 a2 b2 : Int) (h1 : (k == 1) = false) (h2 : (k == 2) = false) (h3 : (k == 3) = false) (w : World) :
    Calls Try.prog 39 #[.agg #[.int .i64 k, .string v, .int .i64 op, .string v1, .int .i64 a1, .int .i64 b1, .string v2, .int .i64 a2, .int .i64 b2]] w fun e w' => e = .returned (.string ⟨#[]⟩) ∧ Below w.heap.size w w' := by
  go_enter Try.func39, Try.ntmps39
  go_wp2_with fail
  go_ret
  refine ⟨rfl, ?_⟩
  (repeat (first | exact Below.refl _ _ | apply Below.drew | refine Below.alloc ?_ ?_ _ | refine Below.setCell ?_ ?_ _ | refine Below.trans ?_ (Below.mono (After.below _) ?_))); (all_goals (first | (simp; done) | (simp; omega) | omega))

end Go.Proofs.Ytmnplnhblniimaa

namespace Go.Proofs.Ytmnplnhblniimaa
set_option linter.unusedVariables false
set_option linter.unusedSimpArgs false
open Go.RowKit Flo

/-- A statement's text. -/
def stmtT (k : Int) (v : ByteArray) (op : Int) (v1 : ByteArray) (a1 b1 : Int) (v2 : ByteArray) (a2 b2 : Int) : ByteArray :=
  if k = 1 then v ++ ⟨#[32, 61, 32]⟩ ++ exprT op v1 a1 b1 v2 a2 b2 ++ ⟨#[59]⟩
  else if k = 2 then ⟨#[105, 110, 32]⟩ ++ v ++ ⟨#[59]⟩
  else if k = 3 then ⟨#[111, 117, 116, 32]⟩ ++ exprT op v1 a1 b1 v2 a2 b2 ++ ⟨#[59]⟩
  else ⟨#[]⟩

theorem stmt_any (k : Int) (v : ByteArray) (op : Int) (v1 v2 : ByteArray) (a1 b1 a2 b2 : Int) (hv : v.size ≤ 1000) (hl : v1.size ≤ 1000) (hl2 : v2.size ≤ 1000) (w : World) :
    Calls Try.prog 39 #[.agg #[.int .i64 k, .string v, .int .i64 op, .string v1, .int .i64 a1, .int .i64 b1, .string v2, .int .i64 a2, .int .i64 b2]] w fun e w' => e = .returned (.string (stmtT k v op v1 a1 b1 v2 a2 b2)) ∧ Below w.heap.size w w' := by
  unfold stmtT
  by_cases h1 : k = 1
  · subst h1; rw [if_pos rfl]; exact stmt_1 v op v1 v2 a1 b1 a2 b2 hv hl hl2 w
  rw [if_neg h1]
  by_cases h2 : k = 2
  · subst h2; rw [if_pos rfl]; exact stmt_2 v op v1 v2 a1 b1 a2 b2 hv w
  rw [if_neg h2]
  by_cases h3 : k = 3
  · subst h3; rw [if_pos rfl]; exact stmt_3 v op v1 v2 a1 b1 a2 b2 hl hl2 w
  rw [if_neg h3]
  exact stmt_else k v op v1 v2 a1 b1 a2 b2 (by simpa using h1) (by simpa using h2) (by simpa using h3) w

set_option maxRecDepth 100000 in
set_option maxHeartbeats 1000000 in
theorem term_1 (v : ByteArray) (a b : Int) (t e : ByteArray) (ht : t.size ≤ 1000) (w : World) :
    Calls Try.prog 74 #[.agg #[.int .i64 1, .string v, .int .i64 a, .int .i64 b, .string t, .string e]] w fun r w' => r = .returned (.string (⟨#[103, 111, 116, 111, 32]⟩ ++ t ++ ⟨#[59]⟩)) ∧ Below w.heap.size w w' := by
  have i1 : ¬ (9223372036854775807 < 5 + t.size) := by omega
  have i2 : ¬ (9223372036854775807 < 5 + t.size + 1) := by omega
  go_enter Try.func74, Try.ntmps74
  go_wp2_with fail
  go_ret
  refine ⟨rfl, ?_⟩
  (repeat (first | exact Below.refl _ _ | apply Below.drew | refine Below.alloc ?_ ?_ _ | refine Below.setCell ?_ ?_ _ | refine Below.trans ?_ (Below.mono (After.below _) ?_))); (all_goals (first | (simp; done) | (simp; omega) | omega))

set_option maxRecDepth 100000 in
set_option maxHeartbeats 1000000 in
theorem term_2 (v : ByteArray) (a b : Int) (t e : ByteArray) (hv : v.size ≤ 1000) (ht : t.size ≤ 1000) (he : e.size ≤ 1000) (w : World) :
    Calls Try.prog 74 #[.agg #[.int .i64 2, .string v, .int .i64 a, .int .i64 b, .string t, .string e]] w fun r w' => r = .returned (.string (⟨#[105, 102, 32]⟩ ++ atomT v a b ++ ⟨#[32, 116, 104, 101, 110, 32]⟩ ++ t ++ ⟨#[32, 101, 108, 115, 101, 32]⟩ ++ e ++ ⟨#[59]⟩)) ∧ Below w.heap.size w w' := by
  have hs := atomT_size v a b
  have i1 : ¬ (9223372036854775807 < 3 + (atomT v a b).size) := by omega
  have i2 : ¬ (9223372036854775807 < 3 + (atomT v a b).size + 6) := by omega
  have i3 : ¬ (9223372036854775807 < 3 + (atomT v a b).size + 6 + t.size) := by omega
  have i4 : ¬ (9223372036854775807 < 3 + (atomT v a b).size + 6 + t.size + 6) := by omega
  have i5 : ¬ (9223372036854775807 < 3 + (atomT v a b).size + 6 + t.size + 6 + e.size) := by omega
  have i6 : ¬ (9223372036854775807 < 3 + (atomT v a b).size + 6 + t.size + 6 + e.size + 1) := by omega
  clear hs
  go_enter Try.func74, Try.ntmps74
  go_wp2_with refine' region_whole _ _ (by kernel_rfl) (by kernel_rfl) _; rotate_left 2; (first | (with_reducible exact After.below _; rfl) | (with_reducible exact below_drew (After.below _); rfl) | (with_reducible exact below_set (After.below _) _ _; (go_simp; rfl)) | (with_reducible exact below_set (below_set (After.below _) _ _) _ _; (go_simp; rfl)) | (with_reducible exact below_set (below_set (below_set (After.below _) _ _) _ _) _ _; (go_simp; rfl)) | (with_reducible exact below_set (below_set (below_set (below_set (After.below _) _ _) _ _) _ _) _ _; (go_simp; rfl)) | (exact Below.refl _ _; rfl)); (repeat (go_big_quiet_step (first | (go_at_call 99; exact Calls.after_of (atom_any _ _ _ _))))); refine wpQuiet_nil ?_; intro z
  go_wp2_with fail
  go_ret
  refine ⟨rfl, ?_⟩
  have hz := z.le
  (try simp at hz)
  (repeat (first | exact Below.refl _ _ | apply Below.drew | refine Below.alloc ?_ ?_ _ | refine Below.setCell ?_ ?_ _ | refine Below.trans ?_ (Below.mono (After.below _) ?_))); (all_goals (first | (simp; done) | (simp; omega) | omega))

set_option maxRecDepth 100000 in
set_option maxHeartbeats 1000000 in
theorem term_3 (v : ByteArray) (a b : Int) (t e : ByteArray) (w : World) :
    Calls Try.prog 74 #[.agg #[.int .i64 3, .string v, .int .i64 a, .int .i64 b, .string t, .string e]] w fun r w' => r = .returned (.string ⟨#[114, 101, 116, 59]⟩) ∧ Below w.heap.size w w' := by
  go_enter Try.func74, Try.ntmps74
  go_wp2_with fail
  go_ret
  refine ⟨rfl, ?_⟩
  (repeat (first | exact Below.refl _ _ | apply Below.drew | refine Below.alloc ?_ ?_ _ | refine Below.setCell ?_ ?_ _ | refine Below.trans ?_ (Below.mono (After.below _) ?_))); (all_goals (first | (simp; done) | (simp; omega) | omega))

set_option maxRecDepth 100000 in
set_option maxHeartbeats 1000000 in
theorem term_else (k : Int) (v : ByteArray) (a b : Int) (t e : ByteArray) (h1 : (k == 1) = false) (h2 : (k == 2) = false) (h3 : (k == 3) = false) (w : World) :
    Calls Try.prog 74 #[.agg #[.int .i64 k, .string v, .int .i64 a, .int .i64 b, .string t, .string e]] w fun r w' => r = .returned (.string ⟨#[]⟩) ∧ Below w.heap.size w w' := by
  go_enter Try.func74, Try.ntmps74
  go_wp2_with fail
  go_ret
  refine ⟨rfl, ?_⟩
  (repeat (first | exact Below.refl _ _ | apply Below.drew | refine Below.alloc ?_ ?_ _ | refine Below.setCell ?_ ?_ _ | refine Below.trans ?_ (Below.mono (After.below _) ?_))); (all_goals (first | (simp; done) | (simp; omega) | omega))

/-- An end's text. -/
def termT (k : Int) (v : ByteArray) (a b : Int) (t e : ByteArray) : ByteArray :=
  if k = 1 then ⟨#[103, 111, 116, 111, 32]⟩ ++ t ++ ⟨#[59]⟩
  else if k = 2 then ⟨#[105, 102, 32]⟩ ++ atomT v a b ++ ⟨#[32, 116, 104, 101, 110, 32]⟩ ++ t ++ ⟨#[32, 101, 108, 115, 101, 32]⟩ ++ e ++ ⟨#[59]⟩
  else if k = 3 then ⟨#[114, 101, 116, 59]⟩
  else ⟨#[]⟩

theorem term_any (k : Int) (v : ByteArray) (a b : Int) (t e : ByteArray) (hv : v.size ≤ 1000) (ht : t.size ≤ 1000) (he : e.size ≤ 1000) (w : World) :
    Calls Try.prog 74 #[.agg #[.int .i64 k, .string v, .int .i64 a, .int .i64 b, .string t, .string e]] w fun r w' => r = .returned (.string (termT k v a b t e)) ∧ Below w.heap.size w w' := by
  unfold termT
  by_cases h1 : k = 1
  · subst h1; rw [if_pos rfl]; exact term_1 v a b t e ht w
  rw [if_neg h1]
  by_cases h2 : k = 2
  · subst h2; rw [if_pos rfl]; exact term_2 v a b t e hv ht he w
  rw [if_neg h2]
  by_cases h3 : k = 3
  · subst h3; rw [if_pos rfl]; exact term_3 v a b t e w
  rw [if_neg h3]
  exact term_else k v a b t e (by simpa using h1) (by simpa using h2) (by simpa using h3) w

end Go.Proofs.Ytmnplnhblniimaa

namespace Go.Proofs.Ytmnplnhblniimaa
set_option linter.unusedVariables false
set_option linter.unusedSimpArgs false
open Go.RowKit Flo

end Go.Proofs.Ytmnplnhblniimaa

namespace Go.Proofs.Ytmnplnhblniimaa
set_option linter.unusedVariables false
set_option linter.unusedSimpArgs false
open Go.RowKit Flo

end Go.Proofs.Ytmnplnhblniimaa

namespace Go.Proofs.Ytmnplnhblniimaa
set_option linter.unusedVariables false
set_option linter.unusedSimpArgs false
open Go.RowKit Flo

theorem p_awake (w : World) : Calls Try.prog 18 #[] w fun e w' => e = .returned (.bool true) ∧ Below w.heap.size w w' := by
  have e1 : stmtT 1 ⟨#[120]⟩ 1 ⟨#[121]⟩ 0 0 ⟨#[]⟩ 1 0 = ⟨#[120, 32, 61, 32, 121, 32, 43, 32, 49, 59]⟩ := by first | decide +kernel | rfl | decide
  go_enter Try.func18, Try.ntmps18
  go_wp2_with ((go_at_call 39; refine' Calls.aft _ _ (stmt_any _ _ _ _ _ _ _ _ _ (by decide) (by decide) (by decide) _) _; rotate_left 2; (first | (with_reducible exact After.below _; rfl) | (with_reducible exact below_drew (After.below _); rfl) | (with_reducible exact below_set (After.below _) _ _; (go_simp; rfl)) | (with_reducible exact below_set (below_set (After.below _) _ _) _ _; (go_simp; rfl)) | (with_reducible exact below_set (below_set (below_set (After.below _) _ _) _ _) _ _; (go_simp; rfl)) | (with_reducible exact below_set (below_set (below_set (below_set (After.below _) _ _) _ _) _ _) _ _; (go_simp; rfl)) | (exact Below.refl _ _; rfl)); intro x; have hle := After.le x; (try simp at hle)))
  go_ret
  refine ⟨by first | rfl | simp [e1], ?_⟩
  (repeat (first | exact Below.refl _ _ | apply Below.drew | refine Below.alloc ?_ ?_ _ | refine Below.setCell ?_ ?_ _ | refine Below.trans ?_ (Below.mono (After.below _) ?_))); (all_goals (first | (simp; done) | (simp; omega) | omega))

end Go.Proofs.Ytmnplnhblniimaa

namespace Go.Proofs.Ytmnplnhblniimaa.Pr
set_option linter.unusedVariables false
set_option linter.unusedSimpArgs false
open Go Go.RowKit

def stT (s : St) : ByteArray := stmtT s.k s.v s.e.op s.e.x.v s.e.x.a s.e.x.b s.e.y.v s.e.y.a s.e.y.b
def teT (t : Te) : ByteArray := termT t.k t.x.v t.x.a t.x.b t.t t.e
def tabS : ByteArray := ⟨#[9]⟩
def nlS : ByteArray := ⟨#[10]⟩
def blkS : ByteArray := ⟨#[98, 108, 111, 99, 107, 32]⟩
def brS : ByteArray := ⟨#[32, 123]⟩
def accS (l : List St) (t : ByteArray) : Nat → ByteArray
  | 0 => t
  | k + 1 => match l[k]? with
    | some s => accS l t k ++ ((tabS ++ stT s) ++ nlS)
    | none => accS l t k
def accB (P : List Bl) : Nat → ByteArray
  | 0 => ⟨#[]⟩
  | i + 1 => match P[i]? with
    | some b => accS b.l (accB P i ++ ((blkS ++ b.n) ++ ⟨#[32, 123, 10]⟩)) b.l.length ++ ((tabS ++ teT b.t) ++ ⟨#[10, 125, 10]⟩)
    | none => accB P i
def progT (P : List Bl) : ByteArray := accB P P.length

theorem stT_size {s : St} (h : stSmall s = true) : (stT s).size ≤ 200000 := by
  simp only [stSmall, Bool.and_eq_true, decide_eq_true_eq] at h
  have := exprT_size s.e.op s.e.x.v s.e.y.v s.e.x.a s.e.x.b s.e.y.a s.e.y.b (by omega) (by omega)
  unfold stT stmtT
  split
  · simp only [ByteArray.size_append]
    have e1 : (⟨#[32, 61, 32]⟩ : ByteArray).size = 3 := rfl
    have e2 : (⟨#[59]⟩ : ByteArray).size = 1 := rfl
    omega
  · split
    · simp only [ByteArray.size_append]
      have e1 : (⟨#[105, 110, 32]⟩ : ByteArray).size = 3 := rfl
      have e2 : (⟨#[59]⟩ : ByteArray).size = 1 := rfl
      omega
    · split
      · simp only [ByteArray.size_append]
        have e1 : (⟨#[111, 117, 116, 32]⟩ : ByteArray).size = 4 := rfl
        have e2 : (⟨#[59]⟩ : ByteArray).size = 1 := rfl
        omega
      · have e1 : (⟨#[]⟩ : ByteArray).size = 0 := rfl
        omega
theorem teT_size {t : Te} (h1 : t.x.v.size ≤ 40) (h2 : t.t.size ≤ 40) (h3 : t.e.size ≤ 40) : (teT t).size ≤ 200000 := by
  have := atomT_size t.x.v t.x.a t.x.b
  unfold teT termT
  split
  · simp only [ByteArray.size_append]
    have e1 : (⟨#[103, 111, 116, 111, 32]⟩ : ByteArray).size = 5 := rfl
    have e2 : (⟨#[59]⟩ : ByteArray).size = 1 := rfl
    omega
  · split
    · simp only [ByteArray.size_append]
      have e1 : (⟨#[105, 102, 32]⟩ : ByteArray).size = 3 := rfl
      have e2 : (⟨#[59]⟩ : ByteArray).size = 1 := rfl
      have e3 : (⟨#[32, 116, 104, 101, 110, 32]⟩ : ByteArray).size = 6 := rfl
      have e4 : (⟨#[32, 101, 108, 115, 101, 32]⟩ : ByteArray).size = 6 := rfl
      omega
    · split
      · have e1 : (⟨#[114, 101, 116, 59]⟩ : ByteArray).size = 4 := rfl
        omega
      · have e1 : (⟨#[]⟩ : ByteArray).size = 0 := rfl
        omega
theorem accS_size {l : List St} (h : ∀ s ∈ l, stSmall s = true) (t : ByteArray) : ∀ k, (accS l t k).size ≤ t.size + 200010 * k
  | 0 => by simp [accS]
  | k + 1 => by
    have ih := accS_size h t k
    simp only [accS]
    split
    · rename_i s hs
      have := stT_size (h s (List.mem_of_getElem? hs))
      simp only [ByteArray.size_append]
      have e1 : tabS.size = 1 := rfl
      have e2 : nlS.size = 1 := rfl
      omega
    · omega
theorem small_bl {P : List Bl} (h : smallB P = true) : ∀ b ∈ P, b.l.length ≤ 12 ∧ b.n.size ≤ 40 ∧ b.t.t.size ≤ 40 ∧ b.t.e.size ≤ 40 ∧ b.t.x.v.size ≤ 40 ∧ ∀ s ∈ b.l, stSmall s = true := by
  simp only [smallB, Bool.and_eq_true, decide_eq_true_eq, List.all_eq_true] at h
  intro b hb
  have := h.2 b hb
  simpa only [blSmall, Bool.and_eq_true, decide_eq_true_eq, List.all_eq_true] using this
theorem accB_size {P : List Bl} (h : ∀ b ∈ P, b.l.length ≤ 12 ∧ b.n.size ≤ 40 ∧ b.t.t.size ≤ 40 ∧ b.t.e.size ≤ 40 ∧ b.t.x.v.size ≤ 40 ∧ ∀ s ∈ b.l, stSmall s = true) : ∀ k, (accB P k).size ≤ 3000000 * k
  | 0 => Nat.zero_le _
  | k + 1 => by
    have ih := accB_size h k
    simp only [accB]
    split
    · rename_i b hb
      obtain ⟨h1, h2, h3, h4, h5, h6⟩ := h b (List.mem_of_getElem? hb)
      have h7 := accS_size h6 (accB P k ++ ((blkS ++ b.n) ++ ⟨#[32, 123, 10]⟩)) b.l.length
      have h8 := teT_size h5 h3 h4
      simp only [ByteArray.size_append] at h7 ⊢
      have e1 : tabS.size = 1 := rfl
      have e2 : blkS.size = 6 := rfl
      have e3 : (⟨#[32, 123, 10]⟩ : ByteArray).size = 3 := rfl
      have e4 : (⟨#[10, 125, 10]⟩ : ByteArray).size = 3 := rfl
      omega
    · omega

end Go.Proofs.Ytmnplnhblniimaa.Pr
