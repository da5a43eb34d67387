/- WALKS of soughref05: Expr whole, Stmt, Term. -/
import Derived.Test.YtjjmoibnmdbpeaaPrintf
namespace Go.Proofs.Ytjjmoibnmdbpeaa
set_option linter.unusedVariables false
set_option linter.unusedSimpArgs false
open Go.RowKit Flo

theorem rexpr_any (op : Int) (v1 v2 : ByteArray) (a1 b1 a2 b2 : Int) (hl : v1.size ≤ 1000) (hl2 : v2.size ≤ 1000) (w : World) :
    Calls Try.prog 97 #[.agg #[.int .i64 op, .string v1, .int .i64 a1, .int .i64 b1, .string v2, .int .i64 a2, .int .i64 b2]] w fun e w' => e = .returned (.string (exprT op v1 a1 b1 v2 a2 b2)) ∧ Below w.heap.size w w' := by
  have s1 := atomT_size v1 a1 b1
  have s2 := atomT_size v2 a2 b2
  unfold exprT
  by_cases h0 : op = 0
  · subst h0; rw [if_pos rfl]; exact rexpr_0 v1 v2 a1 b1 a2 b2 w
  rw [if_neg h0]
  by_cases h1 : op = 1
  · subst h1; rw [if_pos rfl]; exact rexpr_1 v1 v2 a1 b1 a2 b2 (by omega) (by omega) w
  rw [if_neg h1]
  by_cases h2 : op = 2
  · subst h2; rw [if_pos rfl]; exact rexpr_2 v1 v2 a1 b1 a2 b2 (by omega) (by omega) w
  rw [if_neg h2]
  by_cases h3 : op = 3
  · subst h3; rw [if_pos rfl]; exact rexpr_3 v1 v2 a1 b1 a2 b2 (by omega) (by omega) w
  rw [if_neg h3]
  by_cases h4 : op = 4
  · subst h4; rw [if_pos rfl]; exact rexpr_4 v1 v2 a1 b1 a2 b2 (by omega) w
  rw [if_neg h4]
  exact rexpr_else op v1 v2 a1 b1 a2 b2 (by simpa using h0) (by simpa using h1) (by simpa using h2) (by simpa using h3) (by simpa using h4) w

set_option maxRecDepth 100000 in
set_option maxHeartbeats 1000000 in
theorem rstmt_1 (v op) (v1 v2 : ByteArray) (a1 b1 a2 b2 : Int) (hv : v.size ≤ 1000) (hl : v1.size ≤ 1000) (hl2 : v2.size ≤ 1000) (w : World) :
    Calls Try.prog 61 #[.agg #[.int .i64 1, .string v, .int .i64 op, .string v1, .int .i64 a1, .int .i64 b1, .string v2, .int .i64 a2, .int .i64 b2]] w fun e w' => e = .returned (.string (v ++ ⟨#[32, 61, 32]⟩ ++ exprT op v1 a1 b1 v2 a2 b2 ++ ⟨#[59]⟩)) ∧ Below w.heap.size w w' := by
  have hx := exprT_size op v1 v2 a1 b1 a2 b2 hl hl2
  have i1 : ¬ (9223372036854775807 < v.size + 3) := by omega
  have i2 : ¬ (9223372036854775807 < v.size + 3 + (exprT op v1 a1 b1 v2 a2 b2).size) := by omega
  have i3 : ¬ (9223372036854775807 < v.size + 3 + (exprT op v1 a1 b1 v2 a2 b2).size + 1) := by omega
  clear hx
  go_enter Try.func61, Try.ntmps61
  go_wp2_with refine' region_whole _ _ (by kernel_rfl) (by kernel_rfl) _; rotate_left 2; (first | (with_reducible exact After.below _; rfl) | (with_reducible exact below_drew (After.below _); rfl) | (with_reducible exact below_set (After.below _) _ _; (go_simp; rfl)) | (with_reducible exact below_set (below_set (After.below _) _ _) _ _; (go_simp; rfl)) | (with_reducible exact below_set (below_set (below_set (After.below _) _ _) _ _) _ _; (go_simp; rfl)) | (with_reducible exact below_set (below_set (below_set (below_set (After.below _) _ _) _ _) _ _) _ _; (go_simp; rfl)) | (exact Below.refl _ _; rfl)); (repeat (go_big_quiet_step (first | (go_at_call 97; exact Calls.after_of (rexpr_any _ _ _ _ _ _ _ hl hl2 _))))); refine wpQuiet_nil ?_; intro z
  go_wp2_with fail
  go_ret
  refine ⟨rfl, ?_⟩
  have hz := z.le
  (try simp at hz)
  (repeat (first | exact Below.refl _ _ | apply Below.drew | refine Below.alloc ?_ ?_ _ | refine Below.setCell ?_ ?_ _ | refine Below.trans ?_ (Below.mono (After.below _) ?_))); (all_goals (first | (simp; done) | (simp; omega) | omega))

set_option maxRecDepth 100000 in
set_option maxHeartbeats 1000000 in
theorem rstmt_2 (v op) (v1 v2 : ByteArray) (a1 b1 a2 b2 : Int) (hv : v.size ≤ 1000) (w : World) :
    Calls Try.prog 61 #[.agg #[.int .i64 2, .string v, .int .i64 op, .string v1, .int .i64 a1, .int .i64 b1, .string v2, .int .i64 a2, .int .i64 b2]] w fun e w' => e = .returned (.string (⟨#[105, 110, 32]⟩ ++ v ++ ⟨#[59]⟩)) ∧ Below w.heap.size w w' := by
  have i1 : ¬ (9223372036854775807 < 3 + v.size) := by omega
  have i2 : ¬ (9223372036854775807 < 3 + v.size + 1) := by omega
  go_enter Try.func61, Try.ntmps61
  go_wp2_with fail
  go_ret
  refine ⟨rfl, ?_⟩
  (repeat (first | exact Below.refl _ _ | apply Below.drew | refine Below.alloc ?_ ?_ _ | refine Below.setCell ?_ ?_ _ | refine Below.trans ?_ (Below.mono (After.below _) ?_))); (all_goals (first | (simp; done) | (simp; omega) | omega))

set_option maxRecDepth 100000 in
set_option maxHeartbeats 1000000 in
theorem rstmt_3 (v op) (v1 v2 : ByteArray) (a1 b1 a2 b2 : Int) (hl : v1.size ≤ 1000) (hl2 : v2.size ≤ 1000) (w : World) :
    Calls Try.prog 61 #[.agg #[.int .i64 3, .string v, .int .i64 op, .string v1, .int .i64 a1, .int .i64 b1, .string v2, .int .i64 a2, .int .i64 b2]] w fun e w' => e = .returned (.string (⟨#[111, 117, 116, 32]⟩ ++ exprT op v1 a1 b1 v2 a2 b2 ++ ⟨#[59]⟩)) ∧ Below w.heap.size w w' := by
  have hx := exprT_size op v1 v2 a1 b1 a2 b2 hl hl2
  have i2 : ¬ (9223372036854775807 < 4 + (exprT op v1 a1 b1 v2 a2 b2).size) := by omega
  have i3 : ¬ (9223372036854775807 < 4 + (exprT op v1 a1 b1 v2 a2 b2).size + 1) := by omega
  clear hx
  go_enter Try.func61, Try.ntmps61
  go_wp2_with (go_at_call 97; refine' Calls.aft _ _ (rexpr_any _ _ _ _ _ _ _ hl hl2 _) _; rotate_left 2; (first | (with_reducible exact After.below _; rfl) | (with_reducible exact below_drew (After.below _); rfl) | (with_reducible exact below_set (After.below _) _ _; (go_simp; rfl)) | (with_reducible exact below_set (below_set (After.below _) _ _) _ _; (go_simp; rfl)) | (with_reducible exact below_set (below_set (below_set (After.below _) _ _) _ _) _ _; (go_simp; rfl)) | (with_reducible exact below_set (below_set (below_set (below_set (After.below _) _ _) _ _) _ _) _ _; (go_simp; rfl)) | (exact Below.refl _ _; rfl)); intro x; have hle := After.le x; (try simp at hle))
  go_ret
  refine ⟨rfl, ?_⟩
  (repeat (first | exact Below.refl _ _ | apply Below.drew | refine Below.alloc ?_ ?_ _ | refine Below.setCell ?_ ?_ _ | refine Below.trans ?_ (Below.mono (After.below _) ?_))); (all_goals (first | (simp; done) | (simp; omega) | omega))

set_option maxRecDepth 100000 in
set_option maxHeartbeats 1000000 in
theorem rstmt_else (k v op) (v1 v2 : ByteArray) (a1 b1 a2 b2 : Int) (h1 : (k == 1) = false) (h2 : (k == 2) = false) (h3 : (k == 3) = false) (w : World) :
    Calls Try.prog 61 #[.agg #[.int .i64 k, .string v, .int .i64 op, .string v1, .int .i64 a1, .int .i64 b1, .string v2, .int .i64 a2, .int .i64 b2]] w fun e w' => e = .returned (.string ⟨#[]⟩) ∧ Below w.heap.size w w' := by
  go_enter Try.func61, Try.ntmps61
  go_wp2_with fail
  go_ret
  refine ⟨rfl, ?_⟩
  (repeat (first | exact Below.refl _ _ | apply Below.drew | refine Below.alloc ?_ ?_ _ | refine Below.setCell ?_ ?_ _ | refine Below.trans ?_ (Below.mono (After.below _) ?_))); (all_goals (first | (simp; done) | (simp; omega) | omega))

theorem rstmt_any (k : Int) (v : ByteArray) (op : Int) (v1 v2 : ByteArray) (a1 b1 a2 b2 : Int) (hv : v.size ≤ 1000) (hl : v1.size ≤ 1000) (hl2 : v2.size ≤ 1000) (w : World) :
    Calls Try.prog 61 #[.agg #[.int .i64 k, .string v, .int .i64 op, .string v1, .int .i64 a1, .int .i64 b1, .string v2, .int .i64 a2, .int .i64 b2]] w fun e w' => e = .returned (.string (stmtT k v op v1 a1 b1 v2 a2 b2)) ∧ Below w.heap.size w w' := by
  unfold stmtT
  by_cases h1 : k = 1
  · subst h1; rw [if_pos rfl]; exact rstmt_1 v op v1 v2 a1 b1 a2 b2 hv hl hl2 w
  rw [if_neg h1]
  by_cases h2 : k = 2
  · subst h2; rw [if_pos rfl]; exact rstmt_2 v op v1 v2 a1 b1 a2 b2 hv w
  rw [if_neg h2]
  by_cases h3 : k = 3
  · subst h3; rw [if_pos rfl]; exact rstmt_3 v op v1 v2 a1 b1 a2 b2 hl hl2 w
  rw [if_neg h3]
  exact rstmt_else k v op v1 v2 a1 b1 a2 b2 (by simpa using h1) (by simpa using h2) (by simpa using h3) w

set_option maxRecDepth 100000 in
set_option maxHeartbeats 1000000 in
theorem rterm_1 (v : ByteArray) (a b : Int) (t e : ByteArray) (ht : t.size ≤ 1000) (w : World) :
    Calls Try.prog 62 #[.agg #[.int .i64 1, .string v, .int .i64 a, .int .i64 b, .string t, .string e]] w fun r w' => r = .returned (.string (⟨#[103, 111, 116, 111, 32]⟩ ++ t ++ ⟨#[59]⟩)) ∧ Below w.heap.size w w' := by
  have i1 : ¬ (9223372036854775807 < 5 + t.size) := by omega
  have i2 : ¬ (9223372036854775807 < 5 + t.size + 1) := by omega
  go_enter Try.func62, Try.ntmps62
  go_wp2_with fail
  go_ret
  refine ⟨rfl, ?_⟩
  (repeat (first | exact Below.refl _ _ | apply Below.drew | refine Below.alloc ?_ ?_ _ | refine Below.setCell ?_ ?_ _ | refine Below.trans ?_ (Below.mono (After.below _) ?_))); (all_goals (first | (simp; done) | (simp; omega) | omega))

set_option maxRecDepth 100000 in
set_option maxHeartbeats 1000000 in
theorem rterm_2 (v : ByteArray) (a b : Int) (t e : ByteArray) (hv : v.size ≤ 1000) (ht : t.size ≤ 1000) (he : e.size ≤ 1000) (w : World) :
    Calls Try.prog 62 #[.agg #[.int .i64 2, .string v, .int .i64 a, .int .i64 b, .string t, .string e]] w fun r w' => r = .returned (.string (⟨#[105, 102, 32]⟩ ++ atomT v a b ++ ⟨#[32, 116, 104, 101, 110, 32]⟩ ++ t ++ ⟨#[32, 101, 108, 115, 101, 32]⟩ ++ e ++ ⟨#[59]⟩)) ∧ Below w.heap.size w w' := by
  have hs := atomT_size v a b
  have i1 : ¬ (9223372036854775807 < 3 + (atomT v a b).size) := by omega
  have i2 : ¬ (9223372036854775807 < 3 + (atomT v a b).size + 6) := by omega
  have i3 : ¬ (9223372036854775807 < 3 + (atomT v a b).size + 6 + t.size) := by omega
  have i4 : ¬ (9223372036854775807 < 3 + (atomT v a b).size + 6 + t.size + 6) := by omega
  have i5 : ¬ (9223372036854775807 < 3 + (atomT v a b).size + 6 + t.size + 6 + e.size) := by omega
  have i6 : ¬ (9223372036854775807 < 3 + (atomT v a b).size + 6 + t.size + 6 + e.size + 1) := by omega
  clear hs
  go_enter Try.func62, Try.ntmps62
  go_wp2_with refine' region_whole _ _ (by kernel_rfl) (by kernel_rfl) _; rotate_left 2; (first | (with_reducible exact After.below _; rfl) | (with_reducible exact below_drew (After.below _); rfl) | (with_reducible exact below_set (After.below _) _ _; (go_simp; rfl)) | (with_reducible exact below_set (below_set (After.below _) _ _) _ _; (go_simp; rfl)) | (with_reducible exact below_set (below_set (below_set (After.below _) _ _) _ _) _ _; (go_simp; rfl)) | (with_reducible exact below_set (below_set (below_set (below_set (After.below _) _ _) _ _) _ _) _ _; (go_simp; rfl)) | (exact Below.refl _ _; rfl)); (repeat (go_big_quiet_step (first | (go_at_call 98; exact Calls.after_of (ratom_any _ _ _ _))))); refine wpQuiet_nil ?_; intro z
  go_wp2_with fail
  go_ret
  refine ⟨rfl, ?_⟩
  have hz := z.le
  (try simp at hz)
  (repeat (first | exact Below.refl _ _ | apply Below.drew | refine Below.alloc ?_ ?_ _ | refine Below.setCell ?_ ?_ _ | refine Below.trans ?_ (Below.mono (After.below _) ?_))); (all_goals (first | (simp; done) | (simp; omega) | omega))

set_option maxRecDepth 100000 in
set_option maxHeartbeats 1000000 in
theorem rterm_3 (v : ByteArray) (a b : Int) (t e : ByteArray) (w : World) :
    Calls Try.prog 62 #[.agg #[.int .i64 3, .string v, .int .i64 a, .int .i64 b, .string t, .string e]] w fun r w' => r = .returned (.string ⟨#[114, 101, 116, 59]⟩) ∧ Below w.heap.size w w' := by
  go_enter Try.func62, Try.ntmps62
  go_wp2_with fail
  go_ret
  refine ⟨rfl, ?_⟩
  (repeat (first | exact Below.refl _ _ | apply Below.drew | refine Below.alloc ?_ ?_ _ | refine Below.setCell ?_ ?_ _ | refine Below.trans ?_ (Below.mono (After.below _) ?_))); (all_goals (first | (simp; done) | (simp; omega) | omega))

set_option maxRecDepth 100000 in
set_option maxHeartbeats 1000000 in
theorem rterm_else (k : Int) (v : ByteArray) (a b : Int) (t e : ByteArray) (h1 : (k == 1) = false) (h2 : (k == 2) = false) (h3 : (k == 3) = false) (w : World) :
    Calls Try.prog 62 #[.agg #[.int .i64 k, .string v, .int .i64 a, .int .i64 b, .string t, .string e]] w fun r w' => r = .returned (.string ⟨#[]⟩) ∧ Below w.heap.size w w' := by
  go_enter Try.func62, Try.ntmps62
  go_wp2_with fail
  go_ret
  refine ⟨rfl, ?_⟩
  (repeat (first | exact Below.refl _ _ | apply Below.drew | refine Below.alloc ?_ ?_ _ | refine Below.setCell ?_ ?_ _ | refine Below.trans ?_ (Below.mono (After.below _) ?_))); (all_goals (first | (simp; done) | (simp; omega) | omega))

theorem rterm_any (k : Int) (v : ByteArray) (a b : Int) (t e : ByteArray) (hv : v.size ≤ 1000) (ht : t.size ≤ 1000) (he : e.size ≤ 1000) (w : World) :
    Calls Try.prog 62 #[.agg #[.int .i64 k, .string v, .int .i64 a, .int .i64 b, .string t, .string e]] w fun r w' => r = .returned (.string (termT k v a b t e)) ∧ Below w.heap.size w w' := by
  unfold termT
  by_cases h1 : k = 1
  · subst h1; rw [if_pos rfl]; exact rterm_1 v a b t e ht w
  rw [if_neg h1]
  by_cases h2 : k = 2
  · subst h2; rw [if_pos rfl]; exact rterm_2 v a b t e hv ht he w
  rw [if_neg h2]
  by_cases h3 : k = 3
  · subst h3; rw [if_pos rfl]; exact rterm_3 v a b t e w
  rw [if_neg h3]
  exact rterm_else k v a b t e (by simpa using h1) (by simpa using h2) (by simpa using h3) w

end Go.Proofs.Ytjjmoibnmdbpeaa
