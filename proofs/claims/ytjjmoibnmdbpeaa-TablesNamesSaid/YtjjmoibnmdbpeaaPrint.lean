/- WALKS of package printer and of its reference soughref05: Atom. -/
import Derived.Test.YtjjmoibnmdbpeaaGaussd
namespace Go.Proofs.Ytjjmoibnmdbpeaa
set_option linter.unusedVariables false
set_option linter.unusedSimpArgs false
open Go.RowKit Flo

/-- An atom's text. -/
def atomT (v : ByteArray) (a b : Int) : ByteArray := if v.toList = [] then ⟨(textN a b).toArray⟩ else v

theorem atom_var (v : ByteArray) (a b : Int) (h : v.toList.isEmpty = false) (w : World) :
    Calls Try.prog 87 #[.agg #[.string v, .int .i64 a, .int .i64 b]] w fun e w' => e = .returned (.string v) ∧ Below w.heap.size w w' := by
  go_enter Try.func87, Try.ntmps87
  go_wp2_with fail
  go_ret
  refine ⟨rfl, ?_⟩
  (repeat (first | exact Below.refl _ _ | apply Below.drew | refine Below.alloc ?_ ?_ _ | refine Below.setCell ?_ ?_ _ | refine Below.trans ?_ (Below.mono (After.below _) ?_))); (all_goals (first | (simp; done) | (simp; omega) | omega))

theorem atom_num (v : ByteArray) (a b : Int) (h : v.toList.isEmpty = true) (w : World) :
    Calls Try.prog 87 #[.agg #[.string v, .int .i64 a, .int .i64 b]] w fun e w' => e = .returned (.string ⟨(textN a b).toArray⟩) ∧ Below w.heap.size w w' := by
  go_enter Try.func87, Try.ntmps87
  go_wp2_with (go_at_call 125; refine' Calls.aft _ _ (text_any _ _ _) _; rotate_left 2; (first | (with_reducible exact After.below _; rfl) | (with_reducible exact below_drew (After.below _); rfl) | (with_reducible exact below_set (After.below _) _ _; (go_simp; rfl)) | (with_reducible exact below_set (below_set (After.below _) _ _) _ _; (go_simp; rfl)) | (with_reducible exact below_set (below_set (below_set (After.below _) _ _) _ _) _ _; (go_simp; rfl)) | (with_reducible exact below_set (below_set (below_set (below_set (After.below _) _ _) _ _) _ _) _ _; (go_simp; rfl)) | (exact Below.refl _ _; rfl)); intro x; have hle := After.le x; (try simp at hle))
  go_ret
  refine ⟨rfl, ?_⟩
  (repeat (first | exact Below.refl _ _ | apply Below.drew | refine Below.alloc ?_ ?_ _ | refine Below.setCell ?_ ?_ _ | refine Below.trans ?_ (Below.mono (After.below _) ?_))); (all_goals (first | (simp; done) | (simp; omega) | omega))

theorem ratom_var (v : ByteArray) (a b : Int) (h : v.toList.isEmpty = false) (w : World) :
    Calls Try.prog 98 #[.agg #[.string v, .int .i64 a, .int .i64 b]] w fun e w' => e = .returned (.string v) ∧ Below w.heap.size w w' := by
  go_enter Try.func98, Try.ntmps98
  go_wp2_with fail
  go_ret
  refine ⟨rfl, ?_⟩
  (repeat (first | exact Below.refl _ _ | apply Below.drew | refine Below.alloc ?_ ?_ _ | refine Below.setCell ?_ ?_ _ | refine Below.trans ?_ (Below.mono (After.below _) ?_))); (all_goals (first | (simp; done) | (simp; omega) | omega))

theorem ratom_num (v : ByteArray) (a b : Int) (h : v.toList.isEmpty = true) (w : World) :
    Calls Try.prog 98 #[.agg #[.string v, .int .i64 a, .int .i64 b]] w fun e w' => e = .returned (.string ⟨(textN a b).toArray⟩) ∧ Below w.heap.size w w' := by
  go_enter Try.func98, Try.ntmps98
  go_wp2_with (go_at_call 129; refine' Calls.aft _ _ (rtext_any _ _ _) _; rotate_left 2; (first | (with_reducible exact After.below _; rfl) | (with_reducible exact below_drew (After.below _); rfl) | (with_reducible exact below_set (After.below _) _ _; (go_simp; rfl)) | (with_reducible exact below_set (below_set (After.below _) _ _) _ _; (go_simp; rfl)) | (with_reducible exact below_set (below_set (below_set (After.below _) _ _) _ _) _ _; (go_simp; rfl)) | (with_reducible exact below_set (below_set (below_set (below_set (After.below _) _ _) _ _) _ _) _ _; (go_simp; rfl)) | (exact Below.refl _ _; rfl)); intro x; have hle := After.le x; (try simp at hle))
  go_ret
  refine ⟨rfl, ?_⟩
  (repeat (first | exact Below.refl _ _ | apply Below.drew | refine Below.alloc ?_ ?_ _ | refine Below.setCell ?_ ?_ _ | refine Below.trans ?_ (Below.mono (After.below _) ?_))); (all_goals (first | (simp; done) | (simp; omega) | omega))

theorem atomT_var {v : ByteArray} {a b : Int} (h : v.toList.isEmpty = false) : atomT v a b = v := by
  unfold atomT; rw [if_neg (by intro e; rw [e] at h; cases h)]
theorem atomT_num {v : ByteArray} {a b : Int} (h : v.toList.isEmpty = true) : atomT v a b = ⟨(textN a b).toArray⟩ := by
  unfold atomT; rw [if_pos (by simpa using h)]

theorem atom_any (v : ByteArray) (a b : Int) (w : World) :
    Calls Try.prog 87 #[.agg #[.string v, .int .i64 a, .int .i64 b]] w fun e w' => e = .returned (.string (atomT v a b)) ∧ Below w.heap.size w w' := by
  cases h : v.toList.isEmpty
  · rw [atomT_var h]; exact atom_var v a b h w
  · rw [atomT_num h]; exact atom_num v a b h w

theorem ratom_any (v : ByteArray) (a b : Int) (w : World) :
    Calls Try.prog 98 #[.agg #[.string v, .int .i64 a, .int .i64 b]] w fun e w' => e = .returned (.string (atomT v a b)) ∧ Below w.heap.size w w' := by
  cases h : v.toList.isEmpty
  · rw [atomT_var h]; exact ratom_var v a b h w
  · rw [atomT_num h]; exact ratom_num v a b h w

theorem textN_len (a b : Int) : (textN a b).length ≤ 65600 := by
  have h1 := digs_len (wr a) (wr_lo a) (wr_hi a)
  have h2 := digs_len (wr b) (wr_lo b) (wr_hi b)
  unfold textN
  split
  · omega
  · simp; omega

theorem atomT_size (v : ByteArray) (a b : Int) : (atomT v a b).size ≤ v.size + 65600 := by
  have := textN_len a b
  unfold atomT
  split
  · simp only [ByteArray.size, List.size_toArray]; omega
  · omega

set_option maxRecDepth 100000 in
set_option maxHeartbeats 1000000 in
theorem expr_0 (v1 v2 : ByteArray) (a1 b1 a2 b2 : Int) (w : World) :
    Calls Try.prog 50 #[.agg #[.int .i64 0, .string v1, .int .i64 a1, .int .i64 b1, .string v2, .int .i64 a2, .int .i64 b2]] w fun e w' => e = .returned (.string (atomT v1 a1 b1)) ∧ Below w.heap.size w w' := by
  go_enter Try.func50, Try.ntmps50
  go_wp2_with (go_at_call 87; refine' Calls.aft _ _ (atom_any _ _ _ _) _; rotate_left 2; (first | (with_reducible exact After.below _; rfl) | (with_reducible exact below_drew (After.below _); rfl) | (with_reducible exact below_set (After.below _) _ _; (go_simp; rfl)) | (with_reducible exact below_set (below_set (After.below _) _ _) _ _; (go_simp; rfl)) | (with_reducible exact below_set (below_set (below_set (After.below _) _ _) _ _) _ _; (go_simp; rfl)) | (with_reducible exact below_set (below_set (below_set (below_set (After.below _) _ _) _ _) _ _) _ _; (go_simp; rfl)) | (exact Below.refl _ _; rfl)); intro x; have hle := After.le x; (try simp at hle))
  go_ret
  refine ⟨rfl, ?_⟩
  (repeat (first | exact Below.refl _ _ | apply Below.drew | refine Below.alloc ?_ ?_ _ | refine Below.setCell ?_ ?_ _ | refine Below.trans ?_ (Below.mono (After.below _) ?_))); (all_goals (first | (simp; done) | (simp; omega) | omega))

set_option maxRecDepth 100000 in
set_option maxHeartbeats 1000000 in
theorem expr_4 (v1 v2 : ByteArray) (a1 b1 a2 b2 : Int) (hl : (atomT v1 a1 b1).size ≤ 281474976710656) (w : World) :
    Calls Try.prog 50 #[.agg #[.int .i64 4, .string v1, .int .i64 a1, .int .i64 b1, .string v2, .int .i64 a2, .int .i64 b2]] w fun e w' => e = .returned (.string (⟨#[99, 111, 110, 106, 32]⟩ ++ atomT v1 a1 b1)) ∧ Below w.heap.size w w' := by
  have hif : ¬ (9223372036854775807 < 5 + (atomT v1 a1 b1).size) := by omega
  clear hl
  go_enter Try.func50, Try.ntmps50
  go_wp2_with (go_at_call 87; refine' Calls.aft _ _ (atom_any _ _ _ _) _; rotate_left 2; (first | (with_reducible exact After.below _; rfl) | (with_reducible exact below_drew (After.below _); rfl) | (with_reducible exact below_set (After.below _) _ _; (go_simp; rfl)) | (with_reducible exact below_set (below_set (After.below _) _ _) _ _; (go_simp; rfl)) | (with_reducible exact below_set (below_set (below_set (After.below _) _ _) _ _) _ _; (go_simp; rfl)) | (with_reducible exact below_set (below_set (below_set (below_set (After.below _) _ _) _ _) _ _) _ _; (go_simp; rfl)) | (exact Below.refl _ _; rfl)); intro x; have hle := After.le x; (try simp at hle))
  go_ret
  refine ⟨rfl, ?_⟩
  (repeat (first | exact Below.refl _ _ | apply Below.drew | refine Below.alloc ?_ ?_ _ | refine Below.setCell ?_ ?_ _ | refine Below.trans ?_ (Below.mono (After.below _) ?_))); (all_goals (first | (simp; done) | (simp; omega) | omega))

end Go.Proofs.Ytjjmoibnmdbpeaa
