/- WALKS of proper.stmt, proper.term, soughref04.stmt, soughref04.term. -/
import Derived.Test.YtjjmoibnmdbpeaaChkc
namespace Go.Proofs.Ytjjmoibnmdbpeaa.Pr
set_option linter.unusedVariables false
set_option linter.unusedSimpArgs false
open Go Go.RowKit

theorem k_cases (k : Int) : k = 1 ∨ k = 2 ∨ k = 3 ∨ ((k == 1) = false ∧ (k == 2) = false ∧ (k == 3) = false ∧ k ≠ 1 ∧ k ≠ 2 ∧ k ≠ 3) := by
  by_cases h1 : k = 1
  · exact .inl h1
  by_cases h2 : k = 2
  · exact .inr (.inl h2)
  by_cases h3 : k = 3
  · exact .inr (.inr (.inl h3))
  · exact .inr (.inr (.inr ⟨by simp [h1], by simp [h2], by simp [h3], h1, h2, h3⟩))

theorem eqT_1 (k : Int) (v : ByteArray) (a b : Int) (t e : ByteArray) : eqT ⟨k, ⟨v, a, b⟩, t, e⟩ ⟨k, ⟨⟨#[]⟩, 0, 0⟩, t, ⟨#[]⟩⟩ = (emptyB e && zeroA ⟨v, a, b⟩) := by
  show (k == k && (eqA _ _ && (t.toList == t.toList && e.toList == (⟨#[]⟩ : ByteArray).toList))) = _
  rw [zeroA_eq, show (⟨#[]⟩ : ByteArray).toList = [] by decide +kernel]
  simp [emptyB, Bool.and_comm]
theorem eqT_3 (k : Int) (v : ByteArray) (a b : Int) (t e : ByteArray) : eqT ⟨k, ⟨v, a, b⟩, t, e⟩ ⟨k, ⟨⟨#[]⟩, 0, 0⟩, ⟨#[]⟩, ⟨#[]⟩⟩ = (emptyB t && (emptyB e && zeroA ⟨v, a, b⟩)) := by
  show (k == k && (eqA _ _ && (t.toList == (⟨#[]⟩ : ByteArray).toList && e.toList == (⟨#[]⟩ : ByteArray).toList))) = _
  rw [zeroA_eq, show (⟨#[]⟩ : ByteArray).toList = [] by decide +kernel]
  simp only [beq_self_eq_true, Bool.true_and, emptyB]
  cases (t.toList == []) <;> cases (e.toList == []) <;> cases zeroA ⟨v, a, b⟩ <;> rfl

set_option maxRecDepth 100000 in
set_option maxHeartbeats 1000000 in
theorem stmt_any (k : Int) (v : ByteArray) (op : Int) (v1 : ByteArray) (a1 b1 : Int) (v2 : ByteArray) (a2 b2 : Int) (w : World) :
    Calls Try.prog 80 #[.agg #[.int .i64 k, .string v, .int .i64 op, .string v1, .int .i64 a1, .int .i64 b1, .string v2, .int .i64 a2, .int .i64 b2]] w fun e w' => e = .returned (.bool (stmtB ⟨k, v, ⟨op, ⟨v1, a1, b1⟩, ⟨v2, a2, b2⟩⟩⟩)) ∧ Below w.heap.size w w' := by
  have hnm := Tk.name_any v
  have hex := expr_any op v1 a1 b1 v2 a2 b2
  have hz := zeroE_eq op ⟨v1, a1, b1⟩ ⟨v2, a2, b2⟩
  rcases k_cases k with rfl | rfl | rfl | ⟨g1, g2, g3, n1, n2, n3⟩
  · rw [show stmtB ⟨1, v, ⟨op, ⟨v1, a1, b1⟩, ⟨v2, a2, b2⟩⟩⟩ = (Tk.nameB v && exprB ⟨op, ⟨v1, a1, b1⟩, ⟨v2, a2, b2⟩⟩) from rfl]
    clear hz
    generalize Tk.nameB v = n at hnm
    generalize exprB ⟨op, ⟨v1, a1, b1⟩, ⟨v2, a2, b2⟩⟩ = x at hex
    cases n <;> cases x <;> simp only [Bool.and_true, Bool.and_false, Bool.false_and, Bool.true_and]
    all_goals (
      go_enter Try.func80, Try.ntmps80
      go_wp2_with (first | (go_at_call 76; refine Calls.same (hnm _) ?_) | (go_at_call 120; refine' Calls.aft _ _ (hex _) _; rotate_left 2; (first | (with_reducible exact After.below _; rfl) | (with_reducible exact below_drew (After.below _); rfl) | (with_reducible exact below_set (After.below _) _ _; (go_simp; rfl)) | (with_reducible exact below_set (below_set (After.below _) _ _) _ _; (go_simp; rfl)) | (with_reducible exact below_set (below_set (below_set (After.below _) _ _) _ _) _ _; (go_simp; rfl)) | (with_reducible exact below_set (below_set (below_set (below_set (After.below _) _ _) _ _) _ _) _ _; (go_simp; rfl)) | (exact Below.refl _ _; rfl)); intro x2; have hle := After.le x2; (try simp at hle)))
      go_ret
      refine ⟨rfl, ?_⟩
      (repeat (first | exact Below.refl _ _ | apply Below.drew | refine Below.alloc ?_ ?_ _ | refine Below.setCell ?_ ?_ _ | refine Below.trans ?_ (Below.mono (After.below _) ?_))); (all_goals (first | (simp; done) | (simp; omega) | omega)))
  · rw [show stmtB ⟨2, v, ⟨op, ⟨v1, a1, b1⟩, ⟨v2, a2, b2⟩⟩⟩ = (Tk.nameB v && zeroE ⟨op, ⟨v1, a1, b1⟩, ⟨v2, a2, b2⟩⟩) from rfl]
    clear hex
    generalize Tk.nameB v = n at hnm
    generalize zeroE ⟨op, ⟨v1, a1, b1⟩, ⟨v2, a2, b2⟩⟩ = x at hz
    cases n <;> cases x <;> simp only [Bool.and_true, Bool.and_false, Bool.false_and, Bool.true_and]
    all_goals (
      go_enter Try.func80, Try.ntmps80
      go_wp2_with (go_at_call 76; refine Calls.same (hnm _) ?_)
      go_ret
      refine ⟨rfl, ?_⟩
      (repeat (first | exact Below.refl _ _ | apply Below.drew | refine Below.alloc ?_ ?_ _ | refine Below.setCell ?_ ?_ _ | refine Below.trans ?_ (Below.mono (After.below _) ?_))); (all_goals (first | (simp; done) | (simp; omega) | omega)))
  · rw [show stmtB ⟨3, v, ⟨op, ⟨v1, a1, b1⟩, ⟨v2, a2, b2⟩⟩⟩ = (emptyB v && (op == 0 && exprB ⟨op, ⟨v1, a1, b1⟩, ⟨v2, a2, b2⟩⟩)) from rfl]
    clear hz hnm
    generalize exprB ⟨op, ⟨v1, a1, b1⟩, ⟨v2, a2, b2⟩⟩ = x at hex
    cases h0 : (op == 0) <;> cases he : emptyB v <;> cases x <;> simp only [Bool.and_true, Bool.and_false, Bool.false_and, Bool.true_and]
    all_goals (
      unfold emptyB at he
      go_enter Try.func80, Try.ntmps80
      go_wp2_with (go_at_call 120; refine' Calls.aft _ _ (hex _) _; rotate_left 2; (first | (with_reducible exact After.below _; rfl) | (with_reducible exact below_drew (After.below _); rfl) | (with_reducible exact below_set (After.below _) _ _; (go_simp; rfl)) | (with_reducible exact below_set (below_set (After.below _) _ _) _ _; (go_simp; rfl)) | (with_reducible exact below_set (below_set (below_set (After.below _) _ _) _ _) _ _; (go_simp; rfl)) | (with_reducible exact below_set (below_set (below_set (below_set (After.below _) _ _) _ _) _ _) _ _; (go_simp; rfl)) | (exact Below.refl _ _; rfl)); intro x2; have hle := After.le x2; (try simp at hle))
      go_ret
      refine ⟨rfl, ?_⟩
      (repeat (first | exact Below.refl _ _ | apply Below.drew | refine Below.alloc ?_ ?_ _ | refine Below.setCell ?_ ?_ _ | refine Below.trans ?_ (Below.mono (After.below _) ?_))); (all_goals (first | (simp; done) | (simp; omega) | omega)))
  · rw [show stmtB ⟨k, v, ⟨op, ⟨v1, a1, b1⟩, ⟨v2, a2, b2⟩⟩⟩ = false by unfold stmtB; rw [if_neg n1, if_neg n2, if_neg n3]]
    clear hz hnm hex n1 n2 n3
    go_enter Try.func80, Try.ntmps80
    go_wp2_with fail
    go_ret
    refine ⟨rfl, ?_⟩
    (repeat (first | exact Below.refl _ _ | apply Below.drew | refine Below.alloc ?_ ?_ _ | refine Below.setCell ?_ ?_ _ | refine Below.trans ?_ (Below.mono (After.below _) ?_))); (all_goals (first | (simp; done) | (simp; omega) | omega))

set_option maxRecDepth 100000 in
set_option maxHeartbeats 1000000 in
theorem rstmt_any (k : Int) (v : ByteArray) (op : Int) (v1 : ByteArray) (a1 b1 : Int) (v2 : ByteArray) (a2 b2 : Int) (w : World) :
    Calls Try.prog 58 #[.agg #[.int .i64 k, .string v, .int .i64 op, .string v1, .int .i64 a1, .int .i64 b1, .string v2, .int .i64 a2, .int .i64 b2]] w fun e w' => e = .returned (.bool (stmtB ⟨k, v, ⟨op, ⟨v1, a1, b1⟩, ⟨v2, a2, b2⟩⟩⟩)) ∧ Below w.heap.size w w' := by
  have hnm := Tk.rname_any v
  have hex := rexpr_any op v1 a1 b1 v2 a2 b2
  have hz := zeroE_eq op ⟨v1, a1, b1⟩ ⟨v2, a2, b2⟩
  rcases k_cases k with rfl | rfl | rfl | ⟨g1, g2, g3, n1, n2, n3⟩
  · rw [show stmtB ⟨1, v, ⟨op, ⟨v1, a1, b1⟩, ⟨v2, a2, b2⟩⟩⟩ = (Tk.nameB v && exprB ⟨op, ⟨v1, a1, b1⟩, ⟨v2, a2, b2⟩⟩) from rfl]
    clear hz
    generalize Tk.nameB v = n at hnm
    generalize exprB ⟨op, ⟨v1, a1, b1⟩, ⟨v2, a2, b2⟩⟩ = x at hex
    cases n <;> cases x <;> simp only [Bool.and_true, Bool.and_false, Bool.false_and, Bool.true_and]
    all_goals (
      go_enter Try.func58, Try.ntmps58
      go_wp2_with (first | (go_at_call 56; refine' Calls.aft _ _ (hnm _) _; rotate_left 2; (first | (with_reducible exact After.below _; rfl) | (with_reducible exact below_drew (After.below _); rfl) | (with_reducible exact below_set (After.below _) _ _; (go_simp; rfl)) | (with_reducible exact below_set (below_set (After.below _) _ _) _ _; (go_simp; rfl)) | (with_reducible exact below_set (below_set (below_set (After.below _) _ _) _ _) _ _; (go_simp; rfl)) | (with_reducible exact below_set (below_set (below_set (below_set (After.below _) _ _) _ _) _ _) _ _; (go_simp; rfl)) | (exact Below.refl _ _; rfl)); intro x1; have hle := After.le x1; (try simp at hle)) | (go_at_call 95; refine' Calls.aft _ _ (hex _) _; rotate_left 2; (first | (with_reducible exact After.below _; rfl) | (with_reducible exact below_drew (After.below _); rfl) | (with_reducible exact below_set (After.below _) _ _; (go_simp; rfl)) | (with_reducible exact below_set (below_set (After.below _) _ _) _ _; (go_simp; rfl)) | (with_reducible exact below_set (below_set (below_set (After.below _) _ _) _ _) _ _; (go_simp; rfl)) | (with_reducible exact below_set (below_set (below_set (below_set (After.below _) _ _) _ _) _ _) _ _; (go_simp; rfl)) | (exact Below.refl _ _; rfl)); intro x2; have hle := After.le x2; (try simp at hle)))
      go_ret
      refine ⟨rfl, ?_⟩
      (repeat (first | exact Below.refl _ _ | apply Below.drew | refine Below.alloc ?_ ?_ _ | refine Below.setCell ?_ ?_ _ | refine Below.trans ?_ (Below.mono (After.below _) ?_))); (all_goals (first | (simp; done) | (simp; omega) | omega)))
  · rw [show stmtB ⟨2, v, ⟨op, ⟨v1, a1, b1⟩, ⟨v2, a2, b2⟩⟩⟩ = (Tk.nameB v && zeroE ⟨op, ⟨v1, a1, b1⟩, ⟨v2, a2, b2⟩⟩) from rfl]
    clear hex
    generalize Tk.nameB v = n at hnm
    generalize zeroE ⟨op, ⟨v1, a1, b1⟩, ⟨v2, a2, b2⟩⟩ = x at hz
    cases n <;> cases x <;> simp only [Bool.and_true, Bool.and_false, Bool.false_and, Bool.true_and]
    all_goals (
      go_enter Try.func58, Try.ntmps58
      go_wp2_with (go_at_call 56; refine' Calls.aft _ _ (hnm _) _; rotate_left 2; (first | (with_reducible exact After.below _; rfl) | (with_reducible exact below_drew (After.below _); rfl) | (with_reducible exact below_set (After.below _) _ _; (go_simp; rfl)) | (with_reducible exact below_set (below_set (After.below _) _ _) _ _; (go_simp; rfl)) | (with_reducible exact below_set (below_set (below_set (After.below _) _ _) _ _) _ _; (go_simp; rfl)) | (with_reducible exact below_set (below_set (below_set (below_set (After.below _) _ _) _ _) _ _) _ _; (go_simp; rfl)) | (exact Below.refl _ _; rfl)); intro x1; have hle := After.le x1; (try simp at hle))
      go_ret
      refine ⟨rfl, ?_⟩
      (repeat (first | exact Below.refl _ _ | apply Below.drew | refine Below.alloc ?_ ?_ _ | refine Below.setCell ?_ ?_ _ | refine Below.trans ?_ (Below.mono (After.below _) ?_))); (all_goals (first | (simp; done) | (simp; omega) | omega)))
  · rw [show stmtB ⟨3, v, ⟨op, ⟨v1, a1, b1⟩, ⟨v2, a2, b2⟩⟩⟩ = (emptyB v && (op == 0 && exprB ⟨op, ⟨v1, a1, b1⟩, ⟨v2, a2, b2⟩⟩)) from rfl]
    clear hz hnm
    generalize exprB ⟨op, ⟨v1, a1, b1⟩, ⟨v2, a2, b2⟩⟩ = x at hex
    cases h0 : (op == 0) <;> cases he : emptyB v <;> cases x <;> simp only [Bool.and_true, Bool.and_false, Bool.false_and, Bool.true_and]
    all_goals (
      unfold emptyB at he
      go_enter Try.func58, Try.ntmps58
      go_wp2_with (go_at_call 95; refine' Calls.aft _ _ (hex _) _; rotate_left 2; (first | (with_reducible exact After.below _; rfl) | (with_reducible exact below_drew (After.below _); rfl) | (with_reducible exact below_set (After.below _) _ _; (go_simp; rfl)) | (with_reducible exact below_set (below_set (After.below _) _ _) _ _; (go_simp; rfl)) | (with_reducible exact below_set (below_set (below_set (After.below _) _ _) _ _) _ _; (go_simp; rfl)) | (with_reducible exact below_set (below_set (below_set (below_set (After.below _) _ _) _ _) _ _) _ _; (go_simp; rfl)) | (exact Below.refl _ _; rfl)); intro x2; have hle := After.le x2; (try simp at hle))
      go_ret
      refine ⟨rfl, ?_⟩
      (repeat (first | exact Below.refl _ _ | apply Below.drew | refine Below.alloc ?_ ?_ _ | refine Below.setCell ?_ ?_ _ | refine Below.trans ?_ (Below.mono (After.below _) ?_))); (all_goals (first | (simp; done) | (simp; omega) | omega)))
  · rw [show stmtB ⟨k, v, ⟨op, ⟨v1, a1, b1⟩, ⟨v2, a2, b2⟩⟩⟩ = false by unfold stmtB; rw [if_neg n1, if_neg n2, if_neg n3]]
    clear hz hnm hex n1 n2 n3
    go_enter Try.func58, Try.ntmps58
    go_wp2_with fail
    go_ret
    refine ⟨rfl, ?_⟩
    (repeat (first | exact Below.refl _ _ | apply Below.drew | refine Below.alloc ?_ ?_ _ | refine Below.setCell ?_ ?_ _ | refine Below.trans ?_ (Below.mono (After.below _) ?_))); (all_goals (first | (simp; done) | (simp; omega) | omega))

set_option maxRecDepth 100000 in
set_option maxHeartbeats 2000000 in
theorem term_any (k : Int) (v : ByteArray) (a b : Int) (t e : ByteArray) (w : World) :
    Calls Try.prog 77 #[.agg #[.int .i64 k, .string v, .int .i64 a, .int .i64 b, .string t, .string e]] w fun r w' => r = .returned (.bool (termB ⟨k, ⟨v, a, b⟩, t, e⟩)) ∧ Below w.heap.size w w' := by
  have hnt := Tk.name_any t
  have hne := Tk.name_any e
  have hz1 := eqT_1 1 v a b t e
  have hz3 := eqT_3 3 v a b t e
  have hza := zeroA_eq v a b
  have hat : ∀ (W : World) (sb : Nat), sb = W.heap.size → Calls Try.prog 118 #[.slice (some ⟨sb, 0, none⟩) 1 1] (W.alloc (.cells #[.string v, .int .i64 a, .int .i64 b] 71)) fun r w' => r = .returned (.bool (atomB ⟨v, a, b⟩)) ∧ Below (W.alloc (.cells #[.string v, .int .i64 a, .int .i64 b] 71)).heap.size (W.alloc (.cells #[.string v, .int .i64 a, .int .i64 b] 71)) w' := fun W sb hsb => by
    subst hsb
    have := fine_any [⟨v, a, b⟩] (by simp) _ _ (Sl.lit ([⟨v, a, b⟩] : List At) rfl rfl (heap_alloc_new W (.cells #[.string v, .int .i64 a, .int .i64 b] 71)) (c := 1))
    simpa using this
  rcases k_cases k with rfl | rfl | rfl | ⟨g1, g2, g3, n1, n2, n3⟩
  · rw [show termB ⟨1, ⟨v, a, b⟩, t, e⟩ = (Tk.nameB t && (emptyB e && zeroA ⟨v, a, b⟩)) from rfl]
    clear hat hne hz3
    generalize Tk.nameB t = n at hnt
    clear hza
    generalize (emptyB e && zeroA ⟨v, a, b⟩) = z at hz1
    cases n <;> cases z <;> simp only [Bool.and_true, Bool.and_false, Bool.false_and, Bool.true_and]
    all_goals (
      go_enter Try.func77, Try.ntmps77
      go_wp2_with (go_at_call 76; refine Calls.same (hnt _) ?_)
      go_ret
      refine ⟨rfl, ?_⟩
      (repeat (first | exact Below.refl _ _ | apply Below.drew | refine Below.alloc ?_ ?_ _ | refine Below.setCell ?_ ?_ _ | refine Below.trans ?_ (Below.mono (After.below _) ?_))); (all_goals (first | (simp; done) | (simp; omega) | omega)))
  · rw [show termB ⟨2, ⟨v, a, b⟩, t, e⟩ = (Tk.nameB t && (Tk.nameB e && atomB ⟨v, a, b⟩)) from rfl]
    clear hz1 hz3 hza
    generalize Tk.nameB t = n at hnt
    generalize Tk.nameB e = m at hne
    generalize atomB ⟨v, a, b⟩ = z at hat
    cases n <;> cases m <;> cases z <;> simp only [Bool.and_true, Bool.and_false, Bool.false_and, Bool.true_and]
    all_goals (
      go_enter Try.func77, Try.ntmps77
      go_wp2_with (first | (go_at_call 76; first | (with_reducible refine Calls.same (hnt _) ?_) | (with_reducible refine Calls.same (hne _) ?_)) | (go_at_call 118; refine' Calls.aft _ _ (hat _ _ (by simp)) _; rotate_left 2; (first | (with_reducible exact After.below _; rfl) | (with_reducible exact below_drew (After.below _); rfl) | (with_reducible exact below_set (After.below _) _ _; (go_simp; rfl)) | (with_reducible exact below_set (below_set (After.below _) _ _) _ _; (go_simp; rfl)) | (with_reducible exact below_set (below_set (below_set (After.below _) _ _) _ _) _ _; (go_simp; rfl)) | (with_reducible exact below_set (below_set (below_set (below_set (After.below _) _ _) _ _) _ _) _ _; (go_simp; rfl)) | (exact Below.refl _ _; rfl)); intro x3; have hle := After.le x3; (try simp at hle)))
      go_ret
      refine ⟨rfl, ?_⟩
      (repeat (first | exact Below.refl _ _ | apply Below.drew | refine Below.alloc ?_ ?_ _ | refine Below.setCell ?_ ?_ _ | refine Below.trans ?_ (Below.mono (After.below _) ?_))); (all_goals (first | (simp; done) | (simp; omega) | omega)))
  · rw [show termB ⟨3, ⟨v, a, b⟩, t, e⟩ = (emptyB t && (emptyB e && zeroA ⟨v, a, b⟩)) from rfl]
    clear hat hne hnt hz1
    clear hza
    generalize (emptyB t && (emptyB e && zeroA ⟨v, a, b⟩)) = z at hz3
    go_enter Try.func77, Try.ntmps77
    go_wp2_with fail
    refine bodyPost_ret (v := .bool z) (by simp only [results, Try.results77]; go_simp) rfl ⟨rfl, ?_⟩
    (repeat (first | exact Below.refl _ _ | apply Below.drew | refine Below.alloc ?_ ?_ _ | refine Below.setCell ?_ ?_ _ | refine Below.trans ?_ (Below.mono (After.below _) ?_))); (all_goals (first | (simp; done) | (simp; omega) | omega))
  · rw [show termB ⟨k, ⟨v, a, b⟩, t, e⟩ = false by unfold termB; rw [if_neg n1, if_neg n2, if_neg n3]]
    clear hat hne hnt hz1 hz3 hza n1 n2 n3
    go_enter Try.func77, Try.ntmps77
    go_wp2_with fail
    go_ret
    refine ⟨rfl, ?_⟩
    (repeat (first | exact Below.refl _ _ | apply Below.drew | refine Below.alloc ?_ ?_ _ | refine Below.setCell ?_ ?_ _ | refine Below.trans ?_ (Below.mono (After.below _) ?_))); (all_goals (first | (simp; done) | (simp; omega) | omega))

set_option maxRecDepth 100000 in
set_option maxHeartbeats 2000000 in
theorem rterm_any (k : Int) (v : ByteArray) (a b : Int) (t e : ByteArray) (w : World) :
    Calls Try.prog 57 #[.agg #[.int .i64 k, .string v, .int .i64 a, .int .i64 b, .string t, .string e]] w fun r w' => r = .returned (.bool (termB ⟨k, ⟨v, a, b⟩, t, e⟩)) ∧ Below w.heap.size w w' := by
  have hnt := Tk.rname_any t
  have hne := Tk.rname_any e
  have hz1 := eqT_1 1 v a b t e
  have hz3 := eqT_3 3 v a b t e
  have hza := zeroA_eq v a b
  have hat := ratom_any v a b
  rcases k_cases k with rfl | rfl | rfl | ⟨g1, g2, g3, n1, n2, n3⟩
  · rw [show termB ⟨1, ⟨v, a, b⟩, t, e⟩ = (Tk.nameB t && (emptyB e && zeroA ⟨v, a, b⟩)) from rfl]
    clear hat hne hz3
    generalize Tk.nameB t = n at hnt
    clear hz1
    generalize zeroA ⟨v, a, b⟩ = z at hza
    cases n <;> cases he : emptyB e <;> cases z <;> simp only [Bool.and_true, Bool.and_false, Bool.false_and, Bool.true_and]
    all_goals (
      unfold emptyB at he
      go_enter Try.func57, Try.ntmps57
      go_wp2_with (go_at_call 56; refine' Calls.aft _ _ (hnt _) _; rotate_left 2; (first | (with_reducible exact After.below _; rfl) | (with_reducible exact below_drew (After.below _); rfl) | (with_reducible exact below_set (After.below _) _ _; (go_simp; rfl)) | (with_reducible exact below_set (below_set (After.below _) _ _) _ _; (go_simp; rfl)) | (with_reducible exact below_set (below_set (below_set (After.below _) _ _) _ _) _ _; (go_simp; rfl)) | (with_reducible exact below_set (below_set (below_set (below_set (After.below _) _ _) _ _) _ _) _ _; (go_simp; rfl)) | (exact Below.refl _ _; rfl)); intro x1; have hle := After.le x1; (try simp at hle))
      go_ret
      refine ⟨rfl, ?_⟩
      (repeat (first | exact Below.refl _ _ | apply Below.drew | refine Below.alloc ?_ ?_ _ | refine Below.setCell ?_ ?_ _ | refine Below.trans ?_ (Below.mono (After.below _) ?_))); (all_goals (first | (simp; done) | (simp; omega) | omega)))
  · rw [show termB ⟨2, ⟨v, a, b⟩, t, e⟩ = (Tk.nameB t && (Tk.nameB e && atomB ⟨v, a, b⟩)) from rfl]
    clear hz1 hz3 hza
    generalize Tk.nameB t = n at hnt
    generalize Tk.nameB e = m at hne
    generalize atomB ⟨v, a, b⟩ = z at hat
    cases n <;> cases m <;> cases z <;> simp only [Bool.and_true, Bool.and_false, Bool.false_and, Bool.true_and]
    all_goals (
      go_enter Try.func57, Try.ntmps57
      go_wp2_with (first | (go_at_call 56; first | (with_reducible refine' Calls.aft _ _ (hnt _) _; rotate_left 2; (first | (with_reducible exact After.below _; rfl) | (with_reducible exact below_drew (After.below _); rfl) | (with_reducible exact below_set (After.below _) _ _; (go_simp; rfl)) | (with_reducible exact below_set (below_set (After.below _) _ _) _ _; (go_simp; rfl)) | (with_reducible exact below_set (below_set (below_set (After.below _) _ _) _ _) _ _; (go_simp; rfl)) | (with_reducible exact below_set (below_set (below_set (below_set (After.below _) _ _) _ _) _ _) _ _; (go_simp; rfl)) | (exact Below.refl _ _; rfl)); intro x1; have hle := After.le x1; (try simp at hle)) | (with_reducible refine' Calls.aft _ _ (hne _) _; rotate_left 2; (first | (with_reducible exact After.below _; rfl) | (with_reducible exact below_drew (After.below _); rfl) | (with_reducible exact below_set (After.below _) _ _; (go_simp; rfl)) | (with_reducible exact below_set (below_set (After.below _) _ _) _ _; (go_simp; rfl)) | (with_reducible exact below_set (below_set (below_set (After.below _) _ _) _ _) _ _; (go_simp; rfl)) | (with_reducible exact below_set (below_set (below_set (below_set (After.below _) _ _) _ _) _ _) _ _; (go_simp; rfl)) | (exact Below.refl _ _; rfl)); intro x2; have hle := After.le x2; (try simp at hle))) | (go_at_call 94; refine' Calls.aft _ _ (hat _) _; rotate_left 2; (first | (with_reducible exact After.below _; rfl) | (with_reducible exact below_drew (After.below _); rfl) | (with_reducible exact below_set (After.below _) _ _; (go_simp; rfl)) | (with_reducible exact below_set (below_set (After.below _) _ _) _ _; (go_simp; rfl)) | (with_reducible exact below_set (below_set (below_set (After.below _) _ _) _ _) _ _; (go_simp; rfl)) | (with_reducible exact below_set (below_set (below_set (below_set (After.below _) _ _) _ _) _ _) _ _; (go_simp; rfl)) | (exact Below.refl _ _; rfl)); intro x3; have hle := After.le x3; (try simp at hle)))
      go_ret
      refine ⟨rfl, ?_⟩
      (repeat (first | exact Below.refl _ _ | apply Below.drew | refine Below.alloc ?_ ?_ _ | refine Below.setCell ?_ ?_ _ | refine Below.trans ?_ (Below.mono (After.below _) ?_))); (all_goals (first | (simp; done) | (simp; omega) | omega)))
  · rw [show termB ⟨3, ⟨v, a, b⟩, t, e⟩ = (emptyB t && (emptyB e && zeroA ⟨v, a, b⟩)) from rfl]
    clear hat hne hnt hz1
    clear hz3
    generalize zeroA ⟨v, a, b⟩ = z at hza
    cases ht : emptyB t <;> cases he : emptyB e <;> cases z <;> simp only [Bool.and_true, Bool.and_false, Bool.false_and, Bool.true_and]
    all_goals (
      unfold emptyB at he ht
      go_enter Try.func57, Try.ntmps57
      go_wp2_with fail
      go_ret
      refine ⟨rfl, ?_⟩
      (repeat (first | exact Below.refl _ _ | apply Below.drew | refine Below.alloc ?_ ?_ _ | refine Below.setCell ?_ ?_ _ | refine Below.trans ?_ (Below.mono (After.below _) ?_))); (all_goals (first | (simp; done) | (simp; omega) | omega)))
  · rw [show termB ⟨k, ⟨v, a, b⟩, t, e⟩ = false by unfold termB; rw [if_neg n1, if_neg n2, if_neg n3]]
    clear hat hne hnt hz1 hz3 hza n1 n2 n3
    go_enter Try.func57, Try.ntmps57
    go_wp2_with fail
    go_ret
    refine ⟨rfl, ?_⟩
    (repeat (first | exact Below.refl _ _ | apply Below.drew | refine Below.alloc ?_ ?_ _ | refine Below.setCell ?_ ?_ _ | refine Below.trans ?_ (Below.mono (After.below _) ?_))); (all_goals (first | (simp; done) | (simp; omega) | omega))

end Go.Proofs.Ytjjmoibnmdbpeaa.Pr
