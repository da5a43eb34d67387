/- WALKS of proper.expr, proper.stmt, proper.term; soughref04.atom, expr, stmt, term. -/
import Derived.Test.YtjjmoibnmdbpeaaEqs
namespace Go.Proofs.Ytjjmoibnmdbpeaa.Pr
set_option linter.unusedVariables false
set_option linter.unusedSimpArgs false
open Go Go.RowKit

theorem Sl.len {α : Type} {enc : α → List Value} {w : World} {v : Value} {L : List α} {n : Nat} (h : Sl w v enc L) (hn : n = L.length) : ∃ p c, v = .slice p n c := by
  obtain ⟨_, _, p, c, h, _⟩ := h
  exact ⟨p, c, by rw [hn]; exact h⟩
theorem zeroA_eq (v : ByteArray) (a b : Int) : eqA ⟨v, a, b⟩ ⟨⟨#[]⟩, 0, 0⟩ = zeroA ⟨v, a, b⟩ := by
  unfold eqA zeroA zeroN emptyB
  rw [show (⟨#[]⟩ : ByteArray).toList = [] by decide +kernel]
theorem zeroE_eq (op : Int) (x y : At) : eqE ⟨op, x, y⟩ ⟨0, ⟨⟨#[]⟩, 0, 0⟩, ⟨⟨#[]⟩, 0, 0⟩⟩ = zeroE ⟨op, x, y⟩ := by
  obtain ⟨v, a, b⟩ := x
  obtain ⟨v2, a2, b2⟩ := y
  show (op == 0 && (eqA _ _ && eqA _ _)) = _
  rw [zeroA_eq, zeroA_eq]; rfl

theorem exprB_1 (op : Int) (h : op = 0 ∨ op = 4) (x y : At) : exprB ⟨op, x, y⟩ = (atomB x && zeroA y) := by unfold exprB; rw [if_pos h]
theorem exprB_2 (op : Int) (h : op = 1 ∨ op = 2 ∨ op = 3) (x y : At) : exprB ⟨op, x, y⟩ = (atomB x && atomB y) := by unfold exprB; rw [if_neg (show ¬ (op = 0 ∨ op = 4) by omega), if_pos h]
theorem exprB_3 (op : Int) (h : ¬ (op = 0 ∨ op = 4)) (h2 : ¬ (op = 1 ∨ op = 2 ∨ op = 3)) (x y : At) : exprB ⟨op, x, y⟩ = false := by unfold exprB; rw [if_neg h, if_neg h2]

set_option maxRecDepth 100000 in
set_option maxHeartbeats 1000000 in
theorem expr_any (op : Int) (v1 : ByteArray) (a1 b1 : Int) (v2 : ByteArray) (a2 b2 : Int) (w : World) :
    Calls Try.prog 120 #[.agg #[.int .i64 op, .string v1, .int .i64 a1, .int .i64 b1, .string v2, .int .i64 a2, .int .i64 b2]] w fun e w' => e = .returned (.bool (exprB ⟨op, ⟨v1, a1, b1⟩, ⟨v2, a2, b2⟩⟩)) ∧ Below w.heap.size w w' := by
  have hat := atoms_any op v1 a1 b1 v2 a2 b2
  rcases op_cases op with hop | hop | ⟨g0, g4, g1, g2, g3, n0, n1⟩
  · rw [exprB_1 op hop]
    rw [show atomsOf ⟨op, ⟨v1, a1, b1⟩, ⟨v2, a2, b2⟩⟩ = [⟨v1, a1, b1⟩] by simp only [atomsOf]; rw [if_pos hop]] at hat
    have hfi := fun v w h => fine_any [⟨v1, a1, b1⟩] (by simp) v w h
    simp only [List.all_cons, List.all_nil, Bool.and_true] at hfi
    have hz := zeroA_eq v2 a2 b2
    generalize atomB ⟨v1, a1, b1⟩ = f at hfi
    generalize zeroA ⟨v2, a2, b2⟩ = z at hz
    clear hop
    cases f <;> cases z <;> simp only [Bool.and_true, Bool.and_false, Bool.false_and, Bool.true_and]
    all_goals (
      go_enter Try.func120, Try.ntmps120
      go_wp2_with (first | ((go_at_call 46; refine' Calls.aftS _ _ (hat _) _; rotate_left 2; (first | (with_reducible exact After.below _; rfl) | (with_reducible exact below_drew (After.below _); rfl) | (with_reducible exact below_set (After.below _) _ _; (go_simp; rfl)) | (with_reducible exact below_set (below_set (After.below _) _ _) _ _; (go_simp; rfl)) | (with_reducible exact below_set (below_set (below_set (After.below _) _ _) _ _) _ _; (go_simp; rfl)) | (with_reducible exact below_set (below_set (below_set (below_set (After.below _) _ _) _ _) _ _) _ _; (go_simp; rfl)) | (exact Below.refl _ _; rfl)); intro o x1 ho; have hle := After.le x1; (try simp at hle)); obtain ⟨p9, c9, rfl⟩ := Sl.len ho (rfl : 1 = _)) | (go_at_call 118; refine' Calls.aft _ _ (hfi _ _ ho) _; rotate_left 2; (first | (with_reducible exact After.below _; rfl) | (with_reducible exact below_drew (After.below _); rfl) | (with_reducible exact below_set (After.below _) _ _; (go_simp; rfl)) | (with_reducible exact below_set (below_set (After.below _) _ _) _ _; (go_simp; rfl)) | (with_reducible exact below_set (below_set (below_set (After.below _) _ _) _ _) _ _; (go_simp; rfl)) | (with_reducible exact below_set (below_set (below_set (below_set (After.below _) _ _) _ _) _ _) _ _; (go_simp; rfl)) | (exact Below.refl _ _; rfl)); intro x2; have hle := After.le x2; (try simp at hle)))
      go_ret
      refine ⟨rfl, ?_⟩
      (repeat (first | exact Below.refl _ _ | apply Below.drew | refine Below.alloc ?_ ?_ _ | refine Below.setCell ?_ ?_ _ | refine Below.trans ?_ (Below.mono (After.below _) ?_))); (all_goals (first | (simp; done) | (simp; omega) | omega)))
  · rw [exprB_2 op hop]
    rw [show atomsOf ⟨op, ⟨v1, a1, b1⟩, ⟨v2, a2, b2⟩⟩ = [⟨v1, a1, b1⟩, ⟨v2, a2, b2⟩] by simp only [atomsOf]; rw [if_neg (by omega), if_pos hop]] at hat
    have hfi := fun v w h => fine_any [⟨v1, a1, b1⟩, ⟨v2, a2, b2⟩] (by simp) v w h
    simp only [List.all_cons, List.all_nil, Bool.and_true] at hfi
    generalize (atomB ⟨v1, a1, b1⟩ && atomB ⟨v2, a2, b2⟩) = f at hfi
    clear hop
    cases f
    all_goals (
      go_enter Try.func120, Try.ntmps120
      go_wp2_with (first | ((go_at_call 46; refine' Calls.aftS _ _ (hat _) _; rotate_left 2; (first | (with_reducible exact After.below _; rfl) | (with_reducible exact below_drew (After.below _); rfl) | (with_reducible exact below_set (After.below _) _ _; (go_simp; rfl)) | (with_reducible exact below_set (below_set (After.below _) _ _) _ _; (go_simp; rfl)) | (with_reducible exact below_set (below_set (below_set (After.below _) _ _) _ _) _ _; (go_simp; rfl)) | (with_reducible exact below_set (below_set (below_set (below_set (After.below _) _ _) _ _) _ _) _ _; (go_simp; rfl)) | (exact Below.refl _ _; rfl)); intro o x1 ho; have hle := After.le x1; (try simp at hle)); obtain ⟨p9, c9, rfl⟩ := Sl.len ho (rfl : 2 = _)) | (go_at_call 118; refine' Calls.aft _ _ (hfi _ _ ho) _; rotate_left 2; (first | (with_reducible exact After.below _; rfl) | (with_reducible exact below_drew (After.below _); rfl) | (with_reducible exact below_set (After.below _) _ _; (go_simp; rfl)) | (with_reducible exact below_set (below_set (After.below _) _ _) _ _; (go_simp; rfl)) | (with_reducible exact below_set (below_set (below_set (After.below _) _ _) _ _) _ _; (go_simp; rfl)) | (with_reducible exact below_set (below_set (below_set (below_set (After.below _) _ _) _ _) _ _) _ _; (go_simp; rfl)) | (exact Below.refl _ _; rfl)); intro x2; have hle := After.le x2; (try simp at hle)))
      go_ret
      refine ⟨rfl, ?_⟩
      (repeat (first | exact Below.refl _ _ | apply Below.drew | refine Below.alloc ?_ ?_ _ | refine Below.setCell ?_ ?_ _ | refine Below.trans ?_ (Below.mono (After.below _) ?_))); (all_goals (first | (simp; done) | (simp; omega) | omega)))
  · rw [exprB_3 op n0 n1]
    rw [show atomsOf ⟨op, ⟨v1, a1, b1⟩, ⟨v2, a2, b2⟩⟩ = [] by simp only [atomsOf]; rw [if_neg n0, if_neg n1]] at hat
    clear n0 n1
    go_enter Try.func120, Try.ntmps120
    go_wp2_with ((go_at_call 46; refine' Calls.aftS _ _ (hat _) _; rotate_left 2; (first | (with_reducible exact After.below _; rfl) | (with_reducible exact below_drew (After.below _); rfl) | (with_reducible exact below_set (After.below _) _ _; (go_simp; rfl)) | (with_reducible exact below_set (below_set (After.below _) _ _) _ _; (go_simp; rfl)) | (with_reducible exact below_set (below_set (below_set (After.below _) _ _) _ _) _ _; (go_simp; rfl)) | (with_reducible exact below_set (below_set (below_set (below_set (After.below _) _ _) _ _) _ _) _ _; (go_simp; rfl)) | (exact Below.refl _ _; rfl)); intro o x1 ho; have hle := After.le x1; (try simp at hle)); obtain ⟨p9, c9, rfl⟩ := Sl.len ho (rfl : 0 = _))
    go_ret
    refine ⟨rfl, ?_⟩
    (repeat (first | exact Below.refl _ _ | apply Below.drew | refine Below.alloc ?_ ?_ _ | refine Below.setCell ?_ ?_ _ | refine Below.trans ?_ (Below.mono (After.below _) ?_))); (all_goals (first | (simp; done) | (simp; omega) | omega))

set_option maxRecDepth 100000 in
theorem ratom_any (v : ByteArray) (a b : Int) (w : World) :
    Calls Try.prog 94 #[.agg #[.string v, .int .i64 a, .int .i64 b]] w fun e w' => e = .returned (.bool (atomB ⟨v, a, b⟩)) ∧ Below w.heap.size w w' := by
  rw [atomB_def]
  cases he : (v.toList == [])
  · have he2 : ¬ v.toList = [] := by simpa using he
    rw [if_neg he2]
    have hnm := Tk.rname_any v
    cases hn : Tk.nameB v
    · rw [hn] at hnm
      rw [Bool.false_and]
      go_enter Try.func94, Try.ntmps94
      go_wp2_with ((go_at_call 56; refine' Calls.aft _ _ (hnm _) _; rotate_left 2; (first | (with_reducible exact After.below _; rfl) | (with_reducible exact below_drew (After.below _); rfl) | (with_reducible exact below_set (After.below _) _ _; (go_simp; rfl)) | (with_reducible exact below_set (below_set (After.below _) _ _) _ _; (go_simp; rfl)) | (with_reducible exact below_set (below_set (below_set (After.below _) _ _) _ _) _ _; (go_simp; rfl)) | (with_reducible exact below_set (below_set (below_set (below_set (After.below _) _ _) _ _) _ _) _ _; (go_simp; rfl)) | (exact Below.refl _ _; rfl)); intro x1; have hle := After.le x1; (try simp at hle)))
      go_ret
      refine ⟨rfl, ?_⟩
      (repeat (first | exact Below.refl _ _ | apply Below.drew | refine Below.alloc ?_ ?_ _ | refine Below.setCell ?_ ?_ _ | refine Below.trans ?_ (Below.mono (After.below _) ?_))); (all_goals (first | (simp; done) | (simp; omega) | omega))
    · rw [hn] at hnm
      rw [Bool.true_and]
      go_enter Try.func94, Try.ntmps94
      go_wp2_with ((go_at_call 56; refine' Calls.aft _ _ (hnm _) _; rotate_left 2; (first | (with_reducible exact After.below _; rfl) | (with_reducible exact below_drew (After.below _); rfl) | (with_reducible exact below_set (After.below _) _ _; (go_simp; rfl)) | (with_reducible exact below_set (below_set (After.below _) _ _) _ _; (go_simp; rfl)) | (with_reducible exact below_set (below_set (below_set (After.below _) _ _) _ _) _ _; (go_simp; rfl)) | (with_reducible exact below_set (below_set (below_set (below_set (After.below _) _ _) _ _) _ _) _ _; (go_simp; rfl)) | (exact Below.refl _ _; rfl)); intro x1; have hle := After.le x1; (try simp at hle)))
      refine bodyPost_ret (v := .bool (a == 0 && b == 0)) (by simp only [results, Try.results94]; go_simp) rfl ⟨rfl, ?_⟩
      (repeat (first | exact Below.refl _ _ | apply Below.drew | refine Below.alloc ?_ ?_ _ | refine Below.setCell ?_ ?_ _ | refine Below.trans ?_ (Below.mono (After.below _) ?_))); (all_goals (first | (simp; done) | (simp; omega) | omega))
  · have he2 : v.toList = [] := by simpa using he
    rw [if_pos he2]
    have hof := rof_any a b
    clear he2
    go_enter Try.func94, Try.ntmps94
    go_wp2_with fail
    refine' region_whole _ _ (by kernel_rfl) (by kernel_rfl) _; rotate_left 2; (first | (with_reducible exact After.below _; rfl) | (with_reducible exact below_drew (After.below _); rfl) | (with_reducible exact below_set (After.below _) _ _; (go_simp; rfl)) | (with_reducible exact below_set (below_set (After.below _) _ _) _ _; (go_simp; rfl)) | (with_reducible exact below_set (below_set (below_set (After.below _) _ _) _ _) _ _; (go_simp; rfl)) | (with_reducible exact below_set (below_set (below_set (below_set (After.below _) _ _) _ _) _ _) _ _; (go_simp; rfl)) | (exact Below.refl _ _; rfl)); (repeat (go_big_quiet_step (first | (go_at_call 127; exact Calls.after_of (hof _))))); refine wpQuiet_nil ?_; intro z
    go_wp2_with fail
    refine bodyPost_ret (v := .bool (a == Go.Proofs.Ytjjmoibnmdbpeaa.wr a && b == Go.Proofs.Ytjjmoibnmdbpeaa.wr b)) (by simp only [results, Try.results94]; go_simp) rfl ⟨rfl, ?_⟩
    have hz := z.le; simp at hz
    (repeat (first | exact Below.refl _ _ | apply Below.drew | refine Below.alloc ?_ ?_ _ | refine Below.setCell ?_ ?_ _ | refine Below.trans ?_ (Below.mono (After.below _) ?_))); (all_goals (first | (simp; done) | (simp; omega) | omega))

theorem exprB_list (op : Int) (x y : At) : exprB ⟨op, x, y⟩ = ((atomsOf ⟨op, x, y⟩).all atomB && (((atomsOf ⟨op, x, y⟩).length : Int) == 2 || (((atomsOf ⟨op, x, y⟩).length : Int) == 1 && zeroA y))) := by
  rcases op_cases op with hop | hop | ⟨_, _, _, _, _, n0, n1⟩
  · rw [exprB_1 op hop, show atomsOf ⟨op, x, y⟩ = [x] by simp only [atomsOf]; rw [if_pos hop]]
    simp
  · rw [exprB_2 op hop, show atomsOf ⟨op, x, y⟩ = [x, y] by simp only [atomsOf]; rw [if_neg (by omega), if_pos hop]]
    simp
  · rw [exprB_3 op n0 n1, show atomsOf ⟨op, x, y⟩ = [] by simp only [atomsOf]; rw [if_neg n0, if_neg n1]]
    simp
theorem atomsOf_len (x : Ex) : (atomsOf x).length ≤ 2 := by
  unfold atomsOf
  split
  · simp
  · split <;> simp

set_option maxRecDepth 100000 in
set_option maxHeartbeats 1000000 in
theorem rexpr_any (op : Int) (v1 : ByteArray) (a1 b1 : Int) (v2 : ByteArray) (a2 b2 : Int) (w : World) :
    Calls Try.prog 95 #[.agg #[.int .i64 op, .string v1, .int .i64 a1, .int .i64 b1, .string v2, .int .i64 a2, .int .i64 b2]] w fun e w' => e = .returned (.bool (exprB ⟨op, ⟨v1, a1, b1⟩, ⟨v2, a2, b2⟩⟩)) ∧ Below w.heap.size w w' := by
  have hat := ratoms_any op v1 a1 b1 v2 a2 b2
  have hz := zeroA_eq v2 a2 b2
  have hll := atomsOf_len ⟨op, ⟨v1, a1, b1⟩, ⟨v2, a2, b2⟩⟩
  rw [exprB_list]
  generalize zeroA ⟨v2, a2, b2⟩ = z at hz
  generalize atomsOf ⟨op, ⟨v1, a1, b1⟩, ⟨v2, a2, b2⟩⟩ = L at hat hll
  obtain ⟨R, hR⟩ : ∃ R, Hid ((L.all atomB && ((L.length : Int) == 2 || ((L.length : Int) == 1 && z))) = R) := ⟨_, rfl⟩
  rw [hR]
  go_enter Try.func95, Try.ntmps95
  go_wp2_with ((go_at_call 128; refine' Calls.aftS _ _ (hat _) _; rotate_left 2; (first | (with_reducible exact After.below _; rfl) | (with_reducible exact below_drew (After.below _); rfl) | (with_reducible exact below_set (After.below _) _ _; (go_simp; rfl)) | (with_reducible exact below_set (below_set (After.below _) _ _) _ _; (go_simp; rfl)) | (with_reducible exact below_set (below_set (below_set (After.below _) _ _) _ _) _ _; (go_simp; rfl)) | (with_reducible exact below_set (below_set (below_set (below_set (After.below _) _ _) _ _) _ _) _ _; (go_simp; rfl)) | (exact Below.refl _ _; rfl)); intro o x1 ho; have hle := After.le x1; (try simp at hle)); obtain ⟨b, off, p, cap, rfl, hp, hc⟩ := ho.open At.cs_len)
  obtain ⟨W1, hW1⟩ : ∃ W1, W1 = x1.val := ⟨_, rfl⟩
  have hb1 := x1.below
  rw [← hW1] at hc ho hle hb1 ⊢
  clear hW1
  have hB0 : Below w.heap.size w W1 := ((Below.refl _ _).alloc (Nat.le_refl _) _).trans (hb1.mono (by simp))
  have bx : W1.cell? ⟨w.heap.size, 4, none⟩ = some (.string v2) := (hb1.cell (p := ⟨w.heap.size, 4, none⟩) (by simp)).trans (by simp)
  have bx2 : W1.cell? ⟨w.heap.size, 5, none⟩ = some (.int .i64 a2) := (hb1.cell (p := ⟨w.heap.size, 5, none⟩) (by simp)).trans (by simp)
  have bx3 : W1.cell? ⟨w.heap.size, 6, none⟩ = some (.int .i64 b2) := (hb1.cell (p := ⟨w.heap.size, 6, none⟩) (by simp)).trans (by simp)
  clear hb1 ho
  go_loopw [10] (fun i wr => ∃ k : Nat, k ≤ L.length ∧ i = .int .i64 k ∧ (L.take k).all atomB = true ∧ Below W1.heap.size W1 wr) (fun i _ => L.length - (intOf i).toNat)
  case atStart => exact ⟨0, Nat.zero_le _, rfl, by simp, Below.refl _ _⟩
  case round =>
    obtain ⟨k, hk, rfl, hall, hB⟩ := hrel
    have hw := hB.size
    have hBw := hB0.trans (hB.mono hB0.size)
    have hww := hBw.size
    by_cases hlt : k < L.length
    · obtain rfl := hp (by omega)
      have hlt2 : (k : Int) < L.length := by omega
      have hbad : atomB (L[k]'hlt) = false → R = false := fun h => by rw [← hR, all_bad hlt h]; rfl
      have hnext : atomB (L[k]'hlt) = true → (L.take (k + 1)).all atomB = true := fun h => all_next hlt hall h
      have hcr : ∀ r u, ((L[k]'hlt).cs)[r]? = some u → wr.cell? ⟨b, off + k * 3 + r, none⟩ = some u := fun r u hu => by
        rw [Nat.add_assoc]
        exact (hB.cell (p := ⟨b, off + (k * 3 + r), none⟩) (World.block_lt_of_cell? _ _ (hc k hlt r u hu))).trans (hc k hlt r u hu)
      clear hc hall
      generalize L[k]'hlt = y at hcr hbad hnext
      obtain ⟨yv, ya, yb⟩ := y
      have c0 : wr.cell? ⟨b, off + k * 3, none⟩ = some (.string yv) := hcr 0 _ rfl
      have c1 : wr.cell? ⟨b, off + k * 3 + 1, none⟩ = some (.int .i64 ya) := hcr 1 _ rfl
      have c2 : wr.cell? ⟨b, off + k * 3 + 2, none⟩ = some (.int .i64 yb) := hcr 2 _ rfl
      have hg := World.block_lt_of_cell? _ _ c0
      clear hcr
      have hra := ratom_any yv ya yb
      cases hn : atomB ⟨yv, ya, yb⟩
      · rw [hn] at hra
        have hf := hbad hn
        subst hf
        clear hbad hnext hn
        go_wp2_with ((go_at_call 94; refine' Calls.aft _ _ (hra _) _; rotate_left 2; (first | (with_reducible exact After.below _; rfl) | (with_reducible exact below_drew (After.below _); rfl) | (with_reducible exact below_set (After.below _) _ _; (go_simp; rfl)) | (with_reducible exact below_set (below_set (After.below _) _ _) _ _; (go_simp; rfl)) | (with_reducible exact below_set (below_set (below_set (After.below _) _ _) _ _) _ _; (go_simp; rfl)) | (with_reducible exact below_set (below_set (below_set (below_set (After.below _) _ _) _ _) _ _) _ _; (go_simp; rfl)) | (exact Below.refl _ _; rfl)); intro x1; have hle := After.le x1; (try simp at hle)))
        go_ret
        exact ⟨rfl, (hBw.alloc hww _).trans (x1.below.mono (by simp; omega))⟩
      · rw [hn] at hra
        have hx := And.intro True.intro (hnext hn)
        clear hbad hnext hn
        go_wp2_with ((go_at_call 94; refine' Calls.aft _ _ (hra _) _; rotate_left 2; (first | (with_reducible exact After.below _; rfl) | (with_reducible exact below_drew (After.below _); rfl) | (with_reducible exact below_set (After.below _) _ _; (go_simp; rfl)) | (with_reducible exact below_set (below_set (After.below _) _ _) _ _; (go_simp; rfl)) | (with_reducible exact below_set (below_set (below_set (After.below _) _ _) _ _) _ _; (go_simp; rfl)) | (with_reducible exact below_set (below_set (below_set (below_set (After.below _) _ _) _ _) _ _) _ _; (go_simp; rfl)) | (exact Below.refl _ _; rfl)); intro x1; have hle := After.le x1; (try simp at hle)))
        go_roundw
        case rel => exact ⟨k + 1, by omega, by simp, hx.2, (hB.alloc hw _).trans (x1.below.mono (by simp; omega))⟩
        case measure => simp [intOf]; omega
    · have hks : k = L.length := by omega
      subst hks
      have hlt2 : ¬ (L.length : Int) < L.length := by omega
      have hRt : R = ((L.length : Int) == 2 || ((L.length : Int) == 1 && z)) := by
        rw [← hR]; rw [List.take_length] at hall; rw [hall, Bool.true_and]
      have k0 := (hB.cell (p := ⟨w.heap.size, 4, none⟩) (World.block_lt_of_cell? _ _ bx)).trans bx
      have k1 := (hB.cell (p := ⟨w.heap.size, 5, none⟩) (World.block_lt_of_cell? _ _ bx2)).trans bx2
      have k2 := (hB.cell (p := ⟨w.heap.size, 6, none⟩) (World.block_lt_of_cell? _ _ bx3)).trans bx3
      have kl := World.block_lt_of_cell? _ _ k0
      clear hc hall
      cases t2 : ((L.length : Int) == 2)
      · cases t1 : ((L.length : Int) == 1)
        · rw [t2, t1] at hRt
          simp only [Bool.false_and, Bool.or_false] at hRt
          subst hRt
          go_wp2_with fail
          go_ret
          exact ⟨rfl, hBw⟩
        · rw [t2, t1] at hRt
          simp only [Bool.true_and, Bool.false_or] at hRt
          subst hRt
          go_wp2_with fail
          refine bodyPost_ret (v := .bool R) (by simp only [results, Try.results95]; go_simp) rfl ⟨rfl, hBw⟩
      · rw [t2] at hRt
        simp only [Bool.true_or] at hRt
        subst hRt
        go_wp2_with fail
        go_ret
        exact ⟨rfl, hBw⟩

end Go.Proofs.Ytjjmoibnmdbpeaa.Pr

