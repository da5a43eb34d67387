/- THE READER: WALKS of now, is, fail, take, sign and word. -/
import Derived.Test.YtmnplnhblniimaaGrb
namespace Go.Proofs.Ytmnplnhblniimaa.Gr
set_option linter.unusedVariables false
set_option linter.unusedSimpArgs false
open Go Go.RowKit

section
variable {b : Nat} {L : List Tok} {lv vv tv bv : Value} {w : World} {r : R}

theorem now_any (h : Gx b L lv vv tv bv w r) (hi : r.i < L.length) :
    Calls Try.prog 44 #[.pointer (some ⟨b, 0, none⟩)] w fun e w' => e = .returned (.agg #[.int .i64 (now L r).kind, .int .i64 (now L r).pos, .string (now L r).s, .int .i64 (now L r).n]) ∧ Below w.heap.size w w' := by
  obtain ⟨a, off, c, rfl, k0, k1, k2, k3⟩ := h.rows.tok hi
  obtain ⟨y0, y1, y2, y3, y4, y5, y6, y7, yf, yl⟩ := row8 h.box
  have kl := World.block_lt_of_cell? _ _ k0
  have hi2 : (r.i : Int) < L.length := by omega
  generalize now L r = t at k0 k1 k2 k3 ⊢
  obtain ⟨tk, tp, ts, tn⟩ := t
  obtain ⟨i, e, p, n, vs, tg, bk⟩ := r
  simp only at *
  clear h
  go_enter Try.func44, Try.ntmps44
  go_wp2_with fail
  go_region
  all_goals (
    go_wp2_with fail
    refine bodyPost_ret (v := .agg #[.int .i64 tk, .int .i64 tp, .string ts, .int .i64 tn]) (by simp only [results, Try.results44]; go_simp) rfl ⟨rfl, ?_⟩
    (repeat (first | exact Below.refl _ _ | apply Below.drew | refine Below.alloc ?_ ?_ _ | refine Below.setCell ?_ ?_ _ | refine Below.trans ?_ (Below.mono (After.below _) ?_))); (all_goals (first | (simp; done) | (simp; omega) | omega)))

set_option maxRecDepth 100000 in
theorem is_any (h : Gx b L lv vv tv bv w r) (hi : r.i < L.length) (k : Int) (s : ByteArray) :
    Calls Try.prog 23 #[.pointer (some ⟨b, 0, none⟩), .int .i64 k, .string s] w fun e w' => e = .returned (.bool (isB L r k s)) ∧ Below w.heap.size w w' := by
  have f0 := now_any h hi
  obtain ⟨y0, y1, y2, y3, y4, y5, y6, y7, yf, yl⟩ := row8 h.box
  unfold isB
  generalize now L r = t at f0 ⊢
  obtain ⟨tk, tp, ts, tn⟩ := t
  obtain ⟨i, e, p, n, vs, tg, bk⟩ := r
  simp only at *
  clear h
  go_enter Try.func23, Try.ntmps23
  go_wp2_with (go_at_call 44; refine' Calls.aft _ _ (f0) _; rotate_left 2; (exact Below.refl _ _; rfl); intro x1; have hle := After.le x1; (try simp at hle))
  all_goals (go_ret; refine ⟨?_, ?_⟩; (refine congrArg (fun b => Ending.returned (Value.bool b)) (?_ : (_ : Bool) = _); simp_all); (repeat (first | exact Below.refl _ _ | apply Below.drew | refine Below.alloc ?_ ?_ _ | refine Below.setCell ?_ ?_ _ | refine Below.trans ?_ (Below.mono (After.below _) ?_))); (all_goals (first | (simp; done) | (simp; omega) | omega)))

theorem fail_any (h : Gx b L lv vv tv bv w r) (e2 k2 p2 n2 : Int) (s2 : ByteArray) :
    Calls Try.prog 43 #[.pointer (some ⟨b, 0, none⟩), .int .i64 e2, .agg #[.int .i64 k2, .int .i64 p2, .string s2, .int .i64 n2]] w fun e w' => e = .returned (.tuple #[]) ∧ Gx b L lv vv tv bv w' (fail r e2 p2) ∧ Keep b [] w w' := by
  obtain ⟨y0, y1, y2, y3, y4, y5, y6, y7, yf, yl⟩ := row8 h.box
  unfold fail
  obtain ⟨i, e, p, n, vs, tg, bk⟩ := r
  simp only at *
  have hH := And.intro True.intro h
  clear h
  by_cases q0 : e = 0
  · simp only [q0, if_true]
    subst q0
    go_enter Try.func43, Try.ntmps43
    go_wp2_with fail
    go_end0
    exact ⟨rfl, ((hH.2.put2 e2).put3 p2).below ((Below.refl _ _).alloc (Nat.le_refl _) _), (((Keep.refl _ _ _).set _ (.inl rfl)).set _ (.inl rfl)).alloc _⟩
  · simp only [q0, if_false]
    go_enter Try.func43, Try.ntmps43
    go_wp2_with fail
    go_end0
    exact ⟨rfl, hH.2.below ((Below.refl _ _).alloc (Nat.le_refl _) _), (Keep.refl _ _ _).alloc _⟩

set_option maxRecDepth 100000 in
theorem take_any (h : Gx b L lv vv tv bv w r) (hi : r.i < L.length) (hL : L.length ≤ 1000000) (k : Int) (s : ByteArray) :
    Calls Try.prog 31 #[.pointer (some ⟨b, 0, none⟩), .int .i64 k, .string s] w fun e w' => e = .returned (.agg #[.int .i64 (tokn L r k s).kind, .int .i64 (tokn L r k s).pos, .string (tokn L r k s).s, .int .i64 (tokn L r k s).n]) ∧ Gx b L lv vv tv bv w' (took L r k s) ∧ Keep b [] w w' := by
  have f0 := fun (W : World) (hB : Below w.heap.size w W) => now_any (h.below hB) hi
  have f1 := fun (W : World) (hB : Below w.heap.size w W) => is_any (h.below hB) hi k s
  have f2 := fun (W : World) (hB : Below w.heap.size w W) => fail_any (h.below hB) 3 (now L r).kind (now L r).pos (now L r).n (now L r).s
  have yl := lt_blk h.box
  have hk : isB L r k s = true → (now L r).kind = k := fun hh => by
    unfold isB at hh
    simp only [Bool.and_eq_true, beq_iff_eq] at hh
    exact hh.2.1
  unfold tokn took
  generalize isB L r k s = c at f1 hk ⊢
  generalize now L r = t at f0 f2 hk ⊢
  obtain ⟨tk, tp, ts, tn⟩ := t
  simp only at *
  have hB0 : Below w.heap.size w (w.alloc (.cells #[.int .i64 0, .int .i64 0, .string ⟨#[]⟩, .int .i64 0] 39)) := (Below.refl _ _).alloc (Nat.le_refl _) _
  have hbox := heap_alloc_new w (.cells #[.int .i64 0, .int .i64 0, .string ⟨#[]⟩, .int .i64 0] 39)
  have hH := And.intro True.intro h
  cases c
  · simp only [if_false, Bool.false_eq_true]
    clear h hk
    go_enter Try.func31, Try.ntmps31
    go_wp2_with (first | (go_at_call 44; refine' Calls.aft _ _ (f0 _ hB0) _; rotate_left 2; (exact Below.refl _ _; rfl); intro x1; have hle := After.le x1; (try simp at hle)) | (go_at_call 23; refine' Calls.aft _ _ (f1 _ (nextB ((Below.refl _ _).alloc (Nat.le_refl _) _) (nextB x1.below hB0))) _; rotate_left 2; (exact Below.refl _ _; rfl); intro x2; have hle := After.le x2; (try simp at hle)) | (go_at_call 43; refine (f2 _ (nextB x2.below (nextB ((Below.refl _ _).alloc (Nat.le_refl _) _) (nextB x1.below hB0)))).mono ?_; rintro e9 W2 ⟨rfl, hG2, hK2⟩; have hb2 := hK2.blk (blkN x2.below (blkN ((Below.refl _ _).alloc (Nat.le_refl _) _) (blkN x1.below hbox))) (by omega) (by simp); obtain ⟨z0, z1, z2, z3, zf, zl⟩ := row4 hb2; have hK9 := (Keep.of_below (b := b) (T := []) (nextB x2.below (nextB ((Below.refl _ _).alloc (Nat.le_refl _) _) (nextB x1.below hB0)))).trans hK2))
    refine bodyPost_ret (v := .agg #[.int .i64 0, .int .i64 0, .string ⟨#[]⟩, .int .i64 0]) (by simp only [results, Try.results31]; go_simp) rfl ⟨rfl, ?_⟩
    refine ⟨?_, ?_⟩
    · (repeat (first | (with_reducible exact hG2) | (refine Gx.new ?_ _ hH.2 (by first | exact Nat.le_refl _ | omega))))
    · (repeat (first | (with_reducible exact hK9) | (refine Keep.set ?_ _ (by first | exact Or.inl rfl | exact Or.inr (Nat.le_refl _) | (right; omega))) | (refine Keep.alloc ?_ _)))
  · simp only [if_true]
    obtain rfl := hk rfl
    obtain ⟨y0, y1, y2, y3, y4, y5, y6, y7, yf, _⟩ := row8 h.box
    clear h hk f2
    by_cases q0 : tk = 0
    · simp only [q0, if_true]
      subst q0
      go_enter Try.func31, Try.ntmps31
      go_wp2_with (first | (go_at_call 44; refine' Calls.aft _ _ (f0 _ hB0) _; rotate_left 2; (exact Below.refl _ _; rfl); intro x1; have hle := After.le x1; (try simp at hle)) | (go_at_call 23; refine' Calls.aft _ _ (f1 _ (nextB ((Below.refl _ _).alloc (Nat.le_refl _) _) (nextB x1.below hB0))) _; rotate_left 2; (exact Below.refl _ _; rfl); intro x2; have hle := After.le x2; (try simp at hle)))
      refine bodyPost_ret (v := .agg #[.int .i64 0, .int .i64 tp, .string ts, .int .i64 tn]) (by simp only [results, Try.results31]; go_simp) rfl ⟨rfl, ?_⟩
      have hB2 := nextB x2.below (nextB ((Below.refl _ _).alloc (Nat.le_refl _) _) (nextB x1.below hB0))
      have hG2 := hH.2.below hB2
      have hK2 := Keep.of_below (b := b) (T := []) hB2
      refine ⟨?_, ?_⟩
      · (repeat (first | (with_reducible exact hG2) | (refine Gx.new ?_ _ hH.2 (by first | exact Nat.le_refl _ | omega))))
      · (repeat (first | (with_reducible exact hK2) | (refine Keep.set ?_ _ (by first | exact Or.inl rfl | exact Or.inr (Nat.le_refl _) | (right; omega))) | (refine Keep.alloc ?_ _)))
    · simp only [q0, if_false]
      go_enter Try.func31, Try.ntmps31
      go_wp2_with (first | (go_at_call 44; refine' Calls.aft _ _ (f0 _ hB0) _; rotate_left 2; (exact Below.refl _ _; rfl); intro x1; have hle := After.le x1; (try simp at hle)) | (go_at_call 23; refine' Calls.aft _ _ (f1 _ (nextB ((Below.refl _ _).alloc (Nat.le_refl _) _) (nextB x1.below hB0))) _; rotate_left 2; (exact Below.refl _ _; rfl); intro x2; have hle := After.le x2; (try simp at hle)))
      refine bodyPost_ret (v := .agg #[.int .i64 tk, .int .i64 tp, .string ts, .int .i64 tn]) (by simp only [results, Try.results31]; go_simp) rfl ⟨rfl, ?_⟩
      have hB2 := nextB x2.below (nextB ((Below.refl _ _).alloc (Nat.le_refl _) _) (nextB x1.below hB0))
      have hG2 := (hH.2.below hB2).put1 (r.i + 1) (r.i + 1) (by omega)
      have hK2 := Keep.of_below (b := b) (T := []) hB2
      refine ⟨?_, ?_⟩
      · (repeat (first | (with_reducible exact hG2) | (refine Gx.new ?_ _ hH.2 (by first | exact Nat.le_refl _ | omega))))
      · (repeat (first | (with_reducible exact hK2) | (refine Keep.set ?_ _ (by first | exact Or.inl rfl | exact Or.inr (Nat.le_refl _) | (right; omega))) | (refine Keep.alloc ?_ _)))

theorem sign_any (h : Gx b L lv vv tv bv w r) (hi : r.i < L.length) (hL : L.length ≤ 1000000) (s : ByteArray) :
    Calls Try.prog 46 #[.pointer (some ⟨b, 0, none⟩), .string s] w fun e w' => e = .returned (.tuple #[]) ∧ Gx b L lv vv tv bv w' (took L r 3 s) ∧ Keep b [] w w' := by
  have f0 := take_any h hi hL 3 s
  clear h
  go_enter Try.func46, Try.ntmps46
  go_wp2_with (go_at_call 31; refine f0.mono ?_; rintro e9 W2 ⟨rfl, hG2, hK2⟩)
  go_end0
  exact ⟨rfl, hG2, hK2⟩

theorem wrd_any (h : Gx b L lv vv tv bv w r) (hi : r.i < L.length) (hL : L.length ≤ 1000000) (s : ByteArray) :
    Calls Try.prog 45 #[.pointer (some ⟨b, 0, none⟩), .string s] w fun e w' => e = .returned (.tuple #[]) ∧ Gx b L lv vv tv bv w' (took L r 4 s) ∧ Keep b [] w w' := by
  have f0 := take_any h hi hL 4 s
  clear h
  go_enter Try.func45, Try.ntmps45
  go_wp2_with (go_at_call 31; refine f0.mono ?_; rintro e9 W2 ⟨rfl, hG2, hK2⟩)
  go_end0
  exact ⟨rfl, hG2, hK2⟩

end

end Go.Proofs.Ytmnplnhblniimaa.Gr
