/- THE PAGE'S READER: WALKS of Bad, Is and Eat. -/
import Derived.Test.YtmnplnhblniimaaGrq
namespace Go.Proofs.Ytmnplnhblniimaa.Gr
set_option linter.unusedVariables false
set_option linter.unusedSimpArgs false
open Go Go.RowKit

section
variable {b : Nat} {L : List Tok} {lv vv tv bv : Value} {w : World} {r : R}

theorem bad_any (h : Px b L lv vv tv bv w r) (e2 p2 : Int) :
    Calls Try.prog 53 #[.pointer (some ⟨b, 0, none⟩), .int .i64 e2, .int .i64 p2] w fun e w' => e = .returned (.tuple #[]) ∧ Px b L lv vv tv bv w' (fail r e2 p2) ∧ Keep b [] w w' := by
  obtain ⟨y0, y1, y2, y3, y4, y5, y6, y7, yf, yl⟩ := row8 h.box
  unfold fail
  obtain ⟨i, e, p, n, vs, tg, bk⟩ := r
  simp only at *
  have hH := And.intro True.intro h
  clear h
  by_cases q0 : e = 0
  · simp only [q0, if_true]
    subst q0
    go_enter Try.func53, Try.ntmps53
    go_wp2_with fail
    go_end0
    exact ⟨rfl, (hH.2.put2 e2).put3 p2, ((Keep.refl _ _ _).set _ (.inl rfl)).set _ (.inl rfl)⟩
  · simp only [q0, if_false]
    go_enter Try.func53, Try.ntmps53
    go_wp2_with fail
    go_end0
    exact ⟨rfl, hH.2, Keep.refl _ _ _⟩

set_option maxRecDepth 100000 in
theorem pis_any (h : Px b L lv vv tv bv w r) (hi : r.i < L.length) (k : Int) (s : ByteArray) :
    Calls Try.prog 27 #[.pointer (some ⟨b, 0, none⟩), .int .i64 k, .string s] w fun e w' => e = .returned (.bool (isB L r k s)) ∧ Below w.heap.size w w' := by
  obtain ⟨a, off, c, rfl, k0, k1, k2, k3⟩ := h.rows.tok hi
  obtain ⟨y0, y1, y2, y3, y4, y5, y6, y7, yf, yl⟩ := row8 h.box
  have kl := World.block_lt_of_cell? _ _ k0
  have hi2 : (r.i : Int) < L.length := by omega
  unfold isB
  generalize now L r = t at k0 k1 k2 k3 ⊢
  obtain ⟨tk, tp, ts, tn⟩ := t
  obtain ⟨i, e, p, n, vs, tg, bk⟩ := r
  simp only at *
  clear h
  go_enter Try.func27, Try.ntmps27
  go_wp2_with fail
  go_region
  all_goals (
    go_wp2_with fail
    all_goals (go_ret; refine ⟨?_, ?_⟩; (refine congrArg (fun b => Ending.returned (Value.bool b)) (?_ : (_ : Bool) = _); simp_all); (repeat (first | exact Below.refl _ _ | apply Below.drew | refine Below.alloc ?_ ?_ _ | refine Below.setCell ?_ ?_ _ | refine Below.trans ?_ (Below.mono (After.below _) ?_))); (all_goals (first | (simp; done) | (simp; omega) | omega))))

set_option maxRecDepth 100000 in
set_option maxHeartbeats 1000000 in
theorem eat_any (h : Px b L lv vv tv bv w r) (hi : r.i < L.length) (hL : Lok L) (k : Int) (s : ByteArray) :
    Calls Try.prog 33 #[.pointer (some ⟨b, 0, none⟩), .int .i64 k, .string s] w fun e w' => e = .returned (.agg #[.int .i64 (tokn L r k s).kind, .int .i64 (tokn L r k s).pos, .string (tokn L r k s).s, .int .i64 (tokn L r k s).n]) ∧ Px b L lv vv tv bv w' (took L r k s) ∧ Keep b [] w w' := by
  have hbl := lt_blk h.box
  have hLl := hL.len
  obtain ⟨lp, lc, rfl⟩ : ∃ p c, lv = .slice p L.length c := by obtain ⟨_, _, p, c, hv, _⟩ := h.rows.l; exact ⟨p, c, hv⟩
  have f1 := fun (W : World) (hB : Below w.heap.size w W) => pis_any (h.below hB) hi k s
  have f2 := fun (W : World) (hB : Below w.heap.size w W) => bad_any (h.below hB) 3 (now L r).pos
  obtain ⟨a, off, c, hlv, k0, k1, k2, k3⟩ := h.rows.tok hi
  cases hlv
  have kl := World.block_lt_of_cell? _ _ k0
  have hi2 : (r.i : Int) < L.length := by omega
  have hkd : isB L r k s = true → (now L r).kind = k := isB_kind
  have hfin := hL.fin r.i hi
  rw [← now_in hi] at hfin
  obtain ⟨y0, y1, y2, y3, y4, y5, y6, y7, yf, yl⟩ := row8 h.box
  unfold tokn took
  generalize isB L r k s = cc at f1 hkd ⊢
  generalize now L r = t at k0 k1 k2 k3 f2 hkd hfin ⊢
  obtain ⟨tk, tp, ts, tn⟩ := t
  simp only at *
  have hbox := heap_alloc_new w (.cells #[.int .i64 0, .int .i64 0, .string ⟨#[]⟩, .int .i64 0] 39)
  have hT := two w (.cells #[.int .i64 0, .int .i64 0, .string ⟨#[]⟩, .int .i64 0] 39) (.cells #[.int .i64 tk, .int .i64 tp, .string ts, .int .i64 tn] 39)
  obtain ⟨hB1, hR1, hT1⟩ := hT
  have hB2 := hB1.drew
  have hR2 := blkN (Below.refl _ _).drew hR1
  have hT2 := blkN (Below.refl _ _).drew hT1
  have hH := And.intro True.intro h
  clear h
  cases cc
  · simp only [if_false, Bool.false_eq_true]
    clear hkd hfin
    go_enter Try.func33, Try.ntmps33
    go_wp2_with fail
    go_region
    all_goals (
      go_wp2_with (first | ((go_at_call 27; refine' Calls.aft _ _ (f1 _ hB2) _; rotate_left 2; (exact Below.refl _ _; rfl); intro x2; have hle := After.le x2; (try simp at hle)); obtain ⟨m0, m1, m2, m3, mf, ml⟩ := row4 (blkN x2.below hT2)) | (go_at_call 53; refine (f2 _ (nextB x2.below hB2)).mono ?_; rintro e9 W2 ⟨rfl, hG2, hK2⟩; have hb2 := hK2.blk (blkN x2.below hR2) (by omega) (by simp); obtain ⟨z0, z1, z2, z3, zf, zl⟩ := row4 hb2; have hK9 := (Keep.of_below (b := b) (T := []) (nextB x2.below hB2)).trans hK2))
      refine bodyPost_ret (v := .agg #[.int .i64 0, .int .i64 0, .string ⟨#[]⟩, .int .i64 0]) (by simp only [results, Try.results33]; go_simp) rfl ⟨rfl, ?_⟩
      refine ⟨?_, ?_⟩
      · (repeat (first | (with_reducible exact hG2) | (refine Px.new ?_ _ hH.2 (by first | exact Nat.le_refl _ | omega))))
      · (repeat (first | (with_reducible exact hK9) | (refine Keep.set ?_ _ (by first | exact Or.inl rfl | exact Or.inr (Nat.le_refl _) | (right; omega))) | (refine Keep.alloc ?_ _))))
  · simp only [if_true]
    have hk := hkd rfl
    subst hk
    clear hkd f2
    have hmin : min ((r.i : Int) + 1) ((L.length : Int) - 1) = if tk = 0 then (r.i : Int) else (r.i : Int) + 1 := by
      by_cases q : tk = 0
      · rw [if_pos q]; have := hfin.1 q; omega
      · rw [if_neg q]; have h3 : ¬ r.i + 1 = L.length := fun hh => q (hfin.2 hh); omega
    have hst : (if tk = 0 then r else { r with i := r.i + 1 }) = { r with i := if tk = 0 then r.i else r.i + 1 } := by split <;> rfl
    rw [hst]
    have hcast : (if tk = 0 then (r.i : Int) else (r.i : Int) + 1) = ((if tk = 0 then r.i else r.i + 1 : Nat) : Int) := by split <;> simp
    rw [hcast] at hmin
    generalize (if tk = 0 then r.i else r.i + 1) = j at hmin ⊢
    clear hst hcast hfin
    go_enter Try.func33, Try.ntmps33
    go_wp2_with fail
    go_region
    all_goals (
      go_wp2_with ((go_at_call 27; refine' Calls.aft _ _ (f1 _ hB2) _; rotate_left 2; (exact Below.refl _ _; rfl); intro x2; have hle := After.le x2; (try simp at hle)); obtain ⟨m0, m1, m2, m3, mf, ml⟩ := row4 (blkN x2.below hT2); obtain ⟨z0, z1, z2, z3, zf, zl⟩ := row4 (blkN x2.below hR2); obtain ⟨y0, y1, y2, y3, y4, y5, y6, y7, yf, yl⟩ := row8 (hH.2.below (nextB x2.below hB2)).box)
      go_region
      all_goals (
        go_wp2_with fail
        all_goals (
          refine bodyPost_ret (v := .agg #[.int .i64 tk, .int .i64 tp, .string ts, .int .i64 tn]) (by simp only [results, Try.results33]; go_simp) rfl ⟨rfl, ?_⟩
          have hG2 := fun (x : Int) (hx : x = (j : Int)) => (hH.2.below (nextB x2.below hB2)).put1 j x hx
          have hK2 := fun (x : Int) => (Keep.of_below (b := b) (T := []) (nextB x2.below hB2)).set (j := 1) (.int .i64 x) (.inl rfl)
          refine ⟨Px.below ?_ (Below.refl _ _).drew, Keep.drew ?_⟩
          · (repeat (first | (with_reducible exact (hG2 _ (by omega))) | (refine Px.new ?_ _ hH.2 (by first | exact Nat.le_refl _ | omega))))
          · (repeat (first | (with_reducible exact (hK2 _)) | (refine Keep.set ?_ _ (by first | exact Or.inl rfl | exact Or.inr (Nat.le_refl _) | (right; omega))) | (refine Keep.alloc ?_ _))))))
end

end Go.Proofs.Ytmnplnhblniimaa.Gr
