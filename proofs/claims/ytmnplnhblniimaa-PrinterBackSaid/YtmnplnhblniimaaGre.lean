/- THE READER: WALKS of variable and label. -/
import Derived.Test.YtmnplnhblniimaaGrd
namespace Go.Proofs.Ytmnplnhblniimaa.Gr
set_option linter.unusedVariables false
set_option linter.unusedSimpArgs false
open Go Go.RowKit

/-- What stands while there are tokens. -/
structure Ok (L : List Tok) (r : R) : Prop where
  i : r.i < L.length
  v : r.vs.length ≤ 65
  ev : r.e = 0 → r.vs.length ≤ 64

theorem took_vs (L : List Tok) (r : R) (k : Int) (s : ByteArray) : (took L r k s).vs = r.vs ∧ (took L r k s).tg = r.tg ∧ (took L r k s).bk = r.bk ∧ (took L r k s).n = r.n := by
  unfold took fail
  split
  · split <;> exact ⟨rfl, rfl, rfl, rfl⟩
  · split <;> exact ⟨rfl, rfl, rfl, rfl⟩
theorem took_e (L : List Tok) (r : R) (k : Int) (s : ByteArray) (h : (took L r k s).e = 0) : isB L r k s = true ∧ tokn L r k s = now L r ∧ r.e = 0 := by
  unfold took at h
  unfold tokn
  cases hc : isB L r k s with
  | true =>
    refine ⟨rfl, by simp, ?_⟩
    unfold isB at hc
    simp only [Bool.and_eq_true, beq_iff_eq] at hc
    exact hc.1
  | false =>
    rw [hc] at h
    simp only [Bool.false_eq_true, if_false] at h
    unfold fail at h
    by_cases h0 : r.e = 0
    · rw [if_pos h0] at h
      have : (3 : Int) = 0 := h
      omega
    · rw [if_neg h0] at h
      exact absurd h h0

section
variable {b : Nat} {L : List Tok} {lv vv tv bv : Value} {w : World} {r : R}

theorem hasN (l : List ByteArray) (s : ByteArray) (h : has l s = false) : ∀ i (hi : i < l.length), ((l[i]'hi).toList == s.toList) = false := by
  intro i hi
  cases hb : ((l[i]'hi).toList == s.toList) with
  | false => rfl
  | true =>
    have : has l s = true := by unfold has; rw [List.any_eq_true]; exact ⟨_, List.getElem_mem hi, hb⟩
    rw [h] at this; cases this

set_option maxRecDepth 100000 in
set_option maxHeartbeats 1000000 in
theorem variable_any (h : Gx b L lv vv tv bv w r) (hk : Ok L r) (hL : L.length ≤ 1000000) :
    Calls Try.prog 77 #[.pointer (some ⟨b, 0, none⟩)] w fun e w' => e = .returned (.string (varS L r)) ∧ (∃ v6, Gx b L lv v6 tv bv w' (varR L r)) ∧ Keep b [9] w w' := by
  obtain ⟨i0, hi, hz0, hz1, hz2⟩ := info_parts s_info
  have f0 := take_any h hk.i hL 1 (st [])
  have hE := took_e L r 1 (st [])
  have hV := (took_vs L r 1 (st [])).1
  have hv0 := hk.v
  unfold varR varS
  obtain ⟨q, hq⟩ : ∃ q, took L r 1 (st []) = q := ⟨_, rfl⟩
  rw [hq] at f0 hE hV ⊢
  have yl := lt_blk h.box
  obtain ⟨vp, vc, rfl⟩ := own_len h.rows.v
  by_cases q0 : q.e = 0
  rotate_left
  · simp only [q0, if_false]
    have hts : (tokn L r 1 (st [])).s = st [] := by
      unfold tokn
      cases hc : isB L r 1 (st []) with
      | false => rfl
      | true =>
        exfalso
        apply q0
        rw [← hq]
        unfold took
        rw [hc]
        unfold isB at hc
        simp only [Bool.and_eq_true, beq_iff_eq] at hc
        exact hc.1
    clear hE hk
    have hqe : ¬ q.e = 0 := q0
    generalize tokn L r 1 (st []) = t at f0 hts ⊢
    obtain ⟨tk, tp, ts, tn⟩ := t
    obtain ⟨i, e, p, n, vs, tg, bk⟩ := q
    simp only at *
    subst hts hV
    clear h hq
    go_enter Try.func77, Try.ntmps77
    go_wp2_with (go_at_call 31; refine f0.mono ?_; rintro e9 W2 ⟨rfl, hG2, hK2⟩; obtain ⟨y0, y1, y2, y3, y4, y5, y6, y7, yf, yl2⟩ := row8 hG2.box)
    refine bodyPost_ret (v := .string ⟨#[]⟩) (by simp only [results, Try.results77]; go_simp) rfl ⟨rfl, ?_⟩
    exact ⟨⟨_, hG2.below ((Below.refl _ _).alloc (Nat.le_refl _) _)⟩, (hK2.mono (by simp)).alloc _⟩
  · obtain ⟨e1, e2, e3⟩ := hE q0
    have hv1 := hk.ev e3
    simp only [q0, if_true]
    rw [e2] at f0 ⊢
    generalize now L r = t at f0 ⊢
    obtain ⟨tk, tp, ts, tn⟩ := t
    obtain ⟨i, e, p, n, vs, tg, bk⟩ := q
    simp only at *
    subst hV q0
    clear hk e1 e2 e3 h hq
    generalize r.vs = vs at f0 hv0 hv1 ⊢
    generalize hRR : (if has vs ts = true then (_ : R) else _) = RR
    have hR : Hid ((if has vs ts = true then (⟨i, 0, p, n, vs, tg, bk⟩ : R) else if 64 < vs.length + 1 then fail ⟨i, 0, p, n, vs ++ [ts], tg, bk⟩ 6 tp else ⟨i, 0, p, n, vs ++ [ts], tg, bk⟩) = RR) := hRR
    clear hRR
    go_enter Try.func77, Try.ntmps77
    go_wp2_with (go_at_call 31; refine f0.mono ?_; rintro e9 W2 ⟨rfl, hG2, hK2⟩; obtain ⟨y0, y1, y2, y3, y4, y5, y6, y7, yf, yl2⟩ := row8 hG2.box)
    have hcv : ∀ (W : World), Below W2.heap.size W2 W → ∀ k (hk : k < vs.length), ∃ a, vp = some ⟨a, 0, none⟩ ∧ W.cell? ⟨a, k, none⟩ = some (.string (vs[k]'hk)) := fun W hW k hk => by
      obtain ⟨g, cap, he, _⟩ := own_some hG2.rows.v (by show 0 < vs.length; omega)
      cases he
      refine ⟨g, rfl, ?_⟩
      have h1 := hG2.rows.v.cells (g := g) rfl k (.string (vs[k]'hk)) (by simp [sv, hk])
      rw [Go.WideShapes.add_plain, Nat.zero_add] at h1
      exact (hW.cell (p := ⟨g, k, none⟩) (World.block_lt_of_cell? _ _ h1)).trans h1
    go_loop [19] (fun i => ∃ k : Nat, k ≤ vs.length ∧ i = .int .i64 k ∧ ∀ j (hj : j < vs.length), j < k → ((vs[j]'hj).toList == ts.toList) = false) (fun i => vs.length - (intOf i).toNat)
    case atStart => exact ⟨0, Nat.zero_le _, rfl, fun j _ hj => absurd hj (Nat.not_lt_zero _)⟩
    case round =>
      obtain ⟨k, hk, rfl, hno⟩ := hrel
      by_cases hlt : k < vs.length
      · obtain ⟨a, rfl, c0⟩ := hcv _ (Below.refl _ _) k hlt
        have hlt2 : (k : Int) < vs.length := by omega
        have cl := World.block_lt_of_cell? _ _ c0
        cases hx : ((vs[k]'hlt).toList == ts.toList) with
        | true =>
          have hhas : has vs ts = true := by unfold has; rw [List.any_eq_true]; exact ⟨_, List.getElem_mem hlt, hx⟩
          generalize vs[k]'hlt = x at c0 hx
          have hR2 := hR
          unfold Hid at hR2
          rw [if_pos hhas] at hR2
          subst hR2
          clear hR hcv hno hhas
          go_wp2_with fail
          refine bodyPost_ret (v := .string ts) (by simp only [results, Try.results77]; go_simp) rfl ⟨rfl, ?_⟩
          exact ⟨⟨_, hG2.below ((Below.refl _ _).alloc (Nat.le_refl _) _)⟩, (hK2.mono (by simp)).alloc _⟩
        | false =>
          have hno2 : ∀ j (hj : j < vs.length), j < k + 1 → ((vs[j]'hj).toList == ts.toList) = false := fun j hj hjk => by
            by_cases he : j = k
            · subst he; exact hx
            · exact hno j hj (by omega)
          have hNo := And.intro True.intro hno2
          clear hno hno2
          generalize vs[k]'hlt = x at c0 hx
          go_wp2_with fail
          go_round
          case rel => exact ⟨k + 1, by omega, by simp, hNo.2⟩
          case measure => simp [intOf]; omega
      · have hlt2 : ¬ (k : Int) < vs.length := by omega
        obtain rfl : k = vs.length := by omega
        have hhas : has vs ts = false := by
          cases hc : has vs ts with
          | false => rfl
          | true =>
            unfold has at hc
            rw [List.any_eq_true] at hc
            obtain ⟨x, hx, he⟩ := hc
            obtain ⟨j, hj, rfl⟩ := List.mem_iff_getElem.1 hx
            rw [hno j hj hj] at he; cases he
        have hR2 := hR
        unfold Hid at hR2
        rw [hhas, if_neg (by decide)] at hR2
        have hR3 := And.intro True.intro hR2
        clear hR hno hhas hR2
        have hG3 := hG2.below ((Below.refl _ _).alloc (Nat.le_refl _) (.cells #[.int .i64 tk, .int .i64 tp, .string ts, .int .i64 tn] 39))
        have hG5 := (hG3.below ((Below.refl _ _).alloc (Nat.le_refl _) (.cells #[.string ts] 9))).below (Below.refl _ _).drew
        have hT5 := blkN (Below.refl _ _).drew (blkN ((Below.refl _ _).alloc (Nat.le_refl _) (.cells #[.string ts] 9)) (heap_alloc_new W2 (.cells #[.int .i64 tk, .int .i64 tp, .string ts, .int .i64 tn] 39)))
        have hK5 := (((hK2.mono (T' := [9]) (by simp)).alloc (.cells #[.int .i64 tk, .int .i64 tp, .string ts, .int .i64 tn] 39)).alloc (.cells #[.string ts] 9)).drew
        have hne : (Value.slice vp vs.length vc).ownBlock ≠ some W2.heap.size := fun he => Nat.lt_irrefl _ (hG2.rows.v.lt _ he).2
        go_wp2_with fail
        clear hcv hlt hlt2
        (go_region_law (first | (refine step_append_tells rfl (.tmp 34) (.tmp 37) 65 rfl (b + 1) 9 i0 (.string ⟨#[]⟩) 1 16 Try.underlying65 hi hz0 hz1 hz2 rfl (by decide) _ vs.length (vs.map sv) rfl hG5.rows.v _ 1 1 [.string ts] rfl rfl ?u10 (by intro u hu; simp at hu; subst hu; rfl) (by unfold maxLen; omega) (by omega) (le_of_lt_blk hG5.box) (by decide) ?_; (case u10 => exact news_at (by simp)); intro v6 W6 ho6 hg6 hv6; have hG6 := hG5.growV hg6 ts ho6; have hK6 := hK5.grown hg6 hG5.rows.v (Nat.lt_succ_self _) (by simp); have hT6 := (hg6.block _ (lt_blk hT5) (fun he => hne he.symm)).trans hT5; obtain ⟨p6, c6, rfl⟩ := own_len ho6; obtain ⟨z0, z1, z2, z3, zf, zl⟩ := row4 hT6; obtain ⟨x0, x1, x2, x3, x4, x5, x6, x7, xf, xl⟩ := row8 (keepB hg6 hG5.box hG5.rows.v))))
        all_goals (
          by_cases q1 : 64 < vs.length + 1
          · have q2 : (64 : Int) < (vs.length : Int) + 1 := by omega
            have f2 := fail_any hG6 6 tk tp tn ts
            go_wp2_with (go_at_call 43; refine f2.mono ?_; rintro e8 W8 ⟨rfl, hG8, hK8⟩; have hT8 := hK8.blk (heap_setCell_other _ _ _ _ (by show W2.heap.size ≠ b; omega) |>.trans hT6) (by omega) (by simp); obtain ⟨z0, z1, z2, z3, zf, zl⟩ := row4 hT8)
            refine bodyPost_ret (v := .string ts) (by simp only [results, Try.results77]; go_simp) rfl ⟨rfl, ?_⟩
            rw [← hR3.2, if_pos q1]
            exact ⟨⟨_, hG8⟩, (hK6.set _ (.inl rfl)).trans (hK8.mono (by simp))⟩
          · have q2 : ¬ (64 : Int) < (vs.length : Int) + 1 := by omega
            go_wp2_with fail
            refine bodyPost_ret (v := .string ts) (by simp only [results, Try.results77]; go_simp) rfl ⟨rfl, ?_⟩
            rw [← hR3.2, if_neg q1]
            exact ⟨⟨_, hG6⟩, hK6.set _ (.inl rfl)⟩)

set_option maxRecDepth 100000 in
set_option maxHeartbeats 1000000 in
theorem label_any (h : Gx b L lv vv tv bv w r) (hk : Ok L r) (hL : L.length ≤ 1000000) (htl : r.tg.length ≤ 100000) :
    Calls Try.prog 80 #[.pointer (some ⟨b, 0, none⟩)] w fun e w' => e = .returned (.string (varS L r)) ∧ (∃ t6, Gx b L lv vv t6 bv w' (lblR L r)) ∧ Keep b [9, 39] w w' := by
  obtain ⟨i0, hi, hz0, hz1, hz2⟩ := info_parts t_info
  have f0 := take_any h hk.i hL 1 (st [])
  have hV := (took_vs L r 1 (st [])).2.1
  unfold lblR varS
  generalize took L r 1 (st []) = q at f0 hV ⊢
  have yl := lt_blk h.box
  obtain ⟨vp, vc, rfl⟩ := own_len h.rows.t
  generalize tokn L r 1 (st []) = t at f0 ⊢
  obtain ⟨tk, tp, ts, tn⟩ := t
  obtain ⟨i, e, p, n, vs, tg, bk⟩ := q
  simp only at *
  subst hV
  clear hk h
  generalize r.tg = tg at f0 htl ⊢
  go_enter Try.func80, Try.ntmps80
  go_wp2_with (go_at_call 31; refine f0.mono ?_; rintro e9 W2 ⟨rfl, hG2, hK2⟩; obtain ⟨y0, y1, y2, y3, y4, y5, y6, y7, yf, yl2⟩ := row8 hG2.box)
  have hG3 := hG2.below ((Below.refl _ _).alloc (Nat.le_refl _) (.cells #[.int .i64 tk, .int .i64 tp, .string ts, .int .i64 tn] 39))
  have hG5 := (hG3.below ((Below.refl _ _).alloc (Nat.le_refl _) (.cells #[.int .i64 tk, .int .i64 tp, .string ts, .int .i64 tn] 39))).below (Below.refl _ _).drew
  have hT5 := blkN (Below.refl _ _).drew (blkN ((Below.refl _ _).alloc (Nat.le_refl _) (.cells #[.int .i64 tk, .int .i64 tp, .string ts, .int .i64 tn] 39)) (heap_alloc_new W2 (.cells #[.int .i64 tk, .int .i64 tp, .string ts, .int .i64 tn] 39)))
  have hK5 := (((hK2.mono (T' := [9, 39]) (by simp)).alloc (.cells #[.int .i64 tk, .int .i64 tp, .string ts, .int .i64 tn] 39)).alloc (.cells #[.int .i64 tk, .int .i64 tp, .string ts, .int .i64 tn] 39)).drew
  have hne : (Value.slice vp tg.length vc).ownBlock ≠ some W2.heap.size := fun he => Nat.lt_irrefl _ (hG2.rows.t.lt _ he).2
  (go_region_law (first | (refine step_append_tells rfl (.tmp 10) (.tmp 12) 36 rfl (b + 1) 39 i0 (.agg #[.int .i64 0, .int .i64 0, .string ⟨#[]⟩, .int .i64 0]) 4 40 Try.underlying36 hi hz0 hz1 hz2 rfl (by decide) _ tg.length (Tk.cells tg) rfl hG5.rows.t _ 1 1 [.int .i64 tk, .int .i64 tp, .string ts, .int .i64 tn] rfl rfl ?u10 (by intro u hu; simp at hu; rcases hu with rfl | rfl | rfl | rfl <;> rfl) (by unfold maxLen; omega) (by omega) (le_of_lt_blk hG5.box) (by decide) ?_; (case u10 => exact news_at (by simp)); intro v6 W6 ho6 hg6 hv6; have hG6 := hG5.growT hg6 ⟨tk, tp, ts, tn⟩ ho6 hv6; have hK6 := hK5.grown hg6 hG5.rows.t (Nat.lt_succ_self _) (by simp); have hT6 := (hg6.block _ (lt_blk hT5) (fun he => hne he.symm)).trans hT5; obtain ⟨p6, c6, rfl⟩ := own_len ho6; obtain ⟨z0, z1, z2, z3, zf, zl⟩ := row4 hT6; obtain ⟨x0, x1, x2, x3, x4, x5, x6, x7, xf, xl⟩ := row8 (keepB hg6 hG5.box hG5.rows.t))))
  all_goals (
    go_wp2_with fail
    refine bodyPost_ret (v := .string ts) (by simp only [results, Try.results80]; go_simp) rfl ⟨rfl, ?_⟩
    exact ⟨⟨_, hG6⟩, hK6.set _ (.inl rfl)⟩)
end

end Go.Proofs.Ytmnplnhblniimaa.Gr
