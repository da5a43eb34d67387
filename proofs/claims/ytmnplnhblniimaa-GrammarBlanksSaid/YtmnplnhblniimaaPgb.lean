/- THE PAGE'S READER: WALKS of Var and Part. -/
import Derived.Test.YtmnplnhblniimaaPga
namespace Go.Proofs.Ytmnplnhblniimaa.Gr
set_option linter.unusedVariables false
set_option linter.unusedSimpArgs false
open Go Go.RowKit

theorem has_step (l : List ByteArray) (s : ByteArray) (k : Nat) (hk : k < l.length) : has (l.take (k + 1)) s = (has (l.take k) s || (l[k]'hk).toList == s.toList) := by
  unfold has
  rw [List.take_add_one, List.any_append, List.getElem?_eq_getElem hk]
  simp

section
variable {b : Nat} {L : List Tok} {lv vv tv bv : Value} {w : World} {r : R}

set_option maxRecDepth 100000 in
set_option maxHeartbeats 2000000 in
theorem pvar_any (h : Px b L lv vv tv bv w r) (hk : Ok L r) (hL : Lok L) :
    Calls Try.prog 87 #[.pointer (some ⟨b, 0, none⟩)] w fun e w' => e = .returned (.string (varS L r)) ∧ (∃ v6, Px b L lv v6 tv bv w' (varR L r)) ∧ Keep b [9] w w' := by
  obtain ⟨i0, hi, hz0, hz1, hz2⟩ := info_parts s_info
  have f0 := eat_any h hk.i hL 1 (st [])
  have hE := took_e L r 1 (st [])
  have hV := (took_vs L r 1 (st [])).1
  have hO := hk.took hL 1 (st [])
  have hpn : (took L r 1 (st [])).e = 0 → tokn L r 1 (st []) = now L r := fun h0 => (hE h0).2.1
  unfold varR varS
  obtain ⟨q, hq⟩ : ∃ q, took L r 1 (st []) = q := ⟨_, rfl⟩
  rw [hq] at f0 hE hV hO hpn ⊢
  have yl := lt_blk h.box
  obtain ⟨vp, vc, rfl⟩ := own_len h.rows.v
  have hRR : ∃ RR, (if q.e = 0 then (if has q.vs (now L r).s = true then q else if 64 < q.vs.length + 1 then fail { q with vs := q.vs ++ [(now L r).s] } 6 (now L r).pos else { q with vs := q.vs ++ [(now L r).s] }) else q) = RR ∧
      (q.e ≠ 0 → RR = q) ∧ (q.e = 0 → tokn L r 1 (st []) = now L r ∧ q.vs.length ≤ 64 ∧ RR = if has q.vs (tokn L r 1 (st [])).s = true then q else if 64 < q.vs.length + 1 then fail { q with vs := q.vs ++ [(tokn L r 1 (st [])).s] } 6 (tokn L r 1 (st [])).pos else { q with vs := q.vs ++ [(tokn L r 1 (st [])).s] }) :=
    ⟨_, rfl, fun h0 => if_neg h0, fun h0 => ⟨hpn h0, hO.ev h0, by rw [if_pos h0, hpn h0]⟩⟩
  obtain ⟨RR, hR0, hR1, hR2⟩ := hRR
  rw [hR0]
  have hvl := hO.v
  clear hR0 hE hO hpn hk
  generalize tokn L r 1 (st []) = t at f0 hR2 ⊢
  generalize now L r = tt at hR2
  obtain ⟨tk, tp, ts, tn⟩ := t
  obtain ⟨i, e, p, n, vs, tg, bk⟩ := q
  simp only at f0 hV hR1 hR2 hvl ⊢
  subst hV
  clear h hq
  generalize r.vs = vs at f0 hR1 hR2 hvl
  have hQ1 : Hid (e ≠ 0 → RR = ⟨i, e, p, n, vs, tg, bk⟩) := hR1
  have hQ2 : Hid (e = 0 → vs.length ≤ 64 ∧ RR = if has vs ts = true then ⟨i, e, p, n, vs, tg, bk⟩ else if 64 < vs.length + 1 then fail ⟨i, e, p, n, vs ++ [ts], tg, bk⟩ 6 tp else ⟨i, e, p, n, vs ++ [ts], tg, bk⟩) := fun h0 => ⟨(hR2 h0).2.1, (hR2 h0).2.2⟩
  clear hR1 hR2
  go_enter Try.func87, Try.ntmps87
  go_wp2_with (go_at_call 33; refine f0.mono ?_; rintro e9 W2 ⟨rfl, hG2, hK2⟩; obtain ⟨y0, y1, y2, y3, y4, y5, y6, y7, yf, yl2⟩ := row8 hG2.box)
  have hcv : ∀ (W : World), Below W2.heap.size W2 W → ∀ k (hk : k < vs.length), ∃ a, vp = some ⟨a, 0, none⟩ ∧ W.cell? ⟨a, k, none⟩ = some (.string (vs[k]'hk)) := fun W hW k hk => by
    obtain ⟨g, cap, he, _⟩ := own_some hG2.rows.v (by show 0 < vs.length; omega)
    cases he
    refine ⟨g, rfl, ?_⟩
    have h1 := hG2.rows.v.cells (g := g) rfl k (.string (vs[k]'hk)) (by simp [sv, hk])
    rw [Go.WideShapes.add_plain, Nat.zero_add] at h1
    exact (hW.cell (p := ⟨g, k, none⟩) (World.block_lt_of_cell? _ _ h1)).trans h1
  go_loop [4, 14] (fun d i => ∃ k : Nat, k ≤ vs.length ∧ i = .int .i64 k ∧ d = .bool (has (vs.take k) ts)) (fun _ i => vs.length - (intOf i).toNat)
  case atStart => exact ⟨0, Nat.zero_le _, rfl, rfl⟩
  case round =>
    obtain ⟨k, hk, rfl, rfl⟩ := hrel
    by_cases hlt : k < vs.length
    · obtain ⟨a, rfl, c0⟩ := hcv _ (Below.refl _ _) k hlt
      have hlt2 : (k : Int) < vs.length := by omega
      have cl := World.block_lt_of_cell? _ _ c0
      have hst := And.intro True.intro (has_step vs ts k hlt)
      generalize vs[k]'hlt = x at c0 hst
      cases hh : has (vs.take k) ts with
      | true =>
        rw [hh] at hst
        go_wp2_with fail
        go_round
        case rel => exact ⟨k + 1, by omega, by simp, by rw [hst.2]; simp⟩
        case measure => simp [intOf]; omega
      | false =>
        rw [hh] at hst
        go_wp2_with fail
        go_round
        case rel => exact ⟨k + 1, by omega, by simp, by rw [hst.2]; simp⟩
        case measure => simp [intOf]; omega
    · have hlt2 : ¬ (k : Int) < vs.length := by omega
      obtain rfl : k = vs.length := by omega
      rw [List.take_length]
      have hG3 := hG2.below ((Below.refl _ _).alloc (Nat.le_refl _) (.cells #[.int .i64 tk, .int .i64 tp, .string ts, .int .i64 tn] 39))
      have hT3 := heap_alloc_new W2 (.cells #[.int .i64 tk, .int .i64 tp, .string ts, .int .i64 tn] 39)
      have hK3 := (hK2.mono (T' := [9]) (by simp)).alloc (.cells #[.int .i64 tk, .int .i64 tp, .string ts, .int .i64 tn] 39)
      by_cases he : e = 0
      rotate_left
      · have hR : RR = ⟨i, e, p, n, vs, tg, bk⟩ := hQ1 he
        subst hR
        clear hQ1 hQ2 hcv
        by_cases q1 : 64 < vs.length
        · have q2 : (64 : Int) < vs.length := by omega
          have fb := bad_any hG3 6 tp
          have hff : fail ⟨i, e, p, n, vs, tg, bk⟩ 6 tp = ⟨i, e, p, n, vs, tg, bk⟩ := if_neg he
          rw [hff] at fb
          go_wp2_with (go_at_call 53; refine fb.mono ?_; rintro e8 W8 ⟨rfl, hG8, hK8⟩; have hT8 := hK8.blk hT3 (by omega) (by simp); obtain ⟨z0, z1, z2, z3, zf, zl⟩ := row4 hT8)
          refine bodyPost_ret (v := .string ts) (by simp only [results, Try.results87]; go_simp) rfl ⟨rfl, ?_⟩
          exact ⟨⟨_, hG8⟩, hK3.trans (hK8.mono (by simp))⟩
        · have q2 : ¬ (64 : Int) < vs.length := by omega
          go_wp2_with fail
          refine bodyPost_ret (v := .string ts) (by simp only [results, Try.results87]; go_simp) rfl ⟨rfl, ?_⟩
          exact ⟨⟨_, hG3⟩, hK3⟩
      · subst he
        obtain ⟨hv64, hR⟩ : vs.length ≤ 64 ∧ RR = _ := hQ2 rfl
        cases hh : has vs ts with
        | true =>
          rw [hh, if_pos rfl] at hR
          subst hR
          have q2 : ¬ (64 : Int) < vs.length := by omega
          clear hQ1 hQ2 hcv
          go_wp2_with fail
          refine bodyPost_ret (v := .string ts) (by simp only [results, Try.results87]; go_simp) rfl ⟨rfl, ?_⟩
          exact ⟨⟨_, hG3⟩, hK3⟩
        | false =>
          rw [hh, if_neg (by decide)] at hR
          have hR3 : Hid (RR = _) := hR
          clear hQ1 hQ2 hcv hR
          have hG5 := (hG3.below ((Below.refl _ _).alloc (Nat.le_refl _) (.cells #[.string ts] 9))).below (Below.refl _ _).drew
          have hT5 := blkN (Below.refl _ _).drew (blkN ((Below.refl _ _).alloc (Nat.le_refl _) (.cells #[.string ts] 9)) hT3)
          have hK5 := (hK3.alloc (.cells #[.string ts] 9)).drew
          have hne : (Value.slice vp vs.length vc).ownBlock ≠ some W2.heap.size := fun he => Nat.lt_irrefl _ (hG2.rows.v.lt _ he).2
          clear hlt hlt2
          have hlt2 : ¬ (vs.length : Int) < vs.length := by omega
          go_wp2_with fail
          (go_region_law (first | (refine step_append_tells rfl (.tmp 39) (.tmp 42) 65 rfl (b + 1) 9 i0 (.string ⟨#[]⟩) 1 16 Try.underlying65 hi hz0 hz1 hz2 rfl (by decide) _ vs.length (vs.map sv) rfl hG5.rows.v _ 1 1 [.string ts] rfl rfl ?u10 (by intro u hu; simp at hu; subst hu; rfl) (by unfold maxLen; omega) (by omega) (le_of_lt_blk hG5.box) (by decide) ?_; (case u10 => exact news_at (by simp)); intro v6 W6 ho6 hg6 hv6; have hG6 := hG5.growV hg6 ts ho6; have hK6 := hK5.grown hg6 hG5.rows.v (Nat.lt_succ_self _) (by simp); have hT6 := (hg6.block _ (lt_blk hT5) (fun he => hne he.symm)).trans hT5; obtain ⟨p6, c6, rfl⟩ := own_len ho6; obtain ⟨z0, z1, z2, z3, zf, zl⟩ := row4 hT6; obtain ⟨x0, x1, x2, x3, x4, x5, x6, x7, xf, xl⟩ := row8 (keepB hg6 hG5.box hG5.rows.v))))
          all_goals (
            by_cases q1 : 64 < vs.length + 1
            · have q2 : (64 : Int) < (vs.length : Int) + 1 := by omega
              have f2 := bad_any hG6 6 tp
              go_wp2_with (go_at_call 53; refine f2.mono ?_; rintro e8 W8 ⟨rfl, hG8, hK8⟩; have hT8 := hK8.blk (heap_setCell_other _ _ _ _ (by show W2.heap.size ≠ b; omega) |>.trans hT6) (by omega) (by simp); obtain ⟨z0, z1, z2, z3, zf, zl⟩ := row4 hT8)
              refine bodyPost_ret (v := .string ts) (by simp only [results, Try.results87]; go_simp) rfl ⟨rfl, ?_⟩
              have hR4 : RR = _ := hR3
              rw [hR4, if_pos q1]
              exact ⟨⟨_, hG8⟩, (hK6.set _ (.inl rfl)).trans (hK8.mono (by simp))⟩
            · have q2 : ¬ (64 : Int) < (vs.length : Int) + 1 := by omega
              go_wp2_with fail
              refine bodyPost_ret (v := .string ts) (by simp only [results, Try.results87]; go_simp) rfl ⟨rfl, ?_⟩
              have hR4 : RR = _ := hR3
              rw [hR4, if_neg q1]
              exact ⟨⟨_, hG6⟩, hK6.set _ (.inl rfl)⟩)

set_option maxRecDepth 100000 in
set_option maxHeartbeats 1000000 in
theorem ppart_any (h : Px b L lv vv tv bv w r) (hk : Ok L r) (hL : Lok L) :
    Calls Try.prog 91 #[.pointer (some ⟨b, 0, none⟩)] w fun e w' => e = .returned (.int .i64 (partN L r)) ∧ Px b L lv vv tv bv w' (partR L r) ∧ Keep b [] w w' := by
  have f0 := pis_any h hk.i 3 (st [45])
  have f1 := fun (W : World) (hB : Below w.heap.size w W) => eat_any (h.below hB) hk.i hL 3 (st [45])
  have f2 := fun (W : World) (r2 : R) (h2 : Px b L lv vv tv bv W r2) (k2 : Ok L r2) => eat_any h2 k2.i hL 2 (st [])
  have hn := tok_n hL (hk.less hL).i 2 (st [])
  have k1 := hk.less hL
  have yl := lt_blk h.box
  unfold partR partN less at *
  cases hc : isB L r 3 (st [45]) with
  | true =>
    rw [hc] at f0 hn k1
    simp only [if_true, Bool.true_eq_false, false_and, if_false] at hn k1 ⊢
    have fx := fun (W : World) (h2 : Px b L lv vv tv bv W (took L r 3 (st [45]))) => f2 W _ h2 k1
    generalize took L r 3 (st [45]) = r2 at f1 hn k1 fx ⊢
    generalize tokn L r 3 (st [45]) = t9 at f1
    generalize tokn L r2 2 (st []) = t at hn fx ⊢
    generalize took L r2 2 (st []) = r3 at fx ⊢
    obtain ⟨tk, tp, ts, tn⟩ := t
    simp only at hn fx ⊢
    clear f2 hk k1 hc
    have hH := And.intro True.intro h
    clear h
    go_enter Try.func91, Try.ntmps91
    go_wp2_with (first | (go_at_call 27; refine' Calls.aft _ _ (f0) _; rotate_left 2; (exact Below.refl _ _; rfl); intro x1; have hle := After.le x1; (try simp at hle)) | (go_at_call 33; first | (with_reducible refine (f1 _ x1.below).mono ?_; rintro e9 W2 ⟨rfl, hG2, hK2⟩) | (with_reducible refine (fx _ hG2).mono ?_; rintro e9 W3 ⟨rfl, hG3, hK3⟩)))
    refine bodyPost_ret (v := .int .i64 (-tn)) (by simp only [results, Try.results91]; go_simp) rfl ⟨rfl, ?_⟩
    exact ⟨hG3.below ((Below.refl _ _).alloc (Nat.le_refl _) _), (((Keep.of_below x1.below).trans hK2).trans hK3).alloc _⟩
  | false =>
    rw [hc] at f0 hn k1
    simp only [if_false, Bool.false_eq_true, true_and] at hn k1 ⊢
    have fx := fun (W : World) (hB : Below w.heap.size w W) => f2 W _ (h.below hB) k1
    generalize tokn L r 2 (st []) = t at hn fx ⊢
    generalize took L r 2 (st []) = r3 at fx ⊢
    obtain ⟨tk, tp, ts, tn⟩ := t
    simp only at hn fx ⊢
    clear f2 hk k1 hc f1
    have hH := And.intro True.intro h
    clear h
    by_cases q0 : 32767 < tn
    · simp only [q0, if_true]
      go_enter Try.func91, Try.ntmps91
      go_wp2_with (first | (go_at_call 27; refine' Calls.aft _ _ (f0) _; rotate_left 2; (exact Below.refl _ _; rfl); intro x1; have hle := After.le x1; (try simp at hle)) | (go_at_call 33; refine (fx _ x1.below).mono ?_; rintro e9 W3 ⟨rfl, hG3, hK3⟩; have hT3 := heap_alloc_new W3 (.cells #[.int .i64 tk, .int .i64 tp, .string ts, .int .i64 tn] 39); have hG4 := hG3.below ((Below.refl _ _).alloc (Nat.le_refl _) (.cells #[.int .i64 tk, .int .i64 tp, .string ts, .int .i64 tn] 39)); have hb3 := lt_blk hG3.box; have f3 := bad_any hG4 6 tp) | (go_at_call 53; refine f3.mono ?_; rintro e9 W4 ⟨rfl, hG5, hK5⟩; obtain ⟨z0, z1, z2, z3, zf, zl⟩ := row4 (hK5.blk hT3 (by omega) (by simp))))
      refine bodyPost_ret (v := .int .i64 tn) (by simp only [results, Try.results91]; go_simp) rfl ⟨rfl, ?_⟩
      exact ⟨hG5, (((Keep.of_below x1.below).trans hK3).alloc _).trans hK5⟩
    · simp only [q0, if_false]
      go_enter Try.func91, Try.ntmps91
      go_wp2_with (first | (go_at_call 27; refine' Calls.aft _ _ (f0) _; rotate_left 2; (exact Below.refl _ _; rfl); intro x1; have hle := After.le x1; (try simp at hle)) | (go_at_call 33; refine (fx _ x1.below).mono ?_; rintro e9 W3 ⟨rfl, hG3, hK3⟩))
      refine bodyPost_ret (v := .int .i64 tn) (by simp only [results, Try.results91]; go_simp) rfl ⟨rfl, ?_⟩
      exact ⟨hG3.below ((Below.refl _ _).alloc (Nat.le_refl _) _), (((Keep.of_below x1.below).trans hK3)).alloc _⟩
end

end Go.Proofs.Ytmnplnhblniimaa.Gr
