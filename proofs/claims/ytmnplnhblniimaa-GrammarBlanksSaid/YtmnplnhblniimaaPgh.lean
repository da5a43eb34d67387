/- THE PAGE'S READER: WALK of Block. -/
import Derived.Test.YtmnplnhblniimaaPgg
import Derived.Deep.CutRange
namespace Go.Proofs.Ytmnplnhblniimaa.Gr
set_option linter.unusedVariables false
set_option linter.unusedSimpArgs false
open Go Go.RowKit

theorem sts_stop {L : List Tok} {r : R} (k : Nat) (h : isSt L r = false) : stsR L k r = r ∧ stsL L k r = [] := by
  cases k with
  | zero => exact ⟨rfl, rfl⟩
  | succ k =>
    unfold stsR stsL
    rw [h]
    exact ⟨rfl, rfl⟩
theorem bad_st {L : List Tok} {r : R} (h : r.e ≠ 0) : isSt L r = false := by
  unfold isSt
  rw [bad_is h, bad_is h, bad_is h]
  rfl

/-- What Block hands back. -/
def BlkOk (b : Nat) (L : List Tok) (lv : Value) (w : World) (r : R) (e : Ending) (w' : World) : Prop := ∃ (v : Value) (X : List St), e = .returned (.agg #[.string (blockB L r).n, v, .int .i64 (blockB L r).t.k, .string (blockB L r).t.x.v, .int .i64 (blockB L r).t.x.a, .int .i64 (blockB L r).t.x.b, .string (blockB L r).t.t, .string (blockB L r).t.e]) ∧
  ((blockR L r).e = 0 → X = (blockB L r).l) ∧ w'.ownsRow w.heap.size 76 9 v X.length (X.flatMap St.cs) ∧ (∃ v6 t6 b6, Px b L lv v6 t6 b6 w' (blockR L r)) ∧ Keep b [9, 39] w w'

section
variable {b : Nat} {L : List Tok} {lv vv tv bv : Value} {w : World} {r : R}

set_option maxRecDepth 100000 in
set_option maxHeartbeats 4000000 in
theorem pblock_any (h : Px b L lv vv tv bv w r) (hk : Ok L r) (hL : Lok L) (hc : Cn r) (htg : r.tg.length ≤ 80000) (hbk : r.bk.length ≤ 80000) :
    Calls Try.prog 26 #[.pointer (some ⟨b, 0, none⟩)] w (BlkOk b L lv w r) := by
  have f0 := fun (W : World) (hB : Below w.heap.size w W) => pis_any (h.below hB) hk.i 4 blockS
  have yl := lt_blk h.box
  have hR0 := heap_alloc_new w (.cells #[.string ⟨#[]⟩, .slice none 0 0, .int .i64 0, .string ⟨#[]⟩, .int .i64 0, .int .i64 0, .string ⟨#[]⟩, .string ⟨#[]⟩] 61)
  have hB0 : Below w.heap.size w (w.alloc (.cells #[.string ⟨#[]⟩, .slice none 0 0, .int .i64 0, .string ⟨#[]⟩, .int .i64 0, .int .i64 0, .string ⟨#[]⟩, .string ⟨#[]⟩] 61)) := (Below.refl _ _).alloc (Nat.le_refl _) _
  obtain ⟨bp, bc, rfl⟩ := own_len h.rows.b
  go_enter Try.func26, Try.ntmps26
  go_upto_region 1 with fail
  go_cut [14] from 5 to 14 (fun v16 wx => v16 = .bool (decide (isB L r 4 blockS = true ∧ r.bk.length = 128)) ∧ Below w.heap.size w wx ∧ wx.heap[w.heap.size]? = some (.cells #[.string ⟨#[]⟩, .slice none 0 0, .int .i64 0, .string ⟨#[]⟩, .int .i64 0, .int .i64 0, .string ⟨#[]⟩, .string ⟨#[]⟩] 61 (0, 0)))
  case first =>
    cases hb : isB L r 4 blockS with
    | false =>
      rw [hb] at f0
      go_wp2_with (go_at_call 27; refine' Calls.aft _ _ (f0 _ hB0) _; rotate_left 2; (exact Below.refl _ _; rfl); intro x1; have hle := After.le x1; (try simp at hle))
      go_meet
      case rel => exact ⟨by simp [hb], nextB x1.below hB0, blkN x1.below hR0⟩
    | true =>
      rw [hb] at f0
      obtain ⟨y0, y1, y2, y3, y4, y5, y6, y7, yf, _⟩ := row8 h.box
      go_wp2_with ((go_at_call 27; refine' Calls.aft _ _ (f0 _ hB0) _; rotate_left 2; (exact Below.refl _ _; rfl); intro x1; have hle := After.le x1; (try simp at hle)); obtain ⟨y0, y1, y2, y3, y4, y5, y6, y7, yf, _⟩ := row8 (h.below (nextB x1.below hB0)).box)
      go_meet
      case rel => exact ⟨congrArg Value.bool (by rw [Bool.eq_iff_iff]; simp [hb] <;> omega), nextB x1.below hB0, blkN x1.below hR0⟩
  case rest =>
    obtain ⟨rfl, hB1, hR1⟩ := hcut
    go_upto_if 14 with fail
    go_cut [] from 5 to 27 (fun wx => Px b L lv vv tv (.slice bp r.bk.length bc) wx (headR L r) ∧ Keep b [] w wx ∧ wx.heap[w.heap.size]? = some (.cells #[.string ⟨#[]⟩, .slice none 0 0, .int .i64 0, .string ⟨#[]⟩, .int .i64 0, .int .i64 0, .string ⟨#[]⟩, .string ⟨#[]⟩] 61 (0, 0)))
    case first =>
      have hG1 := h.below hB1
      by_cases hq : isB L r 4 blockS = true ∧ r.bk.length = 128
      · have hd : decide (isB L r 4 blockS = true ∧ r.bk.length = 128) = true := by simpa using hq
        rw [hd]
        have hh : headR L r = fail r 6 (now L r).pos := by unfold headR; rw [if_pos hq]
        obtain ⟨a, off, c, hlv, k0, k1, k2, k3⟩ := hG1.rows.tok hk.i
        obtain ⟨y0, y1, y2, y3, y4, y5, y6, y7, yf, yl9⟩ := row8 hG1.box
        rw [hlv] at y0
        have hi2 : (r.i : Int) < L.length := by have := hk.i; omega
        have kl := World.block_lt_of_cell? _ _ k0
        have fb := bad_any (hG1.below (Below.refl _ _).drew) 6 (now L r).pos
        go_wp2_with fail
        (go_region_law (first | (refine stepK rfl 53 #[.pointer (some ⟨b, 0, none⟩), .int .i64 6, .int .i64 (now L r).pos] (.tuple #[]) ?hopf fb ?_; (case hopf => (go_simp; done)); intro Wc hWc; obtain ⟨hGc, hKf⟩ := hWc)))
        all_goals (
          go_wp2_with fail
          go_meet
          case rel => exact ⟨by rw [hh]; exact hGc, ((Keep.of_below hB1).drew).trans hKf, hKf.blk (blkN (Below.refl _ _).drew hR1) (by omega) (by decide)⟩)
      · have hd : decide (isB L r 4 blockS = true ∧ r.bk.length = 128) = false := by simpa using hq
        rw [hd]
        have hh : headR L r = r := by unfold headR; rw [if_neg hq]
        go_wp2_with fail
        go_meet
        case rel => exact ⟨by rw [hh]; exact hG1, Keep.of_below hB1, hR1⟩
    case rest =>
      obtain ⟨hGh, hKh, hRh⟩ := hcut
      clear f0 hB0 hR0 hB1 hR1
      have kn := hk.name hL
      have s1 := sm_name L r
      have f1 := eat_any hGh hk.head.i hL 4 blockS
      have f2 := fun (W : World) (h2 : Px b L lv vv tv (.slice bp r.bk.length bc) W (nameR L r)) => eat_any h2 kn.i hL 1 (st [])
      have s2 := sm_took L (nameR L r) 1 (st [])
      have k2 := kn.took hL 1 (st [])
      have hbn : (took L (nameR L r) 1 (st [])).bk = r.bk := by rw [s2.bk, s1.bk]
      have f3 := fun (b6 : Value) (W : World) (h2 : Px b L lv vv tv b6 W { took L (nameR L r) 1 (st []) with bk := (took L (nameR L r) 1 (st [])).bk ++ [tokn L (nameR L r) 1 (st [])] }) => eat_any h2 k2.i hL 3 (st [123])
      obtain ⟨i0, hi, hz0, hz1, hz2⟩ := info_parts t_info
      have hbody : bodyR L r = took L { took L (nameR L r) 1 (st []) with bk := (took L (nameR L r) 1 (st [])).bk ++ [tokn L (nameR L r) 1 (st [])] } 3 (st [123]) := rfl
      have hname : (blockB L r).n = (tokn L (nameR L r) 1 (st [])).s := rfl
      generalize tokn L (nameR L r) 1 (st []) = t at f2 f3 hbody hname
      generalize took L (nameR L r) 1 (st []) = q at f2 f3 hbody hbn s2 k2
      obtain ⟨tk, tp, ts, tn⟩ := t
      obtain ⟨qi, qe, qp, qn, qvs, qtg, qbk⟩ := q
      simp only at f2 f3 hbody hbn hname
      subst hbn
      have hbody2 := And.intro True.intro (And.intro hbody hname)
      clear hbody hname
      go_wp2_with (first | (go_at_call 33; first | (with_reducible refine f1.mono ?_; rintro e9 W2 ⟨rfl, hG2, hK2⟩; have hK2a := hKh.trans hK2; have hR2 := hK2.blk hRh (by omega) (by decide)) | (with_reducible refine (f2 _ hG2).mono ?_; rintro e9 W3 ⟨rfl, hG3, hK3⟩; have hK3a := hK2a.trans hK3; have hR3 := hK3.blk hR2 (by omega) (by decide); obtain ⟨y0, y1, y2, y3, y4, y5, y6, y7, yf, yl2⟩ := row8 hG3.box)))
      have hT3 := heap_alloc_new W3 (.cells #[.int .i64 tk, .int .i64 tp, .string ts, .int .i64 tn] 39)
      have hG4 := hG3.below ((Below.refl _ _).alloc (Nat.le_refl _) (.cells #[.int .i64 tk, .int .i64 tp, .string ts, .int .i64 tn] 39))
      have hG5 := (hG4.below ((Below.refl _ _).alloc (Nat.le_refl _) (.cells #[.int .i64 tk, .int .i64 tp, .string ts, .int .i64 tn] 39))).below (Below.refl _ _).drew
      have hT5 := blkN (Below.refl _ _).drew (blkN ((Below.refl _ _).alloc (Nat.le_refl _) (.cells #[.int .i64 tk, .int .i64 tp, .string ts, .int .i64 tn] 39)) hT3)
      have hR5 := blkN (Below.refl _ _).drew (blkN ((Below.refl _ _).alloc (Nat.le_refl _) (.cells #[.int .i64 tk, .int .i64 tp, .string ts, .int .i64 tn] 39)) (blkN ((Below.refl _ _).alloc (Nat.le_refl _) (.cells #[.int .i64 tk, .int .i64 tp, .string ts, .int .i64 tn] 39)) hR3))
      have hK5 := (((hK3a.mono (T' := [9, 39]) (by simp)).alloc (.cells #[.int .i64 tk, .int .i64 tp, .string ts, .int .i64 tn] 39)).alloc (.cells #[.int .i64 tk, .int .i64 tp, .string ts, .int .i64 tn] 39)).drew
      have hne : (Value.slice bp r.bk.length bc).ownBlock ≠ some W3.heap.size := fun he => Nat.lt_irrefl _ (hG3.rows.b.lt _ he).2
      have hneR : (Value.slice bp r.bk.length bc).ownBlock ≠ some w.heap.size := own_no hG3.rows.b (ty_of hR3) (by decide)
      have hlr := lt_blk hR3
      go_cut [] from 32 to 41 (fun wx => (∃ b6, Px b L lv vv tv b6 wx ⟨qi, qe, qp, qn, qvs, qtg, r.bk ++ [⟨tk, tp, ts, tn⟩]⟩) ∧ Keep b [9, 39] w wx ∧ wx.heap[w.heap.size]? = some (.cells #[.string ⟨#[]⟩, .slice none 0 0, .int .i64 0, .string ⟨#[]⟩, .int .i64 0, .int .i64 0, .string ⟨#[]⟩, .string ⟨#[]⟩] 61 (0, 0)) ∧ wx.heap[W3.heap.size]? = some (.cells #[.int .i64 tk, .int .i64 tp, .string ts, .int .i64 tn] 39 (0, 0)))
      case first =>
        (go_region_law (first | (refine step_append_tells rfl (.tmp 36) (.tmp 38) 36 rfl (b + 1) 39 i0 (.agg #[.int .i64 0, .int .i64 0, .string ⟨#[]⟩, .int .i64 0]) 4 40 Try.underlying36 hi hz0 hz1 hz2 rfl (by decide) _ r.bk.length (Tk.cells r.bk) rfl hG5.rows.b _ 1 1 [.int .i64 tk, .int .i64 tp, .string ts, .int .i64 tn] rfl rfl ?u10 (by intro u hu; simp at hu; rcases hu with rfl | rfl | rfl | rfl <;> rfl) (by unfold maxLen; omega) (by omega) (le_of_lt_blk hG5.box) (by decide) ?_; (case u10 => exact news_at (by simp)); intro v6 W6 ho6 hg6 hv6; have hG6 := hG5.growB hg6 ⟨tk, tp, ts, tn⟩ ho6 hv6; have hK6 := hK5.grown hg6 hG5.rows.b (Nat.lt_succ_self _) (by simp); have hT6 := (hg6.block _ (lt_blk hT5) (fun he => hne he.symm)).trans hT5; have hR6 := (hg6.block _ (lt_blk hR5) (fun he => hneR he.symm)).trans hR5; obtain ⟨p6, c6, rfl⟩ := own_len ho6; obtain ⟨z0, z1, z2, z3, zf, zl⟩ := row4 hT6; obtain ⟨x0, x1, x2, x3, x4, x5, x6, x7, xf, xl⟩ := row8 (keepB hg6 hG5.box hG5.rows.b))))
        all_goals (
          go_wp2_with fail
          go_meet
          case rel => exact ⟨⟨_, hG6⟩, hK6.set _ (.inl rfl), (heap_setCell_other _ _ _ _ (by show w.heap.size ≠ b; omega)).trans hR6, (heap_setCell_other _ _ _ _ (by show W3.heap.size ≠ b; omega)).trans hT6⟩)
      case rest =>
        obtain ⟨⟨b6, hG7⟩, hK7, hR7, hT7⟩ := hcut
        obtain ⟨z0, z1, z2, z3, zf, zl⟩ := row4 hT7
        clear hT5 hT3 hR5 hG5 hG4 hK5 hne hneR f1 f2
        have hb1 := hbody2.2.1
        have kb := hk.body hL
        obtain ⟨m1, m2, m3, m4, m5⟩ := body_facts L r
        have cb : Cn (bodyR L r) := ⟨by rw [m3]; exact hc.lo, by rw [m3]; exact hc.hi, fun he => by rw [m3]; exact hc.e (by rcases m5 he with h | h; exact h.1; exact h.2.1)⟩
        obtain ⟨n1, n2, n3, n4, n5, n6⟩ := sts_facts hL L.length kb cb
        have hE : stsR L L.length (bodyR L r) = endR L r := rfl
        have hS : (blockB L r).l = stsL L L.length (bodyR L r) := rfl
        rw [hE] at n1 n2 n3
        have htge : (endR L r).tg.length ≤ 90000 := by rw [n3, m1]; omega
        have tf := term_facts hL n1
        have ft := fun (v b8 : Value) (W : World) (h2 : Px b L lv v tv b8 W (endR L r)) => pend_any h2 n1 hL htge
        have fz := fun (v t b8 : Value) (W : World) (h2 : Px b L lv v t b8 W (termR L (endR L r))) => eat_any h2 tf.1.i hL 3 (st [125])
        have hTT : (blockB L r).t = termT L (endR L r) := rfl
        generalize termT L (endR L r) = TT at ft hTT
        obtain ⟨tmk, ⟨txv, txa, txb⟩, tmt, tme⟩ := TT
        simp only at ft
        have hT2 := And.intro True.intro hTT
        clear hTT
        have f8 := f3 b6
        rw [← hb1] at f8
        have hB8 := heap_alloc_new wc (.cells #[.string ts, .slice none 0 0, .int .i64 0, .string ⟨#[]⟩, .int .i64 0, .int .i64 0, .string ⟨#[]⟩, .string ⟨#[]⟩] 61)
        have hR8 := blkN ((Below.refl _ _).alloc (Nat.le_refl _) (.cells #[.string ts, .slice none 0 0, .int .i64 0, .string ⟨#[]⟩, .int .i64 0, .int .i64 0, .string ⟨#[]⟩, .string ⟨#[]⟩] 61)) hR7
        have hlw := hK7.size
        have hlr7 := lt_blk hR7
        clear hb1 f3 hG3 hG2 hR2 hR3 hK2 hK3 hK2a hK3a hGh hKh hRh y0 y1 y2 y3 y4 y5 y6 y7 yf k2 s2 kn m1 m2 m3 m4 m5 n2 n3 n4 n5 n6
        go_wp2_with (go_at_call 33; refine (f8 _ (hG7.below ((Below.refl _ _).alloc (Nat.le_refl _) _))).mono ?_; rintro e9 W8 ⟨rfl, hG9, hK9⟩; have hK9a := (hK7.alloc (.cells #[.string ts, .slice none 0 0, .int .i64 0, .string ⟨#[]⟩, .int .i64 0, .int .i64 0, .string ⟨#[]⟩, .string ⟨#[]⟩] 61)).trans (hK9.mono (by simp)); have hbw := lt_blk hG7.box; have hR9 := hK9.blk hR8 (by omega) (by decide); have hB9 := hK9.blk hB8 (by omega) (by decide))
        have hL8 := lt_blk hB9
        have hb9 := lt_blk hG9.box
        obtain ⟨i9, hi9, hy0, hy1, hy2⟩ := info_parts st_info
        clear f8 hG7 hB8 hR8 hR7 hT7 z0 z1 z2 z3 zf zl hi hz0 hz1 hz2 i0
        generalize wc.heap.size = bx at *
        go_loopg [] L.length (fun k wr => ∃ (rr : R) (xs : List St) (v6 lv2 : Value), Px b L lv v6 tv b6 wr rr ∧ Ok L rr ∧ Cn rr ∧ (rr.e = 0 → L.length ≤ k + rr.i) ∧ stsR L k rr = endR L r ∧ (rr.e = 0 → (blockB L r).l = xs ++ stsL L k rr) ∧ xs.length + k = L.length ∧ wr.heap[bx]? = some (.cells #[.string ts, lv2, .int .i64 0, .string ⟨#[]⟩, .int .i64 0, .int .i64 0, .string ⟨#[]⟩, .string ⟨#[]⟩] 61 (0, 0)) ∧ wr.ownsRow W8.heap.size 76 9 lv2 xs.length (xs.flatMap St.cs) ∧ Keep b [9, 39] w wr ∧ wr.heap[w.heap.size]? = some (.cells #[.string ⟨#[]⟩, .slice none 0 0, .int .i64 0, .string ⟨#[]⟩, .int .i64 0, .int .i64 0, .string ⟨#[]⟩, .string ⟨#[]⟩] 61 (0, 0)) ∧ W8.heap.size ≤ wr.heap.size)
        case atStart => exact ⟨bodyR L r, [], vv, .slice none 0 0, hG9, kb, cb, fun _ => Nat.le_add_right _ _, hE, fun _ => hS, by simp, hB9, World.ownsRow_nil _ _ _ _, hK9a, hR9, Nat.le_refl _⟩
        case round =>
          obtain ⟨rr, xs, v6, lv2, hG, hok, hcn, hkl, hst, hxl, hlen, hB, hown, hK, hR, hws⟩ := hrel
          have hLl := hL.len
          have hxs5 : xs.length ≤ 1000000 := by omega
          have hlenH : Hid (xs.length + gk = L.length) := hlen
          clear hlen
          obtain ⟨lp, lc, rfl⟩ := own_len hown
          go_upto_region 8 with fail
          go_cut [56] from 47 to 56 (fun v56 wx => v56 = .bool (isSt L rr) ∧ Below wr.heap.size wr wx)
          case first =>
            have q0 := fun (W : World) (hW : Below wr.heap.size wr W) => pis_any (hG.below hW) hok.i 1 (st [])
            have q1 := fun (W : World) (hW : Below wr.heap.size wr W) => pis_any (hG.below hW) hok.i 4 inS
            have q2 := fun (W : World) (hW : Below wr.heap.size wr W) => pis_any (hG.below hW) hok.i 4 outS
            cases h0 : isB L rr 1 (st []) with
            | true =>
              rw [h0] at q0
              go_wp2_with (go_at_call 27; (with_reducible refine' Calls.aft _ _ (q0 _ (Below.refl _ _)) _; rotate_left 2; (exact Below.refl _ _; rfl); intro x1; have hle := After.le x1; (try simp at hle)))
              go_meet
              case rel => exact ⟨by simp [isSt, h0], x1.below⟩
            | false =>
              rw [h0] at q0
              cases h1 : isB L rr 4 inS with
              | true =>
                rw [h1] at q1
                go_wp2_with (go_at_call 27; first | (with_reducible refine' Calls.aft _ _ (q0 _ (Below.refl _ _)) _; rotate_left 2; (exact Below.refl _ _; rfl); intro x1; have hle := After.le x1; (try simp at hle)) | (with_reducible refine' Calls.aft _ _ (q1 _ x1.below) _; rotate_left 2; (exact Below.refl _ _; rfl); intro x2; have hle := After.le x2; (try simp at hle)))
                go_meet
                case rel => exact ⟨by simp [isSt, h0, h1], nextB x2.below x1.below⟩
              | false =>
                rw [h1] at q1
                go_wp2_with (go_at_call 27; first | (with_reducible refine' Calls.aft _ _ (q0 _ (Below.refl _ _)) _; rotate_left 2; (exact Below.refl _ _; rfl); intro x1; have hle := After.le x1; (try simp at hle)) | (with_reducible refine' Calls.aft _ _ (q1 _ x1.below) _; rotate_left 2; (exact Below.refl _ _; rfl); intro x2; have hle := After.le x2; (try simp at hle)) | (with_reducible refine' Calls.aft _ _ (q2 _ (nextB x2.below x1.below)) _; rotate_left 2; (exact Below.refl _ _; rfl); intro x3; have hle := After.le x3; (try simp at hle)))
                go_meet
                case rel => exact ⟨by simp [isSt, h0, h1], nextB x3.below (nextB x2.below x1.below)⟩
          case rest =>
            obtain ⟨rfl, hBx⟩ := hcut
            cases hs : isSt L rr with
            | false =>
              obtain ⟨z1, z2⟩ := sts_stop (L := L) gk hs
              rw [z1] at hst
              have hxe : (endR L r).e = 0 → (blockB L r).l = xs := fun h0 => by
                have h1 := hxl (hst ▸ h0)
                rw [z2, List.append_nil] at h1
                exact h1
              subst hst
              have hGe := hG.below hBx
              have hBe := blkN hBx hB
              have hoe := own_below hown hBx
              have hRe := blkN hBx hR
              have hKe := hK.next hBx
              clear z1 z2 hxl
              go_wp2_with (first | (go_at_call 55; refine (ft _ _ _ hGe).mono ?_; rintro e9 W12 ⟨rfl, ⟨v12, t12, hG12⟩, hK12⟩; have hB12 := hK12.blk hBe (by omega) (by decide); have ho12 := hK12.own hoe (by omega) (by decide); have hR12 := hK12.blk hRe (by omega) (by decide); have hK12a := hKe.trans hK12; have ht12 := ty_of hB12; have hn12 := own_no ho12 ht12 (by decide); obtain ⟨d0, d1, d2, d3, d4, d5, d6, d7, df, dl⟩ := row8 hB12) | (go_at_call 33; refine (fz v12 t12 b6 _ ?gg).mono ?_; (case gg => (repeat (first | (with_reducible exact hG12) | (refine Px.setT ?_ _ (by omega) (by (try simp only [ty_set]); assumption) (by decide) (by decide))))); rintro e9 W13 ⟨rfl, hG13, hK13⟩; have hB13 : W13.heap[bx]? = some (.cells #[.string ts, (.slice lp xs.length lc), .int .i64 tmk, .string txv, .int .i64 txa, .int .i64 txb, .string tmt, .string tme] 61 (0, 0)) := hK13.blk (heap_setCell_same _ _ 7 _ _ _ (heap_setCell_same _ _ 6 _ _ _ (heap_setCell_same _ _ 5 _ _ _ (heap_setCell_same _ _ 4 _ _ _ (heap_setCell_same _ _ 3 _ _ _ (heap_setCell_same _ _ 2 _ _ _ (hB12))))))) (by omega) (by decide); have ho13 : W13.ownsRow W8.heap.size 76 9 (.slice lp xs.length lc) xs.length (xs.flatMap St.cs) := hK13.own (by (repeat (first | (with_reducible exact ho12) | refine ownsRow_setCell_other ?_ hn12 _))) (by omega) (by decide); have hR13 : W13.heap[w.heap.size]? = some (.cells #[.string ⟨#[]⟩, .slice none 0 0, .int .i64 0, .string ⟨#[]⟩, .int .i64 0, .int .i64 0, .string ⟨#[]⟩, .string ⟨#[]⟩] 61 (0, 0)) := hK13.blk (by repeat (first | (with_reducible exact hR12) | refine setO ?_ (by omega))) (by omega) (by decide); have hK13a : Keep b [9, 39] w W13 := Keep.trans (by (repeat (first | (with_reducible exact hK12a) | (refine Keep.set ?_ _ (by first | exact Or.inl rfl | exact Or.inr (Nat.le_refl _) | (right; omega))) | (refine Keep.alloc ?_ _)))) (hK13.mono (by simp)); obtain ⟨d0, d1, d2, d3, d4, d5, d6, d7, df, dl⟩ := row8 hB13; obtain ⟨c0, c1, c2, c3, c4, c5, c6, c7, cf, cl⟩ := row8 hR13))
              refine bodyPost_ret (v := .agg #[.string ts, (.slice lp xs.length lc), .int .i64 tmk, .string txv, .int .i64 txa, .int .i64 txb, .string tmt, .string tme]) (by simp only [results, Try.results26]; go_simp) rfl ?_
              unfold BlkOk
              refine ⟨(.slice lp xs.length lc), xs, by rw [hbody2.2.2, hT2.2], fun h0 => ?_, ?_, ⟨v12, t12, b6, ?_⟩, ?_⟩
              · have z := sm_took L (termR L (endR L r)) 3 (st [125])
                exact (hxe (tf.2.2.2.2.2 (z.e h0))).symm
              · refine own_base (base := W8.heap.size) ?_ (by omega)
                have hn13 := own_no ho13 (ty_of hR13) (by decide)
                (repeat (first | (with_reducible exact ho13) | refine ownsRow_setCell_other ?_ hn13 _))
              · show Px b L lv v12 t12 b6 _ (took L (termR L (endR L r)) 3 (st [125]))
                have t1 := ty_of hR13
                (repeat (first | (with_reducible exact hG13) | (refine Px.setT ?_ _ (by omega) (by (try simp only [ty_set]); assumption) (by decide) (by decide))))
              · (repeat (first | (with_reducible exact hK13a) | (refine Keep.set ?_ _ (by first | exact Or.inl rfl | exact Or.inr (Nat.le_refl _) | (right; omega))) | (refine Keep.alloc ?_ _)))
            | true =>
              have he0 := isSt_e hs
              have hgk : ∃ k, gk = k + 1 := by
                cases gk with
                | zero => have := hok.i; have := hkl he0; omega
                | succ k => exact ⟨k, rfl⟩
              obtain ⟨k, rfl⟩ := hgk
              obtain ⟨g1, g2, g3, g4, g5, g6⟩ := stmt_facts hL hok
              have hxl0 := hxl he0
              have hS1 : stsR L (k + 1) rr = if (stmtR L rr).e = 0 then stsR L k (stmtR L rr) else stmtR L rr := by
                show (if isSt L rr then _ else _) = _
                rw [hs, if_pos rfl]
              have hS2 : stsL L (k + 1) rr = if (stmtR L rr).e = 0 then stmtS L rr :: stsL L k (stmtR L rr) else [] := by
                show (if isSt L rr then _ else _) = _
                rw [hs, if_pos rfl]
              rw [hS1] at hst
              rw [hS2] at hxl0
              have fs := fun (W : World) (hW : Below wr.heap.size wr W) => pstmt_any (hG.below hW) hok hL hcn.lo hcn.hi hs
              unfold StOk at fs
              have hGd := hBx.drew
              have hBd := blkN hGd hB
              have hod := own_below hown hGd
              have hRd := blkN hGd hR
              have hKd := hK.next hGd
              have hdz := hGd.size
              have hstH : Hid ((if (stmtR L rr).e = 0 then stsR L k (stmtR L rr) else stmtR L rr) = endR L r) := hst
              have hxlH : Hid ((blockB L r).l = xs ++ (if (stmtR L rr).e = 0 then stmtS L rr :: stsL L k (stmtR L rr) else [])) := hxl0
              have hGe0 := hBd
              clear hxl hS1 hS2 hst hxl0
              go_wp2_with fail
              have p1 := (row8 hBd).2.1
              have hbd5 := lt_blk hBd
              (go_region_law (first | (refine stepKS (g := fun S : St => .agg #[.int .i64 S.k, .string S.v, .int .i64 S.e.op, .string S.e.x.v, .int .i64 S.e.x.a, .int .i64 S.e.x.b, .string S.e.y.v, .int .i64 S.e.y.a, .int .i64 S.e.y.b]) rfl 54 #[.pointer (some ⟨b, 0, none⟩)] ?hopb (fs _ hGd) ?_; (case hopb => (go_simp; done)); rintro ⟨sk, sw, so, ⟨s1v, s1a, s1b⟩, ⟨s2v, s2a, s2b⟩⟩ W10 ⟨hSe, ⟨v10, hG10⟩, hK10⟩; have hSeH := And.intro True.intro hSe; have hB10 := hK10.blk hBd (by omega) (by decide); have ho10 := hK10.own hod (by omega) (by decide); have hR10 := hK10.blk hRd (by omega) (by decide); have hK10a := hKd.trans (hK10.mono (by simp)); have p10 := (row8 hB10).2.1; have pl10 := lt_blk hB10; have hz10 := hK10.size; clear hSe) | (refine step_append_tells rfl (.tmp 58) (.tmp 61) 59 rfl W8.heap.size 76 i9 (.agg #[.int .i64 0, .string ⟨#[]⟩, .int .i64 0, .string ⟨#[]⟩, .int .i64 0, .int .i64 0, .string ⟨#[]⟩, .int .i64 0, .int .i64 0]) 9 96 Try.underlying59 hi9 hy0 hy1 hy2 rfl (by decide) (.slice lp xs.length lc) xs.length (xs.flatMap St.cs) rfl (own_below ho10 ((Below.refl _ _).alloc (Nat.le_refl _) _)) _ 1 1 [.int .i64 sk, .string sw, .int .i64 so, .string s1v, .int .i64 s1a, .int .i64 s1b, .string s2v, .int .i64 s2a, .int .i64 s2b] rfl rfl ?u10 (by intro u hu; simp at hu; rcases hu with rfl | rfl | rfl | rfl | rfl | rfl | rfl | rfl | rfl <;> rfl) (by unfold maxLen; omega) (by omega) ?u11 (by decide) ?_; (case u10 => exact news_at (by simp)); (case u11 => (simp; omega)); intro v11 W11 ho11 hg11 hv11; have hoa := own_below ho10 ((Below.refl _ _).alloc (Nat.le_refl _) (.cells #[.int .i64 sk, .string sw, .int .i64 so, .string s1v, .int .i64 s1a, .int .i64 s1b, .string s2v, .int .i64 s2a, .int .i64 s2b] 76)); have hBa := blkN ((Below.refl _ _).alloc (Nat.le_refl _) (.cells #[.int .i64 sk, .string sw, .int .i64 so, .string s1v, .int .i64 s1a, .int .i64 s1b, .string s2v, .int .i64 s2a, .int .i64 s2b] 76)) hB10; have hRa := blkN ((Below.refl _ _).alloc (Nat.le_refl _) (.cells #[.int .i64 sk, .string sw, .int .i64 so, .string s1v, .int .i64 s1a, .int .i64 s1b, .string s2v, .int .i64 s2a, .int .i64 s2b] 76)) hR10; have hne := own_no hoa (ty_of hBa) (by decide); have hne2 := own_no hoa (ty_of hRa) (by decide); have hGw := (hG10.below ((Below.refl _ _).alloc (Nat.le_refl _) (.cells #[.int .i64 sk, .string sw, .int .i64 so, .string s1v, .int .i64 s1a, .int .i64 s1b, .string s2v, .int .i64 s2a, .int .i64 s2b] 76))).grownO hg11 hoa (by decide) (by decide) (by omega); have hBw := (hg11.block _ (lt_blk hBa) (fun he => hne he.symm)).trans hBa; have hRw := (hg11.block _ (lt_blk hRa) (fun he => hne2 he.symm)).trans hRa; have hKw := (hK10a.alloc (.cells #[.int .i64 sk, .string sw, .int .i64 so, .string s1v, .int .i64 s1a, .int .i64 s1b, .string s2v, .int .i64 s2a, .int .i64 s2b] 76)).grownN hg11 hoa (by omega); have hsw := hg11.size; obtain ⟨v2p, v2c, rfl⟩ := own_len ho11; obtain ⟨m0, m1, m2, m3, m4, m5, m6, m7, mf, ml⟩ := row8 hBw)))
              all_goals (
                go_wp2_with fail
                go_roundg k
                case measure => omega
                case rel =>
                  have hst2 : (if (stmtR L rr).e = 0 then stsR L k (stmtR L rr) else stmtR L rr) = endR L r := hstH
                  have hxl2 : (blockB L r).l = xs ++ (if (stmtR L rr).e = 0 then stmtS L rr :: stsL L k (stmtR L rr) else []) := hxlH
                  have hlen2 : xs.length + (k + 1) = L.length := hlenH
                  refine ⟨stmtR L rr, xs ++ [⟨sk, sw, ⟨so, ⟨s1v, s1a, s1b⟩, ⟨s2v, s2a, s2b⟩⟩⟩], v10, _, ?_, g1, ⟨by rw [g4]; have := hcn.lo; omega, by rw [g4]; have := hcn.e he0; omega, fun hh => by rw [g4]; exact (g6 hh).2.2⟩, fun hh => ?_, ?_, fun hh => ?_, by rw [List.length_append]; simp; omega, heap_setCell_same _ _ 1 _ _ _ hBw, own_snocB rfl (ownsRow_setCell_other ho11 (own_no ho11 (ty_of hBw) (by decide)) _), ?_, (heap_setCell_other _ _ _ _ (by show w.heap.size ≠ bx; omega)).trans hRw, ?_⟩
                  · have t1 := ty_of hBw
                    (repeat (first | (with_reducible exact hGw) | (refine Px.setT ?_ _ (by omega) (by (try simp only [ty_set]); assumption) (by decide) (by decide))))
                  · have h8 := (g6 hh).1
                    have h9 := hkl he0
                    omega
                  · by_cases hh : (stmtR L rr).e = 0
                    · rw [if_pos hh] at hst2; exact hst2
                    · rw [if_neg hh] at hst2; rw [(sts_stop k (bad_st hh)).1]; exact hst2
                  · rw [if_pos hh] at hxl2
                    rw [hxl2, ← hSeH.2 hh]
                    simp
                  · (repeat (first | (with_reducible exact hKw) | (refine Keep.set ?_ _ (by first | exact Or.inl rfl | exact Or.inr (Nat.le_refl _) | (right; omega))) | (refine Keep.alloc ?_ _)))
                  · (try simp at hsw)
                    (try simp only [World.setCell, Array.size_modify])
                    omega)
end

end Go.Proofs.Ytmnplnhblniimaa.Gr
