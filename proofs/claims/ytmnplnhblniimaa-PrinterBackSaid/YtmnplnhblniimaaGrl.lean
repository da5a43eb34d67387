/- THE READER: WALK of block. -/
import Derived.Test.YtmnplnhblniimaaGrk
import Derived.Deep.CutRange
namespace Go.Proofs.Ytmnplnhblniimaa.Gr
set_option linter.unusedVariables false
set_option linter.unusedSimpArgs false
open Go Go.RowKit

theorem st_info : (Try.prog.info? 76).map (fun i => (i.zero, i.size, i.bytes)) = some (some (.agg #[.int .i64 0, .string ⟨#[]⟩, .int .i64 0, .string ⟨#[]⟩, .int .i64 0, .int .i64 0, .string ⟨#[]⟩, .int .i64 0, .int .i64 0]), 9, 96) := by kernel_rfl

section
variable {b base : Nat} {L : List Tok} {lv vv tv bv v : Value} {w w' q : World} {r : R} {T : List TypeId} {s n : Nat} {t : TypeId} {xs : List Value}
theorem Keep.grownN (h : Keep b T w w') (g : w'.grownBy q v.ownBlock) (hown : w'.ownsRow base t s v n xs) (hb : w.heap.size ≤ base) : Keep b T w q :=
  ⟨g.os.trans h.os, g.tape.trans h.tape, g.output.trans h.output, Nat.le_trans h.size g.size, fun k hk hkb hc => (g.block k (Nat.lt_of_lt_of_le hk h.size) fun he => by have := (hown.lt k he.symm).1; omega).trans (h.block k hk hkb hc)⟩
theorem Keep.own (h : Keep b T w w') (ho : w.ownsRow base t s v n xs) (hb : b < base) (ht : t ∉ T) : w'.ownsRow base t s v n xs := by
  rcases ho with ⟨q, h4 | ⟨g, cap, cur, rfl, hbg, hg, rest⟩⟩
  · exact ⟨q, .inl h4⟩
  · exact ⟨q, .inr ⟨g, cap, cur, rfl, hbg, h.blk hg (by omega) ht, rest⟩⟩
theorem Gx.grownO (h : Gx b L lv vv tv bv w r) (hg : w.grownBy q v.ownBlock) (ho : w.ownsRow base t s v n xs) (h1 : 9 ≠ t) (h2 : 39 ≠ t) (hb : b < base) : Gx b L lv vv tv bv q r := by
  have hf : ∀ k, k ≤ b → v.ownBlock ≠ some k := fun k hk he => by have := (ho.lt k he).1; omega
  exact ⟨(hg.block b (lt_blk h.box) fun he => hf b (Nat.le_refl _) he.symm).trans h.box, Sl.grown h.rows.l hg fun p n c he => hf _ (by have := h.rows.ll p n c he; omega), h.rows.ll, h.rows.v.kept hg (ownTy h.rows.v ho h1), h.rows.t.kept hg (ownTy h.rows.t ho h2), h.rows.b.kept hg (ownTy h.rows.b ho h2), h.rows.ne⟩
theorem Px.grownO (h : Px b L lv vv tv bv w r) (hg : w.grownBy q v.ownBlock) (ho : w.ownsRow base t s v n xs) (h1 : 9 ≠ t) (h2 : 39 ≠ t) (hb : b < base) : Px b L lv vv tv bv q r := by
  have hf : ∀ k, k ≤ b → v.ownBlock ≠ some k := fun k hk he => by have := (ho.lt k he).1; omega
  exact ⟨(hg.block b (lt_blk h.box) fun he => hf b (Nat.le_refl _) he.symm).trans h.box, Sl.grown h.rows.l hg fun p n c he => hf _ (by have := h.rows.ll p n c he; omega), h.rows.ll, h.rows.v.kept hg (ownTy h.rows.v ho h1), h.rows.t.kept hg (ownTy h.rows.t ho h2), h.rows.b.kept hg (ownTy h.rows.b ho h2), h.rows.ne⟩
theorem own_snocB {X : List St} {x : St} {cs : List Value} (hcs : cs = x.cs) (h : w.ownsRow base t 9 v (X.length + 1) (X.flatMap St.cs ++ cs)) : w.ownsRow base t 9 v (X ++ [x]).length ((X ++ [x]).flatMap St.cs) := by
  subst hcs
  simpa using h
theorem stmt_yes (h : Gx b L lv vv tv bv w r) (hk : Ok L r) (hL : Lok L) (hn0 : 0 ≤ r.n) (hn1 : r.n ≤ 100000) (hs : isSt L r = true) :
    Calls Try.prog 47 #[.pointer (some ⟨b, 0, none⟩)] w fun e w' => e = .returned (.tuple #[.agg #[.int .i64 (stmtS L r).k, .string (stmtS L r).v, .int .i64 (stmtS L r).e.op, .string (stmtS L r).e.x.v, .int .i64 (stmtS L r).e.x.a, .int .i64 (stmtS L r).e.x.b, .string (stmtS L r).e.y.v, .int .i64 (stmtS L r).e.y.a, .int .i64 (stmtS L r).e.y.b], .bool true]) ∧ (∃ v6, Gx b L lv v6 tv bv w' (stmtR L r)) ∧ Keep b [9] w w' := by
  cases c0 : isB L r 1 (st []) with
  | true => exact stmt_name h hk hL hn0 hn1 c0
  | false => cases c1 : isB L r 4 inS with
    | true => exact stmt_in h hk hL hn0 hn1 c0 c1
    | false => cases c2 : isB L r 4 outS with
      | true => exact stmt_out h hk hL hn0 hn1 c0 c1 c2
      | false => unfold isSt at hs; rw [c0, c1, c2] at hs; cases hs
end

section
variable {b : Nat} {L : List Tok} {lv vv tv bv : Value} {w : World} {r : R}

set_option maxRecDepth 100000 in
set_option maxHeartbeats 4000000 in
theorem block_any (h : Gx b L lv vv tv bv w r) (hk : Ok L r) (hL : Lok L) (hc : Cn r) (htg : r.tg.length ≤ 80000) (hbk : r.bk.length ≤ 80000) :
    Calls Try.prog 22 #[.pointer (some ⟨b, 0, none⟩)] w fun e w' => ∃ v, e = .returned (.agg #[.string (blockB L r).n, v, .int .i64 (blockB L r).t.k, .string (blockB L r).t.x.v, .int .i64 (blockB L r).t.x.a, .int .i64 (blockB L r).t.x.b, .string (blockB L r).t.t, .string (blockB L r).t.e]) ∧
      w'.ownsRow w.heap.size 76 9 v (blockB L r).l.length ((blockB L r).l.flatMap St.cs) ∧ (∃ v6 t6 b6, Gx b L lv v6 t6 b6 w' (blockR L r)) ∧ Keep b [9, 39] w w' := by
  have f0 := fun (W : World) (hB : Below w.heap.size w W) => is_any (h.below hB) hk.i 4 blockS
  have yl := lt_blk h.box
  have hR0 := heap_alloc_new w (.cells #[.string ⟨#[]⟩, .slice none 0 0, .int .i64 0, .string ⟨#[]⟩, .int .i64 0, .int .i64 0, .string ⟨#[]⟩, .string ⟨#[]⟩] 61)
  have hB0 : Below w.heap.size w (w.alloc (.cells #[.string ⟨#[]⟩, .slice none 0 0, .int .i64 0, .string ⟨#[]⟩, .int .i64 0, .int .i64 0, .string ⟨#[]⟩, .string ⟨#[]⟩] 61)) := (Below.refl _ _).alloc (Nat.le_refl _) _
  obtain ⟨bp, bc, rfl⟩ := own_len h.rows.b
  go_enter Try.func22, Try.ntmps22
  go_upto_region 1 with fail
  go_cut [16] from 7 to 16 (fun v16 wx => v16 = .bool (decide (isB L r 4 blockS = true ∧ r.bk.length = 128)) ∧ Below w.heap.size w wx ∧ wx.heap[w.heap.size]? = some (.cells #[.string ⟨#[]⟩, .slice none 0 0, .int .i64 0, .string ⟨#[]⟩, .int .i64 0, .int .i64 0, .string ⟨#[]⟩, .string ⟨#[]⟩] 61 (0, 0)))
  case first =>
    cases hb : isB L r 4 blockS with
    | false =>
      rw [hb] at f0
      go_wp2_with (go_at_call 23; refine' Calls.aft _ _ (f0 _ hB0) _; rotate_left 2; (exact Below.refl _ _; rfl); intro x1; have hle := After.le x1; (try simp at hle))
      go_meet
      case rel => exact ⟨by simp [hb], nextB x1.below hB0, blkN x1.below hR0⟩
    | true =>
      rw [hb] at f0
      obtain ⟨y0, y1, y2, y3, y4, y5, y6, y7, yf, _⟩ := row8 h.box
      go_wp2_with ((go_at_call 23; refine' Calls.aft _ _ (f0 _ hB0) _; rotate_left 2; (exact Below.refl _ _; rfl); intro x1; have hle := After.le x1; (try simp at hle)); obtain ⟨y0, y1, y2, y3, y4, y5, y6, y7, yf, _⟩ := row8 (h.below (nextB x1.below hB0)).box)
      go_meet
      case rel => exact ⟨congrArg Value.bool (by rw [Bool.eq_iff_iff]; simp [hb] <;> omega), nextB x1.below hB0, blkN x1.below hR0⟩
  case rest =>
    obtain ⟨rfl, hB1, hR1⟩ := hcut
    go_upto_if 16 with fail
    go_cut [] from 7 to 20 (fun wx => Gx b L lv vv tv (.slice bp r.bk.length bc) wx (headR L r) ∧ Keep b [] w wx ∧ wx.heap[w.heap.size]? = some (.cells #[.string ⟨#[]⟩, .slice none 0 0, .int .i64 0, .string ⟨#[]⟩, .int .i64 0, .int .i64 0, .string ⟨#[]⟩, .string ⟨#[]⟩] 61 (0, 0)))
    case first =>
      have hG1 := h.below hB1
      by_cases hq : isB L r 4 blockS = true ∧ r.bk.length = 128
      · have hd : decide (isB L r 4 blockS = true ∧ r.bk.length = 128) = true := by simpa using hq
        rw [hd]
        have hh : headR L r = fail r 6 (now L r).pos := by unfold headR; rw [if_pos hq]
        have fn := now_any hG1 hk.i
        have ff := fun (W : World) (hB : Below _ _ W) => fail_any (hG1.below hB) 6 (now L r).kind (now L r).pos (now L r).n (now L r).s
        go_wp2_with (first | (go_at_call 44; refine' Calls.aft _ _ (fn) _; rotate_left 2; (exact Below.refl _ _; rfl); intro x1; have hle := After.le x1; (try simp at hle)) | (go_at_call 43; refine (ff _ x1.below).mono ?_; rintro e9 Wc ⟨rfl, hGc, hKf⟩))
        go_meet
        case rel => exact ⟨by rw [hh]; exact hGc, ((Keep.of_below hB1).next x1.below).trans hKf, hKf.blk (blkN x1.below hR1) (by omega) (by decide)⟩
      · have hd : decide (isB L r 4 blockS = true ∧ r.bk.length = 128) = false := by simpa using hq
        rw [hd]
        have hh : headR L r = r := by unfold headR; rw [if_neg hq]
        go_wp2_with fail
        go_meet
        case rel => exact ⟨by rw [hh]; exact hG1, Keep.of_below hB1, hR1⟩
    case rest =>
      obtain ⟨hGh, hKh, hRh⟩ := hcut
      clear f0 hB0 hR0 hB1 hR1
      have kn := hk.name hL
      have s1 := sm_name L r
      have f1 := wrd_any hGh hk.head.i hL.len blockS
      have f2 := fun (W : World) (h2 : Gx b L lv vv tv (.slice bp r.bk.length bc) W (nameR L r)) => take_any h2 kn.i hL.len 1 (st [])
      have s2 := sm_took L (nameR L r) 1 (st [])
      have k2 := kn.took hL 1 (st [])
      have hbn : (took L (nameR L r) 1 (st [])).bk = r.bk := by rw [s2.bk, s1.bk]
      have f3 := fun (b6 : Value) (W : World) (h2 : Gx b L lv vv tv b6 W { took L (nameR L r) 1 (st []) with bk := (took L (nameR L r) 1 (st [])).bk ++ [tokn L (nameR L r) 1 (st [])] }) => sign_any h2 k2.i hL.len (st [123])
      obtain ⟨i0, hi, hz0, hz1, hz2⟩ := info_parts t_info
      have hbody : bodyR L r = took L { took L (nameR L r) 1 (st []) with bk := (took L (nameR L r) 1 (st [])).bk ++ [tokn L (nameR L r) 1 (st [])] } 3 (st [123]) := rfl
      have hname : (blockB L r).n = (tokn L (nameR L r) 1 (st [])).s := rfl
      generalize tokn L (nameR L r) 1 (st []) = t at f2 f3 hbody hname
      generalize took L (nameR L r) 1 (st []) = q at f2 f3 hbody hbn s2 k2
      obtain ⟨tk, tp, ts, tn⟩ := t
      obtain ⟨qi, qe, qp, qn, qvs, qtg, qbk⟩ := q
      simp only at f2 f3 hbody hbn hname
      subst hbn
      have hbody2 := And.intro True.intro (And.intro hbody hname)
      clear hbody hname
      go_wp2_with (first | (go_at_call 45; refine f1.mono ?_; rintro e9 W2 ⟨rfl, hG2, hK2⟩; have hK2a := hKh.trans hK2; have hR2 := hK2.blk hRh (by omega) (by decide)) | (go_at_call 31; refine (f2 _ hG2).mono ?_; rintro e9 W3 ⟨rfl, hG3, hK3⟩; have hK3a := hK2a.trans hK3; have hR3 := hK3.blk hR2 (by omega) (by decide); obtain ⟨y0, y1, y2, y3, y4, y5, y6, y7, yf, yl2⟩ := row8 hG3.box))
      have hT3 := heap_alloc_new W3 (.cells #[.int .i64 tk, .int .i64 tp, .string ts, .int .i64 tn] 39)
      have hG4 := hG3.below ((Below.refl _ _).alloc (Nat.le_refl _) (.cells #[.int .i64 tk, .int .i64 tp, .string ts, .int .i64 tn] 39))
      have hG5 := (hG4.below ((Below.refl _ _).alloc (Nat.le_refl _) (.cells #[.int .i64 tk, .int .i64 tp, .string ts, .int .i64 tn] 39))).below (Below.refl _ _).drew
      have hT5 := blkN (Below.refl _ _).drew (blkN ((Below.refl _ _).alloc (Nat.le_refl _) (.cells #[.int .i64 tk, .int .i64 tp, .string ts, .int .i64 tn] 39)) hT3)
      have hR5 := blkN (Below.refl _ _).drew (blkN ((Below.refl _ _).alloc (Nat.le_refl _) (.cells #[.int .i64 tk, .int .i64 tp, .string ts, .int .i64 tn] 39)) (blkN ((Below.refl _ _).alloc (Nat.le_refl _) (.cells #[.int .i64 tk, .int .i64 tp, .string ts, .int .i64 tn] 39)) hR3))
      have hK5 := (((hK3a.mono (T' := [9, 39]) (by simp)).alloc (.cells #[.int .i64 tk, .int .i64 tp, .string ts, .int .i64 tn] 39)).alloc (.cells #[.int .i64 tk, .int .i64 tp, .string ts, .int .i64 tn] 39)).drew
      have hne : (Value.slice bp r.bk.length bc).ownBlock ≠ some W3.heap.size := fun he => Nat.lt_irrefl _ (hG3.rows.b.lt _ he).2
      have hneR : (Value.slice bp r.bk.length bc).ownBlock ≠ some w.heap.size := own_no hG3.rows.b (ty_of hR3) (by decide)
      have hlr := lt_blk hR3
      go_cut [] from 25 to 34 (fun wx => (∃ b6, Gx b L lv vv tv b6 wx ⟨qi, qe, qp, qn, qvs, qtg, r.bk ++ [⟨tk, tp, ts, tn⟩]⟩) ∧ Keep b [9, 39] w wx ∧ wx.heap[w.heap.size]? = some (.cells #[.string ⟨#[]⟩, .slice none 0 0, .int .i64 0, .string ⟨#[]⟩, .int .i64 0, .int .i64 0, .string ⟨#[]⟩, .string ⟨#[]⟩] 61 (0, 0)) ∧ wx.heap[W3.heap.size]? = some (.cells #[.int .i64 tk, .int .i64 tp, .string ts, .int .i64 tn] 39 (0, 0)))
      case first =>
        (go_region_law (first | (refine step_append_tells rfl (.tmp 29) (.tmp 31) 36 rfl (b + 1) 39 i0 (.agg #[.int .i64 0, .int .i64 0, .string ⟨#[]⟩, .int .i64 0]) 4 40 Try.underlying36 hi hz0 hz1 hz2 rfl (by decide) _ r.bk.length (Tk.cells r.bk) rfl hG5.rows.b _ 1 1 [.int .i64 tk, .int .i64 tp, .string ts, .int .i64 tn] rfl rfl ?u10 (by intro u hu; simp at hu; rcases hu with rfl | rfl | rfl | rfl <;> rfl) (by unfold maxLen; omega) (by omega) (le_of_lt_blk hG5.box) (by decide) ?_; (case u10 => exact news_at (by simp)); intro v6 W6 ho6 hg6 hv6; have hG6 := hG5.growB hg6 ⟨tk, tp, ts, tn⟩ ho6 hv6; have hK6 := hK5.grown hg6 hG5.rows.b (Nat.lt_succ_self _) (by simp); have hT6 := (hg6.block _ (lt_blk hT5) (fun he => hne he.symm)).trans hT5; have hR6 := (hg6.block _ (lt_blk hR5) (fun he => hneR he.symm)).trans hR5; obtain ⟨p6, c6, rfl⟩ := own_len ho6; obtain ⟨z0, z1, z2, z3, zf, zl⟩ := row4 hT6; obtain ⟨x0, x1, x2, x3, x4, x5, x6, x7, xf, xl⟩ := row8 (keepB hg6 hG5.box hG5.rows.b))))
        all_goals (
          go_wp2_with fail
          go_meet
          case rel => exact ⟨⟨_, hG6⟩, hK6.set _ (.inl rfl), (heap_setCell_other _ _ _ _ (by show w.heap.size ≠ b; omega)).trans hR6, (heap_setCell_other _ _ _ _ (by show W3.heap.size ≠ b; omega)).trans hT6⟩)
      case rest =>
        obtain ⟨⟨b6, hG7⟩, hK7, hR7, hT7⟩ := hcut
        obtain ⟨z0, z1, z2, z3, zf, zl⟩ := row4 hT7
        clear hT5 hT3 hR5 hG5 hG4 hK5 hne hneR f1 f2
        have hb1 := hbody2.2.1
        have kb := hk.body hL
        obtain ⟨m1, m2, m3, m4, m5⟩ := body_facts L r
        have cb : Cn (bodyR L r) := ⟨by rw [m3]; exact hc.lo, by rw [m3]; exact hc.hi, fun he => by rw [m3]; exact hc.e (by rcases m5 he with h | h; exact h.1; exact h.2.1)⟩
        obtain ⟨n1, n2, n3, n4, n5, n6⟩ := sts_facts hL L.length kb cb
        have hE : stsR L L.length (bodyR L r) = endR L r := rfl
        have hS : (blockB L r).l = stsL L L.length (bodyR L r) := rfl
        rw [hE] at n1 n2 n3
        have htge : (endR L r).tg.length ≤ 90000 := by rw [n3, m1]; omega
        have tf := term_facts hL n1
        have ft := fun (v b8 : Value) (W : World) (h2 : Gx b L lv v tv b8 W (endR L r)) => term_any h2 n1 hL htge
        have fz := fun (v t b8 : Value) (W : World) (h2 : Gx b L lv v t b8 W (termR L (endR L r))) => sign_any h2 tf.1.i hL.len (st [125])
        have hTT : (blockB L r).t = termT L (endR L r) := rfl
        generalize termT L (endR L r) = TT at ft hTT
        obtain ⟨tmk, ⟨txv, txa, txb⟩, tmt, tme⟩ := TT
        simp only at ft
        have hT2 := And.intro True.intro hTT
        clear hTT
        have f8 := f3 b6
        rw [← hb1] at f8
        have hB8 := heap_alloc_new wc (.cells #[.string ts, .slice none 0 0, .int .i64 0, .string ⟨#[]⟩, .int .i64 0, .int .i64 0, .string ⟨#[]⟩, .string ⟨#[]⟩] 61)
        have hR8 := blkN ((Below.refl _ _).alloc (Nat.le_refl _) (.cells #[.string ts, .slice none 0 0, .int .i64 0, .string ⟨#[]⟩, .int .i64 0, .int .i64 0, .string ⟨#[]⟩, .string ⟨#[]⟩] 61)) hR7
        have hlw := hK7.size
        have hlr7 := lt_blk hR7
        clear hb1 f3 hG3 hG2 hR2 hR3 hK2 hK3 hK2a hK3a hGh hKh hRh y0 y1 y2 y3 y4 y5 y6 y7 yf k2 s2 kn m1 m2 m3 m4 m5 n2 n3 n4 n5 n6
        go_wp2_with (go_at_call 46; refine (f8 _ (hG7.below ((Below.refl _ _).alloc (Nat.le_refl _) _))).mono ?_; rintro e9 W8 ⟨rfl, hG9, hK9⟩; have hK9a := (hK7.alloc (.cells #[.string ts, .slice none 0 0, .int .i64 0, .string ⟨#[]⟩, .int .i64 0, .int .i64 0, .string ⟨#[]⟩, .string ⟨#[]⟩] 61)).trans (hK9.mono (by simp)); have hbw := lt_blk hG7.box; have hR9 := hK9.blk hR8 (by omega) (by decide); have hB9 := hK9.blk hB8 (by omega) (by decide))
        have hL8 := lt_blk hB9
        have hb9 := lt_blk hG9.box
        obtain ⟨i9, hi9, hy0, hy1, hy2⟩ := info_parts st_info
        clear f8 hG7 hB8 hR8 hR7 hT7 z0 z1 z2 z3 zf zl hi hz0 hz1 hz2 i0
        go_loopg [] L.length (fun k wr => ∃ (rr : R) (xs : List St) (v6 lv2 : Value), Gx b L lv v6 tv b6 wr rr ∧ Ok L rr ∧ Cn rr ∧ L.length ≤ k + rr.i ∧ stsR L k rr = endR L r ∧ (blockB L r).l = xs ++ stsL L k rr ∧ xs.length + k = L.length ∧ wr.heap[wc.heap.size]? = some (.cells #[.string ts, lv2, .int .i64 0, .string ⟨#[]⟩, .int .i64 0, .int .i64 0, .string ⟨#[]⟩, .string ⟨#[]⟩] 61 (0, 0)) ∧ wr.ownsRow W8.heap.size 76 9 lv2 xs.length (xs.flatMap St.cs) ∧ Keep b [9, 39] w wr ∧ wr.heap[w.heap.size]? = some (.cells #[.string ⟨#[]⟩, .slice none 0 0, .int .i64 0, .string ⟨#[]⟩, .int .i64 0, .int .i64 0, .string ⟨#[]⟩, .string ⟨#[]⟩] 61 (0, 0)) ∧ W8.heap.size ≤ wr.heap.size)
        case atStart => exact ⟨bodyR L r, [], vv, .slice none 0 0, hG9, kb, cb, Nat.le_add_right _ _, hE, hS, by simp, hB9, World.ownsRow_nil _ _ _ _, hK9a, hR9, Nat.le_refl _⟩
        case round =>
          obtain ⟨rr, xs, v6, lv2, hG, hok, hcn, hkl, hst, hxl, hlen, hB, hown, hK, hR, hws⟩ := hrel
          have hfu : ∃ k, gk = k + 1 := by
            cases gk with
            | zero => have := hok.i; omega
            | succ k => exact ⟨k, rfl⟩
          obtain ⟨k, rfl⟩ := hfu
          obtain ⟨lp, lc, rfl⟩ := own_len hown
          cases hs : isSt L rr with
          | false =>
            unfold stsR at hst
            unfold stsL at hxl
            rw [hs] at hst hxl
            simp only [Bool.false_eq_true, if_false, List.append_nil] at hst hxl
            subst hst
            have fn := stmt_no hG hok hs
            go_wp2_with (first | (go_at_call 47; refine fn.mono ?_; rintro e9 W10 ⟨rfl, hG10, hK10⟩; have hGe := hG10.below ((Below.refl _ _).alloc (Nat.le_refl _) (.cells #[.int .i64 0, .string ⟨#[]⟩, .int .i64 0, .string ⟨#[]⟩, .int .i64 0, .int .i64 0, .string ⟨#[]⟩, .int .i64 0, .int .i64 0] 76)); have hBe := blkN ((Below.refl _ _).alloc (Nat.le_refl _) (.cells #[.int .i64 0, .string ⟨#[]⟩, .int .i64 0, .string ⟨#[]⟩, .int .i64 0, .int .i64 0, .string ⟨#[]⟩, .int .i64 0, .int .i64 0] 76)) (hK10.blk hB (by omega) (by simp)); have hoe := own_below (hK10.own hown (by omega) (by simp)) ((Below.refl _ _).alloc (Nat.le_refl _) (.cells #[.int .i64 0, .string ⟨#[]⟩, .int .i64 0, .string ⟨#[]⟩, .int .i64 0, .int .i64 0, .string ⟨#[]⟩, .int .i64 0, .int .i64 0] 76)); have hRe := blkN ((Below.refl _ _).alloc (Nat.le_refl _) (.cells #[.int .i64 0, .string ⟨#[]⟩, .int .i64 0, .string ⟨#[]⟩, .int .i64 0, .int .i64 0, .string ⟨#[]⟩, .int .i64 0, .int .i64 0] 76)) (hK10.blk hR (by omega) (by simp)); have hKe := (hK.trans (hK10.mono (by simp))).alloc (.cells #[.int .i64 0, .string ⟨#[]⟩, .int .i64 0, .string ⟨#[]⟩, .int .i64 0, .int .i64 0, .string ⟨#[]⟩, .int .i64 0, .int .i64 0] 76)) | (go_at_call 48; refine (ft _ _ _ hGe).mono ?_; rintro e9 W12 ⟨rfl, ⟨v12, t12, hG12⟩, hK12⟩; have hB12 := hK12.blk hBe (by omega) (by decide); have ho12 := hK12.own hoe (by omega) (by decide); have hR12 := hK12.blk hRe (by omega) (by decide); have hK12a := hKe.trans hK12; have ht12 := ty_of hB12; have hn12 := own_no ho12 ht12 (by decide); obtain ⟨d0, d1, d2, d3, d4, d5, d6, d7, df, dl⟩ := row8 hB12) | (go_at_call 46; refine (fz v12 t12 b6 _ ?gg).mono ?_; (case gg => (repeat (first | (with_reducible exact hG12) | (refine Gx.setT ?_ _ (by omega) (by (try simp only [ty_set]); assumption) (by decide) (by decide))))); rintro e9 W13 ⟨rfl, hG13, hK13⟩; have hB13 : W13.heap[wc.heap.size]? = some (.cells #[.string ts, (.slice lp xs.length lc), .int .i64 tmk, .string txv, .int .i64 txa, .int .i64 txb, .string tmt, .string tme] 61 (0, 0)) := hK13.blk (heap_setCell_same _ _ 7 _ _ _ (heap_setCell_same _ _ 6 _ _ _ (heap_setCell_same _ _ 5 _ _ _ (heap_setCell_same _ _ 4 _ _ _ (heap_setCell_same _ _ 3 _ _ _ (heap_setCell_same _ _ 2 _ _ _ (hB12))))))) (by omega) (by decide); have ho13 : W13.ownsRow W8.heap.size 76 9 (.slice lp xs.length lc) xs.length (xs.flatMap St.cs) := hK13.own (by (repeat (first | (with_reducible exact ho12) | refine ownsRow_setCell_other ?_ hn12 _))) (by omega) (by decide); have hR13 : W13.heap[w.heap.size]? = some (.cells #[.string ⟨#[]⟩, .slice none 0 0, .int .i64 0, .string ⟨#[]⟩, .int .i64 0, .int .i64 0, .string ⟨#[]⟩, .string ⟨#[]⟩] 61 (0, 0)) := hK13.blk (by repeat (first | (with_reducible exact hR12) | refine setO ?_ (by omega))) (by omega) (by decide); have hK13a : Keep b [9, 39] w W13 := Keep.trans (by (repeat (first | (with_reducible exact hK12a) | (refine Keep.set ?_ _ (by first | exact Or.inl rfl | exact Or.inr (Nat.le_refl _) | (right; omega))) | (refine Keep.alloc ?_ _)))) (hK13.mono (by simp)); obtain ⟨d0, d1, d2, d3, d4, d5, d6, d7, df, dl⟩ := row8 hB13; obtain ⟨c0, c1, c2, c3, c4, c5, c6, c7, cf, cl⟩ := row8 hR13))
            refine bodyPost_ret (v := .agg #[.string ts, (.slice lp xs.length lc), .int .i64 tmk, .string txv, .int .i64 txa, .int .i64 txb, .string tmt, .string tme]) (by simp only [results, Try.results22]; go_simp) rfl ⟨(.slice lp xs.length lc), by rw [hbody2.2.2, hT2.2], ?_, ⟨v12, t12, b6, ?_⟩, ?_⟩
            · rw [hxl]
              refine own_base (base := W8.heap.size) ?_ (by omega)
              have hn13 := own_no ho13 (ty_of hR13) (by decide)
              (repeat (first | (with_reducible exact ho13) | refine ownsRow_setCell_other ?_ hn13 _))
            · show Gx b L lv v12 t12 b6 _ (took L (termR L (endR L r)) 3 (st [125]))
              have t1 := ty_of hR13
              (repeat (first | (with_reducible exact hG13) | (refine Gx.setT ?_ _ (by omega) (by (try simp only [ty_set]); assumption) (by decide) (by decide))))
            · (repeat (first | (with_reducible exact hK13a) | (refine Keep.set ?_ _ (by first | exact Or.inl rfl | exact Or.inr (Nat.le_refl _) | (right; omega))) | (refine Keep.alloc ?_ _)))
          | true =>
            obtain ⟨g1, g2, g3, g4, g5, g6⟩ := stmt_facts hL hok
            have h0 := isSt_e hs
            have fy := stmt_yes hG hok hL hcn.lo hcn.hi hs
            unfold stsR at hst
            unfold stsL at hxl
            rw [hs] at hst hxl
            simp only [if_true] at hst hxl
            generalize stmtS L rr = S at fy hxl
            obtain ⟨sk, sw, so, ⟨s1v, s1a, s1b⟩, ⟨s2v, s2a, s2b⟩⟩ := S
            simp only at fy
            by_cases he : (stmtR L rr).e = 0
            rotate_left
            · simp only [he, if_false, List.append_nil] at hst hxl
              rw [hst] at fy he
              clear g1 g2 g3 g4 g5 g6 hst
              go_wp2_with (first | (go_at_call 47; refine fy.mono ?_; rintro e9 W10 ⟨rfl, ⟨v10, hG10⟩, hK10⟩; have hGe := hG10.below ((Below.refl _ _).alloc (Nat.le_refl _) (.cells #[.int .i64 sk, .string sw, .int .i64 so, .string s1v, .int .i64 s1a, .int .i64 s1b, .string s2v, .int .i64 s2a, .int .i64 s2b] 76)); have hBe := blkN ((Below.refl _ _).alloc (Nat.le_refl _) (.cells #[.int .i64 sk, .string sw, .int .i64 so, .string s1v, .int .i64 s1a, .int .i64 s1b, .string s2v, .int .i64 s2a, .int .i64 s2b] 76)) (hK10.blk hB (by omega) (by decide)); have hoe := own_below (hK10.own hown (by omega) (by decide)) ((Below.refl _ _).alloc (Nat.le_refl _) (.cells #[.int .i64 sk, .string sw, .int .i64 so, .string s1v, .int .i64 s1a, .int .i64 s1b, .string s2v, .int .i64 s2a, .int .i64 s2b] 76)); have hRe := blkN ((Below.refl _ _).alloc (Nat.le_refl _) (.cells #[.int .i64 sk, .string sw, .int .i64 so, .string s1v, .int .i64 s1a, .int .i64 s1b, .string s2v, .int .i64 s2a, .int .i64 s2b] 76)) (hK10.blk hR (by omega) (by decide)); have hKe := (hK.trans (hK10.mono (by simp))).alloc (.cells #[.int .i64 sk, .string sw, .int .i64 so, .string s1v, .int .i64 s1a, .int .i64 s1b, .string s2v, .int .i64 s2a, .int .i64 s2b] 76); obtain ⟨y0, y1, y2, y3, y4, y5, y6, y7, yf, yl2⟩ := row8 hG10.box) | (go_at_call 48; refine (ft _ _ _ hGe).mono ?_; rintro e9 W12 ⟨rfl, ⟨v12, t12, hG12⟩, hK12⟩; have hB12 := hK12.blk hBe (by omega) (by decide); have ho12 := hK12.own hoe (by omega) (by decide); have hR12 := hK12.blk hRe (by omega) (by decide); have hK12a := hKe.trans hK12; have ht12 := ty_of hB12; have hn12 := own_no ho12 ht12 (by decide); obtain ⟨d0, d1, d2, d3, d4, d5, d6, d7, df, dl⟩ := row8 hB12) | (go_at_call 46; refine (fz v12 t12 b6 _ ?gg).mono ?_; (case gg => (repeat (first | (with_reducible exact hG12) | (refine Gx.setT ?_ _ (by omega) (by (try simp only [ty_set]); assumption) (by decide) (by decide))))); rintro e9 W13 ⟨rfl, hG13, hK13⟩; have hB13 : W13.heap[wc.heap.size]? = some (.cells #[.string ts, (.slice lp xs.length lc), .int .i64 tmk, .string txv, .int .i64 txa, .int .i64 txb, .string tmt, .string tme] 61 (0, 0)) := hK13.blk (heap_setCell_same _ _ 7 _ _ _ (heap_setCell_same _ _ 6 _ _ _ (heap_setCell_same _ _ 5 _ _ _ (heap_setCell_same _ _ 4 _ _ _ (heap_setCell_same _ _ 3 _ _ _ (heap_setCell_same _ _ 2 _ _ _ (hB12))))))) (by omega) (by decide); have ho13 : W13.ownsRow W8.heap.size 76 9 (.slice lp xs.length lc) xs.length (xs.flatMap St.cs) := hK13.own (by (repeat (first | (with_reducible exact ho12) | refine ownsRow_setCell_other ?_ hn12 _))) (by omega) (by decide); have hR13 : W13.heap[w.heap.size]? = some (.cells #[.string ⟨#[]⟩, .slice none 0 0, .int .i64 0, .string ⟨#[]⟩, .int .i64 0, .int .i64 0, .string ⟨#[]⟩, .string ⟨#[]⟩] 61 (0, 0)) := hK13.blk (by repeat (first | (with_reducible exact hR12) | refine setO ?_ (by omega))) (by omega) (by decide); have hK13a : Keep b [9, 39] w W13 := Keep.trans (by (repeat (first | (with_reducible exact hK12a) | (refine Keep.set ?_ _ (by first | exact Or.inl rfl | exact Or.inr (Nat.le_refl _) | (right; omega))) | (refine Keep.alloc ?_ _)))) (hK13.mono (by simp)); obtain ⟨d0, d1, d2, d3, d4, d5, d6, d7, df, dl⟩ := row8 hB13; obtain ⟨c0, c1, c2, c3, c4, c5, c6, c7, cf, cl⟩ := row8 hR13))
              refine bodyPost_ret (v := .agg #[.string ts, (.slice lp xs.length lc), .int .i64 tmk, .string txv, .int .i64 txa, .int .i64 txb, .string tmt, .string tme]) (by simp only [results, Try.results22]; go_simp) rfl ⟨(.slice lp xs.length lc), by rw [hbody2.2.2, hT2.2], ?_, ⟨v12, t12, b6, ?_⟩, ?_⟩
              · rw [hxl]
                refine own_base (base := W8.heap.size) ?_ (by omega)
                have hn13 := own_no ho13 (ty_of hR13) (by decide)
                (repeat (first | (with_reducible exact ho13) | refine ownsRow_setCell_other ?_ hn13 _))
              · show Gx b L lv v12 t12 b6 _ (took L (termR L (endR L r)) 3 (st [125]))
                have t1 := ty_of hR13
                (repeat (first | (with_reducible exact hG13) | (refine Gx.setT ?_ _ (by omega) (by (try simp only [ty_set]); assumption) (by decide) (by decide))))
              · (repeat (first | (with_reducible exact hK13a) | (refine Keep.set ?_ _ (by first | exact Or.inl rfl | exact Or.inr (Nat.le_refl _) | (right; omega))) | (refine Keep.alloc ?_ _)))
            · simp only [he, if_true] at hst hxl
              have hLl := hL.len
              have hne : (Value.slice lp xs.length lc).ownBlock ≠ some wc.heap.size := fun hh => by have := (hown.lt _ hh).1; omega
              have hne2 : (Value.slice lp xs.length lc).ownBlock ≠ some w.heap.size := fun hh => by have := (hown.lt _ hh).1; omega
              go_wp2_with (first | (go_at_call 47; refine fy.mono ?_; rintro e9 W10 ⟨rfl, ⟨v10, hG10⟩, hK10⟩; have hw10 := hK10.size; have hG11 := (hG10.below ((Below.refl _ _).alloc (Nat.le_refl _) (.cells #[.int .i64 sk, .string sw, .int .i64 so, .string s1v, .int .i64 s1a, .int .i64 s1b, .string s2v, .int .i64 s2a, .int .i64 s2b] 76))).below ((Below.refl _ _).alloc (Nat.le_refl _) (.cells #[.int .i64 sk, .string sw, .int .i64 so, .string s1v, .int .i64 s1a, .int .i64 s1b, .string s2v, .int .i64 s2a, .int .i64 s2b] 76)); have hB10 := hK10.blk hB (by omega) (by decide); have hB11 := blkN ((Below.refl _ _).alloc (Nat.le_refl _) (.cells #[.int .i64 sk, .string sw, .int .i64 so, .string s1v, .int .i64 s1a, .int .i64 s1b, .string s2v, .int .i64 s2a, .int .i64 s2b] 76)) (blkN ((Below.refl _ _).alloc (Nat.le_refl _) (.cells #[.int .i64 sk, .string sw, .int .i64 so, .string s1v, .int .i64 s1a, .int .i64 s1b, .string s2v, .int .i64 s2a, .int .i64 s2b] 76)) hB10); have ho10 := own_below (own_below (hK10.own hown (by omega) (by decide)) ((Below.refl _ _).alloc (Nat.le_refl _) (.cells #[.int .i64 sk, .string sw, .int .i64 so, .string s1v, .int .i64 s1a, .int .i64 s1b, .string s2v, .int .i64 s2a, .int .i64 s2b] 76))) ((Below.refl _ _).alloc (Nat.le_refl _) (.cells #[.int .i64 sk, .string sw, .int .i64 so, .string s1v, .int .i64 s1a, .int .i64 s1b, .string s2v, .int .i64 s2a, .int .i64 s2b] 76)); have hR11 := blkN ((Below.refl _ _).alloc (Nat.le_refl _) (.cells #[.int .i64 sk, .string sw, .int .i64 so, .string s1v, .int .i64 s1a, .int .i64 s1b, .string s2v, .int .i64 s2a, .int .i64 s2b] 76)) (blkN ((Below.refl _ _).alloc (Nat.le_refl _) (.cells #[.int .i64 sk, .string sw, .int .i64 so, .string s1v, .int .i64 s1a, .int .i64 s1b, .string s2v, .int .i64 s2a, .int .i64 s2b] 76)) (hK10.blk hR (by omega) (by decide))); have hK11 := ((hK.trans (hK10.mono (by simp))).alloc (.cells #[.int .i64 sk, .string sw, .int .i64 so, .string s1v, .int .i64 s1a, .int .i64 s1b, .string s2v, .int .i64 s2a, .int .i64 s2b] 76)).alloc (.cells #[.int .i64 sk, .string sw, .int .i64 so, .string s1v, .int .i64 s1a, .int .i64 s1b, .string s2v, .int .i64 s2a, .int .i64 s2b] 76); obtain ⟨y0, y1, y2, y3, y4, y5, y6, y7, yf, yl2⟩ := row8 hG10.box; obtain ⟨d0, d1, d2, d3, d4, d5, d6, d7, df, dl⟩ := row8 hB10) | (at_builtin; refine wpList_append_own _ rfl _ _ 59 rfl W8.heap.size 76 i9 (.agg #[.int .i64 0, .string ⟨#[]⟩, .int .i64 0, .string ⟨#[]⟩, .int .i64 0, .int .i64 0, .string ⟨#[]⟩, .int .i64 0, .int .i64 0]) 9 96 Try.underlying59 hi9 hy0 hy1 hy2 rfl (by decide) _ xs.length (xs.flatMap St.cs) rfl ho10 _ 1 1 [.int .i64 sk, .string sw, .int .i64 so, .string s1v, .int .i64 s1a, .int .i64 s1b, .string s2v, .int .i64 s2a, .int .i64 s2b] rfl rfl (news_at (by simp)) (by intro u hu; simp at hu; rcases hu with rfl | rfl | rfl | rfl | rfl | rfl | rfl | rfl | rfl <;> rfl) (by unfold maxLen; omega) (by omega) (by simp; omega) ?_; intro v2 W11 hown' hgrow _; obtain ⟨v2p, v2c, rfl⟩ := own_len hown'; have hGw := hG11.grownO hgrow ho10 (by decide) (by decide) (by omega); have hBw := (hgrow.block _ (lt_blk hB11) (fun he => hne he.symm)).trans hB11; have hRw := (hgrow.block _ (lt_blk hR11) (fun he => hne2 he.symm)).trans hR11; have hKw := hK11.grownN hgrow ho10 (by omega); have hsw := hgrow.size; obtain ⟨m0, m1, m2, m3, m4, m5, m6, m7, mf, ml⟩ := row8 hBw))
              have hnew : (blockB L r).l = (xs ++ [⟨sk, sw, ⟨so, ⟨s1v, s1a, s1b⟩, ⟨s2v, s2a, s2b⟩⟩⟩]) ++ stsL L k (stmtR L rr) := by rw [hxl]; simp
              have hle := g6 he
              have hmi := hok.i
              go_roundg k
              case measure => omega
              case rel =>
                refine ⟨stmtR L rr, xs ++ [⟨sk, sw, ⟨so, ⟨s1v, s1a, s1b⟩, ⟨s2v, s2a, s2b⟩⟩⟩], v10, _, ?_, g1, ⟨by rw [g4]; have := hcn.lo; omega, by rw [g4]; omega, fun _ => by rw [g4]; exact hle.2.2⟩, by omega, hst, hnew, by rw [List.length_append]; simp; omega, heap_setCell_same _ _ 1 _ _ _ hBw, own_snocB rfl (ownsRow_setCell_other hown' (own_no hown' (ty_of hBw) (by decide)) _), ?_, (heap_setCell_other _ _ _ _ (by show w.heap.size ≠ wc.heap.size; omega)).trans hRw, ?_⟩
                · have t1 := ty_of hBw
                  (repeat (first | (with_reducible exact hGw) | (refine Gx.setT ?_ _ (by omega) (by (try simp only [ty_set]); assumption) (by decide) (by decide))))
                · (repeat (first | (with_reducible exact hKw) | (refine Keep.set ?_ _ (by first | exact Or.inl rfl | exact Or.inr (Nat.le_refl _) | (right; omega))) | (refine Keep.alloc ?_ _)))
                · have : W11.heap.size = (W11.setCell ⟨wc.heap.size, 1, none⟩ (.slice v2p (xs.length + 1) v2c)).heap.size := by simp [World.setCell]
                  simp at hsw
                  omega
end

end Go.Proofs.Ytmnplnhblniimaa.Gr
