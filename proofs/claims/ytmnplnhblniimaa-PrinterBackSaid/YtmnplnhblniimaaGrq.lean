/- THE READER: WALK of grammar.Parse. -/
import Derived.Test.YtmnplnhblniimaaGrp
namespace Go.Proofs.Ytmnplnhblniimaa.Gr
set_option linter.unusedVariables false
set_option linter.unusedSimpArgs false
open Go Go.RowKit

def toBk (x : Bl) : Bk := ⟨x.n, x.l, x.t⟩
/-- The blocks so far: their row and each one's statements. -/
structure Bs (base : Nat) (w : World) (v : Value) (P : List Bl) : Prop where
  row : w.ownsRow base 61 8 v P.length (P.flatMap Bl.cs)
  st : ∀ x ∈ P, w.ownsRow base 76 9 x.lv x.l.length (x.l.flatMap St.cs)
theorem Bs.pg {base : Nat} {w : World} {v : Value} {P : List Bl} (h : Bs base w v P) : Pg w v P := ⟨Sl.of_own h.row, fun b hb => Sl.of_own (h.st b hb)⟩
theorem Bs.below {base : Nat} {w q : World} {v : Value} {P : List Bl} (h : Bs base w v P) (hq : Below w.heap.size w q) : Bs base q v P := ⟨own_below h.row hq, fun x hx => own_below (h.st x hx) hq⟩
theorem Bs.keep {base b : Nat} {T : List TypeId} {w q : World} {v : Value} {P : List Bl} (h : Bs base w v P) (hq : Keep b T w q) (hb : b < base) (h1 : 61 ∉ T) (h2 : 76 ∉ T) : Bs base q v P := ⟨hq.own h.row hb h1, fun x hx => hq.own (h.st x hx) hb h2⟩
theorem Bs.set {base k j : Nat} {w : World} {v u : Value} {P : List Bl} {t : TypeId} (h : Bs base w v P) (hk : ty w k = some t) (h1 : 61 ≠ t) (h2 : 76 ≠ t) : Bs base (w.setCell ⟨k, j, none⟩ u) v P :=
  ⟨ownsRow_setCell_other h.row (own_no h.row hk h1) _, fun x hx => ownsRow_setCell_other (h.st x hx) (own_no (h.st x hx) hk h2) _⟩
theorem Bs.snoc {base : Nat} {w q : World} {v v6 : Value} {P : List Bl} {x : Bl} (h : Bs base w v P) (hg : w.grownBy q v.ownBlock) (ho : q.ownsRow base 61 8 v6 (P.length + 1) (P.flatMap Bl.cs ++ x.cs)) (hx : w.ownsRow base 76 9 x.lv x.l.length (x.l.flatMap St.cs)) : Bs base q v6 (P ++ [x]) := by
  refine ⟨by simpa using ho, fun y hy => ?_⟩
  rcases List.mem_append.1 hy with hy | hy
  · exact (h.st y hy).kept hg (ownTy (h.st y hy) h.row (by decide))
  · obtain rfl := List.mem_singleton.1 hy
    exact hx.kept hg (ownTy hx h.row (by decide))
theorem bl_info : (Try.prog.info? 61).map (fun i => (i.zero, i.size, i.bytes)) = some (some (.agg #[.string ⟨#[]⟩, .slice none 0 0, .int .i64 0, .string ⟨#[]⟩, .int .i64 0, .int .i64 0, .string ⟨#[]⟩, .string ⟨#[]⟩]), 8, 112) := by kernel_rfl

theorem blks_step {L : List Tok} {r : R} (k : Nat) (h0 : r.e = 0) (hi : isB L r 0 (st []) = false) : blksR L (k + 1) r = blksR L k (blockR L r) ∧ blksL L (k + 1) r = blockB L r :: blksL L k (blockR L r) := by
  refine ⟨?_, ?_⟩
  · show (if r.e = 0 ∧ isB L r 0 (st []) = false then blksR L k (blockR L r) else r) = _
    rw [if_pos ⟨h0, hi⟩]
  · show (if r.e = 0 ∧ isB L r 0 (st []) = false then blockB L r :: blksL L k (blockR L r) else []) = _
    rw [if_pos ⟨h0, hi⟩]
theorem blks_stop {L : List Tok} {r : R} (k : Nat) (h : r.e ≠ 0 ∨ isB L r 0 (st []) = true) : blksR L k r = r ∧ blksL L k r = [] := by
  cases k with
  | zero => exact ⟨rfl, rfl⟩
  | succ k =>
    have hn : ¬ (r.e = 0 ∧ isB L r 0 (st []) = false) := fun hh => by
      rcases h with h | h
      · exact h hh.1
      · rw [hh.2] at h; cases h
    refine ⟨?_, ?_⟩
    · show (if r.e = 0 ∧ isB L r 0 (st []) = false then blksR L k (blockR L r) else r) = _
      rw [if_neg hn]
    · show (if r.e = 0 ∧ isB L r 0 (st []) = false then blockB L r :: blksL L k (blockR L r) else []) = _
      rw [if_neg hn]

/-- A call as a step, whose answer is told by what it is good for. -/
theorem stepKS {α : Type} {g : α → Value} {P : Program} {ops : Array Oper} {o : Oper} {a : Act} {w : World} {K : Act → World → Prop} {Q : Exit → Act → World → Prop} {E : Prop} {S : α → World → Prop} (hgd : o.guard = none) (f : FuncId) (vs : Array Value)
    (hop : (execOp a.eval o).run P w = .ok (.enter f vs) w) (h : Calls P f vs w fun e w' => ∃ v, e = .returned (g v) ∧ S v w') (hk : ∀ v w', S v w' → K (a.put o.dst (g v)) w') :
    if Region.wanted o (yielded ops a.tmps) = true then Oper.wp P o a w K Q else E := by
  have hw : Region.wanted o (yielded ops a.tmps) = true := by simp [Region.wanted, hgd]
  rw [if_pos hw]
  unfold Oper.wp
  rw [hop, Oper.upon_enter]
  exact h.mono fun e w' ⟨v, he, hs⟩ => by subst he; exact hk v w' hs

/-- What Parse hands back. -/
def ParseOk (s : ByteArray) (w : World) (e : Ending) (w' : World) : Prop := ∃ (pv : Value) (P : List Bl), e = .returned (.tuple #[.agg #[pv], .agg #[.int .i64 (parse s).2.1, .int .i64 (parse s).2.2]]) ∧
    P.map toBk = (parse s).1 ∧ Pg w' pv P ∧ Below w.heap.size w w'

set_option maxRecDepth 100000 in
set_option maxHeartbeats 4000000 in
theorem parse_any (s : ByteArray) (w : World) : Calls Try.prog 9 #[.string s] w (ParseOk s w) := by
  obtain ⟨hB1, hR1, hF1⟩ := two w (.cells #[.slice none 0 0] 25) (.cells #[.int .i64 0, .int .i64 0] 28)
  have f0 := begin_any s ((w.alloc (.cells #[.slice none 0 0] 25)).alloc (.cells #[.int .i64 0, .int .i64 0] 28))
  have hlk := @text_lok s
  have hb9 : ((w.alloc (.cells #[.slice none 0 0] 25)).alloc (.cells #[.int .i64 0, .int .i64 0] 28)).heap.size = w.heap.size + 1 + 1 := by simp
  have hP : parse s = if (Tk.ofText s).e = 0 then (if (parseL (Tk.ofText s).l).1 = 0 then (allL (Tk.ofText s).l, 0, 0) else ([], parseL (Tk.ofText s).l)) else ([], (Tk.ofText s).e, (Tk.ofText s).pos) := rfl
  generalize Tk.ofText s = RR at f0 hlk hP
  obtain ⟨L, e, p⟩ := RR
  simp only at f0 hlk hP
  by_cases q0 : e = 0
  rotate_left
  · rw [if_neg q0] at hP
    have hP2 := And.intro True.intro hP
    have q1 : (e == 0) = false := by simpa using q0
    clear hP
    go_enter Try.func9, Try.ntmps9
    go_wp2_with (go_at_call 21; refine f0.mono ?_; rintro e9 W2 ⟨b, lv, rfl, hG2, hb2, hB2⟩; obtain ⟨y0, y1, y2, y3, y4, y5, y6, y7, yf, yl2⟩ := row8 hG2.box)
    have hR2 := blkN hB2 hR1
    have hF2 := blkN hB2 hF1
    have hB3 : Below w.heap.size w W2 := nextB hB2 hB1
    have pf := fun j => frozen_of_row W2 w.heap.size j _ _ hR2
    obtain ⟨c0, cl⟩ := row1 hR2
    obtain ⟨d0, d1, df, dl⟩ := row2 hF2
    have hw2 := hB3.size
    go_region
    all_goals (
      go_wp2_with fail
      refine bodyPost_ret (v := .tuple #[.agg #[.slice none 0 0], .agg #[.int .i64 e, .int .i64 p]]) (by simp only [results, Try.results9]; go_simp) rfl ?_
      unfold ParseOk
      rw [hP2.2]
      refine ⟨_, [], rfl, rfl, ⟨Sl.nil, fun b hb => by simp at hb⟩, ?_⟩
      (repeat (first | (with_reducible exact hB3) | (with_reducible refine Below.drew ?_) | (with_reducible refine Below.setCell ?_ (by first | exact Nat.le_refl _ | exact Nat.le_succ _ | (simp; done) | (simp; omega)) _) | (with_reducible refine Below.alloc ?_ (by first | omega | (simp; omega)) _))))
  · subst q0
    obtain ⟨hL, hL2, hL3, hL4, hp0⟩ := hlk rfl
    subst hp0
    rw [if_pos rfl] at hP
    have hP2 := And.intro True.intro hP
    have q1 : ((0 : Int) == 0) = true := by simp
    have k0 : Ok L r0 := ⟨hL3, by decide, fun _ => by decide⟩
    have c0 : Cn r0 := ⟨by decide, by decide, fun _ => by decide⟩
    obtain ⟨g1, g2, g3, g4, g5⟩ := block_facts hL k0 c0
    have f1 := fun (b : Nat) (lv : Value) (W : World) (h2 : Gx b L lv (.slice none 0 0) (.slice none 0 0) (.slice none 0 0) W r0) => block_any h2 k0 hL c0 (by decide) (by decide)
    have hA0 : blksR L L.length (blockR L r0) = allR L := rfl
    have hA1 : allL L = blockB L r0 :: blksL L L.length (blockR L r0) := rfl
    have hPL : parseL L = if (allR L).e = 0 then namedE (allR L) else ((allR L).e, (allR L).p) := rfl
    have hPL2 := And.intro True.intro hPL
    clear hP hPL
    generalize hQB : blockB L r0 = B0 at f1 hA1
    obtain ⟨B0n, B0l, ⟨tmk, ⟨txv, txa, txb⟩, tmt, tme⟩⟩ := B0
    simp only at f1
    go_enter Try.func9, Try.ntmps9
    go_wp2_with (first | (go_at_call 21; refine f0.mono ?_; rintro e9 W2 ⟨b, lv, rfl, hG2, hb2, hB2⟩; have hB3 : Below w.heap.size w W2 := nextB hB2 hB1; have hR2 := blkN hB2 hR1; have hF2 := blkN hB2 hF1) | (go_at_call 22; refine (f1 b lv _ hG2).mono ?_; rintro e9 W3 ⟨bv0, rfl, ho3, ⟨v3, t3, b3, hG3⟩, hK3⟩; obtain ⟨bp0, bc0, rfl⟩ := own_len ho3))
    have hbb := lt_blk hG2.box
    have hw3 := hK3.size
    obtain ⟨hB4, hW4, hV4⟩ := two W3 (.cells #[.string B0n, .slice bp0 B0l.length bc0, .int .i64 tmk, .string txv, .int .i64 txa, .int .i64 txb, .string tmt, .string tme] 61) (.cells #[.slice (some ⟨W3.heap.size, 0, none⟩) 1 1] 25)
    have hrow : ((W3.alloc (.cells #[.string B0n, .slice bp0 B0l.length bc0, .int .i64 tmk, .string txv, .int .i64 txa, .int .i64 txb, .string tmt, .string tme] 61)).alloc (.cells #[.slice (some ⟨W3.heap.size, 0, none⟩) 1 1] 25)).ownsRow W2.heap.size 61 8 (.slice (some ⟨W3.heap.size, 0, none⟩) 1 1) 1 [.string B0n, .slice bp0 B0l.length bc0, .int .i64 tmk, .string txv, .int .i64 txa, .int .i64 txb, .string tmt, .string tme] :=
      own_below (own_base (World.ownsRow_lit W3 #[.string B0n, .slice bp0 B0l.length bc0, .int .i64 tmk, .string txv, .int .i64 txa, .int .i64 txb, .string tmt, .string tme] 1 (Nat.le_refl _) (by unfold maxLen; omega) (by simp)) hw3) ((Below.refl _ _).alloc (Nat.le_refl _) _)
    have hBs : Bs W2.heap.size ((W3.alloc (.cells #[.string B0n, .slice bp0 B0l.length bc0, .int .i64 tmk, .string txv, .int .i64 txa, .int .i64 txb, .string tmt, .string tme] 61)).alloc (.cells #[.slice (some ⟨W3.heap.size, 0, none⟩) 1 1] 25)) (.slice (some ⟨W3.heap.size, 0, none⟩) 1 1) [⟨B0n, B0l, ⟨tmk, ⟨txv, txa, txb⟩, tmt, tme⟩, .slice bp0 B0l.length bc0⟩] :=
      ⟨hrow, fun x hx => by obtain rfl := List.mem_singleton.1 hx; exact own_below ho3 hB4⟩
    have hG4 := hG3.below hB4
    have hK4 := hK3.next hB4
    have hst : 0 < L.length := hL3
    have hpb : b < W3.heap.size + 1 := by omega
    clear f0 f1 hlk hrow
    generalize hV : (W3.alloc _).alloc _ = V at hB4 hW4 hV4 hBs hG4 hK4 ⊢
    have hVs : W3.heap.size + 1 < V.heap.size := lt_blk hV4
    clear hV
    go_loopg [] L.length (fun k wr => ∃ (rr : R) (PL : List Bl) (v6 t6 b6 : Value) (pp : Option Addr) (pc : Nat), Gx b L lv v6 t6 b6 wr rr ∧ Ok L rr ∧ Cn rr ∧ (rr.e = 0 → L.length ≤ k + rr.i) ∧ blksR L k rr = allR L ∧ allL L = PL.map toBk ++ blksL L k rr ∧ rr.bk.length + k = L.length + 1 ∧ rr.tg.length ≤ 2 * rr.bk.length ∧ PL.length = rr.bk.length ∧
      wr.heap[W3.heap.size + 1]? = some (.cells #[.slice pp PL.length pc] 25 (0, 0)) ∧ Bs W2.heap.size wr (.slice pp PL.length pc) PL ∧ Keep b [9, 39] W2 wr)
    case atStart => exact ⟨blockR L r0, [⟨B0n, B0l, ⟨tmk, ⟨txv, txa, txb⟩, tmt, tme⟩, .slice bp0 B0l.length bc0⟩], v3, t3, b3, _, _, hG4, g1, g2, fun _ => by omega, hA0, by rw [hA1]; rfl, by rw [g3]; show 0 + 1 + L.length = _; omega, by rw [g3]; exact g4, by rw [g3]; rfl, hV4, hBs, hK4⟩
    case round =>
      obtain ⟨rr, PL, v6, t6, b6, pp, pc, hG, hok, hcn, hkl, hst, hxl, hlen, htl, hpl, hV, hBs, hK⟩ := hrel
      have hwz := hK.size
      have hpl5 : PL.length ≤ 20000 := by omega
      have hbk5 : rr.bk.length ≤ 20000 := by omega
      have hplH : Hid (PL.length = rr.bk.length) := hpl
      have hlenH : Hid (rr.bk.length + gk = L.length + 1) := hlen
      clear hpl hlen
      have hVz := lt_blk hV
      have hR5 := hK.low hR2 (by omega)
      have hF5 := hK.low hF2 (by omega)
      have hB5 : Below w.heap.size w wr := hB3.trans (hK.below (by omega) hB3.size)
      obtain ⟨y0, y1, y2, y3, y4, y5, y6, y7, yf, yl⟩ := row8 hG.box
      obtain ⟨p0, pl⟩ := row1 hV
      obtain ⟨c0, cl⟩ := row1 hR5
      obtain ⟨d0, d1, df, dl⟩ := row2 hF5
      have cf := fun j => frozen_of_row wr w.heap.size j _ _ hR5
      by_cases he : rr.e = 0
      rotate_left
      · obtain ⟨z1, z2⟩ := blks_stop (L := L) gk (r := rr) (.inl he)
        rw [z1] at hst
        have he1 : (rr.e == 0) = false := by simpa using he
        have he2 : (rr.e != 0) = true := by simpa using he
        have hfin : parse s = ([], rr.e, rr.p) := by
          rw [hP2.2, hPL2.2, ← hst, if_neg he]
          exact if_neg he
        clear hst hxl hP2 hPL2 z1 z2
        go_wp2_with fail
        go_region
        all_goals (
          go_wp2_with fail
          refine bodyPost_ret (v := .tuple #[.agg #[.slice none 0 0], .agg #[.int .i64 rr.e, .int .i64 rr.p]]) (by simp only [results, Try.results9]; go_simp) rfl ?_
          unfold ParseOk
          rw [hfin]
          refine ⟨_, [], rfl, rfl, ⟨Sl.nil, fun b hb => by simp at hb⟩, ?_⟩
          (repeat (first | (with_reducible exact hB5) | (with_reducible refine Below.drew ?_) | (with_reducible refine Below.setCell ?_ (by first | exact Nat.le_refl _ | exact Nat.le_succ _ | (simp; done) | (simp; omega)) _) | (with_reducible refine Below.alloc ?_ (by first | omega | (simp; omega)) _))))
      · cases hi : isB L rr 0 (st []) with
        | true =>
          obtain ⟨z1, z2⟩ := blks_stop (L := L) gk (r := rr) (.inr hi)
          rw [z1] at hst
          rw [z2, List.append_nil] at hxl
          have fi := is_any hG hok.i 0 (st [])
          rw [hi] at fi
          have fn := fun (W : World) (hW : Below wr.heap.size wr W) => named_any (hG.below hW) hL he (by omega) (by omega)
          have hfin1 : ∀ e1 p1, Al (namedE rr) e1 p1 → e1 ≠ 0 → parse s = ([], e1, p1) := fun e1 p1 hal hne => by
            have h1 : (namedE rr).1 ≠ 0 := hal.1 ▸ hne
            have h2 : namedE rr = (e1, p1) := Prod.ext hal.1.symm (hal.2 h1).symm
            rw [hP2.2, hPL2.2, ← hst, if_pos he, h2]
            exact if_neg hne
          have hfin2 : ∀ e1 p1, Al (namedE rr) e1 p1 → e1 = 0 → parse s = (PL.map toBk, 0, 0) := fun e1 p1 hal hne => by
            have h1 : (namedE rr).1 = 0 := hal.1 ▸ hne
            rw [hP2.2, hPL2.2, ← hst, if_pos he, if_pos h1, hxl]
          have hy2 : y2 = y2 := rfl
          have he1 : (rr.e == 0) = true := by simpa using he
          have hH := And.intro True.intro (And.intro hG (And.intro hV (And.intro hBs (And.intro hR5 hF5))))
          clear hst hxl hP2 hPL2 z1 z2
          go_wp2_with (first | (go_at_call 23; refine' Calls.aft _ _ (fi) _; rotate_left 2; (exact Below.refl _ _; rfl); intro x1; have hle := After.le x1; (try simp at hle)) | (go_at_call 24; refine (fn _ x1.below).mono ?_; rintro e9 W9 ⟨rfl, e1, p1, hal, hG9, hK9⟩; have hB9 : Below w.heap.size w W9 := hB5.trans ((hK9.below (by omega) (by have := x1.le; omega)) |> fun h => (x1.below.mono (by omega)).trans h); obtain ⟨m0, m1, m2, m3, m4, m5, m6, m7, mf, ml⟩ := row8 hG9.box; have hV9 := hK9.blk (blkN x1.below hV) (by omega) (by simp); have hR9 := hK9.low (blkN x1.below hR5) (by omega); have hF9 := hK9.low (blkN x1.below hF5) (by omega); have hBs9 := (hBs.below x1.below).keep hK9 (by omega) (by simp) (by simp); have hH9 := And.intro True.intro (And.intro hal hBs9); obtain ⟨n0, nl⟩ := row1 hV9; obtain ⟨o0, ol⟩ := row1 hR9; obtain ⟨u0, u1, uf, ul⟩ := row2 hF9; have of := fun j => frozen_of_row W9 w.heap.size j _ _ hR9; clear hal))
          · have hne : e1 ≠ 0 := by
              have hx8 : (e1 != 0) = true := by assumption
              simpa using hx8
            have hfin := hfin1 e1 p1 hH9.2.1 hne
            go_region
            all_goals (
              go_wp2_with fail
              refine bodyPost_ret (v := .tuple #[.agg #[.slice none 0 0], .agg #[.int .i64 e1, .int .i64 p1]]) (by simp only [results, Try.results9]; go_simp) rfl ?_
              unfold ParseOk
              rw [hfin]
              refine ⟨_, [], rfl, rfl, ⟨Sl.nil, fun b hb => by simp at hb⟩, ?_⟩
              (repeat (first | (with_reducible exact hB9) | (with_reducible refine Below.drew ?_) | (with_reducible refine Below.setCell ?_ (by first | exact Nat.le_refl _ | exact Nat.le_succ _ | (simp; done) | (simp; omega)) _) | (with_reducible refine Below.alloc ?_ (by first | omega | (simp; omega)) _))))
          · have hne : e1 = 0 := by
              have hx8 : (e1 != 0) = false := by assumption
              simpa using hx8
            have hfin := hfin2 e1 p1 hH9.2.1 hne
            refine bodyPost_ret (v := .tuple #[.agg #[.slice pp PL.length pc], .agg #[.int .i64 0, .int .i64 0]]) (by simp only [results, Try.results9]; go_simp) rfl ?_
            unfold ParseOk
            rw [hfin]
            refine ⟨_, PL, rfl, rfl, Bs.pg (base := W2.heap.size) ?_, ?_⟩
            · have hBs9 := hH9.2.2
              have t1 := ty_of hR9
              have t2 := ty_of hF9
              repeat (first | (with_reducible exact hBs9) | refine Bs.set ?_ (by (try simp only [ty_set]); assumption) (by decide) (by decide))
            · (repeat (first | (with_reducible exact hB9) | (with_reducible refine Below.drew ?_) | (with_reducible refine Below.setCell ?_ (by first | exact Nat.le_refl _ | exact Nat.le_succ _ | (simp; done) | (simp; omega)) _) | (with_reducible refine Below.alloc ?_ (by first | omega | (simp; omega)) _)))
        | false =>
          have hgk : ∃ k, gk = k + 1 := by
            cases gk with
            | zero => have := hok.i; have := hkl he; omega
            | succ k => exact ⟨k, rfl⟩
          obtain ⟨k, rfl⟩ := hgk
          obtain ⟨z1, z2⟩ := blks_step (L := L) k he hi
          rw [z1] at hst
          rw [z2] at hxl
          have fi := is_any hG hok.i 0 (st [])
          rw [hi] at fi
          obtain ⟨j1, j2, j3, j4, j5⟩ := block_facts hL hok hcn
          have fb := fun (W : World) (hW : Below wr.heap.size wr W) => block_any (hG.below hW) hok hL hcn (by omega) (by omega)
          generalize hXB : blockB L rr = X0 at fb hxl
          obtain ⟨xn, xl, ⟨xk, ⟨xv, xa, xb⟩, xt, xe⟩⟩ := X0
          simp only at fb
          have he1 : (rr.e == 0) = true := by simpa using he
          obtain ⟨i0, hi0, hz0, hz1, hz2⟩ := info_parts bl_info
          go_wp2_with (go_at_call 23; refine' Calls.aft _ _ (fi) _; rotate_left 2; (exact Below.refl _ _; rfl); intro x1; have hle := After.le x1; (try simp at hle))
          have hx1 := x1.below
          have hVx := blkN (Below.refl _ _).drew (blkN x1.below hV)
          have hBx := (hBs.below x1.below).below (Below.refl _ _).drew
          have hKx := ((hK.next x1.below).drew)
          (go_region_law (first | (refine stepKS (g := fun v => .agg #[.string xn, v, .int .i64 xk, .string xv, .int .i64 xa, .int .i64 xb, .string xt, .string xe]) rfl 22 #[.pointer (some ⟨b, 0, none⟩)] ?hopb (fb _ (hx1.drew)) ?_; (case hopb => (go_simp; done)); rintro xv0 W6 ⟨ho6, ⟨v7, t7, b7, hG6⟩, hK6⟩; obtain ⟨sp, sc, rfl⟩ := own_len ho6; have hV6 := hK6.blk hVx (by omega) (by decide); have hBs6 := hBx.keep hK6 (by omega) (by decide) (by decide); have hK6a := hKx.trans hK6; obtain ⟨n6, nl6⟩ := row1 hV6) | (refine step_append_tells rfl (.tmp 38) (.tmp 41) 23 rfl W2.heap.size 61 i0 (.agg #[.string ⟨#[]⟩, .slice none 0 0, .int .i64 0, .string ⟨#[]⟩, .int .i64 0, .int .i64 0, .string ⟨#[]⟩, .string ⟨#[]⟩]) 8 112 Try.underlying23 hi0 hz0 hz1 hz2 rfl (by decide) (.slice pp PL.length pc) PL.length (PL.flatMap Bl.cs) rfl (hBs6.below ((Below.refl _ _).alloc (Nat.le_refl _) _)).row _ 1 1 [.string xn, .slice sp xl.length sc, .int .i64 xk, .string xv, .int .i64 xa, .int .i64 xb, .string xt, .string xe] rfl rfl ?u10 (by intro u hu; simp at hu; rcases hu with rfl | rfl | rfl | rfl | rfl | rfl | rfl | rfl <;> rfl) (by unfold maxLen; omega) (by omega) ?u11 (by decide) ?_; (case u10 => exact news_at (by simp)); (case u11 => (have := hK6a.size; simp; omega)); intro v8 W8 ho8 hg8 hv8; have hVa := blkN ((Below.refl _ _).alloc (Nat.le_refl _) (.cells #[.string xn, .slice sp xl.length sc, .int .i64 xk, .string xv, .int .i64 xa, .int .i64 xb, .string xt, .string xe] 61)) hV6; have hBa := hBs6.below ((Below.refl _ _).alloc (Nat.le_refl _) (.cells #[.string xn, .slice sp xl.length sc, .int .i64 xk, .string xv, .int .i64 xa, .int .i64 xb, .string xt, .string xe] 61)); have hneV : (Value.slice pp PL.length pc).ownBlock ≠ some (W3.heap.size + 1) := own_no hBa.row (ty_of hVa) (by decide); have hV8 := (hg8.block _ (lt_blk hVa) (fun he => hneV he.symm)).trans hVa; have hG8 := (hG6.below ((Below.refl _ _).alloc (Nat.le_refl _) (.cells #[.string xn, .slice sp xl.length sc, .int .i64 xk, .string xv, .int .i64 xa, .int .i64 xb, .string xt, .string xe] 61))).grownO hg8 hBa.row (by decide) (by decide) (by omega); have hB8 := hBa.snoc (x := ⟨xn, xl, ⟨xk, ⟨xv, xa, xb⟩, xt, xe⟩, .slice sp xl.length sc⟩) hg8 ho8 (own_base (own_below ho6 ((Below.refl _ _).alloc (Nat.le_refl _) (.cells #[.string xn, .slice sp xl.length sc, .int .i64 xk, .string xv, .int .i64 xa, .int .i64 xb, .string xt, .string xe] 61))) hKx.size); have hK8 := (hK6a.alloc (.cells #[.string xn, .slice sp xl.length sc, .int .i64 xk, .string xv, .int .i64 xa, .int .i64 xb, .string xt, .string xe] 61)).grownN hg8 hBa.row (Nat.le_refl _); obtain ⟨p8, c8, rfl⟩ := own_len ho8; obtain ⟨r8, rl8⟩ := row1 hV8; have rf8 := fun j => frozen_of_row W8 (W3.heap.size + 1) j _ _ hV8)))
          all_goals (
            go_wp2_with fail
            go_roundg k
            case measure => omega
            case rel =>
              refine ⟨blockR L rr, PL ++ [⟨xn, xl, ⟨xk, ⟨xv, xa, xb⟩, xt, xe⟩, .slice sp xl.length sc⟩], v7, t7, b7, p8, c8, ?_, j1, j2, fun h5 => ?_, hst, ?_, ?_, ?_, ?_, ?_, ?_, ?_⟩
              · have t1 := ty_of hV8
                (repeat (first | (with_reducible exact hG8) | (refine Gx.setT ?_ _ (by omega) (by (try simp only [ty_set]); assumption) (by decide) (by decide))))
              · have h6 := (j5 h5).1
                have h7 := hkl he
                omega
              · rw [hxl]; simp [toBk]
              · have h8 : rr.bk.length + (k + 1) = L.length + 1 := hlenH
                omega
              · omega
              · have h9 : PL.length = rr.bk.length := hplH
                rw [List.length_append, j3]
                simp only [List.length_cons, List.length_nil]
                omega
              · rw [List.length_append]
                exact heap_setCell_same _ _ 0 _ _ _ hV8
              · rw [List.length_append]
                exact Bs.set hB8 (ty_of hV8) (by decide) (by decide)
              · (repeat (first | (with_reducible exact hK8) | (refine Keep.set ?_ _ (by first | exact Or.inl rfl | exact Or.inr (Nat.le_refl _) | (right; omega))) | (refine Keep.alloc ?_ _))))

end Go.Proofs.Ytmnplnhblniimaa.Gr
