/- Systems: what is wrong with one. WALK of system.Check. -/
import Derived.Test.YtjjmoibnmdbpeaaMB
import Derived.Test.YtjjmoibnmdbpeaaAwf
import Derived.Deep.CutRange
import Derived.Deep.RegionHeldLaw
namespace Go.Proofs.Ytjjmoibnmdbpeaa.Pr
set_option linter.unusedVariables false
set_option linter.unusedSimpArgs false
open Go Go.RowKit

theorem stepG {P : Program} {ops : Array Oper} {o : Oper} {a : Act} {w : World} {K : Act → World → Prop} {Q : Exit → Act → World → Prop} {E : Prop} (hgd : Region.wanted o (yielded ops a.tmps) = true) (f : FuncId) (vs : Array Value) {α : Type} (g : α → Value) (S : α → World → Prop)
    (hop : (execOp a.eval o).run P w = .ok (.enter f vs) w)
    (h : Calls P f vs w fun e w' => ∃ v, e = .returned (g v) ∧ S v w' ∧ Below w.heap.size w w') (hk : ∀ v w', S v w' → Below w.heap.size w w' → K (a.put o.dst (g v)) w') :
    if Region.wanted o (yielded ops a.tmps) = true then Oper.wp P o a w K Q else E :=
  step_callSG hgd f vs (fun v w' => ∃ x, v = g x ∧ S x w') hop (h.mono fun e w' ⟨v, he, hs, hb⟩ => ⟨_, he, ⟨v, rfl, hs⟩, hb⟩) (fun v w' ⟨x, hx, hs⟩ hb => by subst hx; exact hk x w' hs hb)
theorem bot_ok (what : Int) (h : Ws.isL what 0 = true) : Ws.valueB what 0 (Ws.botW what 0) = true := by
  rcases (Ws.isL_facts h).1 with rfl | rfl | rfl <;> decide +kernel
theorem bot_no (what width : Int) (h : Ws.isL what width = false) : Ws.valueB what width (Ws.botW what width) = false := by
  unfold Ws.valueB
  rw [h]
  rfl

theorem bot_okW (what width : Int) : Ws.okW (Ws.botW what width) := by
  unfold Ws.botW
  split
  · exact Ws.fullW_ok _
  · intro x hx
    rw [List.eq_of_mem_replicate hx]
    decide
theorem bot_len (what width : Int) : (Ws.botW what width).length ≤ 1000000 := by
  unfold Ws.botW
  split
  · rename_i h9
    rw [Ws.fullW_len]
    have := Ws.sizeN_le width
    omega
  · rw [List.length_replicate]
    have := Ws.wordsN_le what width
    omega

set_option maxRecDepth 100000 in
set_option maxHeartbeats 8000000 in
theorem scheck_any (s : Sys) (w : World) (h : SysAt w s) :
    Calls Try.prog 31 #[.agg #[.int .i64 s.what, .int .i64 s.width, .int .i64 s.nodes, s.edv, s.env, s.inv, s.tv]] w fun e w' => e = .returned (.int .i64 (checkS s)) ∧ Below w.heap.size w w' := by
  obtain ⟨what, width, nodes, ED, EN, INI, T, edv, env, inv, tv⟩ := s
  obtain ⟨hed, hen, hini, ht, htr, hio, hel, hil, htl⟩ := h
  have hed : Sl w edv Ed.cs ED := hed
  have hen : Sl w env Ws.encI EN := hen
  have hini : Sl w inv Ws.encW INI := hini
  have ht : Sl w tv Tn.cs T := ht
  have htr : ∀ x ∈ T, TnAt w x := htr
  have hio : Ws.okW INI := hio
  have hel : EN.length ≤ 1000 := hel
  have hil : INI.length ≤ 1000 := hil
  have htl : T.length ≤ 1000 := htl
  have hH : ∀ W, Calls Try.prog 63 #[.int .i64 what, .int .i64 width] W fun e w' => e = .returned (.int .i64 (Ws.heightN what width)) ∧ W = w' := fun W => Ws.height_any what width W
  have hBo : ∀ W, Calls Try.prog 65 #[.int .i64 what, .int .i64 width] W fun e w' => ∃ v, e = .returned ((fun v : Value => v) v) ∧ (fun (v : Value) w' => Sl w' v Ws.encW (Ws.botW what width)) v w' ∧ Below W.heap.size W w' := fun W => (Ws.bottom_any what width W).mono fun e w' ⟨v, he, ho, hb⟩ => ⟨v, he, Sl.of_own ho, hb⟩
  have hbl : (Ws.botW what width).length ≤ 1000000 := bot_len what width
  have hbk : Ws.okW (Ws.botW what width) := bot_okW what width
  have hIs := fun (W : World) (v : Value) hv => Ws.lis_any what width (Ws.botW what width) hbk hbl v W hv
  have f1 := fun (W : World) (hB : Below w.heap.size w W) => right_any nodes ED edv W (hed.below hB)
  have f2 := fun (W : World) (hB : Below w.heap.size w W) => Ws.lis_any what width INI hio (by omega) inv W (hini.below hB)
  have f3 := fun (x : Tn) (hx : x ∈ T) (W : World) (hB : Below w.heap.size w W) => tcheck_any what width x W ((htr x hx).below hB)
  unfold checkS
  show Calls _ _ #[.agg #[.int .i64 what, .int .i64 width, .int .i64 nodes, edv, env, inv, tv]] _ fun e w' => e = .returned (.int .i64 (if Ws.isL what width = true then (if rightB nodes ED = true then (if (T.length : Int) = nodes then (if EN.all (nodeB nodes) = true then (if Ws.valueB what width INI = true then (if T.all (okT what width) = true then 0 else 2) else 2) else 1) else 1) else 1) else 10)) ∧ _
  obtain ⟨dp, dc, hdv⟩ : ∃ p c, edv = .slice p ED.length c := sl_len hed
  obtain ⟨nb, noff, np, nc, hnv, hnp, hnc⟩ := hen.open (k := 1) (fun _ => rfl)
  obtain ⟨ip, ic, hiv⟩ : ∃ p c, inv = .slice p INI.length c := sl_len hini
  obtain ⟨tb, toff, tp, tc, htv, htp, htc⟩ := ht.open Tn.cs_len
  subst hdv hnv hiv htv
  have hb1 : Below w.heap.size w (w.alloc (.cells #[.int .i64 what, .int .i64 width, .int .i64 nodes, .slice dp ED.length dc, .slice np EN.length nc, .slice ip INI.length ic, .slice tp T.length tc] 27)) := (Below.refl _ _).alloc (Nat.le_refl _) _
  have hbox := heap_alloc_new w (.cells #[.int .i64 what, .int .i64 width, .int .i64 nodes, .slice dp ED.length dc, .slice np EN.length nc, .slice ip INI.length ic, .slice tp T.length tc] 27)
  clear hed hen hini ht hio
  have hbw := hb1
  obtain ⟨V, hV⟩ : ∃ V, V = w.alloc (.cells #[.int .i64 what, .int .i64 width, .int .i64 nodes, .slice dp ED.length dc, .slice np EN.length nc, .slice ip INI.length ic, .slice tp T.length tc] 27) := ⟨_, rfl⟩
  rw [← hV] at hb1 hbox
  have hd : Below V.heap.size V V.drew := (Below.refl V.heap.size V).drew
  have hbd := blk9 hd hbox
  clear hbw
  cases hil : Ws.isL what width
  · have hz : Ws.heightN what width = 0 := by unfold Ws.heightN; rw [hil]; rfl
    have hH0 : ∀ W, Calls Try.prog 63 #[.int .i64 what, .int .i64 width] W fun e w' => e = .returned (.int .i64 0) ∧ Below W.heap.size W w' := fun W => (hH W).mono fun e w' ⟨he, hw⟩ => ⟨by rw [he, hz]; rfl, by subst hw; exact Below.refl _ _⟩
    rw [bot_no what width hil] at hIs
    clear f1 f2 f3 hH hz hil htr
    go_enter Try.func31, Try.ntmps31
    go_wp2_with fail
    refine scope_forward 0 rfl ?_
    go_wp2_with fail
    rw [← hV]
    clear hV
    obtain ⟨i0, i1, i2, i3, i4, i5, i6, il⟩ := seven hbox
    first | (go_region_held_law (fun w' => ∀ b o, b < V.heap.size → w'.cell? ⟨b, o, none⟩ = V.cell? ⟨b, o, none⟩)
      (((try dsimp only); intro b9 o9 h9; refine Below.cell (B := V.heap.size) (w := V) ?_ h9; clear h9; (repeat (first | exact Below.refl _ _ | apply Below.drew | refine Below.alloc ?_ ?_ _ | refine Below.setCell ?_ ?_ _ | refine Below.trans ?_ (Below.mono (After.below _) ?_))); (all_goals (first | (simp; done) | (simp; omega) | omega))))
      (first | (go_at_call 63; refine' Calls.aft _ _ (hH0 _) _; rotate_left 2; (exact Below.refl _ _; rfl); intro x7; have hle := After.le x7; (try simp at hle)) | ((go_at_call 65; refine' Calls.aftS _ _ (hBo _) _; rotate_left 2; (exact Below.refl _ _; rfl); intro bv x8 hbv; have hle := After.le x8; (try simp at hle)); obtain ⟨bp, bc, rfl⟩ : ∃ p c, bv = .slice p (Ws.botW what width).length c := sl_len hbv) | (go_at_call 64; refine' Calls.aft _ _ (hIs _ _ hbv) _; rotate_left 2; (exact Below.refl _ _; rfl); intro x9; have hle := After.le x9; (try simp at hle)))) | fail
    all_goals (
      go_wp2_with fail
      go_step3; (try simp only [then_goto, block_goto]); refine And.intro (rfl : (0 : Nat) = 0) ?_; go_wp2_with fail; rw [Exit.noGoto_ret]
      go_ret
      exact ⟨by simp, nextB x9.below (nextB x8.below (nextB x7.below (nextB hd hb1)))⟩)
  simp only [if_true]
  obtain ⟨RE, hRE⟩ : ∃ R, Hid (EN.all (nodeB nodes) = R) := ⟨_, rfl⟩
  rw [show EN.all (nodeB nodes) = RE from hRE]
  obtain ⟨RT, hRT⟩ : ∃ R, Hid (T.all (okT what width) = R) := ⟨_, rfl⟩
  rw [show T.all (okT what width) = RT from hRT]
  generalize hrbb : rightB nodes ED = rb at f1 ⊢
  generalize hvbb : Ws.valueB what width INI = vb at f2 ⊢
  clear hrbb hvbb
  go_enter Try.func31, Try.ntmps31
  go_wp2_with fail
  refine scope_forward 0 rfl ?_
  go_wp2_with fail
  rw [← hV]
  clear hV
  go_cut [26] from 1000 to 1000 (fun v26 wx => v26 = .bool false ∧ Below V.heap.size V wx)
  case first =>
    by_cases hw0 : width = 0
    · subst hw0
      have hz : Ws.heightN what 0 = 0 := by unfold Ws.heightN; rw [hil]; split <;> simp
      have hH0 : ∀ W, Calls Try.prog 63 #[.int .i64 what, .int .i64 0] W fun e w' => e = .returned (.int .i64 0) ∧ Below W.heap.size W w' := fun W => (hH W).mono fun e w' ⟨he, hw⟩ => ⟨by rw [he, hz]; rfl, by subst hw; exact Below.refl _ _⟩
      rw [bot_ok what hil] at hIs
      clear f1 f2 f3 hH hz hil htr
      obtain ⟨i0, i1, i2, i3, i4, i5, i6, il⟩ := seven hbox
      first | (go_region_held_law (fun w' => ∀ b o, b < V.heap.size → w'.cell? ⟨b, o, none⟩ = V.cell? ⟨b, o, none⟩)
        (((try dsimp only); intro b9 o9 h9; refine Below.cell (B := V.heap.size) (w := V) ?_ h9; clear h9; (repeat (first | exact Below.refl _ _ | apply Below.drew | refine Below.alloc ?_ ?_ _ | refine Below.setCell ?_ ?_ _ | refine Below.trans ?_ (Below.mono (After.below _) ?_))); (all_goals (first | (simp; done) | (simp; omega) | omega))))
        (first | (go_at_call 63; refine' Calls.aft _ _ (hH0 _) _; rotate_left 2; (exact Below.refl _ _; rfl); intro x7; have hle := After.le x7; (try simp at hle)) | ((go_at_call 65; refine' Calls.aftS _ _ (hBo _) _; rotate_left 2; (exact Below.refl _ _; rfl); intro bv x8 hbv; have hle := After.le x8; (try simp at hle)); obtain ⟨bp, bc, rfl⟩ : ∃ p c, bv = .slice p (Ws.botW what 0).length c := sl_len hbv) | (go_at_call 64; refine' Calls.aft _ _ (hIs _ _ hbv) _; rotate_left 2; (exact Below.refl _ _; rfl); intro x9; have hle := After.le x9; (try simp at hle)))) | fail
      all_goals (
        go_wp2_with fail
        go_meet
        exact ⟨rfl, nextB x9.below (nextB x8.below (nextB x7.below hd))⟩)
    · have hz : 0 < Ws.heightN what width := by
        have := (Ws.isL_facts hil).2.1
        unfold Ws.heightN
        rw [hil]
        simp only [if_true]
        split <;> omega
      have hzb : ((Ws.heightN what width : Int) == 0) = false := by simp; omega
      generalize Ws.heightN what width = hN at hH hzb
      clear f1 f2 f3 hBo hIs hil htr hz
      obtain ⟨i0, i1, i2, i3, i4, i5, i6, il⟩ := seven hbox
      refine' region_whole _ _ (by kernel_rfl) (by kernel_rfl) _; rotate_left 2; (exact Below.refl _ _; rfl); (repeat (go_big_quiet_step (first | (go_at_call 63; exact Calls.after_of (Calls.behind (hH _)))))); refine wpQuiet_nil ?_; intro z
      go_wp2_with fail
      go_meet
      exact ⟨by simp [hzb], z.below⟩
  case rest =>
    obtain ⟨rfl, hcB⟩ := hcut
    obtain ⟨Wc, hWc⟩ : ∃ Wc, Wc = wc := ⟨wc, rfl⟩
    subst hWc
    have hbx0 := blk9 hcB hbox
    have hb2 := nextB hcB hb1
    obtain ⟨i0, i1, i2, i3, i4, i5, i6, il⟩ := seven hbx0
    clear hH hBo hIs hbl hbk hil hd hbd hbox hcB
    cases rb
    · clear f2 f3
      go_wp2_with (go_at_call 66; refine' Calls.aft _ _ (f1 _ hb2) _; rotate_left 2; (exact Below.refl _ _; rfl); intro x1; have hle := After.le x1; (try simp at hle))
      go_step3; (try simp only [then_goto, block_goto]); refine And.intro (rfl : (0 : Nat) = 0) ?_; go_wp2_with fail; rw [Exit.noGoto_ret]
      go_ret
      exact ⟨by simp, nextB x1.below hb2⟩
    by_cases hn : (T.length : Int) = nodes
    rotate_left
    · have hnb : ((T.length : Int) != nodes) = true := by simpa using hn
      clear f2 f3
      go_wp2_with ((go_at_call 66; refine' Calls.aft _ _ (f1 _ hb2) _; rotate_left 2; (exact Below.refl _ _; rfl); intro x1; have hle := After.le x1; (try simp at hle)); obtain ⟨y0, y1, y2, y3, y4, y5, y6, yl⟩ := seven (blk9 x1.below hbx0))
      go_step3; (try simp only [then_goto, block_goto]); refine And.intro (rfl : (0 : Nat) = 0) ?_; go_wp2_with fail; rw [Exit.noGoto_ret]
      go_ret
      exact ⟨by simp [hn], nextB x1.below hb2⟩
    have hnH : Hid ((T.length : Int) = nodes) := hn
    have hnb : ((T.length : Int) != nodes) = false := by simpa using hn
    clear hn
    go_wp2_with ((go_at_call 66; refine' Calls.aft _ _ (f1 _ hb2) _; rotate_left 2; (exact Below.refl _ _; rfl); intro x1; have hle := After.le x1; (try simp at hle)); obtain ⟨y0, y1, y2, y3, y4, y5, y6, yl⟩ := seven (blk9 x1.below hbx0))
    obtain ⟨W1, hW1⟩ : ∃ W1, W1 = x1.val := ⟨_, rfl⟩
    have hB1 : Below w.heap.size w W1 := by rw [hW1]; exact nextB x1.below hb2
    have hbx : W1.heap[w.heap.size]? = some (.cells #[.int .i64 what, .int .i64 width, .int .i64 nodes, .slice dp ED.length dc, .slice np EN.length nc, .slice ip INI.length ic, .slice tp T.length tc] 27 (0, 0)) := by rw [hW1]; exact blk9 x1.below hbx0
    rw [← hW1]
    clear hW1 hbx0 y0 y1 y2 y3 y4 y5 y6 yl i0 i1 i2 i3 i4 i5 i6 il hle f1
    go_loopw [44] (fun i wr => ∃ k : Nat, k ≤ EN.length ∧ i = .int .i64 k ∧ (EN.take k).all (nodeB nodes) = true ∧ Below W1.heap.size W1 wr) (fun i _ => EN.length - (intOf i).toNat)
    case atStart => exact ⟨0, Nat.zero_le _, rfl, by simp, Below.refl _ _⟩
    case round =>
      obtain ⟨k, hk, rfl, hall, hB⟩ := hrel
      have hw := hB.size
      have hBw := nextB hB hB1
      obtain ⟨y0, y1, y2, y3, y4, y5, y6, yl⟩ := seven (blk9 hB hbx)
      by_cases hlt : k < EN.length
      · obtain rfl := hnp (by omega)
        have hlt2 : (k : Int) < EN.length := by omega
        have hbad : nodeB nodes (EN[k]'hlt) = false → RE = false := fun h => by rw [← show EN.all (nodeB nodes) = RE from hRE]; exact all_bad hlt h
        have hnext : nodeB nodes (EN[k]'hlt) = true → (EN.take (k + 1)).all (nodeB nodes) = true := fun h => all_next hlt hall h
        have e0 : wr.cell? ⟨nb, noff + k, none⟩ = some (.int .i64 (EN[k]'hlt)) := by have h9 := hnc k hlt 0 _ rfl; rw [Nat.mul_one, Nat.add_zero] at h9; exact nextC hBw h9
        have el := World.block_lt_of_cell? _ _ e0
        generalize EN[k]'hlt = x at e0 hbad hnext
        have hdf : nodeB nodes x = (decide (0 ≤ x) && decide (x < nodes)) := rfl
        rw [hdf] at hbad hnext
        by_cases q1 : 0 ≤ x
        rotate_left
        · rw [decide_eq_false q1] at hbad
          have q1' : x < 0 := by omega
          have hf := hbad rfl
          subst hf
          clear hbad hnext hRE f2 f3
          go_wp2_with fail
          go_step3; (try simp only [then_goto, block_goto]); refine And.intro (rfl : (0 : Nat) = 0) ?_; go_wp2_with fail; rw [Exit.noGoto_ret]
          go_ret
          exact ⟨by simp [show (T.length : Int) = nodes from hnH], hBw⟩
        rw [decide_eq_true q1] at hbad hnext
        have q1' : ¬ x < 0 := by omega
        by_cases q2 : x < nodes
        rotate_left
        · rw [decide_eq_false q2] at hbad
          have q2' : nodes ≤ x := by omega
          have hf := hbad rfl
          subst hf
          clear hbad hnext hRE f2 f3
          go_wp2_with fail
          go_step3; (try simp only [then_goto, block_goto]); refine And.intro (rfl : (0 : Nat) = 0) ?_; go_wp2_with fail; rw [Exit.noGoto_ret]
          go_ret
          exact ⟨by simp [show (T.length : Int) = nodes from hnH], hBw⟩
        rw [decide_eq_true q2] at hbad hnext
        have q2' : ¬ nodes ≤ x := by omega
        have hx := And.intro True.intro (hnext rfl)
        clear hbad hnext
        go_wp2_with fail
        go_roundw
        case rel => exact ⟨k + 1, by omega, by simp, hx.2, hB⟩
        case measure => simp [intOf]; omega
      · have hks : k = EN.length := by omega
        subst hks
        have hlt2 : ¬ (EN.length : Int) < EN.length := by omega
        have hRt : RE = true := by rw [← show EN.all (nodeB nodes) = RE from hRE]; rw [List.take_length] at hall; exact hall
        subst hRt
        clear hnc hRE
        cases vb
        · go_wp2_with (go_at_call 64; refine' Calls.aft _ _ (f2 _ hBw) _; rotate_left 2; (exact Below.refl _ _; rfl); intro x2; have hle := After.le x2; (try simp at hle))
          go_step3; (try simp only [then_goto, block_goto]); refine And.intro (rfl : (0 : Nat) = 0) ?_; go_wp2_with fail; rw [Exit.noGoto_ret]
          go_ret
          exact ⟨by simp [show (T.length : Int) = nodes from hnH], nextB x2.below hBw⟩
        obtain ⟨W2, hW2⟩ : ∃ W2, W2 = wr := ⟨wr, rfl⟩
        subst hW2
        go_wp2_with ((go_at_call 64; refine' Calls.aft _ _ (f2 _ hBw) _; rotate_left 2; (exact Below.refl _ _; rfl); intro x2; have hle := After.le x2; (try simp at hle)); obtain ⟨z0, z1, z2, z3, z4, z5, z6, zl⟩ := seven (blk9 x2.below (blk9 hB hbx)))
        obtain ⟨W3, hW3⟩ : ∃ W3, W3 = x2.val := ⟨_, rfl⟩
        have hB3 : Below w.heap.size w W3 := by rw [hW3]; exact nextB x2.below hBw
        have hbx3 : W3.heap[w.heap.size]? = some (.cells #[.int .i64 what, .int .i64 width, .int .i64 nodes, .slice dp ED.length dc, .slice np EN.length nc, .slice ip INI.length ic, .slice tp T.length tc] 27 (0, 0)) := by rw [hW3]; exact blk9 x2.below (blk9 hB hbx)
        rw [← hW3]
        clear hW3 z0 z1 z2 z3 z4 z5 z6 zl y0 y1 y2 y3 y4 y5 y6 yl hle f2
        go_loopw [68] (fun i wr => ∃ k : Nat, k ≤ T.length ∧ i = .int .i64 k ∧ (T.take k).all (okT what width) = true ∧ Below W3.heap.size W3 wr) (fun i _ => T.length - (intOf i).toNat)
        case atStart => exact ⟨0, Nat.zero_le _, rfl, by simp, Below.refl _ _⟩
        case round =>
          obtain ⟨k, hk, rfl, hall, hBt⟩ := hrel
          have hwt := hBt.size
          have hBu := nextB hBt hB3
          obtain ⟨y0, y1, y2, y3, y4, y5, y6, yl⟩ := seven (blk9 hBt hbx3)
          by_cases hlt : k < T.length
          · obtain rfl := htp (by omega)
            have hlt2 : (k : Int) < T.length := by omega
            have hbad : okT what width (T[k]'hlt) = false → RT = false := fun h => by rw [← show T.all (okT what width) = RT from hRT]; exact all_bad hlt h
            have hnext : okT what width (T[k]'hlt) = true → (T.take (k + 1)).all (okT what width) = true := fun h => all_next hlt hall h
            have hcr : ∀ r u, ((T[k]'hlt).cs)[r]? = some u → wr.cell? ⟨tb, toff + k * 3 + r, none⟩ = some u := fun r u hu => by
              rw [Nat.add_assoc]
              exact nextC hBu (htc k hlt r u hu)
            have f4 := f3 _ (List.getElem_mem hlt)
            have hTn := htr _ (List.getElem_mem hlt)
            clear f3 htc
            generalize T[k]'hlt = x at hcr f4 hbad hnext hTn
            have e0 : wr.cell? ⟨tb, toff + k * 3, none⟩ = some x.gv := hcr 0 _ rfl
            have el := World.block_lt_of_cell? _ _ e0
            have e1 : wr.cell? ⟨tb, toff + k * 3 + 1, none⟩ = some x.kv := hcr 1 _ rfl
            have e2 : wr.cell? ⟨tb, toff + k * 3 + 2, none⟩ = some x.lv := hcr 2 _ rfl
            obtain ⟨gp, gc, hgv⟩ := sl_len hTn.g
            obtain ⟨kp, kc, hkv⟩ := sl_len hTn.k
            obtain ⟨lp, lc, hlv⟩ := sl_len hTn.l
            rw [hgv] at e0 f4
            rw [hkv] at e1 f4
            rw [hlv] at e2 f4
            have hcz : okT what width x = decide (checkT what width x = 0) := rfl
            rw [hcz] at hbad hnext
            generalize checkT what width x = cx at f4 hbad hnext
            have hba : Below wr.heap.size wr (wr.alloc (.cells #[.slice gp x.g.length gc, .slice kp x.k.length kc, .slice lp x.l.length lc] 81)) := (Below.refl _ _).alloc (Nat.le_refl _) _
            clear hcr hTn hgv hkv hlv
            by_cases q1 : cx = 0
            · subst q1
              have hx := And.intro True.intro (hnext (by simp))
              clear hbad hnext
              go_wp2_with (go_at_call 67; refine' Calls.aft _ _ (f4 _ (nextB hba hBu)) _; rotate_left 2; (exact Below.refl _ _; rfl); intro x5; have hle := After.le x5; (try simp at hle))
              go_roundw
              case rel => exact ⟨k + 1, by omega, by simp, hx.2, nextB x5.below (nextB hba hBt)⟩
              case measure => simp [intOf]; omega
            · have hf := hbad (decide_eq_false q1)
              subst hf
              have q1b : (cx != 0) = true := by simpa using q1
              clear hbad hnext hRT
              go_wp2_with (go_at_call 67; refine' Calls.aft _ _ (f4 _ (nextB hba hBu)) _; rotate_left 2; (exact Below.refl _ _; rfl); intro x5; have hle := After.le x5; (try simp at hle))
              go_step3; (try simp only [then_goto, block_goto]); refine And.intro (rfl : (0 : Nat) = 0) ?_; go_wp2_with fail; rw [Exit.noGoto_ret]
              go_ret
              exact ⟨by simp [show (T.length : Int) = nodes from hnH], nextB x5.below (nextB hba hBu)⟩
          · have hks : k = T.length := by omega
            have hlt2 : ¬ (k : Int) < T.length := by omega
            have hRt : RT = true := by rw [← show T.all (okT what width) = RT from hRT]; rw [hks, List.take_length] at hall; exact hall
            subst hRt
            clear htc hRT hks
            go_wp2_with fail
            try simp only [Exit.jump]
            go_ret
            exact ⟨by simp [show (T.length : Int) = nodes from hnH], hBu⟩


end Go.Proofs.Ytjjmoibnmdbpeaa.Pr
