/- LayoutPlaces: it answers true. -/
import Derived.Test.YtjjmoibnmdbpeaaME
import Derived.Deep.CutRange
import Derived.Deep.RegionHeldLaw
import Derived.Test.YtjjmoibnmdbpeaaLayq
namespace Go.Proofs.Ytjjmoibnmdbpeaa.Pr
set_option linter.unusedVariables false
set_option linter.unusedSimpArgs false
open Go Go.RowKit

theorem four {W : World} {B : Nat} {v0 v1 v2 v3 : Value} {t : TypeId} (h : W.heap[B]? = some (.cells #[v0, v1, v2, v3] t (0, 0))) :
    W.cell? ⟨B, 0, none⟩ = some v0 ∧ W.cell? ⟨B, 1, none⟩ = some v1 ∧ W.cell? ⟨B, 2, none⟩ = some v2 ∧ W.cell? ⟨B, 3, none⟩ = some v3 ∧ B < W.heap.size :=
  ⟨(cell_of_row W B 0 _ t (0, 0) h).trans rfl, (cell_of_row W B 1 _ t (0, 0) h).trans rfl, (cell_of_row W B 2 _ t (0, 0) h).trans rfl, (cell_of_row W B 3 _ t (0, 0) h).trans rfl, lt_of_block h⟩

set_option maxRecDepth 100000 in
set_option maxHeartbeats 4000000 in
theorem layoutPlaces_any (s : Sys) (k v u : Int) (w : World) (h : SysRd w s) :
    Calls Try.prog 3 #[.agg #[.int .i64 s.what, .int .i64 s.width, .int .i64 s.nodes, s.edv, s.env, s.inv, s.tv], .int .i64 k, .int .i64 v, .int .i64 u] w fun e w' => e = .returned (.bool true) ∧ Below w.heap.size w w' := by
  have f0 := fun (W : World) (hB : Below w.heap.size w W) => small17_any s W (h.below hB)
  have f1 := fun (hs : smallY s = true) (W : World) (hB : Below w.heap.size w W) => lof_any s k W ((h.at hs).below hB)
  have f2 := fun (hs : smallY s = true) (W : World) (hB : Below w.heap.size w W) => rof32_any s k W ((h.at hs).below hB)
  have hfac := @off_facts s k
  unfold layV at f1 f2
  generalize offE s k = c at f1 f2 hfac
  generalize smallY s = sm at f0 f1 f2
  obtain ⟨what, width, nodes, ED, EN, INI, T, edv, env, inv, tv⟩ := s
  obtain ⟨hed, hen, hini, ht, htr, hio⟩ := h
  obtain ⟨dp, dc, hdv⟩ : ∃ p c, edv = .slice p ED.length c := sl_len hed
  obtain ⟨np, nc, hnv⟩ : ∃ p c, env = .slice p EN.length c := sl_len hen
  obtain ⟨ip, ic, hiv⟩ : ∃ p c, inv = .slice p INI.length c := sl_len hini
  obtain ⟨tp, tc, htv⟩ : ∃ p c, tv = .slice p T.length c := sl_len ht
  subst hdv hnv hiv htv
  clear hed hen hini ht hio htr
  have hnn : (0 : Int) ≤ Ws.wordsN what width ∧ (Ws.wordsN what width : Int) ≤ 1024 := by have := Ws.wordsN_le what width; omega
  simp only at f0 f1 f2 hfac ⊢
  generalize (Ws.wordsN what width : Int) = n at f1 f2 hnn
  have hb1 : Below w.heap.size w (w.alloc (.cells #[.int .i64 what, .int .i64 width, .int .i64 nodes, .slice dp ED.length dc, .slice np EN.length nc, .slice ip INI.length ic, .slice tp T.length tc] 27)) := (Below.refl _ _).alloc (Nat.le_refl _) _
  have hbox := heap_alloc_new w (.cells #[.int .i64 what, .int .i64 width, .int .i64 nodes, .slice dp ED.length dc, .slice np EN.length nc, .slice ip INI.length ic, .slice tp T.length tc] 27)
  cases sm
  · clear f1 f2
    go_enter Try.func3, Try.ntmps3
    go_wp2_with (first | ((go_at_call 7; refine' Calls.aft _ _ (awake32_any _) _; rotate_left 2; (exact Below.refl _ _; rfl); intro x1; have hle := After.le x1; (try simp at hle)); obtain ⟨y0, y1, y2, y3, y4, y5, y6, yl⟩ := seven (blk9 x1.below hbox)) | (go_at_call 8; refine' Calls.aft _ _ (f0 _ (nextB x1.below hb1)) _; rotate_left 2; (exact Below.refl _ _; rfl); intro x2; have hle := After.le x2; (try simp at hle)))
    go_ret
    exact ⟨rfl, nextB x2.below (nextB x1.below hb1)⟩
  have g1 := f1 rfl
  have g2 := f2 rfl
  clear f1 f2
  by_cases hc : c = 0
  rotate_left
  · have hcb : (c != 0) = true := by simpa using hc
    simp only [hc, if_false] at g1 g2
    clear hc hfac
    go_enter Try.func3, Try.ntmps3
    go_wp2_with (first | ((go_at_call 7; refine' Calls.aft _ _ (awake32_any _) _; rotate_left 2; (exact Below.refl _ _; rfl); intro x1; have hle := After.le x1; (try simp at hle)); obtain ⟨y0, y1, y2, y3, y4, y5, y6, yl⟩ := seven (blk9 x1.below hbox)) | ((go_at_call 8; refine' Calls.aft _ _ (f0 _ (nextB x1.below hb1)) _; rotate_left 2; (exact Below.refl _ _; rfl); intro x2; have hle := After.le x2; (try simp at hle)); obtain ⟨z0, z1, z2, z3, z4, z5, z6, zl⟩ := seven (blk9 x2.below (blk9 x1.below hbox))) | ((go_at_call 9; refine' Calls.aft _ _ (g1 _ (nextB x2.below (nextB x1.below hb1))) _; rotate_left 2; (exact Below.refl _ _; rfl); intro x3; have hle := After.le x3; (try simp at hle)); obtain ⟨u0, u1, u2, u3, u4, u5, u6, ul⟩ := seven (blk9 x3.below (blk9 x2.below (blk9 x1.below hbox)))) | (go_at_call 10; refine' Calls.aft _ _ (g2 _ (nextB ((Below.refl _ _).alloc (Nat.le_refl _) _) (nextB x3.below (nextB x2.below (nextB x1.below hb1))))) _; rotate_left 2; (exact Below.refl _ _; rfl); intro x4; have hle := After.le x4; (try simp at hle)))
    all_goals (go_ret; exact ⟨rfl, nextB ((Below.refl _ _).alloc (Nat.le_refl _) _) (nextB x4.below (nextB ((Below.refl _ _).alloc (Nat.le_refl _) _) (nextB x3.below (nextB x2.below (nextB x1.below hb1)))))⟩)
  subst hc
  simp only [if_true] at g1 g2
  obtain ⟨hn0, hn1, hk0, hk1⟩ := hfac rfl
  go_enter Try.func3, Try.ntmps3
  go_wp2_with (first | ((go_at_call 7; refine' Calls.aft _ _ (awake32_any _) _; rotate_left 2; (exact Below.refl _ _; rfl); intro x1; have hle := After.le x1; (try simp at hle)); obtain ⟨y0, y1, y2, y3, y4, y5, y6, yl⟩ := seven (blk9 x1.below hbox)) | ((go_at_call 8; refine' Calls.aft _ _ (f0 _ (nextB x1.below hb1)) _; rotate_left 2; (exact Below.refl _ _; rfl); intro x2; have hle := After.le x2; (try simp at hle)); obtain ⟨z0, z1, z2, z3, z4, z5, z6, zl⟩ := seven (blk9 x2.below (blk9 x1.below hbox))) | ((go_at_call 9; refine' Calls.aft _ _ (g1 _ (nextB x2.below (nextB x1.below hb1))) _; rotate_left 2; (exact Below.refl _ _; rfl); intro x3; have hle := After.le x3; (try simp at hle)); obtain ⟨u0, u1, u2, u3, u4, u5, u6, ul⟩ := seven (blk9 x3.below (blk9 x2.below (blk9 x1.below hbox)))) | (go_at_call 10; refine' Calls.aft _ _ (g2 _ (nextB ((Below.refl _ _).alloc (Nat.le_refl _) _) (nextB x3.below (nextB x2.below (nextB x1.below hb1))))) _; rotate_left 2; (exact Below.refl _ _; rfl); intro x4; have hle := After.le x4; (try simp at hle)))
  all_goals first | (go_ret; exact ⟨rfl, nextB ((Below.refl _ _).alloc (Nat.le_refl _) _) (nextB x4.below (nextB ((Below.refl _ _).alloc (Nat.le_refl _) _) (nextB x3.below (nextB x2.below (nextB x1.below hb1)))))⟩) | skip
  have hfin : Below w.heap.size w (x4.val.alloc (.cells #[.int .i64 what, .int .i64 n, .int .i64 nodes, .int .i64 k] 35)) := nextB ((Below.refl _ _).alloc (Nat.le_refl _) _) (nextB x4.below (nextB ((Below.refl _ _).alloc (Nat.le_refl _) _) (nextB x3.below (nextB x2.below (nextB x1.below hb1)))))
  have hb3 := heap_alloc_new x3.val (.cells #[.int .i64 what, .int .i64 n, .int .i64 nodes, .int .i64 k] 31)
  have hb4 := heap_alloc_new x4.val (.cells #[.int .i64 what, .int .i64 n, .int .i64 nodes, .int .i64 k] 35)
  have hd4 : Below x4.val.heap.size x4.val (x4.val.alloc (.cells #[.int .i64 what, .int .i64 n, .int .i64 nodes, .int .i64 k] 35)) := (Below.refl _ _).alloc (Nat.le_refl _) _
  have hb3' := blk9 hd4 (blk9 x4.below hb3)
  have hb0' := blk9 hd4 (blk9 x4.below (blk9 ((Below.refl _ _).alloc (Nat.le_refl _) _) (blk9 x3.below (blk9 x2.below (blk9 x1.below hbox)))))
  obtain ⟨V, hV⟩ : ∃ V, V = x4.val.alloc (.cells #[.int .i64 what, .int .i64 n, .int .i64 nodes, .int .i64 k] 35) := ⟨_, rfl⟩
  rw [← hV] at hfin hb4 hb3' hb0' ⊢
  clear hV hd4 hb3 hbox hb1 g1 g2
  generalize x3.val.heap.size = g3 at *
  generalize x4.val.heap.size = g4 at *
  rename_i p1 p2 p3 p4 K hK hX
  have hu := p4.2
  have hvn := mul_range p1 (Int.le_of_lt (Int.lt_of_lt_of_le p2 hn1)) hnn.1 hnn.2 (by decide)
  have hnodes0 : 0 ≤ nodes := by omega
  have hnm := mul_range hnodes0 hn1 hnn.1 hnn.2 (by decide)
  have hud := mul_range (a := u) (b := 2 + (nodes + 1)) (A := 64) (B := 300) (by omega) (by omega) (by omega) (by omega) (by decide)
  have hkd := mul_range (a := k) (b := 2 + (nodes + 1)) (A := 64) (B := 300) (by omega) (by omega) (by omega) (by omega) (by decide)
  have hn2 : nodes ≤ 1000 := by omega
  have c1 := fun W => cell_any what n nodes k v hvn.1 hvn.2 W
  have c2 := fun W => board_any what n nodes k hnm.1 hnm.2 hnodes0 hn2 W
  have c3 := fun W => ldeque_any what n nodes k u hnm.1 hnm.2 hnodes0 hn2 hud.1 hud.2 W
  have c4 := fun W => lsize_any what n nodes k hnm.1 hnm.2 hnodes0 hn2 hkd.1 hkd.2 W
  have c5 := fun W => rsize_any what n nodes k hnm.1 hnm.2 hnodes0 hn2 hkd.1 hkd.2 W
  have c6 := fun W => lroom_any what n nodes k hnodes0 hn2 W
  have c7 := fun W => rdeque_any what n nodes k u hnm.1 hnm.2 hnodes0 hn2 hud.1 hud.2 W
  have hvn9 : Hid (0 ≤ v * n ∧ v * n ≤ 1000000) := hvn
  have hnm9 : Hid (0 ≤ nodes * n ∧ nodes * n ≤ 1000000) := hnm
  clear f0 y0 y1 y2 y3 y4 y5 y6 yl z0 z1 z2 z3 z4 z5 z6 zl u0 u1 u2 u3 u4 u5 u6 hfac hkd hud hnm hvn
  obtain ⟨y0, y1, y2, y3, y4, y5, y6, yl⟩ := seven hb0'
  obtain ⟨l0, l1, l2, l3, ll⟩ := four hb3'
  obtain ⟨m0, m1, m2, m3, ml⟩ := four hb4
  have upd_ne : ∀ (x : Nat → Value) (d j : Nat) (v : Value), (j == d) = false → upd x d v j = x j := fun x d j v h => upd_o x d j v (by simpa using h)
  refine wp_region_frames (by kernel_rfl) [85, 86, 87, 88, 89, 90, 91, 92, 13, 14, 15] (LpJ V (.agg #[.int .i64 what, .int .i64 n, .int .i64 nodes, .int .i64 k]) (.int .i64 v) (.int .i64 u) #[.int .i64 (v * n), .int .i64 what, .int .i64 n] #[.int .i64 (nodes * n), .int .i64 (nodes * n + nodes)] #[.int .i64 (dq n nodes u), .int .i64 (nodes + 1)]) ?hdag (fun j => undef) ?hu0 ?h0 ?hh
  case hdag =>
    refine Steps.all ?_
    refine ⟨?_, ?_, ?_, ?_, ?_, ?_, ?_, ?_, ?_, ?_, ?_, ?_, ?_, ?_, trivial⟩
    all_goals (intro e he _; revert e; decide)
  case hu0 => simp only [putAll, List.foldl_cons, List.foldl_nil, Act.put, List.setIfInBounds_toArray, List.set_cons_zero, List.set_cons_succ]
  case h0 => exact ⟨(Below.refl _ _).drew, fun h => (by cases h), fun h => (by cases h), fun h => (by cases h), fun h => (by cases h), fun h => (by cases h), fun h => (by cases h), fun h => (by cases h), fun h => (by cases h), fun h => (by cases h), fun h => (by cases h), fun h => (by cases h), fun h => (by cases h), fun h => (by cases h), fun h => (by cases h)⟩
  case hh =>
    intro fr hfr
    simp only [putAll, List.foldl_cons, List.foldl_nil, Act.put, List.setIfInBounds_toArray, List.set_cons_zero, List.set_cons_succ] at hfr
    refine ⟨?_, ?_⟩
    · refine Steps.all ?_
      refine ⟨?_, ?_, ?_, ?_, ?_, ?_, ?_, ?_, ?_, ?_, ?_, ?_, ?_, ?_, trivial⟩
      all_goals (intro D x W hD hdep hJ K9 hK9)
      · rw [hfr]
        obtain ⟨y0, y1, y2, y3, yl⟩ := four (blk9 hJ.hB hb3')
        refine step_val rfl (.agg #[.int .i64 what, .int .i64 n, .int .i64 nodes, .int .i64 k]) (w' := W) ?hop ?_
        case hop => go_simp
        simp only [Act.put, List.setIfInBounds_toArray, List.set_cons_zero, List.set_cons_succ]
        have z := hK9 _ _ (hJ.p0 (Below.refl _ _))
        rw [hfr] at z
        simp only [upd_s, upd_ne] at z
        exact z
      · rw [hfr]
        refine step_val rfl (.int .i64 v) (w' := W) ?hop ?_
        case hop => go_simp
        simp only [Act.put, List.setIfInBounds_toArray, List.set_cons_zero, List.set_cons_succ]
        have z := hK9 _ _ (hJ.p1 (Below.refl _ _))
        rw [hfr] at z
        simp only [upd_s, upd_ne] at z
        exact z
      · rw [hfr]
        have d0 : D 0 = true := hdep ⟨0, .data⟩ (by simp) (by kernel_rfl)
        have h0 := hJ.s0 d0
        have d1 : D 1 = true := hdep ⟨1, .data⟩ (by simp) (by kernel_rfl)
        have h1 := hJ.s1 d1
        refine step_call9 rfl 11 #[.agg #[.int .i64 what, .int .i64 n, .int .i64 nodes, .int .i64 k], .int .i64 v] (.agg #[.int .i64 (v * n), .int .i64 what, .int .i64 n]) ?hop (c1 _) ?_
        case hop => go_simp
        intro W2 hW2
        simp only [Act.put, List.setIfInBounds_toArray, List.set_cons_zero, List.set_cons_succ]
        have z := hK9 _ _ (hJ.p2 hW2)
        rw [hfr] at z
        simp only [upd_s, upd_ne] at z
        exact z
      · rw [hfr]
        obtain ⟨y0, y1, y2, y3, yl⟩ := four (blk9 hJ.hB hb3')
        refine step_val rfl (.agg #[.int .i64 what, .int .i64 n, .int .i64 nodes, .int .i64 k]) (w' := W) ?hop ?_
        case hop => go_simp
        simp only [Act.put, List.setIfInBounds_toArray, List.set_cons_zero, List.set_cons_succ]
        have z := hK9 _ _ (hJ.p3 (Below.refl _ _))
        rw [hfr] at z
        simp only [upd_s, upd_ne] at z
        exact z
      · rw [hfr]
        have d3 : D 3 = true := hdep ⟨3, .data⟩ (by simp) (by kernel_rfl)
        have h3 := hJ.s3 d3
        refine step_call9 rfl 12 #[.agg #[.int .i64 what, .int .i64 n, .int .i64 nodes, .int .i64 k]] (.agg #[.int .i64 (nodes * n), .int .i64 (nodes * n + nodes)]) ?hop (c2 _) ?_
        case hop => go_simp
        intro W2 hW2
        simp only [Act.put, List.setIfInBounds_toArray, List.set_cons_zero, List.set_cons_succ]
        have z := hK9 _ _ (hJ.p4 hW2)
        rw [hfr] at z
        simp only [upd_s, upd_ne] at z
        exact z
      · rw [hfr]
        obtain ⟨y0, y1, y2, y3, yl⟩ := four (blk9 hJ.hB hb3')
        refine step_val rfl (.agg #[.int .i64 what, .int .i64 n, .int .i64 nodes, .int .i64 k]) (w' := W) ?hop ?_
        case hop => go_simp
        simp only [Act.put, List.setIfInBounds_toArray, List.set_cons_zero, List.set_cons_succ]
        have z := hK9 _ _ (hJ.p5 (Below.refl _ _))
        rw [hfr] at z
        simp only [upd_s, upd_ne] at z
        exact z
      · rw [hfr]
        refine step_val rfl (.int .i64 u) (w' := W) ?hop ?_
        case hop => go_simp
        simp only [Act.put, List.setIfInBounds_toArray, List.set_cons_zero, List.set_cons_succ]
        have z := hK9 _ _ (hJ.p6 (Below.refl _ _))
        rw [hfr] at z
        simp only [upd_s, upd_ne] at z
        exact z
      · rw [hfr]
        have d5 : D 5 = true := hdep ⟨5, .data⟩ (by simp) (by kernel_rfl)
        have h5 := hJ.s5 d5
        have d6 : D 6 = true := hdep ⟨6, .data⟩ (by simp) (by kernel_rfl)
        have h6 := hJ.s6 d6
        refine step_call9 rfl 13 #[.agg #[.int .i64 what, .int .i64 n, .int .i64 nodes, .int .i64 k], .int .i64 u] (.agg #[.int .i64 (dq n nodes u), .int .i64 (nodes + 1)]) ?hop (c3 _) ?_
        case hop => go_simp
        intro W2 hW2
        simp only [Act.put, List.setIfInBounds_toArray, List.set_cons_zero, List.set_cons_succ]
        have z := hK9 _ _ (hJ.p7 hW2)
        rw [hfr] at z
        simp only [upd_s, upd_ne] at z
        exact z
      · rw [hfr]
        refine step_val rfl (.pointer (some ⟨W.heap.size, 0, none⟩)) (w' := ?w91) ?hop ?_
        case hop => go_simp; rfl
        simp only [Act.put, List.setIfInBounds_toArray, List.set_cons_zero, List.set_cons_succ]
        have z := hK9 _ _ (hJ.a1 hD)
        rw [hfr] at z
        simp only [upd_s, upd_ne] at z
        exact z
      · rw [hfr]
        refine step_val rfl (.pointer (some ⟨W.heap.size, 0, none⟩)) (w' := ?w92) ?hop ?_
        case hop => go_simp; rfl
        simp only [Act.put, List.setIfInBounds_toArray, List.set_cons_zero, List.set_cons_succ]
        have z := hK9 _ _ (hJ.a2 hD)
        rw [hfr] at z
        simp only [upd_s, upd_ne] at z
        exact z
      · rw [hfr]
        refine step_val rfl (.pointer (some ⟨W.heap.size, 0, none⟩)) (w' := ?w93) ?hop ?_
        case hop => go_simp; rfl
        simp only [Act.put, List.setIfInBounds_toArray, List.set_cons_zero, List.set_cons_succ]
        have z := hK9 _ _ (hJ.a3 hD)
        rw [hfr] at z
        simp only [upd_s, upd_ne] at z
        exact z
      · rw [hfr]
        have d8 : D 8 = true := hdep ⟨8, .data⟩ (by simp) (by kernel_rfl)
        have d2 : D 2 = true := hdep ⟨2, .data⟩ (by simp) (by kernel_rfl)
        obtain ⟨b9, h1, h2, h3⟩ := hJ.b1 d8
        rw [hD] at h3
        simp only [cond_false] at h3
        have h4 := hJ.s2 d2
        have q0 := frozen_of_row W b9 0 _ _ h3
        have p0 : W.cell? ⟨b9, 0, none⟩ = some _ := (cell_of_row W b9 0 _ _ (0, 0) h3).trans rfl
        have q1 := frozen_of_row W b9 1 _ _ h3
        have p1 : W.cell? ⟨b9, 1, none⟩ = some _ := (cell_of_row W b9 1 _ _ (0, 0) h3).trans rfl
        have q2 := frozen_of_row W b9 2 _ _ h3
        have p2 : W.cell? ⟨b9, 2, none⟩ = some _ := (cell_of_row W b9 2 _ _ (0, 0) h3).trans rfl
        refine step_none rfl (w' := ?w94) ?hop ?_
        case hop => go_simp; rfl
        have z := hK9 _ _ (hJ.t1 d8 h1 h2 h3 (((hJ.hB.setCell h2 _).setCell h2 _).setCell h2 _) (set3 h3) (fun k hk => by rw [heap_setCell_other _ _ _ _ hk, heap_setCell_other _ _ _ _ hk, heap_setCell_other _ _ _ _ hk]))
        rw [hfr] at z
        exact z
      · rw [hfr]
        have d8 : D 9 = true := hdep ⟨9, .data⟩ (by simp) (by kernel_rfl)
        have d2 : D 4 = true := hdep ⟨4, .data⟩ (by simp) (by kernel_rfl)
        obtain ⟨b9, h1, h2, h3⟩ := hJ.b2 d8
        rw [hD] at h3
        simp only [cond_false] at h3
        have h4 := hJ.s4 d2
        have q0 := frozen_of_row W b9 0 _ _ h3
        have p0 : W.cell? ⟨b9, 0, none⟩ = some _ := (cell_of_row W b9 0 _ _ (0, 0) h3).trans rfl
        have q1 := frozen_of_row W b9 1 _ _ h3
        have p1 : W.cell? ⟨b9, 1, none⟩ = some _ := (cell_of_row W b9 1 _ _ (0, 0) h3).trans rfl
        refine step_none rfl (w' := ?w95) ?hop ?_
        case hop => go_simp; rfl
        have z := hK9 _ _ (hJ.t2 d8 h1 h2 h3 ((hJ.hB.setCell h2 _).setCell h2 _) (set2 h3) (fun k hk => by rw [heap_setCell_other _ _ _ _ hk, heap_setCell_other _ _ _ _ hk]))
        rw [hfr] at z
        exact z
      · rw [hfr]
        have d8 : D 10 = true := hdep ⟨10, .data⟩ (by simp) (by kernel_rfl)
        have d2 : D 7 = true := hdep ⟨7, .data⟩ (by simp) (by kernel_rfl)
        obtain ⟨b9, h1, h2, h3⟩ := hJ.b3 d8
        rw [hD] at h3
        simp only [cond_false] at h3
        have h4 := hJ.s7 d2
        have q0 := frozen_of_row W b9 0 _ _ h3
        have p0 : W.cell? ⟨b9, 0, none⟩ = some _ := (cell_of_row W b9 0 _ _ (0, 0) h3).trans rfl
        have q1 := frozen_of_row W b9 1 _ _ h3
        have p1 : W.cell? ⟨b9, 1, none⟩ = some _ := (cell_of_row W b9 1 _ _ (0, 0) h3).trans rfl
        refine step_none rfl (w' := ?w96) ?hop ?_
        case hop => go_simp; rfl
        have z := hK9 _ _ (hJ.t3 d8 h1 h2 h3 ((hJ.hB.setCell h2 _).setCell h2 _) (set2 h3) (fun k hk => by rw [heap_setCell_other _ _ _ _ hk, heap_setCell_other _ _ _ _ hk]))
        rw [hfr] at z
        exact z
    · intro D x W hall hJ
      rw [hfr]
      obtain ⟨b13, e13, g13, k13⟩ := hJ.b1 (hall 8 (by decide))
      obtain ⟨b14, e14, g14, k14⟩ := hJ.b2 (hall 9 (by decide))
      obtain ⟨b15, e15, g15, k15⟩ := hJ.b3 (hall 10 (by decide))
      rw [hall 11 (by decide), cond_true] at k13
      rw [hall 12 (by decide), cond_true] at k14
      rw [hall 13 (by decide), cond_true] at k15
      have hcB := hJ.hB
      rw [e13, e14, e15]
      clear hJ hall hfr e13 e14 e15 upd_ne
      have hfin := nextB hcB hfin
      have hb0' := blk9 hcB hb0'
      have hb3' := blk9 hcB hb3'
      have hb4 := blk9 hcB hb4
      clear y0 y1 y2 y3 y4 y5 y6 yl l0 l1 l2 l3 ll m0 m1 m2 m3 ml c1 c2 c3 hcB
      obtain ⟨y0, y1, y2, y3, y4, y5, y6, yl⟩ := seven hb0'
      obtain ⟨l0, l1, l2, l3, ll⟩ := four hb3'
      obtain ⟨m0, m1, m2, m3, ml⟩ := four hb4
      have t0 : W.cell? ⟨b13, 0, none⟩ = some (.int .i64 (v * n)) := (cell_of_row W b13 0 _ _ (0, 0) k13).trans rfl
      have t1 : W.cell? ⟨b13, 1, none⟩ = some (.int .i64 what) := (cell_of_row W b13 1 _ _ (0, 0) k13).trans rfl
      have t2 : W.cell? ⟨b13, 2, none⟩ = some (.int .i64 n) := (cell_of_row W b13 2 _ _ (0, 0) k13).trans rfl
      have t3 : W.cell? ⟨b14, 0, none⟩ = some (.int .i64 (nodes * n)) := (cell_of_row W b14 0 _ _ (0, 0) k14).trans rfl
      have t4 : W.cell? ⟨b14, 1, none⟩ = some (.int .i64 (nodes * n + nodes)) := (cell_of_row W b14 1 _ _ (0, 0) k14).trans rfl
      have t5 : W.cell? ⟨b15, 0, none⟩ = some (.int .i64 (dq n nodes u)) := (cell_of_row W b15 0 _ _ (0, 0) k15).trans rfl
      have t6 : W.cell? ⟨b15, 1, none⟩ = some (.int .i64 (nodes + 1)) := (cell_of_row W b15 1 _ _ (0, 0) k15).trans rfl
      have kl13 := lt_of_block k13
      have kl14 := lt_of_block k14
      have kl15 := lt_of_block k15
      clear k13 k14 k15 hb0' hb3' hb4 g13 g14 g15
      go_wp2_with fail
      simp only [List.append_eq, List.cons_append, List.nil_append]
      obtain ⟨hvn0, hvn1⟩ : 0 ≤ v * n ∧ v * n ≤ 1000000 := hvn9
      obtain ⟨hnm0, hnm1⟩ : 0 ≤ nodes * n ∧ nodes * n ≤ 1000000 := hnm9
      refine' region_whole _ _ (by kernel_rfl) (by kernel_rfl) _; rotate_left 2; (exact Below.refl _ _; rfl); (repeat (go_big_quiet_step (first | (go_at_call 14; exact Calls.after_of (c4 _)) | (go_at_call 15; exact Calls.after_of (c5 _)) | (go_at_call 16; exact Calls.after_of (c6 _)) | (go_at_call 17; exact Calls.after_of (c7 _))))); refine wpQuiet_nil ?_; intro z
      go_wp2_with fail
      go_ret
      exact ⟨rfl, nextB z.below hfin⟩

end Go.Proofs.Ytjjmoibnmdbpeaa.Pr
