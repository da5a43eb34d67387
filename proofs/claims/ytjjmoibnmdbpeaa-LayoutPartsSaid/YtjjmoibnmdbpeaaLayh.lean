/- LayoutParts: it answers true. WALK of the law. -/
import Derived.Test.YtjjmoibnmdbpeaaLayg
import Derived.Test.YtjjmoibnmdbpeaaME
import Derived.Test.YtjjmoibnmdbpeaaLaw
namespace Go.Proofs.Ytjjmoibnmdbpeaa.Pr
set_option linter.unusedVariables false
set_option linter.unusedSimpArgs false
open Go Go.RowKit

theorem own_open {base n : Nat} {w : World} {v : Value} {L : List Value} {e : TypeId} (h : w.ownsRow base e 1 v n L) (h0 : 0 < n) : ∃ g cap, v = .slice (some ⟨g, 0, none⟩) n cap := by
  rcases h.2 with ⟨_, hn⟩ | ⟨g, cap, cur, rfl, _⟩
  · omega
  · exact ⟨g, cap, rfl⟩

set_option maxRecDepth 100000 in
set_option maxHeartbeats 4000000 in
theorem layoutParts_any (s : Sys) (k a : Int) (a0 : -9223372036854775808 ≤ a) (a1 : a ≤ 9223372036854775807) (w : World) (h : SysRd w s) :
    Calls Try.prog 4 #[.agg #[.int .i64 s.what, .int .i64 s.width, .int .i64 s.nodes, s.edv, s.env, s.inv, s.tv], .int .i64 k, .int .i64 a] w fun e w' => e = .returned (.bool true) ∧ Below w.heap.size w w' := by
  have f0 := fun (W : World) (hB : Below w.heap.size w W) => small17_any s W (h.below hB)
  have f1 := fun (hs : smallY s = true) (W : World) (hB : Below w.heap.size w W) => lof_any s (min k 9) W ((h.at hs).below hB)
  have f2 := fun (hs : smallY s = true) (W : World) (hB : Below w.heap.size w W) => rof32_any s (min k 9) W ((h.at hs).below hB)
  have hfac := @off_facts s (min k 9)
  unfold layV at f1 f2
  generalize offE s (min k 9) = c at f1 f2 hfac
  generalize smallY s = sm at f0 f1 f2
  obtain ⟨what, width, nodes, ED, EN, INI, T, edv, env, inv, tv⟩ := s
  obtain ⟨hed, hen, hini, ht, htr, hio⟩ := h
  obtain ⟨dp, dc, hdv⟩ : ∃ p c, edv = .slice p ED.length c := sl_len hed
  obtain ⟨np, nc, hnv⟩ : ∃ p c, env = .slice p EN.length c := sl_len hen
  obtain ⟨ip, ic, hiv⟩ : ∃ p c, inv = .slice p INI.length c := sl_len hini
  obtain ⟨tp, tc, htv⟩ : ∃ p c, tv = .slice p T.length c := sl_len ht
  subst hdv hnv hiv htv
  clear hed hen hini ht hio htr
  have hnn : Ws.wordsN what width ≤ 1024 := Ws.wordsN_le what width
  simp only at f0 f1 f2 hfac ⊢
  generalize Ws.wordsN what width = n at f1 f2 hnn
  have hb1 : Below w.heap.size w (w.alloc (.cells #[.int .i64 what, .int .i64 width, .int .i64 nodes, .slice dp ED.length dc, .slice np EN.length nc, .slice ip INI.length ic, .slice tp T.length tc] 27)) := (Below.refl _ _).alloc (Nat.le_refl _) _
  have hbox := heap_alloc_new w (.cells #[.int .i64 what, .int .i64 width, .int .i64 nodes, .slice dp ED.length dc, .slice np EN.length nc, .slice ip INI.length ic, .slice tp T.length tc] 27)
  cases sm
  · clear f1 f2
    go_enter Try.func4, Try.ntmps4
    go_wp2_with (first | ((go_at_call 7; refine' Calls.aft _ _ (awake32_any _) _; rotate_left 2; (exact Below.refl _ _; rfl); intro x1; have hle := After.le x1; (try simp at hle)); obtain ⟨y0, y1, y2, y3, y4, y5, y6, yl⟩ := seven (blk9 x1.below hbox)) | (go_at_call 8; refine' Calls.aft _ _ (f0 _ (nextB x1.below hb1)) _; rotate_left 2; (exact Below.refl _ _; rfl); intro x2; have hle := After.le x2; (try simp at hle)))
    go_ret
    exact ⟨rfl, nextB x2.below (nextB x1.below hb1)⟩
  have g1 := f1 rfl
  have g2 := f2 rfl
  clear f1 f2
  by_cases hc : c = 0
  rotate_left
  · have hcb : (c != 0) = true := by simpa using hc
    simp only [hc, if_false] at g1 g2
    clear hc hfac
    go_enter Try.func4, Try.ntmps4
    go_wp2_with (first | ((go_at_call 7; refine' Calls.aft _ _ (awake32_any _) _; rotate_left 2; (exact Below.refl _ _; rfl); intro x1; have hle := After.le x1; (try simp at hle)); obtain ⟨y0, y1, y2, y3, y4, y5, y6, yl⟩ := seven (blk9 x1.below hbox)) | ((go_at_call 8; refine' Calls.aft _ _ (f0 _ (nextB x1.below hb1)) _; rotate_left 2; (exact Below.refl _ _; rfl); intro x2; have hle := After.le x2; (try simp at hle)); obtain ⟨z0, z1, z2, z3, z4, z5, z6, zl⟩ := seven (blk9 x2.below (blk9 x1.below hbox))) | ((go_at_call 9; refine' Calls.aft _ _ (g1 _ (nextB x2.below (nextB x1.below hb1))) _; rotate_left 2; (exact Below.refl _ _; rfl); intro x3; have hle := After.le x3; (try simp at hle))))
    go_ret
    exact ⟨rfl, nextB ((Below.refl _ _).alloc (Nat.le_refl _) _) (nextB x3.below (nextB x2.below (nextB x1.below hb1)))⟩
  subst hc
  simp only [if_true] at g1 g2
  obtain ⟨hn0, hn1, hk0, hk1⟩ := hfac rfl
  obtain ⟨m, hm⟩ : ∃ m : Nat, (m : Int) = nodes := ⟨nodes.toNat, by omega⟩
  obtain ⟨q, hq⟩ : ∃ q : Nat, min k 9 = (q : Int) := ⟨(min k 9).toNat, by omega⟩
  subst hm
  rw [hq] at g1 g2 hk0 hk1
  have hq9 : q ≤ 9 := by omega
  have hm1 : m ≤ 256 := by omega
  have hmn : m * n ≤ 1000000 := Nat.le_trans (Nat.mul_le_mul hm1 hnn) (by decide)
  have hqr : q * (2 + (m + 1)) ≤ 1000000 := Nat.le_trans (Nat.mul_le_mul hq9 (show 2 + (m + 1) ≤ 300 by omega)) (by decide)
  have hp := fun W => parts32_any what n m q hmn (by omega) hqr W
  have e1 : ((m : Int) * (n : Int)) = ((m * n : Nat) : Int) := by simp
  have e2 : ((q : Int) * (2 + ((m : Int) + 1))) = ((q * (2 + (m + 1)) : Nat) : Int) := by simp
  have hdq : dq n m q = (lenP n m q : Int) := by unfold dq lenP; rw [e1, e2]; omega
  have hz := fun W => lsize_any what n m q (by omega) (by omega) (by omega) (by omega) (by rw [e2]; omega) (by rw [e2]; omega) W
  rw [hdq] at hz
  have hl0 : 0 < lenP n m q := by unfold lenP; omega
  have hpt := fun (x : Int) (hx0 : -9223372036854775808 ≤ x) (hx1 : x ≤ 9223372036854775807) W => part_any what n m q x (by omega) (by omega) (by omega) (by omega) (by rw [e2]; omega) (by rw [e2]; omega) (by omega) hx0 hx1 W
  go_enter Try.func4, Try.ntmps4
  go_wp2_with (first | ((go_at_call 7; refine' Calls.aft _ _ (awake32_any _) _; rotate_left 2; (exact Below.refl _ _; rfl); intro x1; have hle := After.le x1; (try simp at hle)); obtain ⟨y0, y1, y2, y3, y4, y5, y6, yl⟩ := seven (blk9 x1.below hbox)) | ((go_at_call 8; refine' Calls.aft _ _ (f0 _ (nextB x1.below hb1)) _; rotate_left 2; (exact Below.refl _ _; rfl); intro x2; have hle := After.le x2; (try simp at hle)); obtain ⟨z0, z1, z2, z3, z4, z5, z6, zl⟩ := seven (blk9 x2.below (blk9 x1.below hbox))) | ((go_at_call 9; refine' Calls.aft _ _ (g1 _ (nextB x2.below (nextB x1.below hb1))) _; rotate_left 2; (exact Below.refl _ _; rfl); intro x3; have hle := After.le x3; (try simp at hle)); obtain ⟨u0, u1, u2, u3, u4, u5, u6, ul⟩ := seven (blk9 x3.below (blk9 x2.below (blk9 x1.below hbox)))) | (go_at_call 10; refine' Calls.aft _ _ (g2 _ (nextB ((Below.refl _ _).alloc (Nat.le_refl _) _) (nextB x3.below (nextB x2.below (nextB x1.below hb1))))) _; rotate_left 2; (exact Below.refl _ _; rfl); intro x4; have hle := After.le x4; (try simp at hle)) | (go_at_call 18; refine (hp _).mono ?_; rintro e9 W2 ⟨fv, tv, rfl, hFr, hB2⟩; have hFf := hFr.f; have hFt := hFr.t; rw [partP_len] at hFf; rw [whoP_len] at hFt; obtain ⟨fg, fc, rfl⟩ := own_open hFf hl0; obtain ⟨tg, tc2, rfl⟩ := own_open hFt hl0; clear hFf hFt; have hfin : Below w.heap.size w W2 := nextB hB2 (nextB ((Below.refl _ _).alloc (Nat.le_refl _) _) (nextB x4.below (nextB ((Below.refl _ _).alloc (Nat.le_refl _) _) (nextB x3.below (nextB x2.below (nextB x1.below hb1)))))); obtain ⟨l0, l1, l2, l3, ll⟩ := four (blk9 hB2 (blk9 ((Below.refl _ _).alloc (Nat.le_refl _) _) (blk9 x4.below (heap_alloc_new x3.val (.cells #[.int .i64 what, .int .i64 (n : Int), .int .i64 (m : Int), .int .i64 (q : Int)] 31)))))) | (go_at_call 14; refine' Calls.aft _ _ (hz _) _; rotate_left 2; (exact Below.refl _ _; rfl); intro x5; have hle := After.le x5; (try simp at hle)))
  have hlL : lenP n m q ≤ 3000000 := by unfold lenP; omega
  go_loopw [54] (fun i wr => ∃ v : Nat, v ≤ lenP n m q ∧ i = .int .i64 v ∧ Below W2.heap.size W2 wr) (fun i _ => lenP n m q - (intOf i).toNat)
  case atStart => exact ⟨0, Nat.zero_le _, rfl, x5.below⟩
  case round =>
    obtain ⟨v, hv, rfl, hB⟩ := hrel
    obtain ⟨l0, l1, l2, l3, ll⟩ := four (blk9 hB (blk9 hB2 (blk9 ((Below.refl _ _).alloc (Nat.le_refl _) _) (blk9 x4.below (heap_alloc_new x3.val (.cells #[.int .i64 what, .int .i64 (n : Int), .int .i64 (m : Int), .int .i64 (q : Int)] 31))))))
    have hFw := hFr.below hB
    by_cases hlt : v < lenP n m q
    · have hlt2 : (v : Int) < lenP n m q := by omega
      have hpv := fun W => hpt (v : Int) (by omega) (by omega) W
      obtain ⟨hX, hY⟩ := parts_at n m q v hlt
      have cX := Tel.row_int hFw.f _ hX
      have cY := Tel.row_int hFw.t _ hY
      generalize (partY n m q v).1 = X at hpv cX
      generalize (partY n m q v).2 = Y at hpv cY
      have lX := World.block_lt_of_cell? _ _ cX
      have lY := World.block_lt_of_cell? _ _ cY
      clear hX hY hpt hp
      go_wp2_with (go_at_call 19; refine' Calls.aft _ _ (hpv _) _; rotate_left 2; (exact Below.refl _ _; rfl); intro x6; have hle := After.le x6; (try simp at hle))
      go_roundw
      case rel => exact ⟨v + 1, by omega, by simp, nextB x6.below hB⟩
      case measure => simp [intOf]; omega
    · have hvl : v = lenP n m q := by omega
      have hlt2 : ¬ (v : Int) < lenP n m q := by omega
      have hfin2 := nextB hB hfin
      have hpa := fun W => hpt a a0 a1 W
      by_cases h1 : 0 ≤ a
      · by_cases h2 : a < lenP n m q
        · generalize (partY n m q a).1 = X at hpa
          generalize (partY n m q a).2 = Y at hpa
          clear hpt hp hz hvl
          go_wp2_with (go_at_call 19; refine' Calls.aft _ _ (hpa _) _; rotate_left 2; (exact Below.refl _ _; rfl); intro x6; have hle := After.le x6; (try simp at hle))
          go_ret
          exact ⟨rfl, nextB x6.below hfin2⟩
        · rw [parts_out n m q a (.inr (by omega))] at hpa
          clear hpt hp hz hvl
          go_wp2_with (go_at_call 19; refine' Calls.aft _ _ (hpa _) _; rotate_left 2; (exact Below.refl _ _; rfl); intro x6; have hle := After.le x6; (try simp at hle))
          go_ret
          exact ⟨rfl, nextB x6.below hfin2⟩
      · rw [parts_out n m q a (.inl (by omega))] at hpa
        clear hpt hp hz hvl
        go_wp2_with (go_at_call 19; refine' Calls.aft _ _ (hpa _) _; rotate_left 2; (exact Below.refl _ _; rfl); intro x6; have hle := After.le x6; (try simp at hle))
        go_ret
        exact ⟨rfl, nextB x6.below hfin2⟩

end Go.Proofs.Ytjjmoibnmdbpeaa.Pr
