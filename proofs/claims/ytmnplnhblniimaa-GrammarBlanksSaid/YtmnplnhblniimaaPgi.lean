/- THE PAGE'S READER: WALK of Named. -/
import Derived.Test.YtmnplnhblniimaaPgh
namespace Go.Proofs.Ytmnplnhblniimaa.Gr
set_option linter.unusedVariables false
set_option linter.unusedSimpArgs false
open Go Go.RowKit

/-- Where the first bad name stands, as the page counts it. -/
def atOf (a : Int × Int) : Int := if a.1 = 0 then 1099511627776 else a.2
def inK (l : List Tok) (s : ByteArray) (a : Int × Int) (e : Int) (t : Tok) (j : Nat) : Int × Int := if hasT (l.take j) s then leastE a e t else a
theorem hasT_step (l : List Tok) (s : ByteArray) (k : Nat) (hk : k < l.length) : hasT (l.take (k + 1)) s = (hasT (l.take k) s || (l[k]'hk).s.toList == s.toList) := by
  unfold hasT
  rw [List.take_add_one, List.any_append, List.getElem?_eq_getElem hk]
  simp
/-- Behind a bad name the same one is no earlier. -/
theorem least_again (a : Int × Int) (e : Int) (he : e ≠ 0) (t : Tok) (ht : t.pos < 1099511627776) : ¬ t.pos < atOf (leastE a e t) := by
  unfold leastE atOf
  by_cases q : a.1 = 0 ∨ t.pos < a.2
  · rw [if_pos q]
    simp only [he, if_false]
    omega
  · rw [if_neg q]
    have h0 : a.1 ≠ 0 := fun h => q (.inl h)
    rw [if_neg h0]
    intro h
    exact q (.inr h)
theorem least_lt (a : Int × Int) (e : Int) (t : Tok) (ht : t.pos < 1099511627776) : leastE a e t = if t.pos < atOf a then (e, t.pos) else a := by
  unfold leastE atOf
  by_cases h0 : a.1 = 0
  · rw [if_pos (.inl h0), if_pos h0, if_pos ht]
  · rw [if_neg h0]
    by_cases h1 : t.pos < a.2
    · rw [if_pos (.inr h1), if_pos h1]
    · rw [if_neg (by rintro (h | h); exact h0 h; exact h1 h), if_neg h1]
theorem inK_step (l : List Tok) (s : ByteArray) (a : Int × Int) (e : Int) (he : e ≠ 0) (t : Tok) (ht : t.pos < 1099511627776) (j : Nat) (hj : j < l.length) :
    inK l s a e t (j + 1) = if ((l[j]'hj).s.toList == s.toList) = true ∧ t.pos < atOf (inK l s a e t j) then (e, t.pos) else inK l s a e t j := by
  unfold inK
  rw [hasT_step l s j hj]
  cases hp : hasT (l.take j) s with
  | true =>
    simp only [Bool.true_or, if_true]
    rw [if_neg]
    rintro ⟨_, h⟩
    exact least_again a e he t ht h
  | false =>
    simp only [Bool.false_or, Bool.false_eq_true, if_false]
    cases hm : ((l[j]'hj).s.toList == s.toList) with
    | true => simp only [if_true, true_and]; exact least_lt a e t ht
    | false => simp
theorem at_least (e : Int) (he : e ≠ 0) (p : Int) : atOf (e, p) = p := if_neg he

section
variable {b : Nat} {L : List Tok} {lv vv tv bv : Value} {w : World} {r : R}

set_option maxRecDepth 100000 in
set_option maxHeartbeats 4000000 in
theorem pnamed_any (h : Px b L lv vv tv bv w r) (he0 : r.e = 0) (htg : r.tg.length ≤ 90000) (hbk : r.bk.length ≤ 90000) (hp1 : ∀ t ∈ r.bk, t.pos < 1099511627776) (hp2 : ∀ t ∈ r.tg, t.pos < 1099511627776) :
    Calls Try.prog 28 #[.pointer (some ⟨b, 0, none⟩)] w fun e w' => e = .returned (.tuple #[]) ∧ (∃ p1, ((namedE r).1 ≠ 0 → p1 = (namedE r).2) ∧ Px b L lv vv tv bv w' { r with e := (namedE r).1, p := p1 }) ∧ Keep b [] w w' := by
  obtain ⟨bp, bc, rfl, hbc⟩ := own_cap h.rows.b
  obtain ⟨tp, tc, rfl⟩ := own_len h.rows.t
  obtain ⟨y0, y1, y2, y3, y4, y5, y6, y7, yf, yl⟩ := row8 h.box
  have hE : namedE r = tgtN r.bk r.tg (namesN r.bk r.bk.length) r.tg.length := rfl
  have hE2 : Hid (namedE r = tgtN r.bk r.tg (namesN r.bk r.bk.length) r.tg.length) := hE
  have hbw := lt_blk h.box
  have hG0 : Px b L lv vv (.slice tp r.tg.length tc) (.slice bp r.bk.length bc) w { r with e := (namesN r.bk 0).1 } := by
    have : ({ r with e := (namesN r.bk 0).1 } : R) = r := by show ({ r with e := 0 } : R) = r; rw [← he0]
    rw [this]; exact h
  clear hE h
  generalize hNE : namedE r = NE at hE2 ⊢
  have hE3 : Hid (NE = tgtN r.bk r.tg (namesN r.bk r.bk.length) r.tg.length) := hE2
  clear hE2 hNE
  go_enter Try.func28, Try.ntmps28
  go_wp2_with fail
  go_loopw [2, 17] (fun d i wr => ∃ k : Nat, k ≤ r.bk.length ∧ i = .int .i64 k ∧ d = .int .i64 (atOf (namesN r.bk k)) ∧ Px b L lv vv (.slice tp r.tg.length tc) (.slice bp r.bk.length bc) wr { r with e := (namesN r.bk k).1 } ∧ Keep b [] w wr) (fun _ i _ => r.bk.length - (intOf i).toNat)
  case atStart => exact ⟨0, Nat.zero_le _, rfl, rfl, hG0, Keep.refl _ _ _⟩
  case round =>
    obtain ⟨k, hk, rfl, rfl, hG, hK⟩ := hrel
    have hzw := hK.size
    obtain ⟨y0, y1, y2, y3, y4, y5, y6, y7, yf, yl⟩ := row8 hG.box
    by_cases hlt : k < r.bk.length
    · obtain ⟨g, cap, hgc, hg1, hg2⟩ := own_some hG.rows.b (by show 0 < r.bk.length; omega)
      cases hgc
      have hlt2 : (k : Int) < r.bk.length := by omega
      have hkc : k ≤ bc := by omega
      obtain ⟨c0, c1, c2, c3⟩ := tok_of (w := wr) (s := 0) hG.rows.b k hlt
      have hpk := hp1 _ (List.getElem_mem hlt)
      have hnx : Hid (namesN r.bk (k + 1) = if hasT (r.bk.take k) (r.bk[k]'hlt).s then leastE (namesN r.bk k) 5 (r.bk[k]'hlt) else namesN r.bk k) := by show _ = _; rw [namesN, List.getElem?_eq_getElem hlt]
      generalize r.bk[k]'hlt = t at c0 c1 c2 c3 hnx hpk
      obtain ⟨tk, tpo, ts, tn⟩ := t
      simp only at c0 c1 c2 c3 hpk
      have hGb := hG.below ((Below.refl _ _).alloc (Nat.le_refl _) (.cells #[.int .i64 tk, .int .i64 tpo, .string ts, .int .i64 tn] 39))
      have hT := heap_alloc_new wr (.cells #[.int .i64 tk, .int .i64 tpo, .string ts, .int .i64 tn] 39)
      have hKb := hK.alloc (.cells #[.int .i64 tk, .int .i64 tpo, .string ts, .int .i64 tn] 39)
      generalize namesN r.bk k = A at hG hGb hnx
      go_wp2_with fail
      generalize wr.heap.size = tb at *
      go_loopw [2, 29] (fun d i wq => ∃ j : Nat, j ≤ k ∧ i = .int .i64 j ∧ d = .int .i64 (atOf (inK (r.bk.take k) ts A 5 ⟨tk, tpo, ts, tn⟩ j)) ∧ Px b L lv vv (.slice tp r.tg.length tc) (.slice (some ⟨g, 0, none⟩) r.bk.length bc) wq { r with e := (inK (r.bk.take k) ts A 5 ⟨tk, tpo, ts, tn⟩ j).1 } ∧ Keep b [] w wq ∧ wq.heap[tb]? = some (.cells #[.int .i64 tk, .int .i64 tpo, .string ts, .int .i64 tn] 39 (0, 0))) (fun _ i _ => k - (intOf i).toNat)
      case atStart => exact ⟨0, Nat.zero_le _, rfl, rfl, hGb, hKb, hT⟩
      case round =>
        obtain ⟨j, hj, rfl, rfl, hGq, hKq, hTq⟩ := hrel
        have hzq := hKq.size
        obtain ⟨y0, y1, y2, y3, y4, y5, y6, y7, yf, yl⟩ := row8 hGq.box
        obtain ⟨x0, x1, x2, x3, xf, xl⟩ := row4 hTq
        have htk : (r.bk.take k).length = k := by rw [List.length_take]; omega
        by_cases hlj : j < k
        · have hlj2 : (j : Int) < k := by omega
          have hjb : j < r.bk.length := by omega
          obtain ⟨e0, e1, e2, e3⟩ := tok_of (w := wr) (s := 0) hGq.rows.b j hjb
          have el := World.block_lt_of_cell? _ _ e0
          have hst : Hid (inK (r.bk.take k) ts A 5 ⟨tk, tpo, ts, tn⟩ (j + 1) = if ((r.bk[j]'hjb).s.toList == ts.toList) = true ∧ tpo < atOf (inK (r.bk.take k) ts A 5 ⟨tk, tpo, ts, tn⟩ j) then (5, tpo) else inK (r.bk.take k) ts A 5 ⟨tk, tpo, ts, tn⟩ j) := by
            have := inK_step (r.bk.take k) ts A 5 (by decide) ⟨tk, tpo, ts, tn⟩ hpk j (by omega)
            rw [List.getElem_take] at this
            exact this
          generalize r.bk[j]'hjb = u at e0 e1 e2 e3 hst
          obtain ⟨uk, upo, us, un⟩ := u
          simp only at e0 e1 e2 e3
          have hGu := hGq.below ((Below.refl _ _).alloc (Nat.le_refl _) (.cells #[.int .i64 uk, .int .i64 upo, .string us, .int .i64 un] 39))
          have hTu := blkN ((Below.refl _ _).alloc (Nat.le_refl _) (.cells #[.int .i64 uk, .int .i64 upo, .string us, .int .i64 un] 39)) hTq
          have hKu := hKq.alloc (.cells #[.int .i64 uk, .int .i64 upo, .string us, .int .i64 un] 39)
          cases hm : (us.toList == ts.toList) with
          | true =>
            by_cases hq : tpo < atOf (inK (r.bk.take k) ts A 5 ⟨tk, tpo, ts, tn⟩ j)
            · have hs2 : inK (r.bk.take k) ts A 5 ⟨tk, tpo, ts, tn⟩ (j + 1) = (5, tpo) := by
                have := hst
                unfold Hid at this
                rw [this, if_pos ⟨hm, hq⟩]
              have hs3 := And.intro True.intro hs2
              generalize inK (r.bk.take k) ts A 5 ⟨tk, tpo, ts, tn⟩ j = B at hGq hGu hq
              generalize atOf B = ab at hq
              clear hst hs2
              go_wp2_with fail
              go_roundw
              case measure => simp [intOf]; omega
              case rel =>
                have hGv := (hGq.put2 5).below ((Below.refl _ _).alloc (Nat.le_refl _) (.cells #[.int .i64 uk, .int .i64 upo, .string us, .int .i64 un] 39))
                refine ⟨j + 1, by omega, by first | rfl | (norm_cast), ?_, ?_, ?_, ?_⟩
                · rw [hs3.2, at_least 5 (by decide)]
                · rw [hs3.2]; exact hGv
                · exact (hKq.set _ (.inl rfl)).alloc _
                · exact blkN ((Below.refl _ _).alloc (Nat.le_refl _) _) ((heap_setCell_other _ _ _ _ (by show tb ≠ b; omega)).trans hTq)
            · have hs3 : True ∧ inK (r.bk.take k) ts A 5 ⟨tk, tpo, ts, tn⟩ (j + 1) = inK (r.bk.take k) ts A 5 ⟨tk, tpo, ts, tn⟩ j := by
                have := hst
                unfold Hid at this
                rw [this, if_neg (fun h => hq h.2)]
                exact ⟨trivial, rfl⟩
              generalize inK (r.bk.take k) ts A 5 ⟨tk, tpo, ts, tn⟩ j = B at hGq hGu hq hs3
              generalize hab : atOf B = ab at hq
              clear hst
              go_wp2_with fail
              go_roundw
              case measure => simp [intOf]; omega
              case rel =>
                refine ⟨j + 1, by omega, by first | rfl | (norm_cast), ?_, ?_, ?_, ?_⟩
                · rw [hs3.2, hab]
                · rw [hs3.2]; exact hGu
                · exact hKu
                · exact hTu
          | false =>
            have hs3 : True ∧ inK (r.bk.take k) ts A 5 ⟨tk, tpo, ts, tn⟩ (j + 1) = inK (r.bk.take k) ts A 5 ⟨tk, tpo, ts, tn⟩ j := by
              have := hst
              unfold Hid at this
              rw [this, if_neg (fun h => by rw [hm] at h; exact absurd h.1 (by decide))]
              exact ⟨trivial, rfl⟩
            generalize inK (r.bk.take k) ts A 5 ⟨tk, tpo, ts, tn⟩ j = B at hGq hGu hs3
            generalize hab : atOf B = ab
            clear hst
            go_wp2_with fail
            go_roundw
            case measure => simp [intOf]; omega
            case rel =>
              refine ⟨j + 1, by omega, by first | rfl | (norm_cast), ?_, ?_, ?_, ?_⟩
              · rw [hs3.2, hab]
              · rw [hs3.2]; exact hGu
              · exact hKu
              · exact hTu
        · have hjk : j = k := by omega
          subst hjk
          have hin : inK (r.bk.take j) ts A 5 ⟨tk, tpo, ts, tn⟩ j = namesN r.bk (j + 1) := by
            have := hnx
            unfold Hid at this
            rw [this]; unfold inK
            rw [List.take_take, Nat.min_self]
          rw [hin] at hGq ⊢
          go_wp2_with fail
          go_roundw
          case measure => simp [intOf]; omega
          case rel =>
            exact ⟨j + 1, by omega, by first | rfl | (norm_cast), rfl, hGq, hKq⟩
    · obtain rfl : k = r.bk.length := by omega
      generalize hA0 : namesN r.bk r.bk.length = A0 at hG hE3
      go_wp2_with fail
      go_loopw [2, 56] (fun d i wr => ∃ k : Nat, k ≤ r.tg.length ∧ i = .int .i64 k ∧ d = .int .i64 (atOf (tgtN r.bk r.tg A0 k)) ∧ Px b L lv vv (.slice tp r.tg.length tc) (.slice bp r.bk.length bc) wr { r with e := (tgtN r.bk r.tg A0 k).1 } ∧ Keep b [] w wr) (fun _ i _ => r.tg.length - (intOf i).toNat)
      case atStart => exact ⟨0, Nat.zero_le _, rfl, rfl, hG, hK⟩
      case round =>
        clear hG hK hzw y0 y1 y2 y3 y4 y5 y6 y7 yf yl
        obtain ⟨k, hk, rfl, rfl, hG, hK⟩ := hrel
        have hzw := hK.size
        obtain ⟨y0, y1, y2, y3, y4, y5, y6, y7, yf, yl⟩ := row8 hG.box
        by_cases hlt : k < r.tg.length
        · obtain ⟨g, cap, hgc, hg1, hg2⟩ := own_some hG.rows.t (by show 0 < r.tg.length; omega)
          cases hgc
          have hlt2 : (k : Int) < r.tg.length := by omega
          obtain ⟨c0, c1, c2, c3⟩ := tok_of (w := wr) (s := 0) hG.rows.t k hlt
          have cl := World.block_lt_of_cell? _ _ c0
          have hpk := hp2 _ (List.getElem_mem hlt)
          have hnx : Hid (tgtN r.bk r.tg A0 (k + 1) = if hasT r.bk (r.tg[k]'hlt).s then tgtN r.bk r.tg A0 k else leastE (tgtN r.bk r.tg A0 k) 4 (r.tg[k]'hlt)) := by show _ = _; rw [tgtN, List.getElem?_eq_getElem hlt]
          generalize r.tg[k]'hlt = t at c0 c1 c2 c3 hnx hpk
          obtain ⟨tk, tpo, ts, tn⟩ := t
          simp only at c0 c1 c2 c3 hpk
          have hGb := hG.below ((Below.refl _ _).alloc (Nat.le_refl _) (.cells #[.int .i64 tk, .int .i64 tpo, .string ts, .int .i64 tn] 39))
          have hT := heap_alloc_new wr (.cells #[.int .i64 tk, .int .i64 tpo, .string ts, .int .i64 tn] 39)
          have hKb := hK.alloc (.cells #[.int .i64 tk, .int .i64 tpo, .string ts, .int .i64 tn] 39)
          generalize tgtN r.bk r.tg A0 k = A at hG hGb hnx
          generalize hab : atOf A = ab
          go_wp2_with fail
          generalize wr.heap.size = tb at *
          go_loopw [9, 65] (fun d i wq => ∃ j : Nat, j ≤ r.bk.length ∧ i = .int .i64 j ∧ d = .bool (hasT (r.bk.take j) ts) ∧ Px b L lv vv (.slice (some ⟨g, 0, none⟩) r.tg.length tc) (.slice bp r.bk.length bc) wq { r with e := A.1 } ∧ Keep b [] w wq ∧ wq.heap[tb]? = some (.cells #[.int .i64 tk, .int .i64 tpo, .string ts, .int .i64 tn] 39 (0, 0))) (fun _ i _ => r.bk.length - (intOf i).toNat)
          case atStart => exact ⟨0, Nat.zero_le _, rfl, rfl, hGb, hKb, hT⟩
          case round =>
            obtain ⟨j, hj, rfl, rfl, hGq, hKq, hTq⟩ := hrel
            have hzq := hKq.size
            obtain ⟨y0, y1, y2, y3, y4, y5, y6, y7, yf, yl⟩ := row8 hGq.box
            obtain ⟨x0, x1, x2, x3, xf, xl⟩ := row4 hTq
            by_cases hlj : j < r.bk.length
            · have hlj2 : (j : Int) < r.bk.length := by omega
              obtain ⟨g2, cap2, hgc2, hg3, hg4⟩ := own_some hGq.rows.b (by show 0 < r.bk.length; omega)
              cases hgc2
              obtain ⟨e0, e1, e2, e3⟩ := tok_of (w := wr) (s := 0) hGq.rows.b j hlj
              have el := World.block_lt_of_cell? _ _ e0
              have hst := hasT_step r.bk ts j hlj
              generalize r.bk[j]'hlj = u at e0 e1 e2 e3 hst
              obtain ⟨uk, upo, us, un⟩ := u
              simp only at e0 e1 e2 e3 hst
              have hGu := hGq.below ((Below.refl _ _).alloc (Nat.le_refl _) (.cells #[.int .i64 uk, .int .i64 upo, .string us, .int .i64 un] 39))
              have hTu := blkN ((Below.refl _ _).alloc (Nat.le_refl _) (.cells #[.int .i64 uk, .int .i64 upo, .string us, .int .i64 un] 39)) hTq
              have hKu := hKq.alloc (.cells #[.int .i64 uk, .int .i64 upo, .string us, .int .i64 un] 39)
              have hs3 := And.intro True.intro hst
              clear hst
              cases hh : hasT (r.bk.take j) ts with
              | true =>
                rw [hh] at hs3
                go_wp2_with fail
                go_roundw
                case measure => simp [intOf]; omega
                case rel => exact ⟨j + 1, by omega, by first | rfl | (norm_cast), by rw [hs3.2]; rfl, hGu, hKu, hTu⟩
              | false =>
                rw [hh] at hs3
                go_wp2_with fail
                go_roundw
                case measure => simp [intOf]; omega
                case rel => exact ⟨j + 1, by omega, by first | rfl | (norm_cast), by rw [hs3.2]; rfl, hGu, hKu, hTu⟩
            · obtain rfl : j = r.bk.length := by omega
              rw [List.take_length]
              cases hh : hasT r.bk ts with
              | true =>
                have hs3 : True ∧ tgtN r.bk r.tg A0 (k + 1) = A := ⟨trivial, by have := hnx; unfold Hid at this; rw [this, hh]; rfl⟩
                go_wp2_with fail
                go_roundw
                case measure => simp [intOf]; omega
                case rel => exact ⟨k + 1, by omega, by first | rfl | (norm_cast), by rw [hs3.2, hab], by rw [hs3.2]; exact hGq, hKq⟩
              | false =>
                by_cases hq : tpo < ab
                · have hs3 : True ∧ tgtN r.bk r.tg A0 (k + 1) = (4, tpo) := ⟨trivial, by have := hnx; unfold Hid at this; rw [this, hh, if_neg (by decide), least_lt _ _ _ hpk, hab, if_pos hq]⟩
                  go_wp2_with fail
                  go_roundw
                  case measure => simp [intOf]; omega
                  case rel => exact ⟨k + 1, by omega, by first | rfl | (norm_cast), by rw [hs3.2, at_least 4 (by decide)], by rw [hs3.2]; exact hGq.put2 4, hKq.set _ (.inl rfl)⟩
                · have hs3 : True ∧ tgtN r.bk r.tg A0 (k + 1) = A := ⟨trivial, by have := hnx; unfold Hid at this; rw [this, hh, if_neg (by decide), least_lt _ _ _ hpk, hab, if_neg hq]⟩
                  go_wp2_with fail
                  go_roundw
                  case measure => simp [intOf]; omega
                  case rel => exact ⟨k + 1, by omega, by first | rfl | (norm_cast), by rw [hs3.2, hab], by rw [hs3.2]; exact hGq, hKq⟩
        · obtain rfl : k = r.tg.length := by omega
          have hs3 : True ∧ NE = tgtN r.bk r.tg A0 r.tg.length := ⟨trivial, hE3⟩
          generalize tgtN r.bk r.tg A0 r.tg.length = B at hG hs3 y2
          obtain ⟨_, rfl⟩ := hs3
          clear hE3
          obtain ⟨ne, np⟩ := NE
          simp only at hG y2
          by_cases hne : ne = 0
          · subst hne
            have q1 : ((0 : Int) == 0) = true := by simp
            go_wp2_with fail
            go_end0
            exact ⟨rfl, ⟨r.p, hG⟩, hK⟩
          · have q1 : (ne == 0) = false := by simpa using hne
            go_wp2_with fail
            go_end0
            exact ⟨rfl, by rw [show atOf (ne, np) = np from at_least ne hne np]; exact hG.put3 np, hK.set _ (.inl rfl)⟩
end

end Go.Proofs.Ytmnplnhblniimaa.Gr
