/- THE READER: WALK of named. -/
import Derived.Test.YtmnplnhblniimaaGrm
namespace Go.Proofs.Ytmnplnhblniimaa.Gr
set_option linter.unusedVariables false
set_option linter.unusedSimpArgs false
open Go Go.RowKit

theorem own_cap {w : World} {base : Nat} {e : TypeId} {size n : Nat} {v : Value} {xs : List Value} (h : w.ownsRow base e size v n xs) : ∃ p cap, v = .slice p n cap ∧ n ≤ cap := by
  rcases h.2 with ⟨rfl, rfl⟩ | ⟨g, cap, cur, rfl, _, _, hnc, _⟩
  · exact ⟨_, _, rfl, Nat.le_refl _⟩
  · exact ⟨_, _, rfl, hnc⟩
theorem Sl.front {α : Type} {enc : α → List Value} {w : World} {p : Option Addr} {n c c2 k : Nat} {X : List α} (h : Sl w (.slice p n c) enc X) (hk : k ≤ X.length) {u : Nat} (he : ∀ x, (enc x).length = u) : Sl w (.slice p k c2) enc (X.take k) := by
  obtain ⟨b, off, p', cap, hv, hp, hc⟩ := h
  cases hv
  have hl : (X.take k).length = k := by rw [List.length_take]; omega
  refine ⟨b, off, p, c2, by rw [hl], fun h0 => hp (by omega), fun j x hx => hc j x ?_⟩
  have h1 : X.flatMap enc = (X.take k).flatMap enc ++ (X.drop k).flatMap enc := by rw [← List.flatMap_append, List.take_append_drop]
  rw [h1]
  have hj : j < ((X.take k).flatMap enc).length := by
    rcases Nat.lt_or_ge j ((X.take k).flatMap enc).length with h | h
    · exact h
    · rw [List.getElem?_eq_none h] at hx; cases hx
  rw [List.getElem?_append_left hj]
  exact hx

/-- The same first error, whatever the place where there was none. -/
def Al (a : Int × Int) (e p : Int) : Prop := e = a.1 ∧ (a.1 ≠ 0 → p = a.2)
theorem Al.least {a : Int × Int} {e p : Int} (h : Al a e p) (ee : Int) (t : Tok) : Al (leastE a ee t) (leastE (e, p) ee t).1 (leastE (e, p) ee t).2 := by
  obtain ⟨h1, h2⟩ := h
  unfold leastE Al
  simp only
  by_cases h0 : a.1 = 0
  · rw [if_pos (.inl (h1.trans h0)), if_pos (.inl h0)]
    exact ⟨rfl, fun _ => rfl⟩
  · have := h2 h0
    subst this
    subst h1
    by_cases q : a.1 = 0 ∨ t.pos < a.2
    · rw [if_pos q]; exact ⟨rfl, fun _ => rfl⟩
    · rw [if_neg q]; exact ⟨rfl, fun _ => rfl⟩

section
variable {b : Nat} {L : List Tok} {lv vv tv bv : Value} {w : World} {r : R}

/-- Where named stands: a is the first error so far. -/
structure Nm (b : Nat) (L : List Tok) (lv vv tv bv : Value) (w wr : World) (r : R) (a : Int × Int) (e p pl : Int) : Prop where
  g : Gx b L lv vv tv bv wr { r with e := e, p := p }
  al : Al a e p
  pb : wr.heap[w.heap.size + 1]? = some (.cells #[.int .i64 pl] 3 (0, 0))
  rb : wr.heap[w.heap.size]? = some (.cells #[.pointer (some ⟨b, 0, none⟩)] 62 (0, 0))
  pl : e ≠ 0 → pl = p
  k : Keep b [] w wr
theorem Nm.below {wr q : World} {a : Int × Int} {e p pl : Int} (h : Nm b L lv vv tv bv w wr r a e p pl) (hq : Below wr.heap.size wr q) : Nm b L lv vv tv bv w q r a e p pl :=
  ⟨h.g.below hq, h.al, blkN hq h.pb, blkN hq h.rb, h.pl, h.k.next hq⟩

theorem Nm.put {wr W : World} {a : Int × Int} {e p pl : Int} {ee : Int} {t : Tok} (h : Nm b L lv vv tv bv w wr r a e p pl) (hp : PutOk b (w.heap.size + 1) L lv vv tv bv wr W { r with e := e, p := p } (leastE (e, p) ee t)) (hb : b < w.heap.size) :
    ∃ e' p' pl', Nm b L lv vv tv bv w W r (leastE a ee t) e' p' pl' := by
  obtain ⟨pl', h1, h2⟩ := hp.ex
  exact ⟨_, _, pl', hp.g, h.al.least ee t, h1, hp.k.blk h.rb (by omega) (by omega) (by simp), h2, h.k.trans2 hp.k (by omega)⟩

theorem tok_of {w wr : World} {g c : Nat} {base s : Nat} {X : List Tok} (h : wr.ownsRow base 39 4 (.slice (some ⟨g, 0, none⟩) X.length c) X.length (Tk.cells X)) (k : Nat) (hk : k < X.length) :
    wr.cell? ⟨g, k * 4, none⟩ = some (.int .i64 (X[k]'hk).kind) ∧ wr.cell? ⟨g, k * 4 + 1, none⟩ = some (.int .i64 (X[k]'hk).pos) ∧ wr.cell? ⟨g, k * 4 + 2, none⟩ = some (.string (X[k]'hk).s) ∧ wr.cell? ⟨g, k * 4 + 3, none⟩ = some (.int .i64 (X[k]'hk).n) := by
  have hc : ∀ j u, (Tk.cells X)[j]? = some u → wr.cell? ⟨g, j, none⟩ = some u := fun j u hu => by
    have := h.cells (g := g) rfl j u hu
    rwa [Go.WideShapes.add_plain, Nat.zero_add] at this
  have hf : ∀ r u, (X[k]'hk).cells[r]? = some u → r < 4 → (Tk.cells X)[k * 4 + r]? = some u := fun r u hu hr => by
    unfold Tk.cells
    rw [flat_get (k := 4) (fun _ => rfl) X k r hr, List.getElem?_eq_getElem hk]
    exact hu
  exact ⟨hc _ _ (hf 0 _ rfl (by decide)), hc _ _ (hf 1 _ rfl (by decide)), hc _ _ (hf 2 _ rfl (by decide)), hc _ _ (hf 3 _ rfl (by decide))⟩

set_option maxRecDepth 100000 in
set_option maxHeartbeats 4000000 in
theorem named_any (h : Gx b L lv vv tv bv w r) (hL : Lok L) (he0 : r.e = 0) (htg : r.tg.length ≤ 90000) (hbk : r.bk.length ≤ 90000) :
    Calls Try.prog 24 #[.pointer (some ⟨b, 0, none⟩)] w fun e w' => e = .returned (.tuple #[]) ∧ ∃ e1 p1, Al (namedE r) e1 p1 ∧ Gx b L lv vv tv bv w' { r with e := e1, p := p1 } ∧ Keep b [] w w' := by
  obtain ⟨bp, bc, rfl, hbc⟩ := own_cap h.rows.b
  obtain ⟨tp, tc, rfl⟩ := own_len h.rows.t
  obtain ⟨y0, y1, y2, y3, y4, y5, y6, y7, yf, yl⟩ := row8 h.box
  obtain ⟨lp, lc, rfl⟩ : ∃ p c, lv = .slice p L.length c := by obtain ⟨_, _, p, c, hv, _⟩ := h.rows.l; exact ⟨p, c, hv⟩
  have hLl := hL.len
  have hbw := lt_blk h.box
  obtain ⟨hB1, hr1, hp1⟩ := two w (.cells #[.pointer (some ⟨b, 0, none⟩)] 62) (.cells #[.int .i64 L.length] 3)
  have hN0 : Nm b L (.slice lp L.length lc) vv (.slice tp r.tg.length tc) (.slice bp r.bk.length bc) w ((w.alloc (.cells #[.pointer (some ⟨b, 0, none⟩)] 62)).alloc (.cells #[.int .i64 L.length] 3)) r (namesN r.bk 0) r.e r.p L.length :=
    ⟨h.below hB1, ⟨he0, fun hh => absurd rfl hh⟩, hp1, hr1, fun hh => absurd he0 hh, Keep.of_below hB1⟩
  have hE : namedE r = tgtN r.bk r.tg (namesN r.bk r.bk.length) r.tg.length := rfl
  have hE2 := And.intro True.intro hE
  clear hE h
  go_enter Try.func24, Try.ntmps24
  go_wp2_with fail
  have hbl : ∀ k, k < r.bk.length → (k : Int) < r.bk.length := fun k hk => by omega
  go_loopw [20] (fun i wr => ∃ (k : Nat) (e p pl : Int), k ≤ r.bk.length ∧ i = .int .i64 k ∧ Nm b L (.slice lp L.length lc) vv (.slice tp r.tg.length tc) (.slice bp r.bk.length bc) w wr r (namesN r.bk k) e p pl) (fun i _ => r.bk.length - (intOf i).toNat)
  case atStart => exact ⟨0, _, _, _, Nat.zero_le _, rfl, hN0⟩
  case round =>
    obtain ⟨k, e, p, pl, hk, rfl, hN⟩ := hrel
    have hzw := hN.k.size
    by_cases hlt : k < r.bk.length
    · obtain ⟨g, cap, hgc, hg1, hg2⟩ := own_some hN.g.rows.b (by show 0 < r.bk.length; omega)
      cases hgc
      have hlt2 := hbl k hlt
      have hkc : k ≤ bc := by omega
      obtain ⟨c0, c1, c2, c3⟩ := tok_of (w := wr) (s := 0) hN.g.rows.b k hlt
      obtain ⟨q0, ql⟩ := row1 hN.rb
      obtain ⟨y0, y1, y2, y3, y4, y5, y6, y7, yf, yl⟩ := row8 hN.g.box
      have hSl := Sl.front (c2 := bc) (Sl.of_own (enc := Tk.Tok.cells) hN.g.rows.b) (Nat.le_of_lt hlt) (u := 4) (fun _ => rfl)
      have hnx : namesN r.bk (k + 1) = if hasT (r.bk.take k) (r.bk[k]'hlt).s then leastE (namesN r.bk k) 5 (r.bk[k]'hlt) else namesN r.bk k := by rw [namesN, List.getElem?_eq_getElem hlt]
      have hnx2 := And.intro True.intro hnx
      clear hnx
      generalize r.bk[k]'hlt = t at c0 c1 c2 c3 hnx2
      obtain ⟨tk, tpo, ts, tn⟩ := t
      simp only at c0 c1 c2 c3
      have hNb := hN.below ((Below.refl _ _).alloc (Nat.le_refl _) (.cells #[.int .i64 tk, .int .i64 tpo, .string ts, .int .i64 tn] 39))
      have hSb := hSl.below ((Below.refl _ _).alloc (Nat.le_refl _) (.cells #[.int .i64 tk, .int .i64 tpo, .string ts, .int .i64 tn] 39))
      have fh := fun (W : World) (hW : Below (wr.alloc (.cells #[.int .i64 tk, .int .i64 tpo, .string ts, .int .i64 tn] 39)).heap.size (wr.alloc (.cells #[.int .i64 tk, .int .i64 tpo, .string ts, .int .i64 tn] 39)) W) => hasT_any (r.bk.take k) ts (by rw [List.length_take]; omega) _ W (hSb.below hW)
      have yl0 : b < w.heap.size := hbw
      cases hh : hasT (r.bk.take k) ts with
      | true =>
        rw [hh] at fh
        go_wp2_with fail
        refine' region_whole _ _ (by kernel_rfl) (by kernel_rfl) _; rotate_left 2; (exact Below.refl _ _; rfl); (repeat (go_big_quiet_step (first | (go_at_call 50; exact Calls.after_of (fh _ (After.below _)))))); refine wpQuiet_nil ?_; intro z
        have hNz := hNb.below z.below
        obtain ⟨m0, m1, m2, m3, mf, ml⟩ := row4 (blkN z.below (heap_alloc_new wr (.cells #[.int .i64 tk, .int .i64 tpo, .string ts, .int .i64 tn] 39)))
        have fp := put_any hNz.g pl hNz.pb hNz.rb (by omega) (by omega) hNz.pl 5 (by decide) ⟨tk, tpo, ts, tn⟩
        go_wp2_with (go_at_call 49; refine fp.mono ?_; rintro e9 W5 ⟨rfl, hP⟩)
        obtain ⟨e', p', pl', hN5⟩ := hNz.put hP yl0
        go_roundw
        case rel => exact ⟨k + 1, e', p', pl', by omega, by simp, by rw [hnx2.2, hh, if_pos rfl]; exact hN5⟩
        case measure => simp [intOf]; omega
      | false =>
        rw [hh] at fh
        go_wp2_with fail
        refine' region_whole _ _ (by kernel_rfl) (by kernel_rfl) _; rotate_left 2; (exact Below.refl _ _; rfl); (repeat (go_big_quiet_step (first | (go_at_call 50; exact Calls.after_of (fh _ (After.below _)))))); refine wpQuiet_nil ?_; intro z
        have hNz := hNb.below z.below
        go_wp2_with fail
        go_roundw
        case rel => exact ⟨k + 1, e, p, pl, by omega, by simp, by rw [hnx2.2, hh]; exact hNz⟩
        case measure => simp [intOf]; omega
    · have hlt2 : ¬ (k : Int) < r.bk.length := by omega
      obtain rfl : k = r.bk.length := by omega
      obtain ⟨q0, ql⟩ := row1 hN.rb
      obtain ⟨y0, y1, y2, y3, y4, y5, y6, y7, yf, yl⟩ := row8 hN.g.box
      have yl0 : b < w.heap.size := hbw
      have htl : ∀ k, k < r.tg.length → (k : Int) < r.tg.length := fun k hk => by omega
      have hN2 := And.intro True.intro hN
      clear hN hN0
      go_wp2_with fail
      go_loopw [44] (fun i wq => ∃ (m : Nat) (e p pl : Int), m ≤ r.tg.length ∧ i = .int .i64 m ∧ Nm b L (.slice lp L.length lc) vv (.slice tp r.tg.length tc) (.slice bp r.bk.length bc) w wq r (tgtN r.bk r.tg (namesN r.bk r.bk.length) m) e p pl) (fun i _ => r.tg.length - (intOf i).toNat)
      case atStart => exact ⟨0, _, _, _, Nat.zero_le _, rfl, hN2.2⟩
      case round =>
        obtain ⟨k, e, p, pl, hk, rfl, hN⟩ := hrel
        have hzw := hN.k.size
        by_cases hlt : k < r.tg.length
        · obtain ⟨g, cap, hgc, hg1, hg2⟩ := own_some hN.g.rows.t (by show 0 < r.tg.length; omega)
          cases hgc
          have hlt2 := htl k hlt
          obtain ⟨c0, c1, c2, c3⟩ := tok_of (w := wr) (s := 0) hN.g.rows.t k hlt
          obtain ⟨q0, ql⟩ := row1 hN.rb
          obtain ⟨y0, y1, y2, y3, y4, y5, y6, y7, yf, yl⟩ := row8 hN.g.box
          have hSl := Sl.of_own (enc := Tk.Tok.cells) hN.g.rows.b
          have hnx : tgtN r.bk r.tg (namesN r.bk r.bk.length) (k + 1) = if hasT r.bk (r.tg[k]'hlt).s then tgtN r.bk r.tg (namesN r.bk r.bk.length) k else leastE (tgtN r.bk r.tg (namesN r.bk r.bk.length) k) 4 (r.tg[k]'hlt) := by rw [tgtN, List.getElem?_eq_getElem hlt]
          have hnx2 := And.intro True.intro hnx
          clear hnx
          generalize r.tg[k]'hlt = t at c0 c1 c2 c3 hnx2
          obtain ⟨tk, tpo, ts, tn⟩ := t
          simp only at c0 c1 c2 c3
          have hNb := hN.below ((Below.refl _ _).alloc (Nat.le_refl _) (.cells #[.int .i64 tk, .int .i64 tpo, .string ts, .int .i64 tn] 39))
          have hSb := hSl.below ((Below.refl _ _).alloc (Nat.le_refl _) (.cells #[.int .i64 tk, .int .i64 tpo, .string ts, .int .i64 tn] 39))
          have fh := fun (W : World) (hW : Below (wr.alloc (.cells #[.int .i64 tk, .int .i64 tpo, .string ts, .int .i64 tn] 39)).heap.size (wr.alloc (.cells #[.int .i64 tk, .int .i64 tpo, .string ts, .int .i64 tn] 39)) W) => hasT_any r.bk ts (by omega) _ W (hSb.below hW)
          cases hh : hasT r.bk ts with
          | false =>
            rw [hh] at fh
            go_wp2_with fail
            refine' region_whole _ _ (by kernel_rfl) (by kernel_rfl) _; rotate_left 2; (exact Below.refl _ _; rfl); (repeat (go_big_quiet_step (first | (go_at_call 50; exact Calls.after_of (fh _ (After.below _)))))); refine wpQuiet_nil ?_; intro z
            have hNz := hNb.below z.below
            obtain ⟨m0, m1, m2, m3, mf, ml⟩ := row4 (blkN z.below (heap_alloc_new wr (.cells #[.int .i64 tk, .int .i64 tpo, .string ts, .int .i64 tn] 39)))
            have fp := put_any hNz.g pl hNz.pb hNz.rb (by omega) (by omega) hNz.pl 4 (by decide) ⟨tk, tpo, ts, tn⟩
            go_wp2_with (go_at_call 49; refine fp.mono ?_; rintro e9 W5 ⟨rfl, hP⟩)
            obtain ⟨e', p', pl', hN5⟩ := hNz.put hP yl0
            go_roundw
            case rel => exact ⟨k + 1, e', p', pl', by omega, by simp, by rw [hnx2.2, hh]; exact hN5⟩
            case measure => simp [intOf]; omega
          | true =>
            rw [hh] at fh
            go_wp2_with fail
            refine' region_whole _ _ (by kernel_rfl) (by kernel_rfl) _; rotate_left 2; (exact Below.refl _ _; rfl); (repeat (go_big_quiet_step (first | (go_at_call 50; exact Calls.after_of (fh _ (After.below _)))))); refine wpQuiet_nil ?_; intro z
            have hNz := hNb.below z.below
            go_wp2_with fail
            go_roundw
            case rel => exact ⟨k + 1, e, p, pl, by omega, by simp, by rw [hnx2.2, hh, if_pos rfl]; exact hNz⟩
            case measure => simp [intOf]; omega
        · have hlt2 : ¬ (k : Int) < r.tg.length := by omega
          obtain rfl : k = r.tg.length := by omega
          have hNe := And.intro True.intro hN
          clear hN
          go_wp2_with fail
          go_end0
          exact ⟨rfl, e, p, hNe.2.al, hNe.2.g, hNe.2.k⟩
end

end Go.Proofs.Ytmnplnhblniimaa.Gr
