/- WALK of exec.From. WALKS of exec.From at a fault, exec.All. WALK of exec.All. soughlaw08.awake: it answers true. -/
import Derived.Test.YtaaklejkngpddaaExd
import Derived.Test.YtaaklejkngpddaaExa
import Derived.Test.YtaaklejkngpddaaExf
import Derived.Test.YtaaklejkngpddaaExc
import Derived.Test.YtaaklejkngpddaaTabm
namespace Go.Proofs.Ytaaklejkngpddaa.Pr
set_option linter.unusedVariables false
set_option linter.unusedSimpArgs false
open Go Go.RowKit

/-- The world behind the boxes of 'From'. -/
def boxF (w : World) (pv : Value) (S : Array Value) : World := ((w.alloc (.cells #[pv] 24)).alloc (.cells S 47)).alloc (.cells #[.slice none 0 0, .slice none 0 0, .bool false] 53)
theorem boxF_size (w : World) (pv : Value) (S : Array Value) : (boxF w pv S).heap.size = w.heap.size + 1 + 1 + 1 := by simp [boxF]
theorem boxF_below (w : World) (pv : Value) (S : Array Value) : Below w.heap.size w (boxF w pv S) := (((Below.refl _ _).alloc (Nat.le_refl _) _).alloc (by simp) _).alloc (by simp; omega) _
theorem boxF_p (w : World) (pv : Value) (S : Array Value) : (boxF w pv S).heap[w.heap.size]? = some (.cells #[pv] 24 (0, 0)) := by
  unfold boxF
  rw [heap_alloc_old _ _ (by simp; try omega), heap_alloc_old _ _ (by simp)]
  exact heap_alloc_new _ _
theorem boxF_s (w : World) (pv : Value) (S : Array Value) : (boxF w pv S).heap[w.heap.size + 1]? = some (.cells S 47 (0, 0)) := by
  unfold boxF
  rw [heap_alloc_old _ _ (by simp; try omega), show w.heap.size + 1 = (w.alloc (.cells #[pv] 24)).heap.size by simp]
  exact heap_alloc_new _ _
theorem boxF_r (w : World) (pv : Value) (S : Array Value) : (boxF w pv S).heap[w.heap.size + 1 + 1]? = some (.cells #[.slice none 0 0, .slice none 0 0, .bool false] 53 (0, 0)) := by
  unfold boxF
  rw [show w.heap.size + 1 + 1 = ((w.alloc (.cells #[pv] 24)).alloc (.cells S 47)).heap.size by simp]
  exact heap_alloc_new _ _

theorem FInv.start {w : World} {pv : Value} {B : Nat} {q : World} {a0 a1 a2 a3 ev2 ov2 : Value} (b2 : Int) (r2 : Rs) (h1 : q.heap[w.heap.size]? = some (.cells #[pv] 24 (0, 0))) (h2 : q.heap[w.heap.size + 1]? = some (.cells #[a0, a1, a2, a3] 47 (0, 0)))
    (h3 : q.heap[w.heap.size + 1 + 1]? = some (.cells #[.slice none 0 0, .slice none 0 0, .bool false] 53 (0, 0))) (h4 : q.heap[B]? = some (.cells #[.slice none 0 0, .slice none 0 0, .bool false] 53 (0, 0))) (hR : Rn (B + 1) q ev2 ov2 r2) (be : Below w.heap.size w q) (hB : w.heap.size + 1 + 1 + 1 ≤ B) :
    FInv w pv B [] ⟨b2, r2⟩ ((((q.setCell ⟨w.heap.size + 1, 0, none⟩ (.int .i64 b2)).setCell ⟨w.heap.size + 1, 1, none⟩ ev2).setCell ⟨w.heap.size + 1, 2, none⟩ (.int .i64 r2.i)).setCell ⟨w.heap.size + 1, 3, none⟩ ov2) (.slice none 0 0) ev2 ov2 := by
  have hl : w.heap.size + 1 < B + 1 := by omega
  exact ⟨(set4_other _ _ _ _ (by omega)).trans h1, set4 _ _ _ _ h2, (set4_other _ _ _ _ (by omega)).trans h3, (set4_other _ _ _ _ (by omega)).trans h4, World.ownsRow_nil _ _ _ _, (((hR.set hl).set hl).set hl).set hl, fun x hx => by simp at hx,
    (((be.setCell (p := ⟨w.heap.size + 1, 0, none⟩) (Nat.le_succ _) _).setCell (p := ⟨w.heap.size + 1, 1, none⟩) (Nat.le_succ _) _).setCell (p := ⟨w.heap.size + 1, 2, none⟩) (Nat.le_succ _) _).setCell (p := ⟨w.heap.size + 1, 3, none⟩) (Nat.le_succ _) _, hB⟩

theorem FInv.left {w : World} {pv : Value} {B : Nat} {X : List Sv} {cur : Ps} {q : World} {vv ev ov : Value} (h : FInv w pv B X cur q vv ev ov) (N : Nat) (a : Act) (ha : a.tmps.getD 11 undef = .pointer (some ⟨B, 0, none⟩)) : leftF N a q = N - X.length := by
  obtain ⟨zp, zc, rfl⟩ := own_len h.row
  have hc : q.cell? ⟨B, 0, none⟩ = some (.slice zp X.length zc) := cell_of_row q B 0 _ _ (0, 0) h.ob
  unfold leftF
  rw [ha]
  show N - lenOf (q.cell? ⟨B, 0, none⟩) = _
  rw [hc]
  rfl
theorem left_lt {a b N k : Nat} (h1 : a = N - (k + 1)) (h2 : b = N - k) (h : k < N) : a < b := by omega

theorem FOut.fin {w wr : World} {B : Nat} {X : List Sv} {O : List Nu} {vv ov : Value} (hrow : wr.ownsRow (B + 1) 47 4 vv X.length (X.flatMap Sv.cs)) (hou : wr.ownsRow (B + 1) 27 2 ov O.length (O.flatMap Nu.cs)) (hxr : ∀ x ∈ X, Rn (B + 1) wr x.ev x.ov x.p.r) (hBB : w.heap.size + 1 + 1 + 1 ≤ B) (hbe : Below w.heap.size w wr) (u1 u2 u3 u4 u5 : Value) :
    FOut (((((wr.setCell ⟨B, 1, none⟩ u1).setCell ⟨B, 2, none⟩ u2).setCell ⟨w.heap.size + 1 + 1, 0, none⟩ u3).setCell ⟨w.heap.size + 1 + 1, 1, none⟩ u4).setCell ⟨w.heap.size + 1 + 1, 2, none⟩ u5) w.heap.size (X.map Sv.p) O vv ov ∧
      Below w.heap.size w (((((wr.setCell ⟨B, 1, none⟩ u1).setCell ⟨B, 2, none⟩ u2).setCell ⟨w.heap.size + 1 + 1, 0, none⟩ u3).setCell ⟨w.heap.size + 1 + 1, 1, none⟩ u4).setCell ⟨w.heap.size + 1 + 1, 2, none⟩ u5) := by
  have l1 : B < B + 1 := Nat.lt_succ_self B
  have l2 : w.heap.size + 1 + 1 < B + 1 := by omega
  have lb : w.heap.size ≤ B + 1 := by omega
  have n1 := ownNL hrow l1
  have n2 := ownNL hrow l2
  have m1 := ownNL hou l1
  have m2 := ownNL hou l2
  refine ⟨⟨⟨X, rfl, own_base (ownsRow_setCell_other (ownsRow_setCell_other (ownsRow_setCell_other (ownsRow_setCell_other (ownsRow_setCell_other hrow n1 _) n1 _) n2 _) n2 _) n2 _) lb, fun x hx => (((((((hxr x hx).set l1).set l1).set l2).set l2).set l2).base lb)⟩,
    own_base (ownsRow_setCell_other (ownsRow_setCell_other (ownsRow_setCell_other (ownsRow_setCell_other (ownsRow_setCell_other hou m1 _) m1 _) m2 _) m2 _) m2 _) lb⟩, ?_⟩
  exact ((((hbe.setCell (p := ⟨B, 1, none⟩) (by show w.heap.size ≤ B; omega) _).setCell (p := ⟨B, 2, none⟩) (by show w.heap.size ≤ B; omega) _).setCell (p := ⟨w.heap.size + 1 + 1, 0, none⟩) (by show w.heap.size ≤ w.heap.size + 1 + 1; omega) _).setCell (p := ⟨w.heap.size + 1 + 1, 1, none⟩) (by show w.heap.size ≤ w.heap.size + 1 + 1; omega) _).setCell (p := ⟨w.heap.size + 1 + 1, 2, none⟩) (by show w.heap.size ≤ w.heap.size + 1 + 1; omega) _

theorem adv_at {P : List Bl} {I : List Nu} {k : Nat} (hk : k < P.length) (r : Rs) : adv P I ⟨k, r⟩ = (⟨nextI P (P[k]'hk) (runB P I r (P[k]'hk).l).e k, runB P I r (P[k]'hk).l⟩, goesB (P[k]'hk)) := by
  have hB : P.getD ((k : Int)).toNat default = P[k]'hk := by rw [Int.toNat_natCast]; simp [List.getD, List.getElem?_eq_getElem hk]
  unfold adv
  simp only [hB]
theorem fromS_succ (P : List Bl) (I : List Nu) (n : Nat) (s : Ps) : fromS P I (n + 1) s true = (s :: (fromS P I n (adv P I s).1 (adv P I s).2).1, (fromS P I n (adv P I s).1 (adv P I s).2).2) := by simp only [fromS, if_true]

set_option maxRecDepth 100000 in
set_option maxHeartbeats 4000000 in
theorem from_with (P : List Bl) (I : List Nu) (s0 : Ps) (hs0 : OkS P s0) (hc0 : checkOf P = 0) (hol : s0.r.o.length ≤ 1000) (most : Int) (pv ev ov iv : Value) (w : World) (h : Pg w pv P) (h12 : P.length ≤ 12) (hl12 : ∀ b ∈ P, b.l.length ≤ 12) (hI : Sl w iv Nu.cs I) (hE : Sl w ev Nu.cs s0.r.e) (hO : Sl w ov Nu.cs s0.r.o)
    (hck : ∀ W, Below w.heap.size w W → Calls Try.prog 48 #[.agg #[pv], .agg #[.int .i64 s0.b, ev, .int .i64 s0.r.i, ov]] W fun e w' => e = .returned (.int .i64 0) ∧ Below W.heap.size W w') :
    Calls Try.prog 19 #[.agg #[pv], .agg #[.int .i64 s0.b, ev, .int .i64 s0.r.i, ov], iv, .int .i64 most] w fun e w' => ∃ vv ov', e = .returned (.tuple #[.agg #[vv, ov', .bool (!(fromS P I (min (max most 0) 4096).toNat s0 true).2.2)], .int .i64 0]) ∧
      FOut w' w.heap.size (fromS P I (min (max most 0) 4096).toNat s0 true).1 (fromS P I (min (max most 0) 4096).toNat s0 true).2.1.r.o vv ov' ∧ Below w.heap.size w w' := by
  obtain ⟨b0, r0⟩ := s0
  obtain ⟨o1, o2, o3, o4⟩ := hs0
  have o1 : 0 ≤ b0 := o1
  have o2 : b0 < P.length := o2
  have o4 : 0 ≤ r0.i := o4
  have hel : r0.e.length ≤ 1000 := by have := (proper_vars hc0).1; have : r0.e.length = _ := o3; omega
  have hol : r0.o.length ≤ 1000 := hol
  have hE : Sl w ev Nu.cs r0.e := hE
  have hO : Sl w ov Nu.cs r0.o := hO
  obtain ⟨p, cap, rfl⟩ : ∃ p cap, pv = .slice p P.length cap := by obtain ⟨b, off, p, cap, hv, _⟩ := h.1; exact ⟨p, cap, hv⟩
  obtain ⟨ip, ic, rfl⟩ : ∃ p cap, iv = .slice p I.length cap := by obtain ⟨b, off, p, cap, hv, _⟩ := hI; exact ⟨p, cap, hv⟩
  have hcl := fun (W : World) (hB : Below w.heap.size w W) => cloneS_any b0 r0 (by omega) (by omega) _ _ W (hE.below hB) (hO.below hB)
  obtain ⟨ep, ec, rfl⟩ : ∃ p cap, ev = .slice p r0.e.length cap := by obtain ⟨b, off, p, cap, hv, _⟩ := hE; exact ⟨p, cap, hv⟩
  obtain ⟨op, oc, rfl⟩ : ∃ p cap, ov = .slice p r0.o.length cap := by obtain ⟨b, off, p, cap, hv, _⟩ := hO; exact ⟨p, cap, hv⟩
  obtain ⟨N, hN⟩ : ∃ N, (min (max most 0) 4096).toNat = N := ⟨_, rfl⟩
  have hN1 : min (max most 0) 4096 = (N : Int) := by omega
  have hN2 : N ≤ 4096 := by omega
  rw [hN]
  obtain ⟨L, O, g', hLO⟩ : ∃ L O g, (fromS P I N ⟨b0, r0⟩ true).1 = L ∧ (fromS P I N ⟨b0, r0⟩ true).2.1.r.o = O ∧ (fromS P I N ⟨b0, r0⟩ true).2.2 = g := ⟨_, _, _, rfl, rfl, rfl⟩
  rw [hLO.1, hLO.2.1, hLO.2.2]
  have hLO := And.intro True.intro hLO
  have hb3 := boxF_below w (.slice p P.length cap) #[.int .i64 b0, .slice ep r0.e.length ec, .int .i64 r0.i, .slice op r0.o.length oc]
  have hb3' := hb3
  unfold boxF at hb3
  have hH := And.intro True.intro (And.intro h hI)
  have ho3 : Hid (r0.e.length = (vars P).length) := o3
  clear h hI hE hO hN o3
  go_enter Try.func19, Try.ntmps19
  go_wp2_with fail
  refine wp_scope_falls 0 0 (FromAt P I w (.slice p P.length cap) (.slice ip I.length ic) N ⟨b0, r0⟩) (leftF N) rfl ?pass ?first
  case first =>
    intro hrest
    go_wp2_with (first | (go_at_call 48; refine' Calls.aft _ _ (hck _ hb3) _; rotate_left 2; (first | (with_reducible exact After.below _; rfl) | (with_reducible exact below_drew (After.below _); rfl) | (with_reducible exact below_set (After.below _) _ _; (go_simp; rfl)) | (with_reducible exact below_set (below_set (After.below _) _ _) _ _; (go_simp; rfl)) | (with_reducible exact below_set (below_set (below_set (After.below _) _ _) _ _) _ _; (go_simp; rfl)) | (with_reducible exact below_set (below_set (below_set (below_set (After.below _) _ _) _ _) _ _) _ _; (go_simp; rfl)) | (exact Below.refl _ _; rfl)); intro x1; have hle := After.le x1; (try simp at hle)) | (go_at_call 49; have hz : w.heap.size + 1 + 1 + 1 ≤ x1.val.heap.size := (by have := x1.below.size; simpa using this); have hb5 : Below w.heap.size w (x1.val.alloc (.cells #[.slice none 0 0, .slice none 0 0, .bool false] 53)) := (hb3.trans (x1.below.mono hb3.size)).alloc (by omega) _; refine (hcl _ hb5).mono ?_; rintro e q ⟨ev1, ov1, rfl, hR1, hq1⟩; obtain ⟨xp, xc, rfl⟩ := own_len hR1.e; obtain ⟨yp, yc, rfl⟩ := own_len hR1.o; have hx1 : Below (boxF w (.slice p P.length cap) #[.int .i64 b0, .slice ep r0.e.length ec, .int .i64 r0.i, .slice op r0.o.length oc]).heap.size (boxF w (.slice p P.length cap) #[.int .i64 b0, .slice ep r0.e.length ec, .int .i64 r0.i, .slice op r0.o.length oc]) x1.val := x1.below; have hx2 := hx1.trans (((Below.refl _ _).alloc (Nat.le_refl _) (.cells #[.slice none 0 0, .slice none 0 0, .bool false] 53)).mono hx1.size); have hx3 := hx2.trans (hq1.mono hx2.size); have y1 := blk_next hx3 (boxF_p _ _ _); have y2 := blk_next hx3 (boxF_s _ _ _); have y3 := blk_next hx3 (boxF_r _ _ _); have y4 := blk_next hq1 (heap_alloc_new x1.val (.cells #[.slice none 0 0, .slice none 0 0, .bool false] 53)); obtain ⟨j0, j1, j2, j3, jf, jl⟩ := four y2; have jf0 := jf 0; have jf1 := jf 1; have jf2 := jf 2; have jf3 := jf 3))
    have hF0 := FInv.start (w := w) (pv := .slice p P.length cap) (B := x1.val.heap.size) b0 r0 y1 y2 y3 y4 (hR1.base (by simp)) (nextB hq1 hb5) hz
    trace_state
    rename_i hK
    go_step3
    refine hK _ _ ?_
    refine hrest _ _ (?_ : FromAt P I w (.slice p P.length cap) (.slice ip I.length ic) N ⟨b0, r0⟩ _ _)
    exact ⟨x1.val.heap.size, [], ⟨b0, r0⟩, true, .slice none 0 0, _, _, N, hF0, by simp, ⟨o1, o2, ho3, o4⟩, by simp, by simp, rfl⟩
  case pass =>
    rintro a' wr ⟨B, X, cur, g, vv, ev, ov, n, hF, hn, hok, hco, hfr, ha⟩
    obtain ⟨u, hu⟩ : ∃ u : Nat → Value, (fun i => a'.tmps.getD i undef) = u := ⟨_, rfl⟩
    rw [hu] at ha
    clear hu
    subst ha
    simp only [frameF]
    obtain ⟨zp, zc, rfl⟩ := own_len hF.row
    obtain ⟨xp, xc, rfl⟩ := own_len hF.cr.e
    obtain ⟨yp, yc, rfl⟩ := own_len hF.cr.o
    have b0' := cell_of_row wr _ 0 _ _ (0, 0) hF.ob
    have b1' := cell_of_row wr _ 1 _ _ (0, 0) hF.ob
    have b2' := cell_of_row wr _ 2 _ _ (0, 0) hF.ob
    have b0 : wr.cell? ⟨B, 0, none⟩ = some (.slice zp X.length zc) := b0'
    have b1 : wr.cell? ⟨B, 1, none⟩ = some (.slice none 0 0) := b1'
    have b2 : wr.cell? ⟨B, 2, none⟩ = some (.bool false) := b2'
    clear b0' b1' b2'
    have bl := lt_of_some hF.ob
    have bf1 := frozen_of_row wr B 1 _ _ hF.ob
    have bf2 := frozen_of_row wr B 2 _ _ hF.ob
    obtain ⟨j0, j1, j2, j3, jf, jl⟩ := four hF.sb
    have r0' : wr.cell? ⟨w.heap.size + 1 + 1, 0, none⟩ = some (.slice none 0 0) := cell_of_row wr _ 0 _ _ (0, 0) hF.rb
    have r1' : wr.cell? ⟨w.heap.size + 1 + 1, 1, none⟩ = some (.slice none 0 0) := cell_of_row wr _ 1 _ _ (0, 0) hF.rb
    have r2' : wr.cell? ⟨w.heap.size + 1 + 1, 2, none⟩ = some (.bool false) := cell_of_row wr _ 2 _ _ (0, 0) hF.rb
    have rl := lt_of_some hF.rb
    have rf0 := frozen_of_row wr (w.heap.size + 1 + 1) 0 _ _ hF.rb
    have rf1 := frozen_of_row wr (w.heap.size + 1 + 1) 1 _ _ hF.rb
    have rf2 := frozen_of_row wr (w.heap.size + 1 + 1) 2 _ _ hF.rb
    have hBB := hF.hB
    have hfin : fromS P I n cur g = ([], cur, g) → X.map Sv.p = L ∧ cur.r.o = O ∧ g = g' := fun hz => by
      rw [hfr, hz] at hLO
      simpa using hLO.2
    by_cases hlt : g = true ∧ X.length < N
    · obtain ⟨rfl, hlt⟩ := hlt
      have hlt2 : (X.length : Int) < N := by omega
      clear hfin
      obtain ⟨n, rfl⟩ : ∃ m, n = m + 1 := ⟨n - 1, by omega⟩
      obtain ⟨cb, cr⟩ := cur
      have hok2 := hok
      obtain ⟨h1, h2, h3, h4⟩ := hok2
      obtain ⟨kb, rfl⟩ : ∃ k : Nat, cb = k := ⟨cb.toNat, (Int.toNat_of_nonneg h1).symm⟩
      have hkb : kb < P.length := by have : (kb : Int) < P.length := h2; omega
      have hcel : cr.e.length ≤ 1000 := by have := (proper_vars hc0).1; have : cr.e.length = _ := h3; omega
      have hcol : cr.o.length ≤ 90000 := by have : cr.o.length ≤ r0.o.length + 12 * X.length := hco; omega
      have hmu := fun a => hF.left N a
      have hao := adv_ok (I := I) hc0 hl12 hok
      rw [adv_at hkb] at hao
      rw [fromS_succ, adv_at hkb] at hfr
      have hci : 0 ≤ cr.i := h4
      have hrun := fun (W : World) (hB : Below w.heap.size w W) ev ov hE hO => rn_pair (run_any P I kb hkb cr hc0 h3 hcol hci _ ev ov _ W (hH.2.1.below hB) h12 hl12 (hH.2.2.below hB) hE hO)
      have hfo := fun (W : World) (hB : Below w.heap.size w W) ev ov hE hO => follow_any P kb hkb (runB P I cr (P[kb]'hkb).l).e (runB P I cr (P[kb]'hkb).l).o (runB P I cr (P[kb]'hkb).l).i hc0 _ ev ov W (hH.2.1.below hB) h12 hl12 hE hO
      have hcl := fun (W : World) ev ov hE hO => rn_pair (cloneS_any kb cr (by omega) (by omega) ev ov W hE hO)
      generalize nextI P (P[kb]'hkb) (runB P I cr (P[kb]'hkb).l).e kb = N2 at hao hfr hfo
      generalize goesB (P[kb]'hkb) = G2 at hao hfr hfo
      generalize runB P I cr (P[kb]'hkb).l = r1 at hao hfr hfo hrun
      clear h3
      obtain ⟨i0, hi, hz0, hz1, hz2⟩ := info_parts sv_info
      go_wp2_with fail
      rename_i K0 hK0 K hK
      have hK2 : ∀ (a2 : Act) (q : World) (X2 : List Sv) (v2 : Value), a2 = frameF w (.slice ip I.length ic) N B true (fun i => a2.tmps.getD i undef) → FInv w (.slice p P.length cap) B X2 ⟨kb, cr⟩ q v2 (.slice xp cr.e.length xc) (.slice yp cr.o.length yc) → X2.length = X.length + 1 → X2.map Sv.p = X.map Sv.p ++ [⟨kb, cr⟩] → K a2 q := by
        intro a2 q X2 v2 ha2 hF2 hx2 hm2
        obtain ⟨u2, hu2⟩ : ∃ u2 : Nat → Value, (fun i => a2.tmps.getD i undef) = u2 := ⟨_, rfl⟩
        rw [hu2] at ha2
        clear hu2
        subst ha2
        refine hK _ _ ?_
        simp only [frameF]
        go_wp2_with fail
        have hFd := hF2.below ((Below.refl q.heap.size q).drew)
        have hp0 := cell_of_one hFd.pb
        have pl0 := lt_of_some hFd.pb
        obtain ⟨k0, k1, k2, k3, kf, kl⟩ := four hFd.sb
        have hbz := lt_of_some hFd.ob
        clear b0 b1 b2 bl bf1 bf2 j0 j1 j2 j3 jf jl r0' r1' r2' rl rf0 rf1 rf2
        first | (go_region_law (first | (refine stepSG rfl 51 #[.agg #[.slice p P.length cap], .agg #[.int .i64 kb, .slice xp cr.e.length xc, .int .i64 cr.i, .slice yp cr.o.length yc], .slice ip I.length ic] (fun x : Value × Value => Value.agg #[.int .i64 kb, x.1, .int .i64 r1.i, x.2]) (fun (x : Value × Value) W2 => Rn q.drew.heap.size W2 x.1 x.2 r1) ?hop3 (hrun q.drew hFd.be _ _ (Sl.of_own hFd.cr.e) (Sl.of_own hFd.cr.o)) ?_; (case hop3 => (go_simp; done)); rintro ⟨ev1, ov1⟩ q1 hR1 hq1; have hR1 : Rn q.drew.heap.size q1 ev1 ov1 r1 := hR1; obtain ⟨xp1, xc1, rfl⟩ := own_len hR1.e; obtain ⟨yp1, yc1, rfl⟩ := own_len hR1.o; have hF3 := hFd.below hq1; have hp1 := cell_of_one hF3.pb; have pl1 := lt_of_some hF3.pb) | (refine stepBG rfl 50 #[.agg #[.slice p P.length cap], .agg #[.int .i64 kb, .slice xp1 r1.e.length xc1, .int .i64 r1.i, .slice yp1 r1.o.length yc1]] (.tuple #[.agg #[.int .i64 N2, .slice xp1 r1.e.length xc1, .int .i64 r1.i, .slice yp1 r1.o.length yc1], .bool G2]) ?hop2 (hfo q1 hF3.be _ _ (Sl.of_own hR1.e) (Sl.of_own hR1.o)) ?_; (case hop2 => (go_simp; done)); intro q2 hq2; have hF4 := hF3.below hq2; have hR2 := hR1.below hq2; obtain ⟨m0, m1, m2, m3, mf, ml⟩ := four hF4.sb; have mf0 := mf 0; have mf1 := mf 1; have mf2 := mf 2; have mf3 := mf 3))) | fail
        all_goals (
          have hFn := hF4.move N2 r1 (hR2.base (by omega))
          clear hp0 pl0 k0 k1 k2 k3 kf kl hq1 hR1 hF3 hp1 pl1 hq2 hF4 hR2 hFd
          go_wp2_with fail
          go_step3
          (try simp only [then_goto, block_goto])
          have hro : r1.o.length ≤ cr.o.length + 12 := hao.2
          have hco' : cr.o.length ≤ r0.o.length + 12 * X.length := hco
          exact via_back _ ⟨⟨B, X2, ⟨N2, r1⟩, G2, _, _, _, n, hFn, by omega, hao.1, (show r1.o.length ≤ r0.o.length + 12 * X2.length by omega), (by rw [hm2, List.append_assoc]; exact hfr), rfl⟩, left_lt ((hFn.left N _ rfl).trans (by rw [hx2])) (hmu _ rfl) hlt⟩)
      have hFd := hF.below ((Below.refl wr.heap.size wr).drew)
      have hp0 : wr.drew.cell? ⟨B, 0, none⟩ = some (.slice zp X.length zc) := b0
      have pl0 := lt_of_some hFd.ob
      obtain ⟨k0, k1, k2, k3, kf, kl⟩ := four hFd.sb
      clear b0 b1 b2 bl bf1 bf2 j0 j1 j2 j3 jf jl r0' r1' r2' rl rf0 rf1 rf2 hrun hfo hK hK0
      first | (go_region_law (first | (refine stepSG rfl 49 #[.agg #[.int .i64 kb, .slice xp cr.e.length xc, .int .i64 cr.i, .slice yp cr.o.length yc]] (fun x : Value × Value => Value.agg #[.int .i64 kb, x.1, .int .i64 cr.i, x.2]) (fun (x : Value × Value) W2 => Rn wr.drew.heap.size W2 x.1 x.2 cr) ?hop3 (hcl wr.drew _ _ (Sl.of_own hFd.cr.e) (Sl.of_own hFd.cr.o)) ?_; (case hop3 => (go_simp; done)); rintro ⟨ev1, ov1⟩ q1 hR1 hq1; have hR1 : Rn wr.drew.heap.size q1 ev1 ov1 cr := hR1; obtain ⟨xp1, xc1, rfl⟩ := own_len hR1.e; obtain ⟨yp1, yc1, rfl⟩ := own_len hR1.o; have hp1 := nextC hq1 hp0; have pl1 := World.block_lt_of_cell? _ _ hp1; have hF2 := (hFd.below hq1).below ((Below.refl q1.heap.size q1).alloc (Nat.le_refl _) (.cells #[.int .i64 kb, .slice xp1 cr.e.length xc1, .int .i64 cr.i, .slice yp1 cr.o.length yc1] 47)); have hR2 := (hR1.base (by omega : B + 1 ≤ wr.drew.heap.size)).below ((Below.refl q1.heap.size q1).alloc (Nat.le_refl _) (.cells #[.int .i64 kb, .slice xp1 cr.e.length xc1, .int .i64 cr.i, .slice yp1 cr.o.length yc1] 47))) | (refine step_append_tells rfl (.tmp 34) (.tmp 37) 51 rfl (B + 1) 47 i0 (.agg #[.int .i64 0, .slice none 0 0, .int .i64 0, .slice none 0 0]) 4 64 Try.underlying51 hi hz0 hz1 hz2 rfl (by decide) _ X.length (X.flatMap Sv.cs) rfl hF2.row _ 1 1 [.int .i64 kb, .slice xp1 cr.e.length xc1, .int .i64 cr.i, .slice yp1 cr.o.length yc1] rfl rfl (news_at rfl) (by intro u hu; simp at hu; rcases hu with rfl | rfl | rfl | rfl <;> rfl) (by unfold maxLen; omega) (by omega) (by have := lt_of_some hF2.ob; omega) (by decide) ?_; intro v6 W6 ho6 hg6 hv6; obtain ⟨wp6, wc6, rfl⟩ := own_len ho6; have hFn := hF2.visit ⟨⟨kb, cr⟩, .slice xp1 cr.e.length xc1, .slice yp1 cr.o.length yc1⟩ hR2 hg6 ho6; have hb6 := (hg6.block B (lt_of_some hF2.ob) (fun he => by have := (hF2.row.lt B he.symm).1; omega)).trans hF2.ob; have t0 := (cell_of_row W6 B 0 _ _ (0, 0) hb6).trans (rfl : _ = some (Value.slice zp X.length zc)); have tf := frozen_of_row W6 B 0 _ _ hb6; have tl := lt_of_some hb6))) | fail
      all_goals (
        clear hp0 pl0 k0 k1 k2 k3 kf kl hq1 hR1 hp1 pl1 hF2 hR2 hFd ho6 hg6 hv6 hb6
        exact hK2 _ _ _ _ rfl hFn (by simp) (by simp))
    · have hz : fromS P I n cur g = ([], cur, g) := by
        cases g with
        | false => exact fromS_false P I n cur
        | true =>
          have : n = 0 := by
            have h9 : ¬ X.length < N := fun h => hlt ⟨rfl, h⟩
            omega
          subst this
          rfl
      obtain ⟨e1, e2, e3⟩ := hfin hz
      clear hfin hz hfr
      have hrow := hF.row
      have hcr := hF.cr
      have hxr := hF.xr
      have hbe := hF.be
      clear hF hLO
      subst e1 e2 e3
      cases g with
      | false =>
        go_wp2_with fail
        obtain ⟨f1, f2⟩ := FOut.fin hrow hcr.o hxr hBB hbe (.slice yp cur.r.o.length yc) (.bool true) (.slice zp X.length zc) (.slice yp cur.r.o.length yc) (.bool true)
        refine bodyPost_ret (v := .tuple #[.agg #[.slice zp X.length zc, .slice yp cur.r.o.length yc, .bool true], .int .i64 0]) (by simp only [results, Try.results19]; go_simp) rfl ⟨_, _, rfl, f1, f2⟩
      | true =>
        have hlt2 : ¬ (X.length : Int) < N := by
          have h9 : ¬ X.length < N := fun h => hlt ⟨rfl, h⟩
          omega
        go_wp2_with fail
        obtain ⟨f1, f2⟩ := FOut.fin hrow hcr.o hxr hBB hbe (.slice yp cur.r.o.length yc) (.bool false) (.slice zp X.length zc) (.slice yp cur.r.o.length yc) (.bool false)
        refine bodyPost_ret (v := .tuple #[.agg #[.slice zp X.length zc, .slice yp cur.r.o.length yc, .bool false], .int .i64 0]) (by simp only [results, Try.results19]; go_simp) rfl ⟨_, _, rfl, f1, f2⟩

end Go.Proofs.Ytaaklejkngpddaa.Pr

namespace Go.Proofs.Ytaaklejkngpddaa.Pr
set_option linter.unusedVariables false
set_option linter.unusedSimpArgs false
open Go Go.RowKit

theorem FOut.below {w1 w2 : World} {base : Nat} {L : List Ps} {O : List Nu} {vv ov : Value} (h : FOut w1 base L O vv ov) (hB : Below w1.heap.size w1 w2) : FOut w2 base L O vv ov := by
  obtain ⟨⟨X, h1, h2, h3⟩, h4⟩ := h
  exact ⟨⟨X, h1, own_below h2 hB, fun x hx => (h3 x hx).below hB⟩, own_below h4 hB⟩
theorem FOut.base {w1 : World} {base b2 : Nat} {L : List Ps} {O : List Nu} {vv ov : Value} (h : FOut w1 base L O vv ov) (hb : b2 ≤ base) : FOut w1 b2 L O vv ov := by
  obtain ⟨⟨X, h1, h2, h3⟩, h4⟩ := h
  exact ⟨⟨X, h1, own_base h2 hb, fun x hx => (h3 x hx).base hb⟩, own_base h4 hb⟩
theorem FOut.set {w1 : World} {base B j : Nat} {L : List Ps} {O : List Nu} {vv ov u : Value} (h : FOut w1 base L O vv ov) (hB : B < base) : FOut (w1.setCell ⟨B, j, none⟩ u) base L O vv ov := by
  obtain ⟨⟨X, h1, h2, h3⟩, h4⟩ := h
  exact ⟨⟨X, h1, ownsRow_setCell_other h2 (ownNL h2 hB) _, fun x hx => (h3 x hx).set hB⟩, ownsRow_setCell_other h4 (ownNL h4 hB) _⟩
theorem FOut.len {w1 : World} {base : Nat} {L : List Ps} {O : List Nu} {vv ov : Value} (h : FOut w1 base L O vv ov) : (∃ p c, vv = .slice p L.length c) ∧ ∃ p c, ov = .slice p O.length c := by
  obtain ⟨⟨X, h1, h2, h3⟩, h4⟩ := h
  refine ⟨?_, own_len h4⟩
  rw [← h1, List.length_map]
  exact own_len h2

def capN (most : Int) : Nat := (min (max most 0) 4096).toNat

theorem from_ok (P : List Bl) (I : List Nu) (s0 : Ps) (hok : ChkS P s0.b s0.r.e.length s0.r.i = 0) (hol : s0.r.o.length ≤ 1000) (most : Int) (pv ev ov iv : Value) (w : World) (h : Pg w pv P) (h12 : P.length ≤ 12) (hl12 : ∀ b ∈ P, b.l.length ≤ 12) (hI : Sl w iv Nu.cs I) (hE : Sl w ev Nu.cs s0.r.e) (hO : Sl w ov Nu.cs s0.r.o) :
    Calls Try.prog 19 #[.agg #[pv], .agg #[.int .i64 s0.b, ev, .int .i64 s0.r.i, ov], iv, .int .i64 most] w fun e w' => ∃ vv ov', e = .returned (.tuple #[.agg #[vv, ov', .bool (!(fromS P I (capN most) s0 true).2.2)], .int .i64 0]) ∧
      FOut w' w.heap.size (fromS P I (capN most) s0 true).1 (fromS P I (capN most) s0 true).2.1.r.o vv ov' ∧ Below w.heap.size w w' := by
  obtain ⟨q0, q1, q2, q3, q4⟩ := chk_ok hok
  refine from_with P I s0 ⟨q1, q2, q3, q4⟩ q0 hol most pv ev ov iv w h h12 hl12 hI hE hO fun W hB => ?_
  have := checkS_any P s0.b s0.r.i s0.r.e pv ev ov W (h.below hB) h12 hl12 (hE.below hB)
  rwa [hok] at this

set_option maxRecDepth 100000 in
set_option maxHeartbeats 2000000 in
theorem from_bad (P : List Bl) (s0 : Ps) (hbad : ChkS P s0.b s0.r.e.length s0.r.i ≠ 0) (most : Int) (pv ev ov iv : Value) (w : World) (h : Pg w pv P) (h12 : P.length ≤ 12) (hl12 : ∀ b ∈ P, b.l.length ≤ 12) (hE : Sl w ev Nu.cs s0.r.e) (hO : Sl w ov Nu.cs s0.r.o) :
    Calls Try.prog 19 #[.agg #[pv], .agg #[.int .i64 s0.b, ev, .int .i64 s0.r.i, ov], iv, .int .i64 most] w fun e w' => e = .returned (.tuple #[.agg #[.slice none 0 0, .slice none 0 0, .bool false], .int .i64 (ChkS P s0.b s0.r.e.length s0.r.i)]) ∧ Below w.heap.size w w' := by
  obtain ⟨b, r⟩ := s0
  have hbad : ChkS P b r.e.length r.i ≠ 0 := hbad
  have hE : Sl w ev Nu.cs r.e := hE
  have hO : Sl w ov Nu.cs r.o := hO
  show Calls Try.prog _ _ _ (fun e w' => e = .returned (.tuple #[.agg #[.slice none 0 0, .slice none 0 0, .bool false], .int .i64 (ChkS P b r.e.length r.i)]) ∧ _)
  obtain ⟨p, cap, rfl⟩ : ∃ p cap, pv = .slice p P.length cap := by obtain ⟨b, off, p, cap, hv, _⟩ := h.1; exact ⟨p, cap, hv⟩
  obtain ⟨ep, ec, rfl⟩ : ∃ p cap, ev = .slice p r.e.length cap := by obtain ⟨b, off, p, cap, hv, _⟩ := hE; exact ⟨p, cap, hv⟩
  obtain ⟨op, oc, rfl⟩ : ∃ p cap, ov = .slice p r.o.length cap := by obtain ⟨b, off, p, cap, hv, _⟩ := hO; exact ⟨p, cap, hv⟩
  have hb3 := boxF_below w (.slice p P.length cap) #[.int .i64 b, .slice ep r.e.length ec, .int .i64 r.i, .slice op r.o.length oc]
  have hck := checkS_any P b r.i r.e _ _ (.slice op r.o.length oc) _ (h.below hb3) h12 hl12 (hE.below hb3)
  unfold boxF at hb3 hck
  generalize ChkS P b r.e.length r.i = K at hbad hck ⊢
  have hKb : (K == 0) = false := by simp [hbad]
  clear h hE hO
  go_enter Try.func19, Try.ntmps19
  go_wp2_with fail
  refine wp_scope_straight ?_
  go_wp2_with (go_at_call 48; refine' Calls.aft _ _ (hck) _; rotate_left 2; (first | (with_reducible exact After.below _; rfl) | (with_reducible exact below_drew (After.below _); rfl) | (with_reducible exact below_set (After.below _) _ _; (go_simp; rfl)) | (with_reducible exact below_set (below_set (After.below _) _ _) _ _; (go_simp; rfl)) | (with_reducible exact below_set (below_set (below_set (After.below _) _ _) _ _) _ _; (go_simp; rfl)) | (with_reducible exact below_set (below_set (below_set (below_set (After.below _) _ _) _ _) _ _) _ _; (go_simp; rfl)) | (exact Below.refl _ _; rfl)); intro x1; have hle := After.le x1; (try simp at hle))
  (try simp only [Exit.noGoto_ret])
  refine bodyPost_ret (v := .tuple #[.agg #[.slice none 0 0, .slice none 0 0, .bool false], .int .i64 K]) (by simp only [results, Try.results19]; go_simp) rfl ⟨rfl, ?_⟩
  (repeat (first | exact Below.refl _ _ | apply Below.drew | refine Below.alloc ?_ ?_ _ | refine Below.setCell ?_ ?_ _ | refine Below.trans ?_ (Below.mono (After.below _) ?_))); (all_goals (first | (simp; done) | (simp; omega) | omega))

/-- Where a run begins. -/
def beginS (P : List Bl) : Ps := ⟨0, ⟨List.replicate (vars P).length zN, 0, []⟩⟩
theorem start_bad {P : List Bl} (h : checkOf P ≠ 0) : ChkS P (beginS P).b (beginS P).r.e.length (beginS P).r.i = checkOf P := by unfold ChkS; rw [if_neg h]
theorem start_ok {P : List Bl} (h : checkOf P = 0) : ChkS P (beginS P).b (beginS P).r.e.length (beginS P).r.i = 0 := by
  have := (proper_vars h).2
  exact chk_of h (Int.le_refl 0) (by show (0 : Int) < P.length; omega) (by simp [beginS]) (Int.le_refl 0)

end Go.Proofs.Ytaaklejkngpddaa.Pr

namespace Go.Proofs.Ytaaklejkngpddaa.Pr
set_option linter.unusedVariables false
set_option linter.unusedSimpArgs false
open Go Go.RowKit

theorem fo_pair {P : Program} {f : FuncId} {args : Array Value} {W : World} {g : Bool} {L : List Ps} {O : List Nu} (h : Calls P f args W fun e w' => ∃ vv ov, e = .returned (.tuple #[.agg #[vv, ov, .bool g], .int .i64 0]) ∧ FOut w' W.heap.size L O vv ov ∧ Below W.heap.size W w') :
    Calls P f args W fun e w' => ∃ x : Value × Value, e = .returned ((fun x : Value × Value => Value.tuple #[.agg #[x.1, x.2, .bool g], .int .i64 0]) x) ∧ (fun (x : Value × Value) W2 => FOut W2 W.heap.size L O x.1 x.2) x w' ∧ Below W.heap.size W w' :=
  h.mono fun e w' ⟨ev, ov, he, hr, hb⟩ => ⟨(ev, ov), he, hr, hb⟩

theorem three {W : World} {B : Nat} {v0 v1 v2 : Value} {t : TypeId} (h : W.heap[B]? = some (.cells #[v0, v1, v2] t (0, 0))) :
    W.cell? ⟨B, 0, none⟩ = some v0 ∧ W.cell? ⟨B, 1, none⟩ = some v1 ∧ W.cell? ⟨B, 2, none⟩ = some v2 ∧ (∀ j, W.frozen? ⟨B, j, none⟩ = false) ∧ B < W.heap.size :=
  ⟨(cell_of_row W B 0 _ t (0, 0) h).trans rfl, (cell_of_row W B 1 _ t (0, 0) h).trans rfl, (cell_of_row W B 2 _ t (0, 0) h).trans rfl, fun j => frozen_of_row W B j _ t h, lt_of_some h⟩

set_option maxRecDepth 100000 in
set_option maxHeartbeats 2000000 in
theorem allF_ok (P : List Bl) (I : List Nu) (hc0 : checkOf P = 0) (most : Int) (pv iv : Value) (w : World) (h : Pg w pv P) (h12 : P.length ≤ 12) (hl12 : ∀ b ∈ P, b.l.length ≤ 12) (hI : Sl w iv Nu.cs I) :
    Calls Try.prog 21 #[.agg #[pv], iv, .int .i64 most] w fun e w' => ∃ vv ov', e = .returned (.tuple #[.agg #[vv, ov', .bool (!(fromS P I (capN most) (beginS P) true).2.2)], .int .i64 0]) ∧
      FOut w' w.heap.size (fromS P I (capN most) (beginS P) true).1 (fromS P I (capN most) (beginS P) true).2.1.r.o vv ov' ∧ Below w.heap.size w w' := by
  obtain ⟨p, cap, rfl⟩ : ∃ p cap, pv = .slice p P.length cap := by obtain ⟨b, off, p, cap, hv, _⟩ := h.1; exact ⟨p, cap, hv⟩
  have hst := fun (W : World) (hB : Below w.heap.size w W) => start_any P _ W (h.below hB) h12 hl12
  have hfr := fun (W : World) (hB : Below w.heap.size w W) ev hE => fo_pair (from_ok P I (beginS P) (start_ok hc0) (by simp [beginS]) most _ ev (.slice none 0 0) _ W (h.below hB) h12 hl12 (hI.below hB) hE Sl.nil)
  obtain ⟨ip, ic, rfl⟩ : ∃ p cap, iv = .slice p I.length cap := by obtain ⟨b, off, p, cap, hv, _⟩ := hI; exact ⟨p, cap, hv⟩
  obtain ⟨L, O, G, hL, hO, hG⟩ : ∃ L O G, (fromS P I (capN most) (beginS P) true).1 = L ∧ (fromS P I (capN most) (beginS P) true).2.1.r.o = O ∧ (!(fromS P I (capN most) (beginS P) true).2.2) = G := ⟨_, _, _, rfl, rfl, rfl⟩
  rw [hL, hO, hG] at hfr ⊢
  have hfr : ∀ W, Below w.heap.size w W → ∀ ev, Sl W ev Nu.cs (List.replicate (vars P).length zN) → Calls Try.prog 19 #[.agg #[.slice p P.length cap], .agg #[.int .i64 0, ev, .int .i64 0, .slice none 0 0], .slice ip I.length ic, .int .i64 most] W _ := hfr
  generalize (vars P).length = V at hst hfr
  have hb2 : Below w.heap.size w ((w.alloc (.cells #[.slice p P.length cap] 24)).alloc (.cells #[.slice none 0 0, .slice none 0 0, .bool false] 53)) := ((Below.refl _ _).alloc (Nat.le_refl _) _).alloc (by simp) _
  clear h hI hL hO hG
  go_enter Try.func21, Try.ntmps21
  go_wp2_with fail
  obtain ⟨W0, hW0⟩ : ∃ W0, W0 = ((w.alloc (.cells #[.slice p P.length cap] 24)).alloc (.cells #[.slice none 0 0, .slice none 0 0, .bool false] 53)) := ⟨_, rfl⟩
  rw [← hW0]
  have hB0 : Below w.heap.size w W0.drew := by rw [hW0]; exact hb2.drew
  have hz0 : W0.drew.heap.size = w.heap.size + 1 + 1 := by rw [hW0]; show ((w.alloc _).alloc _).heap.size = _; simp
  have p0 : W0.drew.cell? ⟨w.heap.size, 0, none⟩ = some (.slice p P.length cap) := by rw [hW0]; simp
  have pl := World.block_lt_of_cell? _ _ p0
  have r4 : W0.drew.heap[w.heap.size + 1]? = some (.cells #[.slice none 0 0, .slice none 0 0, .bool false] 53 (0, 0)) := by
    rw [hW0]
    show ((w.alloc _).alloc _).heap[_]? = _
    rw [show w.heap.size + 1 = (w.alloc (.cells #[.slice p P.length cap] 24)).heap.size by simp]
    exact heap_alloc_new _ _
  clear hW0 hb2
  first | (go_region_law (first | (refine stepSG rfl 17 #[.agg #[.slice p P.length cap]] (fun ev => Value.agg #[.int .i64 0, ev, .int .i64 0, .slice none 0 0]) (fun ev W2 => W2.ownsRow W0.drew.heap.size 27 2 ev V ((List.replicate V zN).flatMap Nu.cs)) ?hop3 (hst W0.drew hB0) ?_; (case hop3 => (go_simp; done)); intro ev1 q1 ho1 hq1; have hE1 : Sl q1 ev1 Nu.cs (List.replicate V zN) := Sl.of_own (base := W0.drew.heap.size) (e := 27) (size := 2) (by rw [List.length_replicate]; exact ho1); obtain ⟨xp, xc, rfl⟩ := own_len ho1; have hB1 := nextB hq1 hB0; have p1 := nextC hq1 p0; have pl1 := World.block_lt_of_cell? _ _ p1) | (refine stepSG rfl 19 #[.agg #[.slice p P.length cap], .agg #[.int .i64 0, .slice xp V xc, .int .i64 0, .slice none 0 0], .slice ip I.length ic, .int .i64 most] (fun x : Value × Value => Value.tuple #[.agg #[x.1, x.2, .bool G], .int .i64 0]) (fun (x : Value × Value) W2 => FOut W2 q1.heap.size L O x.1 x.2) ?hop2 (hfr q1 hB1 _ hE1) ?_; (case hop2 => (go_simp; done)); rintro ⟨vv, ov⟩ q2 hF2 hq2; have hF2 : FOut q2 q1.heap.size L O vv ov := hF2; obtain ⟨⟨vp, vc, rfl⟩, ⟨op, oc, rfl⟩⟩ := hF2.len; have hB2 := nextB hq2 hB1; obtain ⟨m0, m1, m2, mf, ml⟩ := three (blk_next hq2 (blk_next hq1 r4)); have mf0 := mf 0; have mf1 := mf 1; have mf2 := mf 2))) | fail
  all_goals (
    have hz1 := hq1.size
    have hl : w.heap.size + 1 < q1.heap.size := by omega
    have hF3 := (((hF2.set (j := 0) (u := .slice vp L.length vc) hl).set (j := 1) (u := .slice op O.length oc) hl).set (j := 2) (u := .bool G) hl).base (by omega : w.heap.size ≤ q1.heap.size)
    have hB3 := ((hB2.setCell (p := ⟨w.heap.size + 1, 0, none⟩) (Nat.le_succ _) (.slice vp L.length vc)).setCell (p := ⟨w.heap.size + 1, 1, none⟩) (Nat.le_succ _) (.slice op O.length oc)).setCell (p := ⟨w.heap.size + 1, 2, none⟩) (Nat.le_succ _) (.bool G)
    clear p0 pl r4 hq1 hE1 ho1 hB1 p1 pl1 hq2 hF2 hB2
    go_wp2_with fail
    refine bodyPost_ret (v := .tuple #[.agg #[.slice vp L.length vc, .slice op O.length oc, .bool G], .int .i64 0]) (by simp only [results, Try.results21]; go_simp) rfl ⟨_, _, rfl, hF3, hB3⟩)

set_option maxRecDepth 100000 in
set_option maxHeartbeats 2000000 in
theorem allF_bad (P : List Bl) (I : List Nu) (hc0 : checkOf P ≠ 0) (most : Int) (pv iv : Value) (w : World) (h : Pg w pv P) (h12 : P.length ≤ 12) (hl12 : ∀ b ∈ P, b.l.length ≤ 12) (hI : Sl w iv Nu.cs I) :
    Calls Try.prog 21 #[.agg #[pv], iv, .int .i64 most] w fun e w' => e = .returned (.tuple #[.agg #[.slice none 0 0, .slice none 0 0, .bool false], .int .i64 (checkOf P)]) ∧ Below w.heap.size w w' := by
  obtain ⟨p, cap, rfl⟩ : ∃ p cap, pv = .slice p P.length cap := by obtain ⟨b, off, p, cap, hv, _⟩ := h.1; exact ⟨p, cap, hv⟩
  have hst := fun (W : World) (hB : Below w.heap.size w W) => start_any P _ W (h.below hB) h12 hl12
  have hfr := fun (W : World) (hB : Below w.heap.size w W) ev hE => from_bad P (beginS P) (by rw [start_bad hc0]; exact hc0) most _ ev (.slice none 0 0) iv W (h.below hB) h12 hl12 hE Sl.nil
  rw [start_bad hc0] at hfr
  obtain ⟨ip, ic, rfl⟩ : ∃ p cap, iv = .slice p I.length cap := by obtain ⟨b, off, p, cap, hv, _⟩ := hI; exact ⟨p, cap, hv⟩
  have hfr : ∀ W, Below w.heap.size w W → ∀ ev, Sl W ev Nu.cs (List.replicate (vars P).length zN) → Calls Try.prog 19 #[.agg #[.slice p P.length cap], .agg #[.int .i64 0, ev, .int .i64 0, .slice none 0 0], .slice ip I.length ic, .int .i64 most] W _ := hfr
  generalize (vars P).length = V at hst hfr
  generalize checkOf P = K at hfr hc0 ⊢
  have hb2 : Below w.heap.size w ((w.alloc (.cells #[.slice p P.length cap] 24)).alloc (.cells #[.slice none 0 0, .slice none 0 0, .bool false] 53)) := ((Below.refl _ _).alloc (Nat.le_refl _) _).alloc (by simp) _
  clear h hI hc0
  go_enter Try.func21, Try.ntmps21
  go_wp2_with fail
  obtain ⟨W0, hW0⟩ : ∃ W0, W0 = ((w.alloc (.cells #[.slice p P.length cap] 24)).alloc (.cells #[.slice none 0 0, .slice none 0 0, .bool false] 53)) := ⟨_, rfl⟩
  rw [← hW0]
  have hB0 : Below w.heap.size w W0.drew := by rw [hW0]; exact hb2.drew
  have hz0 : W0.drew.heap.size = w.heap.size + 1 + 1 := by rw [hW0]; show ((w.alloc _).alloc _).heap.size = _; simp
  have p0 : W0.drew.cell? ⟨w.heap.size, 0, none⟩ = some (.slice p P.length cap) := by rw [hW0]; simp
  have pl := World.block_lt_of_cell? _ _ p0
  have r4 : W0.drew.heap[w.heap.size + 1]? = some (.cells #[.slice none 0 0, .slice none 0 0, .bool false] 53 (0, 0)) := by
    rw [hW0]
    show ((w.alloc _).alloc _).heap[_]? = _
    rw [show w.heap.size + 1 = (w.alloc (.cells #[.slice p P.length cap] 24)).heap.size by simp]
    exact heap_alloc_new _ _
  clear hW0 hb2
  first | (go_region_law (first | (refine stepSG rfl 17 #[.agg #[.slice p P.length cap]] (fun ev => Value.agg #[.int .i64 0, ev, .int .i64 0, .slice none 0 0]) (fun ev W2 => W2.ownsRow W0.drew.heap.size 27 2 ev V ((List.replicate V zN).flatMap Nu.cs)) ?hop3 (hst W0.drew hB0) ?_; (case hop3 => (go_simp; done)); intro ev1 q1 ho1 hq1; have hE1 : Sl q1 ev1 Nu.cs (List.replicate V zN) := Sl.of_own (base := W0.drew.heap.size) (e := 27) (size := 2) (by rw [List.length_replicate]; exact ho1); obtain ⟨xp, xc, rfl⟩ := own_len ho1; have hB1 := nextB hq1 hB0; have p1 := nextC hq1 p0; have pl1 := World.block_lt_of_cell? _ _ p1) | (refine stepBG rfl 19 #[.agg #[.slice p P.length cap], .agg #[.int .i64 0, .slice xp V xc, .int .i64 0, .slice none 0 0], .slice ip I.length ic, .int .i64 most] (.tuple #[.agg #[.slice none 0 0, .slice none 0 0, .bool false], .int .i64 K]) ?hop2 (hfr q1 hB1 _ hE1) ?_; (case hop2 => (go_simp; done)); intro q2 hq2; have hB2 := nextB hq2 hB1; obtain ⟨m0, m1, m2, mf, ml⟩ := three (blk_next hq2 (blk_next hq1 r4)); have mf0 := mf 0; have mf1 := mf 1; have mf2 := mf 2))) | fail
  all_goals (
    have hz1 := hq1.size
    have hB3 := ((hB2.setCell (p := ⟨w.heap.size + 1, 0, none⟩) (Nat.le_succ _) (.slice none 0 0)).setCell (p := ⟨w.heap.size + 1, 1, none⟩) (Nat.le_succ _) (.slice none 0 0)).setCell (p := ⟨w.heap.size + 1, 2, none⟩) (Nat.le_succ _) (.bool false)
    clear p0 pl r4 hq1 hE1 ho1 hB1 p1 pl1 hq2 hB2
    go_wp2_with fail
    refine bodyPost_ret (v := .tuple #[.agg #[.slice none 0 0, .slice none 0 0, .bool false], .int .i64 K]) (by simp only [results, Try.results21]; go_simp) rfl ⟨rfl, hB3⟩)

end Go.Proofs.Ytaaklejkngpddaa.Pr

namespace Go.Proofs.Ytaaklejkngpddaa.Pr
set_option linter.unusedVariables false
set_option linter.unusedSimpArgs false
open Go Go.RowKit

theorem nameB8_a : Tk.nameB ⟨#[97]⟩ = true := by
  have h : Tk.runTo Tk.alnumB ⟨#[97]⟩ 0 = 1 := by rw [Tk.runTo_go (by decide) (by decide), Tk.runTo_stop (fun h => absurd h (by decide))]
  rw [Tk.nameB, h]; decide +kernel
theorem nameB8_x : Tk.nameB ⟨#[120]⟩ = true := by
  have h : Tk.runTo Tk.alnumB ⟨#[120]⟩ 0 = 1 := by rw [Tk.runTo_go (by decide) (by decide), Tk.runTo_stop (fun h => absurd h (by decide))]
  rw [Tk.nameB, h]; decide +kernel

def xA8 : At := ⟨⟨#[120]⟩, 0, 0⟩
def sA8 : St := ⟨2, ⟨#[120]⟩, zE⟩
def sB8 : St := ⟨3, ⟨#[]⟩, ⟨0, xA8, zA⟩⟩
def tR8 : Te := ⟨3, zA, ⟨#[]⟩, ⟨#[]⟩⟩
/-- The example's program. -/
def P8 (lv : Value) : List Bl := [⟨⟨#[97]⟩, [sA8, sB8], tR8, lv⟩]

theorem stmt_A8 : stmtB sA8 = true := by
  unfold stmtB
  rw [if_neg (by decide), if_pos (by decide)]
  show (Tk.nameB ⟨#[120]⟩ && zeroE zE) = true
  rw [nameB8_x]; decide +kernel
theorem stmt_B8 : stmtB sB8 = true := by
  unfold stmtB
  rw [if_neg (by decide), if_neg (by decide), if_pos (by decide)]
  show (emptyB ⟨#[]⟩ && ((0 : Int) == 0 && exprB ⟨0, xA8, zA⟩)) = true
  have h : exprB ⟨0, xA8, zA⟩ = (Tk.nameB ⟨#[120]⟩ && zeroN xA8 && zeroA zA) := by
    unfold exprB
    rw [if_pos (.inl rfl)]
    have e : emptyB ⟨#[120]⟩ = false := by decide +kernel
    have e2 : atomB xA8 = (Tk.nameB ⟨#[120]⟩ && zeroN xA8) := by
      unfold atomB
      show (match emptyB ⟨#[120]⟩ with | true => isNumB xA8 | false => Tk.nameB ⟨#[120]⟩ && zeroN xA8) = _
      rw [e]
    show (atomB xA8 && zeroA zA) = _
    rw [e2]
  rw [h, nameB8_x]; decide +kernel
theorem P8_vars (lv : Value) : vars (P8 lv) = [⟨#[120]⟩] := by
  show putS (putS (putS (putS (putS (putS (putS [] ⟨#[120]⟩) ⟨#[]⟩) ⟨#[]⟩) ⟨#[]⟩) ⟨#[120]⟩) ⟨#[]⟩) ⟨#[]⟩ = _
  decide +kernel
theorem P8_check (lv : Value) : checkOf (P8 lv) = 0 := by
  refine check_0 (by simp [P8]) (by simp [P8]) (by simp [P8]) ?_ (by rw [P8_vars]; decide) (fun k hk => ?_) (fun k hk => ?_)
  · show (blockB _ && true) = true
    rw [blockB_def]
    show ((Tk.nameB ⟨#[97]⟩ && (termB tR8 && (stmtB sA8 && (stmtB sB8 && true)))) && true) = true
    rw [nameB8_a, stmt_A8, stmt_B8]
    decide +kernel
  · have : k = 0 := by simp [P8] at hk; exact hk
    subst this
    rfl
  · have : k = 0 := by simp [P8] at hk; exact hk
    subst this
    rfl
theorem P8_begin (lv : Value) : beginS (P8 lv) = ⟨((0 : Nat) : Int), ⟨[zN], 0, []⟩⟩ := by unfold beginS; rw [P8_vars]; rfl
theorem P8_do (lv : Value) : runB (P8 lv) [⟨5, 0⟩] ⟨[zN], 0, []⟩ [sA8, sB8] = ⟨[⟨5, 0⟩], 1, [⟨5, 0⟩]⟩ := by
  show doS (P8 lv) [⟨5, 0⟩] (doS (P8 lv) [⟨5, 0⟩] ⟨[zN], 0, []⟩ sA8) sB8 = _
  rw [doS_3 (s := sB8) rfl, doS_2 (s := sA8) rfl, valA_var (by decide), P8_vars]
  kernel_rfl
theorem P8_run (lv : Value) : ∃ b : Int, fromS (P8 lv) [⟨5, 0⟩] (capN 9) (beginS (P8 lv)) true = ([⟨0, ⟨[zN], 0, []⟩⟩], (⟨b, ⟨[⟨5, 0⟩], 1, [⟨5, 0⟩]⟩⟩, false)) := by
  rw [P8_begin, show capN 9 = 8 + 1 from rfl, fromS_succ, adv_at (P := P8 lv) (by simp [P8] : 0 < (P8 lv).length)]
  have e : ((P8 lv)[0]'(by simp [P8])).l = [sA8, sB8] := rfl
  have g : goesB ((P8 lv)[0]'(by simp [P8])) = false := rfl
  rw [e, P8_do, g, fromS_false]
  exact ⟨_, rfl⟩

def Q1 : Obj := .cells #[.string ⟨#[120]⟩, .int .i64 0, .int .i64 0] 29
def Q2 : Obj := .cells #[.int .i64 2, .string ⟨#[120]⟩, .int .i64 0, .string ⟨#[]⟩, .int .i64 0, .int .i64 0, .string ⟨#[]⟩, .int .i64 0, .int .i64 0, .int .i64 3, .string ⟨#[]⟩, .int .i64 0, .string ⟨#[120]⟩, .int .i64 0, .int .i64 0, .string ⟨#[]⟩, .int .i64 0, .int .i64 0] 90
def Q3 (w : World) : Obj := .cells #[.string ⟨#[97]⟩, .slice (some ⟨w.heap.size + 1, 0, none⟩) 2 2, .int .i64 3, .string ⟨#[]⟩, .int .i64 0, .int .i64 0, .string ⟨#[]⟩, .string ⟨#[]⟩] 95
def Q4 (w : World) : Obj := .cells #[.slice (some ⟨w.heap.size + 1 + 1, 0, none⟩) 1 1] 24
def Q5 : Obj := .cells #[.int .i64 5, .int .i64 0] 27
def V5 (w : World) : World := ((((w.alloc Q1).alloc Q2).alloc (Q3 w)).alloc (Q4 w)).alloc Q5
theorem V5_2 (w : World) : (V5 w).heap[w.heap.size + 1]? = some Q2 := by
  unfold V5
  rw [heap_alloc_old _ _ (by simp; try omega), heap_alloc_old _ _ (by simp; try omega), heap_alloc_old _ _ (by simp), show w.heap.size + 1 = (w.alloc Q1).heap.size by simp]
  exact heap_alloc_new _ _
theorem V5_3 (w : World) : (V5 w).heap[w.heap.size + 1 + 1]? = some (Q3 w) := by
  unfold V5
  rw [heap_alloc_old _ _ (by simp; try omega), heap_alloc_old _ _ (by simp), show w.heap.size + 1 + 1 = ((w.alloc Q1).alloc Q2).heap.size by simp]
  exact heap_alloc_new _ _
theorem V5_5 (w : World) : (V5 w).heap[w.heap.size + 1 + 1 + 1 + 1]? = some Q5 := by
  unfold V5
  rw [show w.heap.size + 1 + 1 + 1 + 1 = ((((w.alloc Q1).alloc Q2).alloc (Q3 w)).alloc (Q4 w)).heap.size by simp]
  exact heap_alloc_new _ _
theorem V5_below (w : World) : Below w.heap.size w (V5 w) := (((((Below.refl _ _).alloc (Nat.le_refl _) _).alloc (by simp) _).alloc (by simp; try omega) _).alloc (by simp; try omega) _).alloc (by simp; try omega) _
theorem V5_pg (w : World) : Pg (V5 w) (.slice (some ⟨w.heap.size + 1 + 1, 0, none⟩) 1 1) (P8 (.slice (some ⟨w.heap.size + 1, 0, none⟩) 2 2)) := by
  refine ⟨Sl.lit (P8 (.slice (some ⟨w.heap.size + 1, 0, none⟩) 2 2)) rfl rfl (V5_3 w), fun b hb => ?_⟩
  have : b = ⟨⟨#[97]⟩, [sA8, sB8], tR8, .slice (some ⟨w.heap.size + 1, 0, none⟩) 2 2⟩ := by simpa [P8] using hb
  subst this
  exact Sl.lit [sA8, sB8] rfl rfl (V5_2 w)
theorem V5_in (w : World) : Sl (V5 w) (.slice (some ⟨w.heap.size + 1 + 1 + 1 + 1, 0, none⟩) 1 1) Nu.cs [⟨5, 0⟩] := Sl.lit ([⟨5, 0⟩] : List Nu) rfl rfl (V5_5 w)

set_option maxRecDepth 100000 in
theorem awake8_any (w : World) : Calls Try.prog 9 #[] w fun e w' => e = .returned (.bool true) ∧ Below w.heap.size w w' := by
  have hal := allF_ok (P8 (.slice (some ⟨w.heap.size + 1, 0, none⟩) 2 2)) [⟨5, 0⟩] (P8_check _) 9 _ _ _ (V5_pg w) (by simp [P8]) (by simp [P8]) (V5_in w)
  obtain ⟨b, hr⟩ := P8_run (.slice (some ⟨w.heap.size + 1, 0, none⟩) 2 2)
  rw [hr] at hal
  have hBW := V5_below w
  clear hr
  unfold V5 Q1 Q2 Q3 Q4 Q5 at hal hBW
  go_enter Try.func9, Try.ntmps9
  go_wp2_with (go_at_call 21; refine (hal).mono ?_; rintro e q ⟨vv, ov, rfl, hF, hq⟩; obtain ⟨⟨vp, vc, rfl⟩, _⟩ := hF.len; obtain ⟨ob, off, op, oc, rfl, hop, hoc⟩ := (Sl.of_own hF.ou).open Nu.cs_len; obtain rfl := hop (by simp); obtain ⟨c0, c1⟩ := Sl.nu hoc (Nat.lt_succ_self 0); have c2 : q.cell? ⟨ob, off, none⟩ = some (.int .i64 5) := c0; have cl := World.block_lt_of_cell? _ _ c2)
  go_ret
  refine ⟨rfl, ?_⟩
  have hBq := hBW.trans (hq.mono hBW.size)
  exact hBq.alloc hBq.size _

end Go.Proofs.Ytaaklejkngpddaa.Pr
