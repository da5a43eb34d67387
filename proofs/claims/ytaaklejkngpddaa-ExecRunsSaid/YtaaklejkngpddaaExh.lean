/- WALK of soughref08.Go. -/
import Derived.Test.YtaaklejkngpddaaExd
import Derived.Deep.RegionHeld3
namespace Go.Proofs.Ytaaklejkngpddaa.Pr
set_option linter.unusedVariables false
set_option linter.unusedSimpArgs false
open Go Go.RowKit

theorem slCells {α : Type} {enc : α → List Value} {W q : World} {v : Value} {L : List α} (h : Sl W v enc L) (hq : ∀ b o, b < W.heap.size → q.cell? ⟨b, o, none⟩ = W.cell? ⟨b, o, none⟩) : Sl q v enc L := by
  obtain ⟨b, off, p, cap, hv, hp, hc⟩ := h
  exact ⟨b, off, p, cap, hv, hp, fun j u hu => (hq b _ (World.block_lt_of_cell? _ _ (hc j u hu))).trans (hc j u hu)⟩
theorem pgCells {W q : World} {v : Value} {P : List Bl} (h : Pg W v P) (hq : ∀ b o, b < W.heap.size → q.cell? ⟨b, o, none⟩ = W.cell? ⟨b, o, none⟩) : Pg q v P := ⟨slCells h.1 hq, fun b hb => slCells (h.2 b hb) hq⟩

/-- The world behind the boxes of the page's Go and Block. -/
def boxR2 (w : World) (pv : Value) (S : Array Value) : World := ((w.alloc (.cells #[pv] 24)).alloc (.cells S 43)).alloc (.cells #[.int .i64 0, .slice none 0 0, .int .i64 0, .slice none 0 0] 43)
theorem boxR2_size (w : World) (pv : Value) (S : Array Value) : (boxR2 w pv S).heap.size = w.heap.size + 1 + 1 + 1 := by simp [boxR2]
theorem boxR2_below (w : World) (pv : Value) (S : Array Value) : Below w.heap.size w (boxR2 w pv S) := (((Below.refl _ _).alloc (Nat.le_refl _) _).alloc (by simp) _).alloc (by simp; omega) _
theorem boxR2_p (w : World) (pv : Value) (S : Array Value) : (boxR2 w pv S).heap[w.heap.size]? = some (.cells #[pv] 24 (0, 0)) := by
  unfold boxR2
  rw [heap_alloc_old _ _ (by simp; try omega), heap_alloc_old _ _ (by simp)]
  exact heap_alloc_new _ _
theorem boxR2_s (w : World) (pv : Value) (S : Array Value) : (boxR2 w pv S).heap[w.heap.size + 1]? = some (.cells S 43 (0, 0)) := by
  unfold boxR2
  rw [heap_alloc_old _ _ (by simp; try omega), show w.heap.size + 1 = (w.alloc (.cells #[pv] 24)).heap.size by simp]
  exact heap_alloc_new _ _
theorem boxR2_r (w : World) (pv : Value) (S : Array Value) : (boxR2 w pv S).heap[w.heap.size + 1 + 1]? = some (.cells #[.int .i64 0, .slice none 0 0, .int .i64 0, .slice none 0 0] 43 (0, 0)) := by
  unfold boxR2
  rw [show w.heap.size + 1 + 1 = ((w.alloc (.cells #[pv] 24)).alloc (.cells S 43)).heap.size by simp]
  exact heap_alloc_new _ _

theorem drew_size (W : World) : W.drew.heap.size = W.heap.size := rfl
theorem drew_new (W : World) (o : Obj) : ((W.alloc o).drew).heap[W.heap.size]? = some o := heap_alloc_new W o
theorem drew_new2 (W : World) (o : Obj) : (W.drew.alloc o).heap[W.heap.size]? = some o := heap_alloc_new W.drew o

def frameG (w : World) (ob : Nat) (u : Nat → Value) : Act := { tmps := #[u 0, u 1, .pointer (some ⟨w.heap.size, 0, none⟩), .pointer (some ⟨w.heap.size + 1, 0, none⟩), .pointer (some ⟨w.heap.size + 1 + 1, 0, none⟩), .bool false, .pointer (some ⟨w.heap.size + 1 + 1 + 1, 0, none⟩), .pointer (some ⟨ob, 0, none⟩), u 8, u 9, u 10, u 11, u 12, u 13, u 14, u 15, u 16, u 17, u 18, u 19, u 20, u 21, u 22, u 23, u 24, u 25, u 26, u 27, u 28, u 29, u 30, u 31, u 32, u 33, u 34, u 35, u 36, u 37, u 38, u 39, u 40, u 41, u 42, u 43, u 44, u 45, u 46, u 47, u 48, u 49, u 50, u 51, u 52, u 53], defers := [] }

set_option maxRecDepth 100000 in
set_option maxHeartbeats 4000000 in
theorem rgo_any (P : List Bl) (b : Nat) (hb : b < P.length) (r : Rs) (hc0 : checkOf P = 0) (hel : r.e.length ≤ 1000) (hol : r.o.length ≤ 90000) (pv ev ov : Value) (w : World) (h : Pg w pv P) (h12 : P.length ≤ 12) (hl12 : ∀ b ∈ P, b.l.length ≤ 12) (hE : Sl w ev Nu.cs r.e) (hO : Sl w ov Nu.cs r.o) (hz1 : NilOk ev) (hz2 : NilOk ov) :
    Calls Try.prog 29 #[.agg #[pv], .agg #[.int .i64 b, ev, .int .i64 r.i, ov]] w fun e w' => ∃ ev' ov', e = .returned (.tuple #[.agg #[.int .i64 (nextI P (P[b]'hb) r.e b), ev', .int .i64 r.i, ov'], .bool (goesB (P[b]'hb))]) ∧ Rn w.heap.size w' ev' ov' r ∧ Below w.heap.size w w' := by
  obtain ⟨bb, off, p, cap, rfl, hp, hc⟩ := Pg.open h
  obtain rfl := hp (by omega)
  have hpe := proper_end hc0 (List.getElem_mem hb) r.e
  have hcw : ∀ r u, ((P[b]'hb).cs)[r]? = some u → w.cell? ⟨bb, off + (b * 8 + r), none⟩ = some u := (hc b hb).1
  have hlt2 : (b : Int) < P.length := by omega
  have hcp1 := fun (W : World) (hB : Below w.heap.size w W) => copied_any r.e (by omega) ev W (hE.below hB) hz1
  have hcp2 := fun (W : World) (hB : Below w.heap.size w W) => copied_any r.o (by omega) ov W (hO.below hB) hz2
  have hvl := fun xv xa xb (W : World) (hB : Below w.heap.size w W) => rvalue_any P r.e xv xa xb _ ev W (h.below hB) h12 hl12 (hE.below hB)
  have hbk := fun x (W : World) (hB : Below w.heap.size w W) => rblock_any P x _ W (h.below hB) h12
  obtain ⟨ep, ec, rfl⟩ : ∃ p cap, ev = .slice p r.e.length cap := by obtain ⟨b, off, p, cap, hv, _⟩ := hE; exact ⟨p, cap, hv⟩
  obtain ⟨op, oc, rfl⟩ : ∃ p cap, ov = .slice p r.o.length cap := by obtain ⟨b, off, p, cap, hv, _⟩ := hO; exact ⟨p, cap, hv⟩
  have n3 := fun h => nextI_3 (P := P) (B := P[b]'hb) (E := r.e) (b := b) h
  have nt := fun h h2 => nextI_t (P := P) (B := P[b]'hb) (E := r.e) (b := b) h h2
  have ne := fun h h2 => nextI_e (P := P) (B := P[b]'hb) (E := r.e) (b := b) h h2
  have hH := And.intro True.intro (And.intro hE hO)
  have hzz := And.intro hz1 hz2
  clear hc hE hO h hz1 hz2
  have c2 : w.cell? ⟨bb, off + b * 8 + 2, none⟩ = some (.int .i64 (P[b]'hb).t.k) := by rw [Nat.add_assoc]; exact hcw 2 _ rfl
  have c3 : w.cell? ⟨bb, off + b * 8 + 3, none⟩ = some (.string (P[b]'hb).t.x.v) := by rw [Nat.add_assoc]; exact hcw 3 _ rfl
  have c4 : w.cell? ⟨bb, off + b * 8 + 4, none⟩ = some (.int .i64 (P[b]'hb).t.x.a) := by rw [Nat.add_assoc]; exact hcw 4 _ rfl
  have c5 : w.cell? ⟨bb, off + b * 8 + 5, none⟩ = some (.int .i64 (P[b]'hb).t.x.b) := by rw [Nat.add_assoc]; exact hcw 5 _ rfl
  have c6 : w.cell? ⟨bb, off + b * 8 + 6, none⟩ = some (.string (P[b]'hb).t.t) := by rw [Nat.add_assoc]; exact hcw 6 _ rfl
  have c7 : w.cell? ⟨bb, off + b * 8 + 7, none⟩ = some (.string (P[b]'hb).t.e) := by rw [Nat.add_assoc]; exact hcw 7 _ rfl
  clear hcw
  generalize hG : goesB (P[b]'hb) = G at n3 nt ne ⊢
  generalize hN : nextI P (P[b]'hb) r.e b = N at n3 nt ne ⊢
  generalize toN P (P[b]'hb) r.e = T at hpe nt ne
  clear hG hN
  generalize (P[b]'hb) = B at *
  obtain ⟨Bn, Bl, ⟨tk, ⟨xv, xa, xb⟩, tt, te⟩, lv⟩ := B
  simp only at c2 c3 c4 c5 c6 c7 n3 nt ne hpe
  have hv := hvl xv xa xb
  clear hvl
  generalize valA P r.e ⟨xv, xa, xb⟩ = n at hv nt ne
  have hbl := World.block_lt_of_cell? _ _ c2
  have hNN := And.intro True.intro (And.intro hpe (And.intro n3 (And.intro nt ne)))
  clear hpe n3 nt ne
  go_enter Try.func29, Try.ntmps29
  go_wp2_with fail
  rename_i K hK
  obtain ⟨W4, hW4⟩ : ∃ W4, W4 = ((boxR2 w (.slice (some ⟨bb, off, none⟩) P.length cap) #[.int .i64 b, .slice ep r.e.length ec, .int .i64 r.i, .slice op r.o.length oc]).alloc (.cells #[.int .i64 tk, .string xv, .int .i64 xa, .int .i64 xb, .string tt, .string te] 93)) := ⟨_, rfl⟩
  have hz4 : w.heap.size + 1 + 1 + 1 + 1 ≤ W4.heap.size := by rw [hW4]; simp [boxR2]
  have hB4 : Below w.heap.size w W4 := by rw [hW4]; exact (boxR2_below _ _ _).alloc (by rw [boxR2_size]; omega) _
  have yy : W4.heap[w.heap.size]? = some (.cells #[.slice (some ⟨bb, off, none⟩) P.length cap] 24 (0, 0)) := by
    rw [hW4, heap_alloc_old _ _ (by rw [boxR2_size]; omega)]
    exact boxR2_p _ _ _
  have ss : W4.heap[w.heap.size + 1]? = some (.cells #[.int .i64 b, .slice ep r.e.length ec, .int .i64 r.i, .slice op r.o.length oc] 43 (0, 0)) := by
    rw [hW4, heap_alloc_old _ _ (by rw [boxR2_size]; omega)]
    exact boxR2_s _ _ _
  have rr : W4.heap[w.heap.size + 1 + 1]? = some (.cells #[.int .i64 0, .slice none 0 0, .int .i64 0, .slice none 0 0] 43 (0, 0)) := by
    rw [hW4, heap_alloc_old _ _ (by rw [boxR2_size]; omega)]
    exact boxR2_r _ _ _
  have tt' : W4.heap[w.heap.size + 1 + 1 + 1]? = some (.cells #[.int .i64 tk, .string xv, .int .i64 xa, .int .i64 xb, .string tt, .string te] 93 (0, 0)) := by
    rw [hW4, ← boxR2_size w (.slice (some ⟨bb, off, none⟩) P.length cap) #[.int .i64 b, .slice ep r.e.length ec, .int .i64 r.i, .slice op r.o.length oc]]
    exact heap_alloc_new _ _
  have y0 := cell_of_one yy
  obtain ⟨s0, s1, s2, s3, _, _⟩ := four ss
  have t0 := (cell_of_row W4 _ 0 _ _ (0, 0) tt').trans (rfl : _ = some (Value.int .i64 tk))
  have t1 := (cell_of_row W4 _ 1 _ _ (0, 0) tt').trans (rfl : _ = some (Value.string xv))
  have t2 := (cell_of_row W4 _ 2 _ _ (0, 0) tt').trans (rfl : _ = some (Value.int .i64 xa))
  have t3 := (cell_of_row W4 _ 3 _ _ (0, 0) tt').trans (rfl : _ = some (Value.int .i64 xb))
  have t4 := (cell_of_row W4 _ 4 _ _ (0, 0) tt').trans (rfl : _ = some (Value.string tt))
  have t5 := (cell_of_row W4 _ 5 _ _ (0, 0) tt').trans (rfl : _ = some (Value.string te))
  clear yy ss tt'
  show Code.wp _ _ _ _ ((boxR2 w (.slice (some ⟨bb, off, none⟩) P.length cap) #[.int .i64 b, .slice ep r.e.length ec, .int .i64 r.i, .slice op r.o.length oc]).alloc (.cells #[.int .i64 tk, .string xv, .int .i64 xa, .int .i64 xb, .string tt, .string te] 93))
  rw [← hW4]
  clear hW4 c2 c3 c4 c5 c6 c7 hbl
  have yl := World.block_lt_of_cell? _ _ y0
  have sl := World.block_lt_of_cell? _ _ s0
  have tl := World.block_lt_of_cell? _ _ t0
  have hK2 : ∀ (a2 : Act) (q : World) (ob : Nat) (xp : Option Addr) (xc : Nat) (yp : Option Addr) (yc : Nat), a2 = frameG w ob (fun i => a2.tmps.getD i undef) → Below W4.heap.size W4 q → q.heap[ob]? = some (.cells #[.int .i64 b, .slice xp r.e.length xc, .int .i64 r.i, .slice yp r.o.length yc] 43 (0, 0)) → Rn W4.heap.size q (.slice xp r.e.length xc) (.slice yp r.o.length yc) r → (Value.slice xp r.e.length xc).ownBlock ≠ some ob → (Value.slice yp r.o.length yc).ownBlock ≠ some ob → W4.heap.size ≤ ob → K a2 q := by
    intro a2 q ob xp xc yp yc ha hq hob hRn ne1 ne2 hobl
    obtain ⟨u, hu⟩ : ∃ u : Nat → Value, (fun i => a2.tmps.getD i undef) = u := ⟨_, rfl⟩
    rw [hu] at ha
    clear hu
    subst ha
    refine hK _ _ ?_
    simp only [frameG]
    have y0 := nextC hq y0
    have s1 := nextC hq s1
    have t0 := nextC hq t0
    have t1 := nextC hq t1
    have t2 := nextC hq t2
    have t3 := nextC hq t3
    have t4 := nextC hq t4
    have t5 := nextC hq t5
    have yl := World.block_lt_of_cell? _ _ y0
    have sl := World.block_lt_of_cell? _ _ s1
    have tl := World.block_lt_of_cell? _ _ t0
    have hBq := nextB hq hB4
    obtain ⟨o0, o1, o2, o3, of, ol⟩ := four hob
    have of0 := of 0
    obtain ⟨r0, r1, r2, r3, rf, rl⟩ := four (blk_next hq rr)
    have rf0 := rf 0
    have rf1 := rf 1
    have rf2 := rf 2
    have rf3 := rf 3
    have m1 : (Value.slice xp r.e.length xc).ownBlock ≠ some (w.heap.size + 1 + 1) := ownNL hRn.e (by omega)
    have m2 : (Value.slice yp r.o.length yc).ownBlock ≠ some (w.heap.size + 1 + 1) := ownNL hRn.o (by omega)
    have hpe := hNN.2.1
    have n3 := hNN.2.2.1
    have nt := hNN.2.2.2.1
    have ne := hNN.2.2.2.2
    clear hNN hK hcp1 hcp2 hob rr hH
    have hl1 : w.heap.size ≤ w.heap.size + 1 + 1 := by omega
    have hl2 : w.heap.size ≤ ob := by omega
    have hne : ¬ ob = w.heap.size + 1 + 1 := by omega
    have hne2 : ¬ ob = w.heap.size + 1 + 1 + 1 := by omega
    have hne3 : ¬ ob = w.heap.size + 1 := by omega
    have hne4 : ¬ ob = w.heap.size := by omega
    rcases hpe.1 with rfl | rfl | rfl
    · obtain ⟨rfl, rfl, rfl⟩ := nt (by decide) (fun h => by cases h.1)
      clear hpe nt ne n3 hv
      go_wp2_with (go_at_call 58; refine' Calls.aft _ _ (hbk T q hBq) _; rotate_left 2; (exact Below.refl _ _; rfl); intro x2; have hle := After.le x2; (try simp at hle))
      have hR2 := hRn.below x2.below
      have hB2 := nextB x2.below hBq
      refine bodyPost_ret (v := .tuple #[.agg #[.int .i64 (idx (namesOf P) T), .slice xp r.e.length xc, .int .i64 r.i, .slice yp r.o.length yc], .bool true]) (by simp only [results, Try.results29]; go_simp) rfl ⟨_, _, rfl, Rn.base ?_ (by omega : w.heap.size ≤ W4.heap.size), ?_⟩
      · (repeat (first | (with_reducible exact hR2) | refine Rn.setMid ?_ ?_ ?_))
        all_goals first | exact m1 | exact m2 | exact ne1 | exact ne2
      · (repeat (first | (with_reducible exact hB2) | refine Below.setCell ?_ ?_ _))
        all_goals first | exact hl1 | exact hl2
    · by_cases hz : n = zN
      · subst hz
        obtain ⟨rfl, rfl, rfl⟩ := ne (by decide) ⟨rfl, rfl⟩
        clear hpe nt ne n3
        have hv : ∀ W, Below w.heap.size w W → Calls Try.prog 13 #[.agg #[.slice (some ⟨bb, off, none⟩) P.length cap], .slice ep r.e.length ec, .agg #[.string xv, .int .i64 xa, .int .i64 xb]] W (fun e w' => e = .returned (.agg #[.int .i64 0, .int .i64 0]) ∧ Below W.heap.size W w') := hv
        go_wp2_with (first | (go_at_call 58; first | (with_reducible refine' Calls.aft _ _ (hbk tt q hBq) _; rotate_left 2; (exact Below.refl _ _; rfl); intro x2; have hle := After.le x2; (try simp at hle); have hB5 := (nextB x2.below hBq).setCell (p := ⟨ob, 0, none⟩) hl2 (.int .i64 (idx (namesOf P) tt))) | (with_reducible refine' Calls.aft _ _ (hbk T x3.val (nextB x3.below hB5)) _; rotate_left 2; (exact Below.refl _ _; rfl); intro x4; have hle := After.le x4; (try simp at hle))) | (go_at_call 13; refine' Calls.aft _ _ (hv _ hB5) _; rotate_left 2; (exact Below.refl _ _; rfl); intro x3; have hle := After.le x3; (try simp at hle)))
        have hR2 := (((hRn.below x2.below).setMid (j := 0) (u := .int .i64 (idx (namesOf P) tt)) ne1 ne2).below x3.below).below x4.below
        have hB2 := nextB x4.below (nextB x3.below hB5)
        refine bodyPost_ret (v := .tuple #[.agg #[.int .i64 (idx (namesOf P) T), .slice xp r.e.length xc, .int .i64 r.i, .slice yp r.o.length yc], .bool true]) (by simp only [results, Try.results29]; go_simp) rfl ⟨_, _, rfl, Rn.base ?_ (by omega : w.heap.size ≤ W4.heap.size), ?_⟩
        · (repeat (first | (with_reducible exact hR2) | refine Rn.setMid ?_ ?_ ?_))
          all_goals first | exact m1 | exact m2 | exact ne1 | exact ne2
        · (repeat (first | (with_reducible exact hB2) | refine Below.setCell ?_ ?_ _))
          all_goals first | exact hl1 | exact hl2
      · obtain ⟨rfl, rfl, rfl⟩ := nt (by decide) (fun h => hz h.2)
        obtain ⟨na, nb⟩ := n
        have f1 : (na == 0 && nb == 0) = false := by
          cases he : (na == 0 && nb == 0) with
          | false => rfl
          | true => rw [Bool.and_eq_true, beq_iff_eq, beq_iff_eq] at he; exact absurd (by rw [he.1, he.2]; rfl) hz
        clear hpe nt ne n3 hz
        go_wp2_with (first | (go_at_call 58; with_reducible refine' Calls.aft _ _ (hbk T q hBq) _; rotate_left 2; (exact Below.refl _ _; rfl); intro x2; have hle := After.le x2; (try simp at hle); have hB5 := (nextB x2.below hBq).setCell (p := ⟨ob, 0, none⟩) hl2 (.int .i64 (idx (namesOf P) T))) | (go_at_call 13; refine' Calls.aft _ _ (hv _ hB5) _; rotate_left 2; (exact Below.refl _ _; rfl); intro x3; have hle := After.le x3; (try simp at hle)))
        have hR2 := ((hRn.below x2.below).setMid (j := 0) (u := .int .i64 (idx (namesOf P) T)) ne1 ne2).below x3.below
        have hB2 := nextB x3.below hB5
        refine bodyPost_ret (v := .tuple #[.agg #[.int .i64 (idx (namesOf P) T), .slice xp r.e.length xc, .int .i64 r.i, .slice yp r.o.length yc], .bool true]) (by simp only [results, Try.results29]; go_simp) rfl ⟨_, _, rfl, Rn.base ?_ (by omega : w.heap.size ≤ W4.heap.size), ?_⟩
        · (repeat (first | (with_reducible exact hR2) | refine Rn.setMid ?_ ?_ ?_))
          all_goals first | exact m1 | exact m2 | exact ne1 | exact ne2
        · (repeat (first | (with_reducible exact hB2) | refine Below.setCell ?_ ?_ _))
          all_goals first | exact hl1 | exact hl2
    · obtain ⟨rfl, rfl⟩ := n3 rfl
      clear hpe nt ne n3 hv hbk
      go_wp2_with fail
      refine bodyPost_ret (v := .tuple #[.agg #[.int .i64 b, .slice xp r.e.length xc, .int .i64 r.i, .slice yp r.o.length yc], .bool false]) (by simp only [results, Try.results29]; go_simp) rfl ⟨_, _, rfl, Rn.base ?_ (by omega : w.heap.size ≤ W4.heap.size), ?_⟩
      · (repeat (first | (with_reducible exact hRn) | refine Rn.setMid ?_ ?_ ?_))
        all_goals first | exact m1 | exact m2 | exact ne1 | exact ne2
      · (repeat (first | (with_reducible exact hBq) | refine Below.setCell ?_ ?_ _))
        all_goals first | exact hl1 | exact hl2
  have hKK := And.intro True.intro hK2
  have hE4 := hH.2.1.below hB4
  have hO4 := hH.2.2.below hB4
  clear hK hK2 hv hbk hNN hcp1 hcp2
  have hcp1 := fun (W : World) (hS : ∀ b o, b < W4.heap.size → W.cell? ⟨b, o, none⟩ = W4.cell? ⟨b, o, none⟩) => copied_any r.e (by omega) _ W (slCells hE4 hS) hzz.1
  have hcp2 := fun (W : World) (hS : ∀ b o, b < W4.heap.size → W.cell? ⟨b, o, none⟩ = W4.cell? ⟨b, o, none⟩) => copied_any r.o (by omega) _ W (slCells hO4 hS) hzz.2
  clear hE4 hO4 hH hzz
  go_region_held3 (fun w' => ∀ b o, b < W4.heap.size → w'.cell? ⟨b, o, none⟩ = W4.cell? ⟨b, o, none⟩)
    (((try dsimp only); intro b9 o9 h9; refine Below.cell (B := W4.heap.size) (w := W4) ?_ h9; clear h9; (repeat (first | exact Below.refl _ _ | apply Below.drew | refine Below.alloc ?_ ?_ _ | refine Below.setCell ?_ ?_ _ | refine Below.trans ?_ (Below.mono (After.below _) ?_))); (all_goals (first | (simp; done) | (simp; omega) | omega))))
    ((go_at_call 57; first | ((with_reducible refine' Calls.aftS _ _ (hcp1 _ (by assumption)) _; rotate_left 2; (exact Below.refl _ _; rfl); intro v5 x5 ho5; have hle := After.le x5; (try simp at hle)); obtain ⟨xp, xc, rfl⟩ := own_len ho5) | ((with_reducible refine' Calls.aftS _ _ (hcp2 _ (by assumption)) _; rotate_left 2; (exact Below.refl _ _; rfl); intro v6 x6 ho6; have hle := After.le x6; (try simp at hle)); obtain ⟨yp, yc, rfl⟩ := own_len ho6)))
  all_goals (
    have k5 := x5.below.size
    have k6 := x6.below.size
    have k7 : W4.drew.heap.size = W4.heap.size := rfl
    (try simp only [drew_size, World.size_alloc, k7] at k5)
    (try simp only [drew_size, World.size_alloc, k7] at k6)
    refine hKK.2 _ _ _ xp xc yp yc rfl ?_ ?_ ?_ ?_ ?_ ?_
    · (repeat (first | exact Below.refl _ _ | apply Below.drew | refine Below.alloc ?_ ?_ _ | refine Below.setCell ?_ ?_ _ | refine Below.trans ?_ (Below.mono (After.below _) ?_))); (all_goals (first | (simp; done) | (simp; omega) | omega))
    · first | (with_reducible exact heap_alloc_new _ _) | (with_reducible exact set4 _ _ _ _ (blk_next x6.below (heap_alloc_new _ _))) | (with_reducible exact set4 _ _ _ _ (blk_next x6.below (blk_next x5.below (drew_new _ _)))) | (with_reducible exact set4 _ _ _ _ (blk_next x6.below (blk_next x5.below (drew_new2 _ _))))
    · have h6 : Rn W4.heap.size x6.val (.slice xp r.e.length xc) (.slice yp r.o.length yc) r := by
        first | (with_reducible exact (Rn.first ho5 ho6 x6.below x5.below.size).base (by simp [k7])) | (with_reducible exact (Rn.first (own_below ho5 ((Below.refl _ _).alloc (Nat.le_refl _) _)) ho6 x6.below (by simp [k7]; omega)).base (by simp [k7]))
      (repeat (first | (with_reducible exact h6) | refine Rn.setMid ?_ ?_ ?_ | refine Rn.below ?_ ((Below.refl _ _).alloc (Nat.le_refl _) _)))
      all_goals first | (intro he; have h9 := ho5.lt _ he; (try simp only [drew_size, World.size_alloc, k7] at h9); omega) | (intro he; have h9 := ho6.lt _ he; (try simp only [drew_size, World.size_alloc, k7] at h9); omega)
    · intro he
      have h9 := ho5.lt _ he
      (try simp only [drew_size, World.size_alloc, k7] at h9)
      omega
    · intro he
      have h9 := ho6.lt _ he
      (try simp only [drew_size, World.size_alloc, k7] at h9)
      omega
    · first | omega | (simp [k7]; omega) | exact Nat.le_refl _)

end Go.Proofs.Ytaaklejkngpddaa.Pr
