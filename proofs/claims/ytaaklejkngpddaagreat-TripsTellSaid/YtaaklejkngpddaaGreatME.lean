/- WALK of soughref08.Go. WALK of soughref08.Block: what stands while it goes through the statements. -/
import Derived.Test.YtaaklejkngpddaaGreatExd
import Derived.Deep.RegionHeld3

namespace Go.Proofs.YtaaklejkngpddaaGreat.Pr
set_option linter.unusedVariables false
set_option linter.unusedSimpArgs false
open Go Go.RowKit

theorem slCells {α : Type} {enc : α → List Value} {W q : World} {v : Value} {L : List α} (h : Sl W v enc L) (hq : ∀ b o, b < W.heap.size → q.cell? ⟨b, o, none⟩ = W.cell? ⟨b, o, none⟩) : Sl q v enc L := by
  obtain ⟨b, off, p, cap, hv, hp, hc⟩ := h
  exact ⟨b, off, p, cap, hv, hp, fun j u hu => (hq b _ (World.block_lt_of_cell? _ _ (hc j u hu))).trans (hc j u hu)⟩
theorem pgCells {W q : World} {v : Value} {P : List Bl} (h : Pg W v P) (hq : ∀ b o, b < W.heap.size → q.cell? ⟨b, o, none⟩ = W.cell? ⟨b, o, none⟩) : Pg q v P := ⟨slCells h.1 hq, fun b hb => slCells (h.2 b hb) hq⟩

/-- The world behind the boxes of the page's Go and Block. -/
def boxR2 (w : World) (pv : Value) (S : Array Value) : World := ((w.alloc (.cells #[pv] 24)).alloc (.cells S 38)).alloc (.cells #[.int .i64 0, .slice none 0 0, .int .i64 0, .slice none 0 0] 38)
theorem boxR2_size (w : World) (pv : Value) (S : Array Value) : (boxR2 w pv S).heap.size = w.heap.size + 1 + 1 + 1 := by simp [boxR2]
theorem boxR2_below (w : World) (pv : Value) (S : Array Value) : Below w.heap.size w (boxR2 w pv S) := (((Below.refl _ _).alloc (Nat.le_refl _) _).alloc (by simp) _).alloc (by simp; omega) _
theorem boxR2_p (w : World) (pv : Value) (S : Array Value) : (boxR2 w pv S).heap[w.heap.size]? = some (.cells #[pv] 24 (0, 0)) := by
  unfold boxR2
  rw [heap_alloc_old _ _ (by simp; try omega), heap_alloc_old _ _ (by simp)]
  exact heap_alloc_new _ _
theorem boxR2_s (w : World) (pv : Value) (S : Array Value) : (boxR2 w pv S).heap[w.heap.size + 1]? = some (.cells S 38 (0, 0)) := by
  unfold boxR2
  rw [heap_alloc_old _ _ (by simp; try omega), show w.heap.size + 1 = (w.alloc (.cells #[pv] 24)).heap.size by simp]
  exact heap_alloc_new _ _
theorem boxR2_r (w : World) (pv : Value) (S : Array Value) : (boxR2 w pv S).heap[w.heap.size + 1 + 1]? = some (.cells #[.int .i64 0, .slice none 0 0, .int .i64 0, .slice none 0 0] 38 (0, 0)) := by
  unfold boxR2
  rw [show w.heap.size + 1 + 1 = ((w.alloc (.cells #[pv] 24)).alloc (.cells S 38)).heap.size by simp]
  exact heap_alloc_new _ _

theorem drew_size (W : World) : W.drew.heap.size = W.heap.size := rfl
theorem drew_new (W : World) (o : Obj) : ((W.alloc o).drew).heap[W.heap.size]? = some o := heap_alloc_new W o
theorem drew_new2 (W : World) (o : Obj) : (W.drew.alloc o).heap[W.heap.size]? = some o := heap_alloc_new W.drew o

def frameG (w : World) (ob : Nat) (u : Nat → Value) : Act := { tmps := #[u 0, u 1, .pointer (some ⟨w.heap.size, 0, none⟩), .pointer (some ⟨w.heap.size + 1, 0, none⟩), .pointer (some ⟨w.heap.size + 1 + 1, 0, none⟩), .bool false, .pointer (some ⟨w.heap.size + 1 + 1 + 1, 0, none⟩), .pointer (some ⟨ob, 0, none⟩), u 8, u 9, u 10, u 11, u 12, u 13, u 14, u 15, u 16, u 17, u 18, u 19, u 20, u 21, u 22, u 23, u 24, u 25, u 26, u 27, u 28, u 29, u 30, u 31, u 32, u 33, u 34, u 35, u 36, u 37, u 38, u 39, u 40, u 41, u 42, u 43, u 44, u 45, u 46, u 47, u 48, u 49, u 50, u 51, u 52, u 53], defers := [] }

set_option maxRecDepth 100000 in
set_option maxHeartbeats 4000000 in
theorem rgo_any (P : List Bl) (b : Nat) (hb : b < P.length) (r : Rs) (hc0 : checkOf P = 0) (hel : r.e.length ≤ 1000) (hol : r.o.length ≤ 90000) (pv ev ov : Value) (w : World) (h : Pg w pv P) (h12 : P.length ≤ 12) (hl12 : ∀ b ∈ P, b.l.length ≤ 12) (hE : Sl w ev Nu.cs r.e) (hO : Sl w ov Nu.cs r.o) (hz1 : NilOk ev) (hz2 : NilOk ov) :
    Calls Tryz.prog 32 #[.agg #[pv], .agg #[.int .i64 b, ev, .int .i64 r.i, ov]] w fun e w' => ∃ ev' ov', e = .returned (.tuple #[.agg #[.int .i64 (nextI P (P[b]'hb) r.e b), ev', .int .i64 r.i, ov'], .bool (goesB (P[b]'hb))]) ∧ Rn w.heap.size w' ev' ov' r ∧ Below w.heap.size w w' := by
  obtain ⟨bb, off, p, cap, rfl, hp, hc⟩ := Pg.open h
  obtain rfl := hp (by omega)
  have hpe := proper_end hc0 (List.getElem_mem hb) r.e
  have hcw : ∀ r u, ((P[b]'hb).cs)[r]? = some u → w.cell? ⟨bb, off + (b * 8 + r), none⟩ = some u := (hc b hb).1
  have hlt2 : (b : Int) < P.length := by omega
  have hcp1 := fun (W : World) (hB : Below w.heap.size w W) => copied_any r.e (by omega) ev W (hE.below hB) hz1
  have hcp2 := fun (W : World) (hB : Below w.heap.size w W) => copied_any r.o (by omega) ov W (hO.below hB) hz2
  have hvl := fun xv xa xb (W : World) (hB : Below w.heap.size w W) => rvalue_any P r.e xv xa xb _ ev W (h.below hB) h12 hl12 (hE.below hB)
  have hbk := fun x (W : World) (hB : Below w.heap.size w W) => rblock_any P x _ W (h.below hB) h12
  obtain ⟨ep, ec, rfl⟩ : ∃ p cap, ev = .slice p r.e.length cap := by obtain ⟨b, off, p, cap, hv, _⟩ := hE; exact ⟨p, cap, hv⟩
  obtain ⟨op, oc, rfl⟩ : ∃ p cap, ov = .slice p r.o.length cap := by obtain ⟨b, off, p, cap, hv, _⟩ := hO; exact ⟨p, cap, hv⟩
  have n3 := fun h => nextI_3 (P := P) (B := P[b]'hb) (E := r.e) (b := b) h
  have nt := fun h h2 => nextI_t (P := P) (B := P[b]'hb) (E := r.e) (b := b) h h2
  have ne := fun h h2 => nextI_e (P := P) (B := P[b]'hb) (E := r.e) (b := b) h h2
  have hH := And.intro True.intro (And.intro hE hO)
  have hzz := And.intro hz1 hz2
  clear hc hE hO h hz1 hz2
  have c2 : w.cell? ⟨bb, off + b * 8 + 2, none⟩ = some (.int .i64 (P[b]'hb).t.k) := by rw [Nat.add_assoc]; exact hcw 2 _ rfl
  have c3 : w.cell? ⟨bb, off + b * 8 + 3, none⟩ = some (.string (P[b]'hb).t.x.v) := by rw [Nat.add_assoc]; exact hcw 3 _ rfl
  have c4 : w.cell? ⟨bb, off + b * 8 + 4, none⟩ = some (.int .i64 (P[b]'hb).t.x.a) := by rw [Nat.add_assoc]; exact hcw 4 _ rfl
  have c5 : w.cell? ⟨bb, off + b * 8 + 5, none⟩ = some (.int .i64 (P[b]'hb).t.x.b) := by rw [Nat.add_assoc]; exact hcw 5 _ rfl
  have c6 : w.cell? ⟨bb, off + b * 8 + 6, none⟩ = some (.string (P[b]'hb).t.t) := by rw [Nat.add_assoc]; exact hcw 6 _ rfl
  have c7 : w.cell? ⟨bb, off + b * 8 + 7, none⟩ = some (.string (P[b]'hb).t.e) := by rw [Nat.add_assoc]; exact hcw 7 _ rfl
  clear hcw
  generalize hG : goesB (P[b]'hb) = G at n3 nt ne ⊢
  generalize hN : nextI P (P[b]'hb) r.e b = N at n3 nt ne ⊢
  generalize toN P (P[b]'hb) r.e = T at hpe nt ne
  clear hG hN
  generalize (P[b]'hb) = B at *
  obtain ⟨Bn, Bl, ⟨tk, ⟨xv, xa, xb⟩, tt, te⟩, lv⟩ := B
  simp only at c2 c3 c4 c5 c6 c7 n3 nt ne hpe
  have hv := hvl xv xa xb
  clear hvl
  generalize valA P r.e ⟨xv, xa, xb⟩ = n at hv nt ne
  have hbl := World.block_lt_of_cell? _ _ c2
  have hNN := And.intro True.intro (And.intro hpe (And.intro n3 (And.intro nt ne)))
  clear hpe n3 nt ne
  go_enter Tryz.func32, Tryz.ntmps32
  go_wp2_with fail
  rename_i K hK
  obtain ⟨W4, hW4⟩ : ∃ W4, W4 = ((boxR2 w (.slice (some ⟨bb, off, none⟩) P.length cap) #[.int .i64 b, .slice ep r.e.length ec, .int .i64 r.i, .slice op r.o.length oc]).alloc (.cells #[.int .i64 tk, .string xv, .int .i64 xa, .int .i64 xb, .string tt, .string te] 53)) := ⟨_, rfl⟩
  have hz4 : w.heap.size + 1 + 1 + 1 + 1 ≤ W4.heap.size := by rw [hW4]; simp [boxR2]
  have hB4 : Below w.heap.size w W4 := by rw [hW4]; exact (boxR2_below _ _ _).alloc (by rw [boxR2_size]; omega) _
  have yy : W4.heap[w.heap.size]? = some (.cells #[.slice (some ⟨bb, off, none⟩) P.length cap] 24 (0, 0)) := by
    rw [hW4, heap_alloc_old _ _ (by rw [boxR2_size]; omega)]
    exact boxR2_p _ _ _
  have ss : W4.heap[w.heap.size + 1]? = some (.cells #[.int .i64 b, .slice ep r.e.length ec, .int .i64 r.i, .slice op r.o.length oc] 38 (0, 0)) := by
    rw [hW4, heap_alloc_old _ _ (by rw [boxR2_size]; omega)]
    exact boxR2_s _ _ _
  have rr : W4.heap[w.heap.size + 1 + 1]? = some (.cells #[.int .i64 0, .slice none 0 0, .int .i64 0, .slice none 0 0] 38 (0, 0)) := by
    rw [hW4, heap_alloc_old _ _ (by rw [boxR2_size]; omega)]
    exact boxR2_r _ _ _
  have tt' : W4.heap[w.heap.size + 1 + 1 + 1]? = some (.cells #[.int .i64 tk, .string xv, .int .i64 xa, .int .i64 xb, .string tt, .string te] 53 (0, 0)) := by
    rw [hW4, ← boxR2_size w (.slice (some ⟨bb, off, none⟩) P.length cap) #[.int .i64 b, .slice ep r.e.length ec, .int .i64 r.i, .slice op r.o.length oc]]
    exact heap_alloc_new _ _
  have y0 := cell_of_one yy
  obtain ⟨s0, s1, s2, s3, _, _⟩ := four ss
  have t0 := (cell_of_row W4 _ 0 _ _ (0, 0) tt').trans (rfl : _ = some (Value.int .i64 tk))
  have t1 := (cell_of_row W4 _ 1 _ _ (0, 0) tt').trans (rfl : _ = some (Value.string xv))
  have t2 := (cell_of_row W4 _ 2 _ _ (0, 0) tt').trans (rfl : _ = some (Value.int .i64 xa))
  have t3 := (cell_of_row W4 _ 3 _ _ (0, 0) tt').trans (rfl : _ = some (Value.int .i64 xb))
  have t4 := (cell_of_row W4 _ 4 _ _ (0, 0) tt').trans (rfl : _ = some (Value.string tt))
  have t5 := (cell_of_row W4 _ 5 _ _ (0, 0) tt').trans (rfl : _ = some (Value.string te))
  clear yy ss tt'
  show Code.wp _ _ _ _ ((boxR2 w (.slice (some ⟨bb, off, none⟩) P.length cap) #[.int .i64 b, .slice ep r.e.length ec, .int .i64 r.i, .slice op r.o.length oc]).alloc (.cells #[.int .i64 tk, .string xv, .int .i64 xa, .int .i64 xb, .string tt, .string te] 53))
  rw [← hW4]
  clear hW4 c2 c3 c4 c5 c6 c7 hbl
  have yl := World.block_lt_of_cell? _ _ y0
  have sl := World.block_lt_of_cell? _ _ s0
  have tl := World.block_lt_of_cell? _ _ t0
  have hK2 : ∀ (a2 : Act) (q : World) (ob : Nat) (xp : Option Addr) (xc : Nat) (yp : Option Addr) (yc : Nat), a2 = frameG w ob (fun i => a2.tmps.getD i undef) → Below W4.heap.size W4 q → q.heap[ob]? = some (.cells #[.int .i64 b, .slice xp r.e.length xc, .int .i64 r.i, .slice yp r.o.length yc] 38 (0, 0)) → Rn W4.heap.size q (.slice xp r.e.length xc) (.slice yp r.o.length yc) r → (Value.slice xp r.e.length xc).ownBlock ≠ some ob → (Value.slice yp r.o.length yc).ownBlock ≠ some ob → W4.heap.size ≤ ob → K a2 q := by
    intro a2 q ob xp xc yp yc ha hq hob hRn ne1 ne2 hobl
    obtain ⟨u, hu⟩ : ∃ u : Nat → Value, (fun i => a2.tmps.getD i undef) = u := ⟨_, rfl⟩
    rw [hu] at ha
    clear hu
    subst ha
    refine hK _ _ ?_
    simp only [frameG]
    have y0 := nextC hq y0
    have s1 := nextC hq s1
    have t0 := nextC hq t0
    have t1 := nextC hq t1
    have t2 := nextC hq t2
    have t3 := nextC hq t3
    have t4 := nextC hq t4
    have t5 := nextC hq t5
    have yl := World.block_lt_of_cell? _ _ y0
    have sl := World.block_lt_of_cell? _ _ s1
    have tl := World.block_lt_of_cell? _ _ t0
    have hBq := nextB hq hB4
    obtain ⟨o0, o1, o2, o3, of, ol⟩ := four hob
    have of0 := of 0
    obtain ⟨r0, r1, r2, r3, rf, rl⟩ := four (blk_next hq rr)
    have rf0 := rf 0
    have rf1 := rf 1
    have rf2 := rf 2
    have rf3 := rf 3
    have m1 : (Value.slice xp r.e.length xc).ownBlock ≠ some (w.heap.size + 1 + 1) := ownNL hRn.e (by omega)
    have m2 : (Value.slice yp r.o.length yc).ownBlock ≠ some (w.heap.size + 1 + 1) := ownNL hRn.o (by omega)
    have hpe := hNN.2.1
    have n3 := hNN.2.2.1
    have nt := hNN.2.2.2.1
    have ne := hNN.2.2.2.2
    clear hNN hK hcp1 hcp2 hob rr hH
    have hl1 : w.heap.size ≤ w.heap.size + 1 + 1 := by omega
    have hl2 : w.heap.size ≤ ob := by omega
    have hne : ¬ ob = w.heap.size + 1 + 1 := by omega
    have hne2 : ¬ ob = w.heap.size + 1 + 1 + 1 := by omega
    have hne3 : ¬ ob = w.heap.size + 1 := by omega
    have hne4 : ¬ ob = w.heap.size := by omega
    rcases hpe.1 with rfl | rfl | rfl
    · obtain ⟨rfl, rfl, rfl⟩ := nt (by decide) (fun h => by cases h.1)
      clear hpe nt ne n3 hv
      go_wp2_with (go_at_call 55; refine' Calls.aft _ _ (hbk T q hBq) _; rotate_left 2; (exact Below.refl _ _; rfl); intro x2; have hle := After.le x2; (try simp at hle))
      have hR2 := hRn.below x2.below
      have hB2 := nextB x2.below hBq
      refine bodyPost_ret (v := .tuple #[.agg #[.int .i64 (idx (namesOf P) T), .slice xp r.e.length xc, .int .i64 r.i, .slice yp r.o.length yc], .bool true]) (by simp only [results, Tryz.results32]; go_simp) rfl ⟨_, _, rfl, Rn.base ?_ (by omega : w.heap.size ≤ W4.heap.size), ?_⟩
      · (repeat (first | (with_reducible exact hR2) | refine Rn.setMid ?_ ?_ ?_))
        all_goals first | exact m1 | exact m2 | exact ne1 | exact ne2
      · (repeat (first | (with_reducible exact hB2) | refine Below.setCell ?_ ?_ _))
        all_goals first | exact hl1 | exact hl2
    · by_cases hz : n = zN
      · subst hz
        obtain ⟨rfl, rfl, rfl⟩ := ne (by decide) ⟨rfl, rfl⟩
        clear hpe nt ne n3
        have hv : ∀ W, Below w.heap.size w W → Calls Tryz.prog 56 #[.agg #[.slice (some ⟨bb, off, none⟩) P.length cap], .slice ep r.e.length ec, .agg #[.string xv, .int .i64 xa, .int .i64 xb]] W (fun e w' => e = .returned (.agg #[.int .i64 0, .int .i64 0]) ∧ Below W.heap.size W w') := hv
        go_wp2_with (first | (go_at_call 55; first | (with_reducible refine' Calls.aft _ _ (hbk tt q hBq) _; rotate_left 2; (exact Below.refl _ _; rfl); intro x2; have hle := After.le x2; (try simp at hle); have hB5 := (nextB x2.below hBq).setCell (p := ⟨ob, 0, none⟩) hl2 (.int .i64 (idx (namesOf P) tt))) | (with_reducible refine' Calls.aft _ _ (hbk T x3.val (nextB x3.below hB5)) _; rotate_left 2; (exact Below.refl _ _; rfl); intro x4; have hle := After.le x4; (try simp at hle))) | (go_at_call 56; refine' Calls.aft _ _ (hv _ hB5) _; rotate_left 2; (exact Below.refl _ _; rfl); intro x3; have hle := After.le x3; (try simp at hle)))
        have hR2 := (((hRn.below x2.below).setMid (j := 0) (u := .int .i64 (idx (namesOf P) tt)) ne1 ne2).below x3.below).below x4.below
        have hB2 := nextB x4.below (nextB x3.below hB5)
        refine bodyPost_ret (v := .tuple #[.agg #[.int .i64 (idx (namesOf P) T), .slice xp r.e.length xc, .int .i64 r.i, .slice yp r.o.length yc], .bool true]) (by simp only [results, Tryz.results32]; go_simp) rfl ⟨_, _, rfl, Rn.base ?_ (by omega : w.heap.size ≤ W4.heap.size), ?_⟩
        · (repeat (first | (with_reducible exact hR2) | refine Rn.setMid ?_ ?_ ?_))
          all_goals first | exact m1 | exact m2 | exact ne1 | exact ne2
        · (repeat (first | (with_reducible exact hB2) | refine Below.setCell ?_ ?_ _))
          all_goals first | exact hl1 | exact hl2
      · obtain ⟨rfl, rfl, rfl⟩ := nt (by decide) (fun h => hz h.2)
        obtain ⟨na, nb⟩ := n
        have f1 : (na == 0 && nb == 0) = false := by
          cases he : (na == 0 && nb == 0) with
          | false => rfl
          | true => rw [Bool.and_eq_true, beq_iff_eq, beq_iff_eq] at he; exact absurd (by rw [he.1, he.2]; rfl) hz
        clear hpe nt ne n3 hz
        go_wp2_with (first | (go_at_call 55; with_reducible refine' Calls.aft _ _ (hbk T q hBq) _; rotate_left 2; (exact Below.refl _ _; rfl); intro x2; have hle := After.le x2; (try simp at hle); have hB5 := (nextB x2.below hBq).setCell (p := ⟨ob, 0, none⟩) hl2 (.int .i64 (idx (namesOf P) T))) | (go_at_call 56; refine' Calls.aft _ _ (hv _ hB5) _; rotate_left 2; (exact Below.refl _ _; rfl); intro x3; have hle := After.le x3; (try simp at hle)))
        have hR2 := ((hRn.below x2.below).setMid (j := 0) (u := .int .i64 (idx (namesOf P) T)) ne1 ne2).below x3.below
        have hB2 := nextB x3.below hB5
        refine bodyPost_ret (v := .tuple #[.agg #[.int .i64 (idx (namesOf P) T), .slice xp r.e.length xc, .int .i64 r.i, .slice yp r.o.length yc], .bool true]) (by simp only [results, Tryz.results32]; go_simp) rfl ⟨_, _, rfl, Rn.base ?_ (by omega : w.heap.size ≤ W4.heap.size), ?_⟩
        · (repeat (first | (with_reducible exact hR2) | refine Rn.setMid ?_ ?_ ?_))
          all_goals first | exact m1 | exact m2 | exact ne1 | exact ne2
        · (repeat (first | (with_reducible exact hB2) | refine Below.setCell ?_ ?_ _))
          all_goals first | exact hl1 | exact hl2
    · obtain ⟨rfl, rfl⟩ := n3 rfl
      clear hpe nt ne n3 hv hbk
      go_wp2_with fail
      refine bodyPost_ret (v := .tuple #[.agg #[.int .i64 b, .slice xp r.e.length xc, .int .i64 r.i, .slice yp r.o.length yc], .bool false]) (by simp only [results, Tryz.results32]; go_simp) rfl ⟨_, _, rfl, Rn.base ?_ (by omega : w.heap.size ≤ W4.heap.size), ?_⟩
      · (repeat (first | (with_reducible exact hRn) | refine Rn.setMid ?_ ?_ ?_))
        all_goals first | exact m1 | exact m2 | exact ne1 | exact ne2
      · (repeat (first | (with_reducible exact hBq) | refine Below.setCell ?_ ?_ _))
        all_goals first | exact hl1 | exact hl2
  have hKK := And.intro True.intro hK2
  have hE4 := hH.2.1.below hB4
  have hO4 := hH.2.2.below hB4
  clear hK hK2 hv hbk hNN hcp1 hcp2
  have hcp1 := fun (W : World) (hS : ∀ b o, b < W4.heap.size → W.cell? ⟨b, o, none⟩ = W4.cell? ⟨b, o, none⟩) => copied_any r.e (by omega) _ W (slCells hE4 hS) hzz.1
  have hcp2 := fun (W : World) (hS : ∀ b o, b < W4.heap.size → W.cell? ⟨b, o, none⟩ = W4.cell? ⟨b, o, none⟩) => copied_any r.o (by omega) _ W (slCells hO4 hS) hzz.2
  clear hE4 hO4 hH hzz
  go_region_held3 (fun w' => ∀ b o, b < W4.heap.size → w'.cell? ⟨b, o, none⟩ = W4.cell? ⟨b, o, none⟩)
    (((try dsimp only); intro b9 o9 h9; refine Below.cell (B := W4.heap.size) (w := W4) ?_ h9; clear h9; (repeat (first | exact Below.refl _ _ | apply Below.drew | refine Below.alloc ?_ ?_ _ | refine Below.setCell ?_ ?_ _ | refine Below.trans ?_ (Below.mono (After.below _) ?_))); (all_goals (first | (simp; done) | (simp; omega) | omega))))
    ((go_at_call 54; first | ((with_reducible refine' Calls.aftS _ _ (hcp1 _ (by assumption)) _; rotate_left 2; (exact Below.refl _ _; rfl); intro v5 x5 ho5; have hle := After.le x5; (try simp at hle)); obtain ⟨xp, xc, rfl⟩ := own_len ho5) | ((with_reducible refine' Calls.aftS _ _ (hcp2 _ (by assumption)) _; rotate_left 2; (exact Below.refl _ _; rfl); intro v6 x6 ho6; have hle := After.le x6; (try simp at hle)); obtain ⟨yp, yc, rfl⟩ := own_len ho6)))
  all_goals (
    have k5 := x5.below.size
    have k6 := x6.below.size
    have k7 : W4.drew.heap.size = W4.heap.size := rfl
    (try simp only [drew_size, World.size_alloc, k7] at k5)
    (try simp only [drew_size, World.size_alloc, k7] at k6)
    refine hKK.2 _ _ _ xp xc yp yc rfl ?_ ?_ ?_ ?_ ?_ ?_
    · (repeat (first | exact Below.refl _ _ | apply Below.drew | refine Below.alloc ?_ ?_ _ | refine Below.setCell ?_ ?_ _ | refine Below.trans ?_ (Below.mono (After.below _) ?_))); (all_goals (first | (simp; done) | (simp; omega) | omega))
    · first | (with_reducible exact heap_alloc_new _ _) | (with_reducible exact set4 _ _ _ _ (blk_next x6.below (heap_alloc_new _ _))) | (with_reducible exact set4 _ _ _ _ (blk_next x6.below (blk_next x5.below (drew_new _ _)))) | (with_reducible exact set4 _ _ _ _ (blk_next x6.below (blk_next x5.below (drew_new2 _ _))))
    · have h6 : Rn W4.heap.size x6.val (.slice xp r.e.length xc) (.slice yp r.o.length yc) r := by
        first | (with_reducible exact (Rn.first ho5 ho6 x6.below x5.below.size).base (by simp [k7])) | (with_reducible exact (Rn.first (own_below ho5 ((Below.refl _ _).alloc (Nat.le_refl _) _)) ho6 x6.below (by simp [k7]; omega)).base (by simp [k7]))
      (repeat (first | (with_reducible exact h6) | refine Rn.setMid ?_ ?_ ?_ | refine Rn.below ?_ ((Below.refl _ _).alloc (Nat.le_refl _) _)))
      all_goals first | (intro he; have h9 := ho5.lt _ he; (try simp only [drew_size, World.size_alloc, k7] at h9); omega) | (intro he; have h9 := ho6.lt _ he; (try simp only [drew_size, World.size_alloc, k7] at h9); omega)
    · intro he
      have h9 := ho5.lt _ he
      (try simp only [drew_size, World.size_alloc, k7] at h9)
      omega
    · intro he
      have h9 := ho6.lt _ he
      (try simp only [drew_size, World.size_alloc, k7] at h9)
      omega
    · first | omega | (simp [k7]; omega) | exact Nat.le_refl _)

end Go.Proofs.YtaaklejkngpddaaGreat.Pr

namespace Go.Proofs.YtaaklejkngpddaaGreat.Pr
set_option linter.unusedVariables false
set_option linter.unusedSimpArgs false
open Go Go.RowKit

structure RBInv (w : World) (pv : Value) (ob : Nat) (b : Int) (r : Rs) (wr : World) (ev ov : Value) : Prop where
  pb : wr.heap[w.heap.size]? = some (.cells #[pv] 24 (0, 0))
  rb : wr.heap[w.heap.size + 1 + 1]? = some (.cells #[.int .i64 0, .slice none 0 0, .int .i64 0, .slice none 0 0] 38 (0, 0))
  bb : wr.heap[ob]? = some (.cells #[.int .i64 b, ev, .int .i64 r.i, ov] 38 (0, 0))
  rn : Rn (w.heap.size + 1 + 1 + 1) wr ev ov r
  en : ev.ownBlock ≠ some ob
  on : ov.ownBlock ≠ some ob
  be : Below w.heap.size w wr
  hb : w.heap.size + 1 + 1 + 1 ≤ ob

theorem RBInv.below {w : World} {pv : Value} {ob : Nat} {b : Int} {r : Rs} {wr q : World} {ev ov : Value} (h : RBInv w pv ob b r wr ev ov) (hq : Below wr.heap.size wr q) : RBInv w pv ob b r q ev ov :=
  ⟨blk_next hq h.pb, blk_next hq h.rb, blk_next hq h.bb, h.rn.below hq, h.en, h.on, nextB hq h.be, h.hb⟩

theorem RBInv.out {w : World} {pv : Value} {ob : Nat} {b : Int} {r : Rs} {wr w6 : World} {ev ov v' : Value} {n : Nu} (h : RBInv w pv ob b r wr ev ov) (hg : wr.grownBy w6 ov.ownBlock) (ho : w6.ownsRow (w.heap.size + 1 + 1 + 1) 44 2 v' (r.o.length + 1) (r.o.flatMap Nu.cs ++ [.int .i64 n.a, .int .i64 n.b]))
    (hv : v'.ownBlock = ov.ownBlock ∨ v'.ownBlock = some wr.heap.size) : RBInv w pv ob b ⟨r.e, r.i, r.o ++ [n]⟩ (w6.setCell ⟨ob, 3, none⟩ v') ev v' := by
  have hRn := h.rn.out hg ho hv
  have hb := h.hb
  have hne : ∀ k, k < w.heap.size + 1 + 1 + 1 → some k ≠ ov.ownBlock := fun k hk he => by
    have := (h.rn.o.lt k he.symm).1
    omega
  have g1 := (hg.block _ (lt_of_some h.pb) (hne _ (by omega))).trans h.pb
  have g2 := (hg.block _ (lt_of_some h.rb) (hne _ (by omega))).trans h.rb
  have g3 := (hg.block _ (lt_of_some h.bb) (fun he => h.on he.symm)).trans h.bb
  have on' : v'.ownBlock ≠ some ob := fun he => by
    rcases hv with hv | hv
    · exact h.on (hv.symm.trans he)
    · rw [he] at hv
      have h3 := lt_of_some h.bb
      have h4 : ob = wr.heap.size := by injection hv
      omega
  exact ⟨(heap_setCell_other _ _ _ _ (by show w.heap.size ≠ ob; omega)).trans g1, (heap_setCell_other _ _ _ _ (by show w.heap.size + 1 + 1 ≠ ob; omega)).trans g2, heap_setCell_same _ ob 3 _ _ v' g3, hRn.setMid h.en on', h.en, on',
    (Below.grown (w := _) h.be hg h.be.size (fun q hq => by have := (h.rn.o.lt q hq).1; omega)).setCell (p := ⟨ob, 3, none⟩) (by show w.heap.size ≤ ob; omega) _, hb⟩

theorem RBInv.inc {w : World} {pv : Value} {ob : Nat} {b : Int} {r : Rs} {wr : World} {ev ov : Value} (h : RBInv w pv ob b r wr ev ov) (i : Int) : RBInv w pv ob b ⟨r.e, i, r.o⟩ (wr.setCell ⟨ob, 2, none⟩ (.int .i64 i)) ev ov := by
  have hb := h.hb
  have hR : Rn (w.heap.size + 1 + 1 + 1) wr ev ov ⟨r.e, i, r.o⟩ := ⟨h.rn.e, h.rn.o, h.rn.ne, h.rn.en⟩
  exact ⟨(heap_setCell_other _ _ _ _ (by show w.heap.size ≠ ob; omega)).trans h.pb, (heap_setCell_other _ _ _ _ (by show w.heap.size + 1 + 1 ≠ ob; omega)).trans h.rb, heap_setCell_same _ ob 2 _ _ _ h.bb, hR.setMid h.en h.on, h.en, h.on,
    h.be.setCell (p := ⟨ob, 2, none⟩) (by show w.heap.size ≤ ob; omega) _, hb⟩

theorem RBInv.store {w : World} {pv : Value} {ob g cap k : Nat} {b : Int} {r : Rs} {wr : World} {ov : Value} (n : Nu) (h : RBInv w pv ob b r wr (.slice (some ⟨g, 0, none⟩) r.e.length cap) ov) :
    RBInv w pv ob b ⟨r.e.set k n, r.i, r.o⟩ ((wr.setCell ⟨g, k * 2, none⟩ (.int .i64 n.a)).setCell ⟨g, k * 2 + 1, none⟩ (.int .i64 n.b)) (.slice (some ⟨g, 0, none⟩) r.e.length cap) ov := by
  have hb := h.hb
  have hg := h.rn.e.lt g rfl
  have hgo : g ≠ ob := fun he => h.en (by rw [he]; rfl)
  have hov : ov.ownBlock ≠ some g := fun he => by
    rcases h.rn.ne with hn | hn
    · cases hn
    · exact hn he.symm
  have e1 := own_set2 (p := none) h.rn.e k n.a n.b
  have hx : ∀ j, j ≠ g → ((wr.setCell ⟨g, k * 2, none⟩ (.int .i64 n.a)).setCell ⟨g, k * 2 + 1, none⟩ (.int .i64 n.b)).heap[j]? = wr.heap[j]? := fun j hj => by rw [heap_setCell_other _ _ _ _ hj, heap_setCell_other _ _ _ _ hj]
  refine ⟨(hx _ (by omega)).trans h.pb, (hx _ (by omega)).trans h.rb, (hx _ (Ne.symm hgo)).trans h.bb, ⟨?_, ownsRow_setCell_other (ownsRow_setCell_other h.rn.o hov _) hov _, h.rn.ne, h.rn.en⟩, h.en, h.on, ?_, hb⟩
  · show World.ownsRow _ _ _ _ _ (r.e.set k n).length _
    rw [List.length_set]
    exact e1
  · exact (h.be.setCell (p := ⟨g, k * 2, none⟩) (by show w.heap.size ≤ g; omega) _).setCell (p := ⟨g, k * 2 + 1, none⟩) (by show w.heap.size ≤ g; omega) _

def ofNu (n : Nu) : Nu := ⟨wr n.a, wr n.b⟩
theorem inN_in {I : List Nu} {k : Nat} (h : k < I.length) : inN I (k : Int) = ofNu (I[k]'h) := by unfold inN ofNu; rw [atN_in h]
theorem cell_ne {W : World} {b g o j : Nat} {u : Value} (h : b ≠ g) : (W.setCell ⟨g, j, none⟩ u).cell? ⟨b, o, none⟩ = W.cell? ⟨b, o, none⟩ := by unfold World.cell?; rw [heap_setCell_other _ _ _ _ h]

def frameB (w : World) (iv : Value) (ob : Nat) (u : Nat → Value) : Act := { tmps := #[u 0, u 1, iv, .pointer (some ⟨w.heap.size, 0, none⟩), .pointer (some ⟨w.heap.size + 1, 0, none⟩), u 5, .pointer (some ⟨w.heap.size + 1 + 1, 0, none⟩), .pointer (some ⟨ob, 0, none⟩), u 8, u 9, u 10, u 11, u 12, u 13, u 14, u 15, u 16, u 17, u 18, u 19, u 20, u 21, u 22, u 23, u 24, u 25, u 26, u 27, u 28, u 29, u 30, u 31, u 32, u 33, u 34, u 35, u 36, u 37, u 38, u 39, u 40, u 41, u 42, u 43, u 44, u 45, u 46, u 47, u 48, u 49, u 50, u 51, u 52, u 53, u 54, u 55, u 56, u 57, u 58, u 59, u 60, u 61, u 62, u 63, u 64, u 65, u 66, u 67, u 68, u 69, u 70, u 71, u 72, u 73, u 74, u 75, u 76, u 77, u 78, u 79, u 80, u 81, u 82, u 83, u 84, u 85, u 86, u 87, u 88, u 89, u 90, u 91, u 92, u 93, u 94, u 95, u 96, u 97, u 98, u 99, u 100, u 101, u 102, u 103, u 104, u 105, u 106, u 107, u 108, u 109, u 110, u 111, u 112, u 113, u 114, u 115, u 116, u 117, u 118, u 119, u 120], defers := [] }

def frameC (w : World) (iv pv lv : Value) (ob sb ki nb len k b bb off : Nat) (u0 u : Nat → Value) : Act := { tmps := #[u0 0, u0 1, iv, .pointer (some ⟨w.heap.size, 0, none⟩), .pointer (some ⟨w.heap.size + 1, 0, none⟩), u0 5, .pointer (some ⟨w.heap.size + 1 + 1, 0, none⟩), .pointer (some ⟨ob, 0, none⟩), u0 8, .pointer (some ⟨sb, 0, none⟩), .int .i64 ki, .pointer (some ⟨nb, 0, none⟩), u 12, u0 13, u0 14, u0 15, u0 16, u0 17, u0 18, u0 19, u0 20, u0 21, u0 22, u0 23, .pointer (some ⟨w.heap.size, 0, none⟩), pv, .pointer (some ⟨w.heap.size + 1, 0, none⟩), .int .i64 b, .pointer (some ⟨bb, off + b * 8, none⟩), .pointer (some ⟨bb, off + b * 8 + 1, none⟩), lv, .int .i64 len, .int .i64 k, u 33, u 34, u 35, u 36, u 37, u 38, u 39, u 40, u 41, u 42, u 43, u 44, u 45, u 46, u 47, u 48, u 49, u 50, u 51, u 52, u 53, u 54, u 55, u 56, u 57, u 58, u 59, u 60, u 61, u 62, u 63, u 64, u 65, u 66, u 67, u 68, u 69, u 70, u 71, u 72, u 73, u 74, u 75, u 76, u 77, u 78, u 79, u 80, u 81, u 82, u 83, u 84, u 85, u 86, u 87, u 88, u 89, u 90, u 91, u 92, u 93, u 94, u 95, u 96, u 97, u 98, u 99, u 100, u 101, u 102, u 103, u 104, u 105, u 106, u 107, u 108, u 109, u 110, u 111, u 112, u 113, u 114, u 115, u 116, u 117, u 118, u 119, u0 120], defers := [] }

set_option maxRecDepth 100000 in
set_option maxHeartbeats 8000000 in
theorem rrun_any (P : List Bl) (I : List Nu) (b : Nat) (hb : b < P.length) (r : Rs) (hc0 : checkOf P = 0) (he : r.e.length = (vars P).length) (hol : r.o.length ≤ 90000) (hin : 0 ≤ r.i) (hil : I.length ≤ 1000000) (pv ev ov iv : Value) (w : World) (h : Pg w pv P) (h12 : P.length ≤ 12) (hl12 : ∀ b ∈ P, b.l.length ≤ 12) (hI : Sl w iv Nu.cs I) (hE : Sl w ev Nu.cs r.e) (hO : Sl w ov Nu.cs r.o) (hz1 : NilOk ev) (hz2 : NilOk ov) :
    Calls Tryz.prog 33 #[.agg #[pv], .agg #[.int .i64 b, ev, .int .i64 r.i, ov], iv] w fun e w' => ∃ ev' ov', e = .returned (.agg #[.int .i64 b, ev', .int .i64 (runB P I r (P[b]'hb).l).i, ov']) ∧ Rn w.heap.size w' ev' ov' (runB P I r (P[b]'hb).l) ∧ Below w.heap.size w w' := by
  have hel : r.e.length ≤ 1000 := by have := (proper_vars hc0).1; omega
  obtain ⟨bb, off, p, cap, rfl, hp, hc⟩ := Pg.open h
  obtain rfl := hp (by omega)
  have hst := fun s hs => proper_stmt hc0 (List.getElem_mem hb) (s := s) hs
  have hcw : ∀ r u, ((P[b]'hb).cs)[r]? = some u → w.cell? ⟨bb, off + (b * 8 + r), none⟩ = some u := (hc b hb).1
  have hsl := (hc b hb).2
  have hlen := hl12 _ (List.getElem_mem hb)
  have hlt2 : (b : Int) < P.length := by omega
  have hcp1 := fun (W : World) (hB : Below w.heap.size w W) => copied_any r.e (by omega) ev W (hE.below hB) hz1
  have hcp2 := fun (W : World) (hB : Below w.heap.size w W) => copied_any r.o (by omega) ov W (hO.below hB) hz2
  obtain ⟨ep, ec, rfl⟩ : ∃ p cap, ev = .slice p r.e.length cap := by obtain ⟨b, off, p, cap, hv, _⟩ := hE; exact ⟨p, cap, hv⟩
  obtain ⟨op, oc, rfl⟩ : ∃ p cap, ov = .slice p r.o.length cap := by obtain ⟨b, off, p, cap, hv, _⟩ := hO; exact ⟨p, cap, hv⟩
  obtain ⟨ip, ic, rfl⟩ : ∃ p cap, iv = .slice p I.length cap := by obtain ⟨b, off, p, cap, hv, _⟩ := hI; exact ⟨p, cap, hv⟩
  generalize (P[b]'hb) = B at hcw hsl hlen hst ⊢
  obtain ⟨lb, loff, lp, lcap, hlv, hlp, hlc⟩ := hsl.open St.cs_len
  have c1 : w.cell? ⟨bb, off + b * 8 + 1, none⟩ = some B.lv := by rw [Nat.add_assoc]; exact hcw 1 _ rfl
  rw [hlv] at c1
  have hbl := World.block_lt_of_cell? _ _ c1
  have hH := And.intro True.intro (And.intro h (And.intro hI (And.intro hE (And.intro hO (And.intro hz1 hz2)))))
  have heH : Hid (r.e.length = (vars P).length) := he
  clear hc hcw hE hO h hI hsl he hz1 hz2
  go_enter Tryz.func33, Tryz.ntmps33
  go_wp2_with fail
  rename_i K hK
  obtain ⟨W3, hW3⟩ : ∃ W3, W3 = boxR2 w (.slice (some ⟨bb, off, none⟩) P.length cap) #[.int .i64 b, .slice ep r.e.length ec, .int .i64 r.i, .slice op r.o.length oc] := ⟨_, rfl⟩
  have hz3 : w.heap.size + 1 + 1 + 1 ≤ W3.heap.size := by rw [hW3]; simp [boxR2]
  have hB3 : Below w.heap.size w W3 := by rw [hW3]; exact boxR2_below _ _ _
  have yy : W3.heap[w.heap.size]? = some (.cells #[.slice (some ⟨bb, off, none⟩) P.length cap] 24 (0, 0)) := by rw [hW3]; exact boxR2_p _ _ _
  have ss : W3.heap[w.heap.size + 1]? = some (.cells #[.int .i64 b, .slice ep r.e.length ec, .int .i64 r.i, .slice op r.o.length oc] 38 (0, 0)) := by rw [hW3]; exact boxR2_s _ _ _
  have rr : W3.heap[w.heap.size + 1 + 1]? = some (.cells #[.int .i64 0, .slice none 0 0, .int .i64 0, .slice none 0 0] 38 (0, 0)) := by rw [hW3]; exact boxR2_r _ _ _
  obtain ⟨s0, s1, s2, s3, _, _⟩ := four ss
  show Code.wp _ _ _ _ (boxR2 w (.slice (some ⟨bb, off, none⟩) P.length cap) #[.int .i64 b, .slice ep r.e.length ec, .int .i64 r.i, .slice op r.o.length oc])
  rw [← hW3]
  clear hW3
  have sl := World.block_lt_of_cell? _ _ s0
  have hK2 : ∀ (a2 : Act) (q : World) (ob : Nat) (xp : Option Addr) (xc : Nat) (yp : Option Addr) (yc : Nat), a2 = frameB w (.slice ip I.length ic) ob (fun i => a2.tmps.getD i undef) → Below W3.heap.size W3 q → RBInv w (.slice (some ⟨bb, off, none⟩) P.length cap) ob b r q (.slice xp r.e.length xc) (.slice yp r.o.length yc) → K a2 q := by
    intro a2 q ob xp xc yp yc ha hq hV
    obtain ⟨u, hu⟩ : ∃ u : Nat → Value, (fun i => a2.tmps.getD i undef) = u := ⟨_, rfl⟩
    rw [hu] at ha
    clear hu
    subst ha
    refine hK _ _ ?_
    simp only [frameB]
    have s0 := nextC hq s0
    have sl := World.block_lt_of_cell? _ _ s0
    have p0 := cell_of_one hV.pb
    have pl := World.block_lt_of_cell? _ _ p0
    have c1 := nextC hV.be c1
    have hbl := World.block_lt_of_cell? _ _ c1
    clear hcp1 hcp2 hK
    go_wp2_with fail
    clear s0 sl p0 pl c1 hbl hq yy ss rr s1 s2 s3 hB3 hz3
    go_loopw [32] (fun i wr => ∃ (k : Nat) (ev' ov' : Value), k ≤ B.l.length ∧ i = .int .i64 k ∧ RBInv w (.slice (some ⟨bb, off, none⟩) P.length cap) ob b (runB P I r (B.l.take k)) wr ev' ov') (fun i _ => B.l.length - (intOf i).toNat)
    case atStart => exact ⟨0, _, _, Nat.zero_le _, rfl, hV⟩
    case round =>
      obtain ⟨k, ev1, ov1, hk, rfl, hVk⟩ := hrel
      clear hV
      obtain ⟨up, uc, rfl⟩ := own_len hVk.rn.e
      obtain ⟨vp, vc, rfl⟩ := own_len hVk.rn.o
      have p0 := cell_of_one hVk.pb
      have pl := World.block_lt_of_cell? _ _ p0
      obtain ⟨o0, o1, o2, o3, of, ol⟩ := four hVk.bb
      have hw := hVk.be.size
      have hobw := hVk.hb
      by_cases hlt : k < B.l.length
      · obtain rfl := hlp (by omega)
        have hlt3 : (k : Int) < B.l.length := by omega
        have hH2 : Hid (runB P I r (B.l.take (k + 1)) = doS P I (runB P I r (B.l.take k)) (B.l[k]'hlt)) := runB_take P I r B.l k hlt
        have hs := hst _ (List.getElem_mem hlt)
        have hcj : ∀ r u, ((B.l[k]'hlt).cs)[r]? = some u → wr.cell? ⟨lb, loff + k * 9 + r, none⟩ = some u := fun r u hu => by
          rw [Nat.add_assoc]
          exact nextC hVk.be (hlc k hlt r u hu)
        have rl := runB_len P I (B.l.take k) r
        have rk : (B.l.take k).length ≤ 12 := by rw [List.length_take]; omega
        clear hlc hst
        generalize (B.l[k]'hlt) = s at hcj hs hH2
        generalize runB P I r (B.l.take k) = r1 at hVk rl hH2 p0 o0 o1 o2 o3
        have hVa := hVk.below ((Below.refl wr.heap.size wr).alloc (Nat.le_refl _) (.cells s.cs.toArray 50))
        have hrl : Hid (r1.e.length = (vars P).length) := rl.1.trans heH
        have hel1 : r1.e.length ≤ 1000 := by rw [rl.1]; exact hel
        have hol1 : r1.o.length ≤ 95000 := by have := rl.2.1; omega
        have hin1 := rl.2.2 hin
        clear rl rk
        obtain ⟨sk, sv, sop, ⟨v1, a1, b1⟩, ⟨v2, a2, b2⟩⟩ := s
        have e0 : wr.cell? ⟨lb, loff + k * 9, none⟩ = some (.int .i64 sk) := hcj 0 _ rfl
        have hbq := World.block_lt_of_cell? _ _ e0
        have e1 : wr.cell? ⟨lb, loff + k * 9 + 1, none⟩ = some (.string sv) := hcj 1 _ rfl
        have e2 : wr.cell? ⟨lb, loff + k * 9 + 2, none⟩ = some (.int .i64 sop) := hcj 2 _ rfl
        have e3 : wr.cell? ⟨lb, loff + k * 9 + 3, none⟩ = some (.string v1) := hcj 3 _ rfl
        have e4 : wr.cell? ⟨lb, loff + k * 9 + 4, none⟩ = some (.int .i64 a1) := hcj 4 _ rfl
        have e5 : wr.cell? ⟨lb, loff + k * 9 + 5, none⟩ = some (.int .i64 b1) := hcj 5 _ rfl
        have e6 : wr.cell? ⟨lb, loff + k * 9 + 6, none⟩ = some (.string v2) := hcj 6 _ rfl
        have e7 : wr.cell? ⟨lb, loff + k * 9 + 7, none⟩ = some (.int .i64 a2) := hcj 7 _ rfl
        have e8 : wr.cell? ⟨lb, loff + k * 9 + 8, none⟩ = some (.int .i64 b2) := hcj 8 _ rfl
        clear hcj hlp
        rcases hs.1 with rfl | rfl | rfl
        · obtain ⟨hx0, hx1⟩ := hs.2 (by show (1 : Int) ≠ 3; decide)
          have hx0 : 0 ≤ idx (vars P) sv := hx0
          have hx1 : idx (vars P) sv < (vars P).length := hx1
          obtain ⟨ki, hki⟩ : ∃ ki : Nat, idx (vars P) sv = ki := ⟨(idx (vars P) sv).toNat, (Int.toNat_of_nonneg hx0).symm⟩
          have hkl : ki < r1.e.length := by have h9 : r1.e.length = (vars P).length := hrl; omega
          have hkl2 : (ki : Int) < r1.e.length := by omega
          have hH3 : Hid (runB P I r (B.l.take (k + 1)) = ⟨r1.e.set ki (evalE P r1.e ⟨sop, ⟨v1, a1, b1⟩, ⟨v2, a2, b2⟩⟩), r1.i, r1.o⟩) := by
            have h9 : runB P I r (B.l.take (k + 1)) = ⟨r1.e.set (idx (vars P) sv).toNat (evalE P r1.e ⟨sop, ⟨v1, a1, b1⟩, ⟨v2, a2, b2⟩⟩), r1.i, r1.o⟩ := Eq.trans hH2 (doS_1 rfl)
            rw [hki, Int.toNat_natCast] at h9
            exact h9
          have hvr := fun (W : World) (hB : Below w.heap.size w W) => rvar_any P sv _ W (hH.2.1.below hB) h12 hl12
          rw [hki] at hvr
          clear hki hx0 hx1 hs hH2
          obtain ⟨g, gc, hgv, hg1, hg2⟩ := own_some hVk.rn.e (by omega)
          injection hgv with hgv1 _ hgv2
          subst hgv1 hgv2
          have hVa : RBInv w (.slice (some ⟨bb, off, none⟩) P.length cap) ob b r1 (wr.alloc (.cells #[.int .i64 1, .string sv, .int .i64 sop, .string v1, .int .i64 a1, .int .i64 b1, .string v2, .int .i64 a2, .int .i64 b2] 50)) (.slice (some ⟨g, 0, none⟩) r1.e.length uc) (.slice vp r1.o.length vc) := hVa
          go_wp2_with (go_at_call 36; refine' Calls.aft _ _ (hvr _ hVa.be) _; rotate_left 2; (exact Below.refl _ _; rfl); intro x5; have hle := After.le x5; (try simp at hle))
          rename_i K hK
          have hV5 := hVa.below x5.below
          have hst9 := blk_next x5.below (heap_alloc_new wr (.cells #[.int .i64 1, .string sv, .int .i64 sop, .string v1, .int .i64 a1, .int .i64 b1, .string v2, .int .i64 a2, .int .i64 b2] 50))
          clear hVa hVk hvr e0 e1 e2 e3 e4 e5 e6 e7 e8 hbq p0 pl o0 o1 o2 o3 of ol hle
          generalize x5.val = W5 at hV5 hst9 ⊢
          clear x5
          obtain ⟨t0, t1, t2, t3, t4, t5, t6, t7, t8⟩ := nine hst9
          have tl := lt_of_some hst9
          have y0 := cell_of_one hV5.pb
          have yl := lt_of_some hV5.pb
          obtain ⟨z0, z1, z2, z3, _, zl⟩ := four hV5.bb
          have hP5 := hH.2.1.below hV5.be
          have hE5 := Sl.of_own hV5.rn.e
          have hvl := fun x a b (W : World) (hS : ∀ b o, b < W5.heap.size → W.cell? ⟨b, o, none⟩ = W5.cell? ⟨b, o, none⟩) => rvalue_any P r1.e x a b _ _ W (pgCells hP5 hS) h12 hl12 (slCells hE5 hS)
          have hK3 : ∀ (a3 : Act) (q : World) (nb : Nat) (n : Nu), a3 = frameC w (.slice ip I.length ic) (.slice (some ⟨bb, off, none⟩) P.length cap) (.slice (some ⟨lb, loff, none⟩) B.l.length lcap) ob wr.heap.size ki nb B.l.length k b bb off u (fun i => a3.tmps.getD i undef) → RBInv w (.slice (some ⟨bb, off, none⟩) P.length cap) ob b r1 q (.slice (some ⟨g, 0, none⟩) r1.e.length uc) (.slice vp r1.o.length vc) → q.cell? ⟨nb, 0, none⟩ = some (.int .i64 n.a) → q.cell? ⟨nb, 1, none⟩ = some (.int .i64 n.b) → runB P I r (B.l.take (k + 1)) = ⟨r1.e.set ki n, r1.i, r1.o⟩ → K a3 q := by
            intro a3 q nb n ha hV c0 c1 hrn
            have hrn : Hid (runB P I r (B.l.take (k + 1)) = ⟨r1.e.set ki n, r1.i, r1.o⟩) := hrn
            obtain ⟨u3, hu3⟩ : ∃ u3 : Nat → Value, (fun i => a3.tmps.getD i undef) = u3 := ⟨_, rfl⟩
            rw [hu3] at ha
            clear hu3
            subst ha
            refine hK _ _ ?_
            simp only [frameC]
            have hVn := hV.store (k := ki) n
            have cl := World.block_lt_of_cell? _ _ c0
            obtain ⟨w0, w1, w2, w3, _, wl⟩ := four hV.bb
            have ho := hV.rn.e
            have q0 := ho.frozenAt (ki * 2)
            have q1 := ho.frozenAt (ki * 2 + 1)
            have d0 := (ho.cellAt (ki * 2) (by omega)).trans (by rw [show ki * 2 = ki * 2 + 0 from rfl, flat_get Nu.cs_len _ _ _ (by omega), List.getElem?_eq_getElem hkl]; rfl : _ = some (Value.int .i64 (r1.e[ki]'hkl).a))
            have d1 := (ho.cellAt (ki * 2 + 1) (by omega)).trans (by rw [flat_get Nu.cs_len _ _ _ (by omega), List.getElem?_eq_getElem hkl]; rfl : _ = some (Value.int .i64 (r1.e[ki]'hkl).b))
            have hgl := (ho.lt g rfl).2
            clear hV hV5 hst9 hP5 hE5 hvl t0 t1 t2 t3 t4 t5 t6 t7 t8 tl y0 yl z0 z1 z2 z3 zl hK hH3 ho
            go_wp2_with fail
            go_roundw
            case rel => exact ⟨k + 1, _, _, by omega, by simp, by rw [hrn]; exact hVn⟩
            case measure => simp [intOf]; omega
          have hKK3 := And.intro True.intro hK3
          have hH4 := And.intro True.intro hH3
          clear hK hK3 hH3
          first | (go_region_held3 (fun w' => ∀ b o, b < W5.heap.size → w'.cell? ⟨b, o, none⟩ = W5.cell? ⟨b, o, none⟩)
            (((try dsimp only); intro b9 o9 h9; refine Below.cell (B := W5.heap.size) (w := W5) ?_ h9; clear h9; (repeat (first | exact Below.refl _ _ | apply Below.drew | refine Below.alloc ?_ ?_ _ | refine Below.setCell ?_ ?_ _ | refine Below.trans ?_ (Below.mono (After.below _) ?_))); (all_goals (first | (simp; done) | (simp; omega) | omega))))
            (first | (go_at_call 56; refine' Calls.aft _ _ (hvl _ _ _ _ (by assumption)) _; rotate_left 2; (exact Below.refl _ _; rfl); intro zz; have hle := After.le zz; (try simp at hle)) | (go_at_call 57; refine' Calls.aft _ _ (rop_any _ _ _ _ _ _) _; rotate_left 2; (exact Below.refl _ _; rfl); intro zo; have hle := After.le zo; (try simp at hle)))) | fail
          all_goals (
            refine hKK3.2 _ _ _ ⟨opA sop (valA P r1.e ⟨v1, a1, b1⟩).a (valA P r1.e ⟨v1, a1, b1⟩).b (valA P r1.e ⟨v2, a2, b2⟩).a (valA P r1.e ⟨v2, a2, b2⟩).b, opB sop (valA P r1.e ⟨v1, a1, b1⟩).a (valA P r1.e ⟨v1, a1, b1⟩).b (valA P r1.e ⟨v2, a2, b2⟩).a (valA P r1.e ⟨v2, a2, b2⟩).b⟩ rfl (hV5.below ?_) ?_ ?_ hH4.2
            · (repeat (first | exact Below.refl _ _ | apply Below.drew | refine Below.alloc ?_ ?_ _ | refine Below.setCell ?_ ?_ _ | refine Below.trans ?_ (Below.mono (After.below _) ?_))); (all_goals (first | (simp; done) | (simp; omega) | omega))
            · go_simp
            · go_simp)
        · obtain ⟨hx0, hx1⟩ := hs.2 (by show (2 : Int) ≠ 3; decide)
          have hx0 : 0 ≤ idx (vars P) sv := hx0
          have hx1 : idx (vars P) sv < (vars P).length := hx1
          obtain ⟨ki, hki⟩ : ∃ ki : Nat, idx (vars P) sv = ki := ⟨(idx (vars P) sv).toNat, (Int.toNat_of_nonneg hx0).symm⟩
          have hkl : ki < r1.e.length := by have h9 : r1.e.length = (vars P).length := hrl; omega
          have hkl2 : (ki : Int) < r1.e.length := by omega
          have hH3 : Hid (runB P I r (B.l.take (k + 1)) = ⟨r1.e.set ki (inN I r1.i), min r1.i 2147483646 + 1, r1.o⟩) := by
            have h9 : runB P I r (B.l.take (k + 1)) = ⟨r1.e.set (idx (vars P) sv).toNat (inN I r1.i), min r1.i 2147483646 + 1, r1.o⟩ := Eq.trans hH2 (doS_2 rfl)
            rw [hki, Int.toNat_natCast] at h9
            exact h9
          have hvr := fun (W : World) (hB : Below w.heap.size w W) => rvar_any P sv _ W (hH.2.1.below hB) h12 hl12
          rw [hki] at hvr
          clear hki hx0 hx1 hs hH2
          obtain ⟨g, gc, hgv, hg1, hg2⟩ := own_some hVk.rn.e (by omega)
          injection hgv with hgv1 _ hgv2
          subst hgv1 hgv2
          have hgo : g ≠ ob := fun he => hVk.en (by rw [he]; rfl)
          have hVa : RBInv w (.slice (some ⟨bb, off, none⟩) P.length cap) ob b r1 (wr.alloc (.cells #[.int .i64 2, .string sv, .int .i64 sop, .string v1, .int .i64 a1, .int .i64 b1, .string v2, .int .i64 a2, .int .i64 b2] 50)) (.slice (some ⟨g, 0, none⟩) r1.e.length uc) (.slice vp r1.o.length vc) := hVa
          have hVx := fun (x : After (wr.alloc (.cells #[.int .i64 2, .string sv, .int .i64 sop, .string v1, .int .i64 a1, .int .i64 b1, .string v2, .int .i64 a2, .int .i64 b2] 50))) => hVa.below x.below
          have hq0 := fun x => (hVx x).rn.e.frozenAt (ki * 2)
          have hq1 := fun x => (hVx x).rn.e.frozenAt (ki * 2 + 1)
          have hd0 := fun x => ((hVx x).rn.e.cellAt (ki * 2) (by omega)).trans (by rw [show ki * 2 = ki * 2 + 0 from rfl, flat_get Nu.cs_len _ _ _ (by omega), List.getElem?_eq_getElem hkl]; rfl : _ = some (Value.int .i64 (r1.e[ki]'hkl).a))
          have hd1 := fun x => ((hVx x).rn.e.cellAt (ki * 2 + 1) (by omega)).trans (by rw [flat_get Nu.cs_len _ _ _ (by omega), List.getElem?_eq_getElem hkl]; rfl : _ = some (Value.int .i64 (r1.e[ki]'hkl).b))
          have hgx := fun x => ((hVx x).rn.e.lt g rfl).2
          have hol2 := fun x => lt_of_some (hVx x).bb
          have hcase : (2147483647 ≤ r1.i ∧ min r1.i 2147483646 + 1 = 2147483647) ∨ (¬ 2147483647 ≤ r1.i ∧ min r1.i 2147483646 + 1 = r1.i + 1) := by omega
          by_cases hin2 : r1.i < I.length
          · obtain ⟨ib, ioff, ip', ic', hiv, hip, hic⟩ := hH.2.2.1.open Nu.cs_len
            injection hiv with hiv1 _ hiv2
            subst hiv1 hiv2
            obtain rfl := hip (by omega)
            obtain ⟨ii, hii⟩ : ∃ ii : Nat, r1.i = ii := ⟨r1.i.toNat, (Int.toNat_of_nonneg hin1).symm⟩
            have hiN : ii < I.length := by omega
            have hiN2 : (ii : Int) < I.length := by omega
            obtain ⟨c0, c1⟩ := Sl.nu hic hiN
            have hnn : inN I r1.i = ofNu (I[ii]'hiN) := by rw [hii]; exact inN_in hiN
            rw [hnn] at hH3
            clear hnn hic hip
            generalize I[ii]'hiN = n at c0 c1 hH3
            have hib : ib < w.heap.size := World.block_lt_of_cell? _ _ c0
            have hgib : g ≠ ib := by omega
            rcases hcase with ⟨h31, hm⟩ | ⟨h31, hm⟩
            · omega
            all_goals (
              rw [hm] at hH3
              have hH5 := And.intro True.intro hH3
              clear hH3 hm
              go_wp2_with ((go_at_call 36; refine' Calls.aft _ _ (hvr _ hVa.be) _; rotate_left 2; (exact Below.refl _ _; rfl); intro x5; have hle := After.le x5; (try simp at hle)); have q0 := hq0 x5; have q1 := hq1 x5; have d0 := hd0 x5; have d1 := hd1 x5; have gx := hgx x5; have olx := hol2 x5)
              rename_i K hK
              obtain ⟨W6, hW6⟩ : ∃ W6, W6 = (x5.val.setCell ⟨g, ki * 2, none⟩ (.int .i64 0)).setCell ⟨g, ki * 2 + 1, none⟩ (.int .i64 0) := ⟨_, rfl⟩
              have hV6 : RBInv w (.slice (some ⟨bb, off, none⟩) P.length cap) ob b ⟨r1.e.set ki zN, r1.i, r1.o⟩ W6 (.slice (some ⟨g, 0, none⟩) r1.e.length uc) (.slice vp r1.o.length vc) := by rw [hW6]; exact (hVx x5).store (k := ki) zN
              rw [← hW6]
              clear hW6 q0 q1 d0 d1 gx olx hq0 hq1 hd0 hd1 hgx hol2 hVx hVk hVa hle
              have c0 := nextC hV6.be c0
              have c1 := nextC hV6.be c1
              have hib6 := World.block_lt_of_cell? _ _ c0
              obtain ⟨z0, z1, z2, z3, _, zl⟩ := four hV6.bb
              have z1 : W6.cell? ⟨ob, 1, none⟩ = some (.slice (some ⟨g, 0, none⟩) r1.e.length uc) := z1
              have z2 : W6.cell? ⟨ob, 2, none⟩ = some (.int .i64 r1.i) := z2
              have hkl6 : ki < (r1.e.set ki zN).length := by rw [List.length_set]; exact hkl
              have ho : World.ownsRow W6 (w.heap.size + 1 + 1 + 1) 44 2 (.slice (some ⟨g, 0, none⟩) r1.e.length uc) r1.e.length ((r1.e.set ki zN).flatMap Nu.cs) := by
                have h9 : World.ownsRow W6 (w.heap.size + 1 + 1 + 1) 44 2 (.slice (some ⟨g, 0, none⟩) r1.e.length uc) (r1.e.set ki zN).length ((r1.e.set ki zN).flatMap Nu.cs) := hV6.rn.e
                rwa [List.length_set] at h9
              have q0 := ho.frozenAt (ki * 2)
              have q1 := ho.frozenAt (ki * 2 + 1)
              have d0 := (ho.cellAt (ki * 2) (by omega)).trans (by rw [show ki * 2 = ki * 2 + 0 from rfl, flat_get Nu.cs_len _ _ _ (by omega), List.getElem?_eq_getElem hkl6]; rfl : _ = some (Value.int .i64 ((r1.e.set ki zN)[ki]'hkl6).a))
              have d1 := (ho.cellAt (ki * 2 + 1) (by omega)).trans (by rw [flat_get Nu.cs_len _ _ _ (by omega), List.getElem?_eq_getElem hkl6]; rfl : _ = some (Value.int .i64 ((r1.e.set ki zN)[ki]'hkl6).b))
              have gl := (ho.lt g rfl).2
              generalize (r1.e.set ki zN)[ki]'hkl6 = n0 at d0 d1
              clear ho
              have hobg : ob ≠ g := Ne.symm hgo
              have hibg : ib ≠ g := Ne.symm hgib
              first | (go_region_held3 (fun w' => ∀ b o, b < W6.heap.size → b ≠ g → w'.cell? ⟨b, o, none⟩ = W6.cell? ⟨b, o, none⟩)
                (((try dsimp only); intro b9 o9 h9 h10; (try rw [cell_ne h10, cell_ne h10]); refine Below.cell (B := W6.heap.size) (w := W6) ?_ h9; clear h9 h10; (repeat (first | exact Below.refl _ _ | apply Below.drew | refine Below.alloc ?_ ?_ _ | refine Below.setCell ?_ ?_ _ | refine Below.trans ?_ (Below.mono (After.below _) ?_))); (all_goals (first | (simp; done) | (simp; omega) | omega))))
                ((go_at_call 58; refine' Calls.aft _ _ (rof_any _ _ _) _; rotate_left 2; (exact Below.refl _ _; rfl); intro zz; have hle := After.le zz; (try simp at hle)))) | fail
              all_goals (
                rename_i hS
                clear hS
                have hV7 := (hV6.below ((Below.refl W6.heap.size W6).drew)).below zz.below
                have hV7' : RBInv w (.slice (some ⟨bb, off, none⟩) P.length cap) ob b ⟨r1.e.set ki zN, r1.i, r1.o⟩ zz.val (.slice (some ⟨g, 0, none⟩) (⟨r1.e.set ki zN, r1.i, r1.o⟩ : Rs).e.length uc) (.slice vp r1.o.length vc) := by
                  rw [show (⟨r1.e.set ki zN, r1.i, r1.o⟩ : Rs).e.length = r1.e.length from List.length_set ..]
                  exact hV7
                have hV8 := hV7'.store (k := ki) (ofNu n)
                rw [show (⟨r1.e.set ki zN, r1.i, r1.o⟩ : Rs).e.length = r1.e.length from List.length_set ..] at hV8
                have hV8 : RBInv w (.slice (some ⟨bb, off, none⟩) P.length cap) ob b ⟨(r1.e.set ki zN).set ki (ofNu n), r1.i, r1.o⟩ _ (.slice (some ⟨g, 0, none⟩) r1.e.length uc) (.slice vp r1.o.length vc) := hV8
                rw [List.set_set] at hV8
                obtain ⟨w0, w1, w2, w3, wf, wl⟩ := four hV7.bb
                have w2 : zz.val.cell? ⟨ob, 2, none⟩ = some (.int .i64 r1.i) := w2
                have wf2 := wf 2
                clear hV6 hV7 hV7' z0 z1 z2 z3 zl q0 q1 d0 d1 c0 c1 hvr hgib
                refine hK _ _ ?_
                clear hK hii hin2 hiN2 hib hib6 hobg hibg
                go_wp2_with fail
                refine ⟨⟨k + 1, .slice (some ⟨g, 0, none⟩) r1.e.length uc, .slice vp r1.o.length vc, by omega, by simp, ?_⟩, by simp [intOf]; omega⟩
                rw [show runB P I r (B.l.take (k + 1)) = _ from hH5.2]
                exact hV8.inc _))
          · have hzz : inN I r1.i = zN := by unfold inN; rw [atN_out (.inr (by omega))]; decide +kernel
            rw [hzz] at hH3
            clear hzz
            rcases hcase with ⟨h31, hm⟩ | ⟨h31, hm⟩
            all_goals (
              rw [hm] at hH3
              have hH5 := And.intro True.intro hH3
              clear hH3 hm
              go_wp2_with ((go_at_call 36; refine' Calls.aft _ _ (hvr _ hVa.be) _; rotate_left 2; (exact Below.refl _ _; rfl); intro x5; have hle := After.le x5; (try simp at hle)); have q0 := hq0 x5; have q1 := hq1 x5; have d0 := hd0 x5; have d1 := hd1 x5; have gx := hgx x5; have olx := hol2 x5)
              refine ⟨⟨k + 1, .slice (some ⟨g, 0, none⟩) r1.e.length uc, .slice vp r1.o.length vc, by omega, by simp, ?_⟩, by simp [intOf]; omega⟩
              rw [show runB P I r (B.l.take (k + 1)) = _ from hH5.2]
              exact ((hVx x5).store (k := ki) zN).inc _)
        · go_wp2_with fail
          obtain ⟨W4, hW4⟩ : ∃ W4, W4 = wr.alloc (.cells #[.int .i64 3, .string sv, .int .i64 sop, .string v1, .int .i64 a1, .int .i64 b1, .string v2, .int .i64 a2, .int .i64 b2] 50) := ⟨_, rfl⟩
          have hVa : RBInv w (.slice (some ⟨bb, off, none⟩) P.length cap) ob b r1 W4 (.slice up r1.e.length uc) (.slice vp r1.o.length vc) := by rw [hW4]; exact hVa
          have hst9 : W4.heap[wr.heap.size]? = some (.cells #[.int .i64 3, .string sv, .int .i64 sop, .string v1, .int .i64 a1, .int .i64 b1, .string v2, .int .i64 a2, .int .i64 b2] 50 (0, 0)) := by rw [hW4]; exact heap_alloc_new _ _
          obtain ⟨t0, t1, t2, t3, t4, t5, t6, t7, t8⟩ := nine hst9
          have tl := lt_of_some hst9
          rw [← hW4]
          clear hW4 e0 e1 e2 e3 e4 e5 e6 e7 e8 hbq
          have hH3 : Hid (runB P I r (B.l.take (k + 1)) = ⟨r1.e, r1.i, r1.o ++ [valA P r1.e ⟨v1, a1, b1⟩]⟩) := Eq.trans hH2 (doS_3 rfl)
          obtain ⟨i0, hi, hz0, hz1, hz2⟩ := info_parts nu_info
          have hvl := fun (W : World) (hB : Below w.heap.size w W) hE => rvalue_any P r1.e v1 a1 b1 _ (.slice up r1.e.length uc) W (hH.2.1.below hB) h12 hl12 hE
          generalize valA P r1.e ⟨v1, a1, b1⟩ = n at hvl hH3
          have hVd := hVa.below ((Below.refl W4.heap.size W4).drew)
          have y0 := cell_of_one hVd.pb
          have yl := lt_of_some hVd.pb
          obtain ⟨x0, x1, x2, x3, _, xl⟩ := four hVd.bb
          have u3 : W4.drew.cell? ⟨wr.heap.size, 3, none⟩ = some (.string v1) := t3
          have u4 : W4.drew.cell? ⟨wr.heap.size, 4, none⟩ = some (.int .i64 a1) := t4
          have u5 : W4.drew.cell? ⟨wr.heap.size, 5, none⟩ = some (.int .i64 b1) := t5
          have ul : wr.heap.size < W4.drew.heap.size := tl
          clear t0 t1 t2 t3 t4 t5 t6 t7 t8 tl hst9 p0 pl o0 o1 o2 o3 of ol hH2
          first | (go_region_law (first | (refine stepBG rfl 56 #[.agg #[.slice (some ⟨bb, off, none⟩) P.length cap], .slice up r1.e.length uc, .agg #[.string v1, .int .i64 a1, .int .i64 b1]] (.agg #[.int .i64 n.a, .int .i64 n.b]) ?hop1 (hvl W4.drew hVd.be (Sl.of_own hVd.rn.e)) ?_; (case hop1 => (go_simp; done)); intro q1 hq1; have hV1 := hVd.below hq1; obtain ⟨z0, z1, z2, z3, _, zl⟩ := four hV1.bb; have hV2 := hV1.below ((Below.refl q1.heap.size q1).alloc (Nat.le_refl _) (.cells #[.int .i64 n.a, .int .i64 n.b] 44))) | (refine step_append_tells rfl (.tmp 40) (.tmp 48) 25 rfl (w.heap.size + 1 + 1 + 1) 44 i0 (.agg #[.int .i64 0, .int .i64 0]) 2 16 Tryz.underlying25 hi hz0 hz1 hz2 rfl (by decide) _ r1.o.length (r1.o.flatMap Nu.cs) rfl hV2.rn.o _ 1 1 [.int .i64 n.a, .int .i64 n.b] rfl rfl (news_at rfl) (by intro u hu; simp at hu; rcases hu with rfl | rfl <;> rfl) (by unfold maxLen; omega) (by omega) (by have := lt_of_some hV2.rb; omega) (by decide) ?_; intro v6 W6 ho6 hg6 hv6; obtain ⟨xp6, xc6, rfl⟩ := own_len ho6; have hVn := hV2.out (n := n) hg6 ho6 hv6; have g3 := (hg6.block _ (lt_of_some hV2.bb) (fun he => hV2.on he.symm)).trans hV2.bb; obtain ⟨w0, w1, w2, w3, wf, wl⟩ := four g3; have wf3 := wf 3))) | fail
          all_goals (
            clear hV1 hV2 hVd hVa hVk y0 yl x0 x1 x2 x3 xl u3 u4 u5 ul z0 z1 z2 z3 zl hq1 ho6 hg6 hv6 g3 w0 w1 w2 w3 wf wl wf3 hvl
            go_wp2_with fail
            go_roundw
            case rel => exact ⟨k + 1, _, _, by omega, by simp, by rw [hH3]; exact hVn⟩
            case measure => simp [intOf]; omega)
      · have hks : k = B.l.length := by omega
        subst hks
        have hlt3 : ¬ (B.l.length : Int) < B.l.length := by omega
        rw [List.take_length] at hVk o1 o2 o3
        obtain ⟨i0, i1, i2, i3, jf', il⟩ := four hVk.rb
        have if0 := jf' 0
        have if1 := jf' 1
        have if2 := jf' 2
        have if3 := jf' 3
        have hne : ¬ ob = w.heap.size + 1 + 1 := by omega
        clear hlc hst
        go_wp2_with fail
        refine bodyPost_ret (v := .agg #[.int .i64 b, .slice up (runB P I r B.l).e.length uc, .int .i64 (runB P I r B.l).i, .slice vp (runB P I r B.l).o.length vc]) (by simp only [results, Tryz.results33]; go_simp) rfl ⟨_, _, rfl, ?_, ?_⟩
        · refine Rn.base ?_ (by omega : w.heap.size ≤ w.heap.size + 1 + 1 + 1)
          have hn := hVk.rn
          (repeat (first | (with_reducible exact hn) | refine Rn.set ?_ ?_))
          all_goals omega
        · have hb := hVk.be
          (repeat (first | (with_reducible exact hb) | refine Below.setCell ?_ ?_ _))
          all_goals (show w.heap.size ≤ w.heap.size + 1 + 1; omega)
  have hKK := And.intro True.intro hK2
  have hE3 := hH.2.2.2.1.below hB3
  have hO3 := hH.2.2.2.2.1.below hB3
  have hzz := hH.2.2.2.2.2
  clear hK hK2 hcp1 hcp2 hst hlc hlp heH c1 hlv
  have hcp1 := fun (W : World) (hS : ∀ b o, b < W3.heap.size → W.cell? ⟨b, o, none⟩ = W3.cell? ⟨b, o, none⟩) => copied_any r.e (by omega) _ W (slCells hE3 hS) hzz.1
  have hcp2 := fun (W : World) (hS : ∀ b o, b < W3.heap.size → W.cell? ⟨b, o, none⟩ = W3.cell? ⟨b, o, none⟩) => copied_any r.o (by omega) _ W (slCells hO3 hS) hzz.2
  clear hE3 hO3 hH hzz
  go_region_held3 (fun w' => ∀ b o, b < W3.heap.size → w'.cell? ⟨b, o, none⟩ = W3.cell? ⟨b, o, none⟩)
    (((try dsimp only); intro b9 o9 h9; refine Below.cell (B := W3.heap.size) (w := W3) ?_ h9; clear h9; (repeat (first | exact Below.refl _ _ | apply Below.drew | refine Below.alloc ?_ ?_ _ | refine Below.setCell ?_ ?_ _ | refine Below.trans ?_ (Below.mono (After.below _) ?_))); (all_goals (first | (simp; done) | (simp; omega) | omega))))
    ((go_at_call 54; first | ((with_reducible refine' Calls.aftS _ _ (hcp1 _ (by assumption)) _; rotate_left 2; (exact Below.refl _ _; rfl); intro v5 x5 ho5; have hle := After.le x5; (try simp at hle)); obtain ⟨xp, xc, rfl⟩ := own_len ho5) | ((with_reducible refine' Calls.aftS _ _ (hcp2 _ (by assumption)) _; rotate_left 2; (exact Below.refl _ _; rfl); intro v6 x6 ho6; have hle := After.le x6; (try simp at hle)); obtain ⟨yp, yc, rfl⟩ := own_len ho6)))
  all_goals (
    have k5 := x5.below.size
    have k6 := x6.below.size
    have k7 : W3.drew.heap.size = W3.heap.size := rfl
    (try simp only [drew_size, World.size_alloc, k7] at k5)
    (try simp only [drew_size, World.size_alloc, k7] at k6)
    refine hKK.2 _ _ _ xp xc yp yc rfl ?_ ⟨blk_next ?_ yy, blk_next ?_ rr, ?_, Rn.base ?_ hz3, ?_, ?_, nextB ?_ hB3, ?_⟩
    · (repeat (first | exact Below.refl _ _ | apply Below.drew | refine Below.alloc ?_ ?_ _ | refine Below.setCell ?_ ?_ _ | refine Below.trans ?_ (Below.mono (After.below _) ?_))); (all_goals (first | (simp; done) | (simp; omega) | omega))
    · (repeat (first | exact Below.refl _ _ | apply Below.drew | refine Below.alloc ?_ ?_ _ | refine Below.setCell ?_ ?_ _ | refine Below.trans ?_ (Below.mono (After.below _) ?_))); (all_goals (first | (simp; done) | (simp; omega) | omega))
    · (repeat (first | exact Below.refl _ _ | apply Below.drew | refine Below.alloc ?_ ?_ _ | refine Below.setCell ?_ ?_ _ | refine Below.trans ?_ (Below.mono (After.below _) ?_))); (all_goals (first | (simp; done) | (simp; omega) | omega))
    · first | (with_reducible exact heap_alloc_new _ _) | (with_reducible exact set4 _ _ _ _ (blk_next x6.below (heap_alloc_new _ _))) | (with_reducible exact set4 _ _ _ _ (blk_next x6.below (blk_next x5.below (drew_new _ _)))) | (with_reducible exact set4 _ _ _ _ (blk_next x6.below (blk_next x5.below (drew_new2 _ _))))
    · have h6 : Rn W3.heap.size x6.val (.slice xp r.e.length xc) (.slice yp r.o.length yc) r := by
        first | (with_reducible exact (Rn.first ho5 ho6 x6.below x5.below.size).base (by simp [k7])) | (with_reducible exact (Rn.first (own_below ho5 ((Below.refl _ _).alloc (Nat.le_refl _) _)) ho6 x6.below (by simp [k7]; omega)).base (by simp [k7]))
      (repeat (first | (with_reducible exact h6) | refine Rn.setMid ?_ ?_ ?_ | refine Rn.below ?_ ((Below.refl _ _).alloc (Nat.le_refl _) _)))
      all_goals first | (intro he; have h9 := ho5.lt _ he; (try simp only [drew_size, World.size_alloc, k7] at h9); omega) | (intro he; have h9 := ho6.lt _ he; (try simp only [drew_size, World.size_alloc, k7] at h9); omega)
    · intro he
      have h9 := ho5.lt _ he
      (try simp only [drew_size, World.size_alloc, k7] at h9)
      omega
    · intro he
      have h9 := ho6.lt _ he
      (try simp only [drew_size, World.size_alloc, k7] at h9)
      omega
    · (repeat (first | exact Below.refl _ _ | apply Below.drew | refine Below.alloc ?_ ?_ _ | refine Below.setCell ?_ ?_ _ | refine Below.trans ?_ (Below.mono (After.below _) ?_))); (all_goals (first | (simp; done) | (simp; omega) | omega))
    · first | omega | (simp [k7]; omega) | exact Nat.le_refl _)

end Go.Proofs.YtaaklejkngpddaaGreat.Pr
