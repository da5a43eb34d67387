/- WALK of exec.run. WALK of exec.follow. RUNS OF MANY BLOCKS: what stands in memory while exec.From goes on. -/
import Derived.Test.YtaaklejkngpddaaExb
import Derived.Test.YtaaklejkngpddaaExc
import Derived.OneCell
namespace Go.Proofs.Ytaaklejkngpddaa.Pr
set_option linter.unusedVariables false
set_option linter.unusedSimpArgs false
open Go Go.RowKit

/-- What stands while 'run' goes through the statements. -/
structure RunInv (w : World) (pv : Value) (b : Int) (r : Rs) (wr : World) (ev ov : Value) : Prop where
  pb : wr.heap[w.heap.size]? = some (.cells #[pv] 24 (0, 0))
  sb : wr.heap[w.heap.size + 1]? = some (.cells #[.int .i64 b, ev, .int .i64 r.i, ov] 47 (0, 0))
  rb : wr.heap[w.heap.size + 1 + 1]? = some (.cells #[.int .i64 0, .slice none 0 0, .int .i64 0, .slice none 0 0] 47 (0, 0))
  rn : Rn (w.heap.size + 1 + 1 + 1) wr ev ov r
  be : Below w.heap.size w wr
theorem RunInv.step {w : World} {pv ev ov a0 a1 a2 a3 : Value} {b : Int} {r : Rs} {q : World} (h1 : q.heap[w.heap.size]? = some (.cells #[pv] 24 (0, 0))) (h2 : q.heap[w.heap.size + 1]? = some (.cells #[a0, a1, a2, a3] 47 (0, 0)))
    (h3 : q.heap[w.heap.size + 1 + 1]? = some (.cells #[.int .i64 0, .slice none 0 0, .int .i64 0, .slice none 0 0] 47 (0, 0))) (hn : Rn (w.heap.size + 1 + 1 + 1) q ev ov r) (hb : Below w.heap.size w q) :
    RunInv w pv b r ((((q.setCell ⟨w.heap.size + 1, 0, none⟩ (.int .i64 b)).setCell ⟨w.heap.size + 1, 1, none⟩ ev).setCell ⟨w.heap.size + 1, 2, none⟩ (.int .i64 r.i)).setCell ⟨w.heap.size + 1, 3, none⟩ ov) ev ov :=
  ⟨(set4_other _ _ _ _ (by omega)).trans h1, set4 _ _ _ _ h2, (set4_other _ _ _ _ (by omega)).trans h3,
    (((hn.set (by omega)).set (by omega)).set (by omega)).set (by omega),
    (((hb.setCell (p := ⟨w.heap.size + 1, 0, none⟩) (Nat.le_succ _) _).setCell (p := ⟨w.heap.size + 1, 1, none⟩) (Nat.le_succ _) _).setCell (p := ⟨w.heap.size + 1, 2, none⟩) (Nat.le_succ _) _).setCell (p := ⟨w.heap.size + 1, 3, none⟩) (Nat.le_succ _) _⟩

set_option maxRecDepth 100000 in
set_option maxHeartbeats 4000000 in
theorem run_any (P : List Bl) (I : List Nu) (b : Nat) (hb : b < P.length) (r : Rs) (hc0 : checkOf P = 0) (he : r.e.length = (vars P).length) (hol : r.o.length ≤ 90000) (hin : 0 ≤ r.i) (pv ev ov iv : Value) (w : World) (h : Pg w pv P) (h12 : P.length ≤ 12) (hl12 : ∀ b ∈ P, b.l.length ≤ 12) (hI : Sl w iv Nu.cs I) (hE : Sl w ev Nu.cs r.e) (hO : Sl w ov Nu.cs r.o) :
    Calls Try.prog 51 #[.agg #[pv], .agg #[.int .i64 b, ev, .int .i64 r.i, ov], iv] w fun e w' => ∃ ev' ov', e = .returned (.agg #[.int .i64 b, ev', .int .i64 (runB P I r (P[b]'hb).l).i, ov']) ∧ Rn w.heap.size w' ev' ov' (runB P I r (P[b]'hb).l) ∧ Below w.heap.size w w' := by
  have hel : r.e.length ≤ 1000 := by have := (proper_vars hc0).1; omega
  obtain ⟨bb, off, p, cap, rfl, hp, hc⟩ := Pg.open h
  obtain rfl := hp (by omega)
  have hst := fun s hs => proper_stmt hc0 (List.getElem_mem hb) (s := s) hs
  have hcw : ∀ r u, ((P[b]'hb).cs)[r]? = some u → w.cell? ⟨bb, off + (b * 8 + r), none⟩ = some u := (hc b hb).1
  have hsl := (hc b hb).2
  have hlen := hl12 _ (List.getElem_mem hb)
  have hlt2 : (b : Int) < P.length := by omega
  obtain ⟨ep, ec, rfl⟩ : ∃ p cap, ev = .slice p r.e.length cap := by obtain ⟨b, off, p, cap, hv, _⟩ := hE; exact ⟨p, cap, hv⟩
  obtain ⟨op, oc, rfl⟩ : ∃ p cap, ov = .slice p r.o.length cap := by obtain ⟨b, off, p, cap, hv, _⟩ := hO; exact ⟨p, cap, hv⟩
  obtain ⟨ip, ic, rfl⟩ : ∃ p cap, iv = .slice p I.length cap := by obtain ⟨b, off, p, cap, hv, _⟩ := hI; exact ⟨p, cap, hv⟩
  generalize (P[b]'hb) = B at hcw hsl hlen hst ⊢
  have hbw0 : Below w.heap.size w (boxR w (.slice (some ⟨bb, off, none⟩) P.length cap) #[.int .i64 b, .slice ep r.e.length ec, .int .i64 r.i, .slice op r.o.length oc]) := boxR_below w (.slice (some ⟨bb, off, none⟩) P.length cap) #[.int .i64 b, .slice ep r.e.length ec, .int .i64 r.i, .slice op r.o.length oc]
  have hcl := cloneS_any b r (by omega) (by omega) _ _ _ (hE.below hbw0) (hO.below hbw0)
  unfold boxR at hcl
  obtain ⟨lb, loff, lp, lcap, hlv, hlp, hlc⟩ := hsl.open St.cs_len
  have c1 : w.cell? ⟨bb, off + b * 8 + 1, none⟩ = some B.lv := by rw [Nat.add_assoc]; exact hcw 1 _ rfl
  rw [hlv] at c1
  have hbl := World.block_lt_of_cell? _ _ c1
  have hH := And.intro True.intro (And.intro h hI)
  have heH : Hid (r.e.length = (vars P).length) := he
  clear he
  clear hc hcw hE hO h hI hsl
  go_enter Try.func51, Try.ntmps51
  go_wp2_with (go_at_call 49; refine (hcl).mono ?_; rintro e W1 ⟨ev1, ov1, rfl, hR1, hq0⟩; have hq1 : Below (boxR w (.slice (some ⟨bb, off, none⟩) P.length cap) #[.int .i64 b, .slice ep r.e.length ec, .int .i64 r.i, .slice op r.o.length oc]).heap.size (boxR w (.slice (some ⟨bb, off, none⟩) P.length cap) #[.int .i64 b, .slice ep r.e.length ec, .int .i64 r.i, .slice op r.o.length oc]) W1 := hq0; obtain ⟨xp, xc, rfl⟩ := own_len hR1.e; obtain ⟨yp, yc, rfl⟩ := own_len hR1.o; have hp1 := blk_next hq1 (boxR_p _ _ _); have hs1 := blk_next hq1 (boxR_s _ _ _); have hr1 := blk_next hq1 (boxR_r _ _ _); have hB1 := nextB hq1 hbw0; have hp0 := cell_of_one hp1; obtain ⟨j0, j1, j2, j3, jf, jl⟩ := four hs1; have jf0 := jf 0; have jf1 := jf 1; have jf2 := jf 2; have jf3 := jf 3; have d1 := nextC hB1 c1)
  have hV1 : RunInv w (.slice (some ⟨bb, off, none⟩) P.length cap) b r _ (.slice xp r.e.length xc) (.slice yp r.o.length yc) := RunInv.step hp1 hs1 hr1 (hR1.base (by rw [show w.heap.size + 1 + 1 + 1 = (boxR w (.slice (some ⟨bb, off, none⟩) P.length cap) #[.int .i64 b, .slice ep r.e.length ec, .int .i64 r.i, .slice op r.o.length oc]).heap.size from (boxR_size _ _ _).symm]; exact Nat.le_refl _)) hB1
  clear hq0 hq1 hR1 hp1 hs1 hr1 hB1 hp0 j0 j1 j2 j3 jf jl jf0 jf1 jf2 jf3 d1 hcl hbw0 c1
  go_loopw [19] (fun i wr => ∃ (k : Nat) (ev' ov' : Value), k ≤ B.l.length ∧ i = .int .i64 k ∧ RunInv w (.slice (some ⟨bb, off, none⟩) P.length cap) b (runB P I r (B.l.take k)) wr ev' ov') (fun i _ => B.l.length - (intOf i).toNat)
  case atStart => exact ⟨0, _, _, Nat.zero_le _, rfl, hV1⟩
  case round =>
    obtain ⟨k, ev1, ov1, hk, rfl, hV⟩ := hrel
    obtain ⟨up, uc, rfl⟩ := own_len hV.rn.e
    obtain ⟨vp, vc, rfl⟩ := own_len hV.rn.o
    have p0 := cell_of_one hV.pb
    have pl := World.block_lt_of_cell? _ _ p0
    obtain ⟨j0, j1, j2, j3, jf, jl⟩ := four hV.sb
    have hw := hV.be.size
    by_cases hlt : k < B.l.length
    · obtain rfl := hlp (by omega)
      have hlt3 : (k : Int) < B.l.length := by omega
      have hH2 : Hid (runB P I r (B.l.take (k + 1)) = doS P I (runB P I r (B.l.take k)) (B.l[k]'hlt)) := runB_take P I r B.l k hlt
      have hs := hst _ (List.getElem_mem hlt)
      have hcj : ∀ r u, ((B.l[k]'hlt).cs)[r]? = some u → wr.cell? ⟨lb, loff + k * 9 + r, none⟩ = some u := fun r u hu => by
        rw [Nat.add_assoc]
        exact nextC hV.be (hlc k hlt r u hu)
      have rl := runB_len P I (B.l.take k) r
      have rk : (B.l.take k).length ≤ 12 := by rw [List.length_take]; omega
      clear hlc hst
      generalize (B.l[k]'hlt) = s at hcj hs hH2
      generalize runB P I r (B.l.take k) = r1 at hV rl hH2 p0 j0 j1 j2 j3
      have hBa : Below w.heap.size w (wr.alloc (.cells s.cs.toArray 90)) := hV.be.alloc hw _
      have hdo := do_any P I s hs.1 hs.2 b r1 (rl.1.trans heH) (by rw [rl.1]; exact hel) (by have := rl.2.1; omega) (rl.2.2 hin) (w.heap.size + 1 + 1 + 1) (.slice (some ⟨bb, off, none⟩) P.length cap) _ _ _ _ (hH.2.1.below hBa) h12 hl12 (hH.2.2.below hBa) (hV.rn.below ((Below.refl _ _).alloc (Nat.le_refl _) _)) (by have := lt_of_some hV.rb; simp; omega)
      have n1 := (heap_alloc_old wr (.cells s.cs.toArray 90) pl).trans hV.pb
      have n2 := (heap_alloc_old wr (.cells s.cs.toArray 90) jl).trans hV.sb
      have n3 := (heap_alloc_old wr (.cells s.cs.toArray 90) (lt_of_some hV.rb)).trans hV.rb
      clear rl hs rk
      obtain ⟨sk, sv, sop, ⟨v1, a1, b1⟩, ⟨v2, a2, b2⟩⟩ := s
      have hBa : Below w.heap.size w (wr.alloc (.cells #[.int .i64 sk, .string sv, .int .i64 sop, .string v1, .int .i64 a1, .int .i64 b1, .string v2, .int .i64 a2, .int .i64 b2] 90)) := hBa
      have hdo : Calls Try.prog 84 #[_, _, .agg #[.int .i64 sk, .string sv, .int .i64 sop, .string v1, .int .i64 a1, .int .i64 b1, .string v2, .int .i64 a2, .int .i64 b2], _] (wr.alloc (.cells #[.int .i64 sk, .string sv, .int .i64 sop, .string v1, .int .i64 a1, .int .i64 b1, .string v2, .int .i64 a2, .int .i64 b2] 90)) _ := hdo
      have e0 : wr.cell? ⟨lb, loff + k * 9, none⟩ = some (.int .i64 sk) := hcj 0 _ rfl
      have hbq := World.block_lt_of_cell? _ _ e0
      have e1 : wr.cell? ⟨lb, loff + k * 9 + 1, none⟩ = some (.string sv) := hcj 1 _ rfl
      have e2 : wr.cell? ⟨lb, loff + k * 9 + 2, none⟩ = some (.int .i64 sop) := hcj 2 _ rfl
      have e3 : wr.cell? ⟨lb, loff + k * 9 + 3, none⟩ = some (.string v1) := hcj 3 _ rfl
      have e4 : wr.cell? ⟨lb, loff + k * 9 + 4, none⟩ = some (.int .i64 a1) := hcj 4 _ rfl
      have e5 : wr.cell? ⟨lb, loff + k * 9 + 5, none⟩ = some (.int .i64 b1) := hcj 5 _ rfl
      have e6 : wr.cell? ⟨lb, loff + k * 9 + 6, none⟩ = some (.string v2) := hcj 6 _ rfl
      have e7 : wr.cell? ⟨lb, loff + k * 9 + 7, none⟩ = some (.int .i64 a2) := hcj 7 _ rfl
      have e8 : wr.cell? ⟨lb, loff + k * 9 + 8, none⟩ = some (.int .i64 b2) := hcj 8 _ rfl
      clear hcj hlp
      go_wp2_with (go_at_call 84; refine (hdo).mono ?_; rintro e q ⟨ev2, ov2, rfl, hR2, hq⟩; obtain ⟨xp2, xc2, rfl⟩ := own_len hR2.e; obtain ⟨yp2, yc2, rfl⟩ := own_len hR2.o; have m1 := (hq.block _ (by omega)).trans n1; have m2 := (hq.block _ (by omega)).trans n2; have m3 := (hq.block _ (by omega)).trans n3; obtain ⟨i0, i1, i2, i3, jf', il⟩ := four m2; have if0 := jf' 0; have if1 := jf' 1; have if2 := jf' 2; have if3 := jf' 3)
      have hBq : Below w.heap.size w q := hBa.trans (hq.mono (by omega))
      go_roundw
      case rel => exact ⟨k + 1, _, _, by omega, by simp, by rw [hH2]; exact RunInv.step m1 m2 m3 hR2 hBq⟩
      case measure => simp [intOf]; omega
    · have hks : k = B.l.length := by omega
      subst hks
      have hlt3 : ¬ (B.l.length : Int) < B.l.length := by omega
      rw [List.take_length] at hV j1 j2 j3
      obtain ⟨i0, i1, i2, i3, jf', il⟩ := four hV.rb
      have if0 := jf' 0
      have if1 := jf' 1
      have if2 := jf' 2
      have if3 := jf' 3
      clear hlc hst
      go_wp2_with fail
      refine bodyPost_ret (v := .agg #[.int .i64 b, .slice up (runB P I r B.l).e.length uc, .int .i64 (runB P I r B.l).i, .slice vp (runB P I r B.l).o.length vc]) (by simp only [results, Try.results51]; go_simp) rfl ⟨_, _, rfl, ?_, ?_⟩
      · refine Rn.base ?_ (by omega : w.heap.size ≤ w.heap.size + 1 + 1 + 1)
        have hn := hV.rn
        (repeat (first | (with_reducible exact hn) | refine Rn.set ?_ ?_))
        all_goals omega
      · have hb := hV.be
        (repeat (first | (with_reducible exact hb) | refine Below.setCell ?_ ?_ _))
        all_goals (show w.heap.size ≤ w.heap.size + 1 + 1; omega)

end Go.Proofs.Ytaaklejkngpddaa.Pr

namespace Go.Proofs.Ytaaklejkngpddaa.Pr
set_option linter.unusedVariables false
set_option linter.unusedSimpArgs false
open Go Go.RowKit

theorem nextI_3 {P : List Bl} {B : Bl} {E : List Nu} {b : Int} (h : B.t.k = 3) : nextI P B E b = b ∧ goesB B = false := by unfold nextI goesB; rw [if_pos h]; exact ⟨rfl, by simp [h]⟩
theorem nextI_t {P : List Bl} {B : Bl} {E : List Nu} {b : Int} (h : B.t.k ≠ 3) (h2 : ¬ (B.t.k = 2 ∧ valA P E B.t.x = zN)) : nextI P B E b = idx (namesOf P) B.t.t ∧ goesB B = true ∧ toN P B E = B.t.t := by
  unfold nextI goesB toN; rw [if_neg h, if_neg h2]; exact ⟨rfl, by simp [h], rfl⟩
theorem nextI_e {P : List Bl} {B : Bl} {E : List Nu} {b : Int} (h : B.t.k ≠ 3) (h2 : B.t.k = 2 ∧ valA P E B.t.x = zN) : nextI P B E b = idx (namesOf P) B.t.e ∧ goesB B = true ∧ toN P B E = B.t.e := by
  unfold nextI goesB toN; rw [if_neg h, if_pos h2]; exact ⟨rfl, by simp [h], rfl⟩

set_option maxRecDepth 100000 in
set_option maxHeartbeats 4000000 in
theorem follow_any (P : List Bl) (b : Nat) (hb : b < P.length) (E O : List Nu) (i : Int) (hc0 : checkOf P = 0) (pv ev ov : Value) (w : World) (h : Pg w pv P) (h12 : P.length ≤ 12) (hl12 : ∀ b ∈ P, b.l.length ≤ 12) (hE : Sl w ev Nu.cs E) (hO : Sl w ov Nu.cs O) :
    Calls Try.prog 50 #[.agg #[pv], .agg #[.int .i64 b, ev, .int .i64 i, ov]] w fun e w' => e = .returned (.tuple #[.agg #[.int .i64 (nextI P (P[b]'hb) E b), ev, .int .i64 i, ov], .bool (goesB (P[b]'hb))]) ∧ Below w.heap.size w w' := by
  obtain ⟨bb, off, p, cap, rfl, hp, hc⟩ := Pg.open h
  obtain rfl := hp (by omega)
  have hpe := proper_end hc0 (List.getElem_mem hb) E
  have hcw : ∀ r u, ((P[b]'hb).cs)[r]? = some u → w.cell? ⟨bb, off + (b * 8 + r), none⟩ = some u := (hc b hb).1
  have hlt2 : (b : Int) < P.length := by omega
  obtain ⟨ep, ec, rfl⟩ : ∃ p cap, ev = .slice p E.length cap := by obtain ⟨b, off, p, cap, hv, _⟩ := hE; exact ⟨p, cap, hv⟩
  obtain ⟨op, oc, rfl⟩ : ∃ p cap, ov = .slice p O.length cap := by obtain ⟨b, off, p, cap, hv, _⟩ := hO; exact ⟨p, cap, hv⟩
  have hvl := fun xv xa xb (W : World) (hB : Below w.heap.size w W) => value_any P E xv xa xb _ _ W (h.below hB) h12 hl12 (hE.below hB)
  have hbk : ∀ x (W : World), Below w.heap.size w W → 0 ≤ idx (namesOf P) x → Calls Try.prog 83 #[.agg #[.slice (some ⟨bb, off, none⟩) P.length cap], .string x] W (fun e w' => e = .returned (.tuple #[.int .i64 (idx (namesOf P) x), .bool true]) ∧ Below W.heap.size W w') := fun x W hB hx => by
    have := tblock_any P x _ W (h.below hB) h12
    unfold placeV at this
    rwa [Int.max_eq_left hx, decide_eq_true hx] at this
  have n3 := fun h => nextI_3 (P := P) (B := P[b]'hb) (E := E) (b := b) h
  have nt := fun h h2 => nextI_t (P := P) (B := P[b]'hb) (E := E) (b := b) h h2
  have ne := fun h h2 => nextI_e (P := P) (B := P[b]'hb) (E := E) (b := b) h h2
  clear hc hE hO h
  have c2 : w.cell? ⟨bb, off + b * 8 + 2, none⟩ = some (.int .i64 (P[b]'hb).t.k) := by rw [Nat.add_assoc]; exact hcw 2 _ rfl
  have c3 : w.cell? ⟨bb, off + b * 8 + 3, none⟩ = some (.string (P[b]'hb).t.x.v) := by rw [Nat.add_assoc]; exact hcw 3 _ rfl
  have c4 : w.cell? ⟨bb, off + b * 8 + 4, none⟩ = some (.int .i64 (P[b]'hb).t.x.a) := by rw [Nat.add_assoc]; exact hcw 4 _ rfl
  have c5 : w.cell? ⟨bb, off + b * 8 + 5, none⟩ = some (.int .i64 (P[b]'hb).t.x.b) := by rw [Nat.add_assoc]; exact hcw 5 _ rfl
  have c6 : w.cell? ⟨bb, off + b * 8 + 6, none⟩ = some (.string (P[b]'hb).t.t) := by rw [Nat.add_assoc]; exact hcw 6 _ rfl
  have c7 : w.cell? ⟨bb, off + b * 8 + 7, none⟩ = some (.string (P[b]'hb).t.e) := by rw [Nat.add_assoc]; exact hcw 7 _ rfl
  clear hcw
  generalize hG : goesB (P[b]'hb) = G at n3 nt ne ⊢
  generalize hN : nextI P (P[b]'hb) E b = N at n3 nt ne ⊢
  generalize toN P (P[b]'hb) E = T at hpe nt ne
  clear hG hN
  generalize (P[b]'hb) = B at *
  obtain ⟨Bn, Bl, ⟨tk, ⟨xv, xa, xb⟩, tt, te⟩, lv⟩ := B
  simp only at c2 c3 c4 c5 c6 c7 n3 nt ne hpe
  have hv := hvl xv xa xb
  clear hvl
  generalize valA P E ⟨xv, xa, xb⟩ = n at hv nt ne
  have hbl := World.block_lt_of_cell? _ _ c2
  have hb4 : Below w.heap.size w ((boxR w (.slice (some ⟨bb, off, none⟩) P.length cap) #[.int .i64 b, .slice ep E.length ec, .int .i64 i, .slice op O.length oc]).alloc (.cells #[.int .i64 tk, .string xv, .int .i64 xa, .int .i64 xb, .string tt, .string te] 93)) := (boxR_below _ _ _).alloc (by rw [boxR_size]; omega) _
  unfold boxR at hb4
  rcases hpe.1 with rfl | rfl | rfl
  · obtain ⟨rfl, rfl, rfl⟩ := nt (by decide) (fun h => by cases h.1)
    have hx := (hpe.2 (by decide)).1
    have hbk := hbk T
    generalize idx (namesOf P) T = N at hbk hx
    clear hpe nt ne n3 hv
    go_enter Try.func50, Try.ntmps50
    go_wp2_with (go_at_call 83; refine' Calls.aft _ _ (hbk _ hb4 hx) _; rotate_left 2; (first | (with_reducible exact After.below _; rfl) | (with_reducible exact below_drew (After.below _); rfl) | (with_reducible exact below_set (After.below _) _ _; (go_simp; rfl)) | (with_reducible exact below_set (below_set (After.below _) _ _) _ _; (go_simp; rfl)) | (with_reducible exact below_set (below_set (below_set (After.below _) _ _) _ _) _ _; (go_simp; rfl)) | (with_reducible exact below_set (below_set (below_set (below_set (After.below _) _ _) _ _) _ _) _ _; (go_simp; rfl)) | (exact Below.refl _ _; rfl)); intro x2; have hle := After.le x2; (try simp at hle))
    refine bodyPost_ret (v := .tuple #[.agg #[.int .i64 N, .slice ep E.length ec, .int .i64 i, .slice op O.length oc], .bool true]) (by simp only [results, Try.results50]; go_simp) rfl ⟨rfl, ?_⟩
    (repeat (first | exact Below.refl _ _ | apply Below.drew | refine Below.alloc ?_ ?_ _ | refine Below.setCell ?_ ?_ _ | refine Below.trans ?_ (Below.mono (After.below _) ?_))); (all_goals (first | (simp; done) | (simp; omega) | omega))
  · by_cases hz : n = zN
    · subst hz
      obtain ⟨rfl, rfl, rfl⟩ := ne (by decide) ⟨rfl, rfl⟩
      have hx := (hpe.2 (by decide)).1
      have hbk := hbk T
      generalize idx (namesOf P) T = N at hbk hx
      clear hpe nt ne n3
      have hv : ∀ W, Below w.heap.size w W → Calls Try.prog 14 #[.agg #[.slice (some ⟨bb, off, none⟩) P.length cap], .slice ep E.length ec, .agg #[.string xv, .int .i64 xa, .int .i64 xb]] W (fun e w' => e = .returned (.agg #[.int .i64 0, .int .i64 0]) ∧ Below W.heap.size W w') := hv
      go_enter Try.func50, Try.ntmps50
      go_wp2_with (first | (go_at_call 14; refine' Calls.aft _ _ (hv _ hb4) _; rotate_left 2; (first | (with_reducible exact After.below _; rfl) | (with_reducible exact below_drew (After.below _); rfl) | (with_reducible exact below_set (After.below _) _ _; (go_simp; rfl)) | (with_reducible exact below_set (below_set (After.below _) _ _) _ _; (go_simp; rfl)) | (with_reducible exact below_set (below_set (below_set (After.below _) _ _) _ _) _ _; (go_simp; rfl)) | (with_reducible exact below_set (below_set (below_set (below_set (After.below _) _ _) _ _) _ _) _ _; (go_simp; rfl)) | (exact Below.refl _ _; rfl)); intro x1; have hle := After.le x1; (try simp at hle)) | (go_at_call 83; refine' Calls.aft _ _ (hbk _ (hb4.trans (x1.below.mono hb4.size)) hx) _; rotate_left 2; (first | (with_reducible exact After.below _; rfl) | (with_reducible exact below_drew (After.below _); rfl) | (with_reducible exact below_set (After.below _) _ _; (go_simp; rfl)) | (with_reducible exact below_set (below_set (After.below _) _ _) _ _; (go_simp; rfl)) | (with_reducible exact below_set (below_set (below_set (After.below _) _ _) _ _) _ _; (go_simp; rfl)) | (with_reducible exact below_set (below_set (below_set (below_set (After.below _) _ _) _ _) _ _) _ _; (go_simp; rfl)) | (exact Below.refl _ _; rfl)); intro x2; have hle := After.le x2; (try simp at hle)))
      refine bodyPost_ret (v := .tuple #[.agg #[.int .i64 N, .slice ep E.length ec, .int .i64 i, .slice op O.length oc], .bool true]) (by simp only [results, Try.results50]; go_simp) rfl ⟨rfl, ?_⟩
      (repeat (first | exact Below.refl _ _ | apply Below.drew | refine Below.alloc ?_ ?_ _ | refine Below.setCell ?_ ?_ _ | refine Below.trans ?_ (Below.mono (After.below _) ?_))); (all_goals (first | (simp; done) | (simp; omega) | omega))
    · obtain ⟨rfl, rfl, rfl⟩ := nt (by decide) (fun h => hz h.2)
      have hx := (hpe.2 (by decide)).1
      have hbk := hbk T
      generalize idx (namesOf P) T = N at hbk hx
      obtain ⟨na, nb⟩ := n
      have f1 : (na == 0 && nb == 0) = false := by
        cases he : (na == 0 && nb == 0) with
        | false => rfl
        | true => rw [Bool.and_eq_true, beq_iff_eq, beq_iff_eq] at he; exact absurd (by rw [he.1, he.2]; rfl) hz
      clear hpe nt ne n3 hz
      go_enter Try.func50, Try.ntmps50
      go_wp2_with (first | (go_at_call 14; refine' Calls.aft _ _ (hv _ hb4) _; rotate_left 2; (first | (with_reducible exact After.below _; rfl) | (with_reducible exact below_drew (After.below _); rfl) | (with_reducible exact below_set (After.below _) _ _; (go_simp; rfl)) | (with_reducible exact below_set (below_set (After.below _) _ _) _ _; (go_simp; rfl)) | (with_reducible exact below_set (below_set (below_set (After.below _) _ _) _ _) _ _; (go_simp; rfl)) | (with_reducible exact below_set (below_set (below_set (below_set (After.below _) _ _) _ _) _ _) _ _; (go_simp; rfl)) | (exact Below.refl _ _; rfl)); intro x1; have hle := After.le x1; (try simp at hle)) | (go_at_call 83; refine' Calls.aft _ _ (hbk _ (hb4.trans (x1.below.mono hb4.size)) hx) _; rotate_left 2; (first | (with_reducible exact After.below _; rfl) | (with_reducible exact below_drew (After.below _); rfl) | (with_reducible exact below_set (After.below _) _ _; (go_simp; rfl)) | (with_reducible exact below_set (below_set (After.below _) _ _) _ _; (go_simp; rfl)) | (with_reducible exact below_set (below_set (below_set (After.below _) _ _) _ _) _ _; (go_simp; rfl)) | (with_reducible exact below_set (below_set (below_set (below_set (After.below _) _ _) _ _) _ _) _ _; (go_simp; rfl)) | (exact Below.refl _ _; rfl)); intro x2; have hle := After.le x2; (try simp at hle)))
      refine bodyPost_ret (v := .tuple #[.agg #[.int .i64 N, .slice ep E.length ec, .int .i64 i, .slice op O.length oc], .bool true]) (by simp only [results, Try.results50]; go_simp) rfl ⟨rfl, ?_⟩
      (repeat (first | exact Below.refl _ _ | apply Below.drew | refine Below.alloc ?_ ?_ _ | refine Below.setCell ?_ ?_ _ | refine Below.trans ?_ (Below.mono (After.below _) ?_))); (all_goals (first | (simp; done) | (simp; omega) | omega))
  · obtain ⟨rfl, rfl⟩ := n3 rfl
    clear hpe nt ne n3 hv hbk
    go_enter Try.func50, Try.ntmps50
    go_wp2_with fail
    refine bodyPost_ret (v := .tuple #[.agg #[.int .i64 b, .slice ep E.length ec, .int .i64 i, .slice op O.length oc], .bool false]) (by simp only [results, Try.results50]; go_simp) rfl ⟨rfl, ?_⟩
    (repeat (first | exact Below.refl _ _ | apply Below.drew | refine Below.alloc ?_ ?_ _ | refine Below.setCell ?_ ?_ _ | refine Below.trans ?_ (Below.mono (After.below _) ?_))); (all_goals (first | (simp; done) | (simp; omega) | omega))

end Go.Proofs.Ytaaklejkngpddaa.Pr

namespace Go.Proofs.Ytaaklejkngpddaa.Pr
set_option linter.unusedVariables false
set_option linter.unusedSimpArgs false
open Go Go.RowKit

theorem rn_pair {P : Program} {f : FuncId} {args : Array Value} {W : World} {b i : Value} {r : Rs} (h : Calls P f args W fun e w' => ∃ ev ov, e = .returned (.agg #[b, ev, i, ov]) ∧ Rn W.heap.size w' ev ov r ∧ Below W.heap.size W w') :
    Calls P f args W fun e w' => ∃ x : Value × Value, e = .returned ((fun x : Value × Value => Value.agg #[b, x.1, i, x.2]) x) ∧ (fun (x : Value × Value) W2 => Rn W.heap.size W2 x.1 x.2 r) x w' ∧ Below W.heap.size W w' :=
  h.mono fun e w' ⟨ev, ov, he, hr, hb⟩ => ⟨(ev, ov), he, hr, hb⟩

/-- A visited state, and where its rows are. -/
structure Sv where
  p : Ps
  ev : Value
  ov : Value
def Sv.cs (x : Sv) : List Value := [.int .i64 x.p.b, x.ev, .int .i64 x.p.r.i, x.ov]
theorem Sv.cs_len (x : Sv) : x.cs.length = 4 := rfl

theorem sv_info : (Try.prog.info? 47).map (fun i => (i.zero, i.size, i.bytes)) = some (some (.agg #[.int .i64 0, .slice none 0 0, .int .i64 0, .slice none 0 0]), 4, 64) := by kernel_rfl

theorem Rn.kept {base : Nat} {w w' : World} {ev ov v : Value} {r : Rs} {b2 n : Nat} {xs : List Value} (h : Rn base w ev ov r) (hv : w.ownsRow b2 47 4 v n xs) (hg : w.grownBy w' v.ownBlock) : Rn base w' ev ov r :=
  ⟨h.e.kept hg (ownTy h.e hv (by decide)), h.o.kept hg (ownTy h.o hv (by decide)), h.ne, h.en⟩

structure FInv (w : World) (pv : Value) (B : Nat) (X : List Sv) (cur : Ps) (wr : World) (vv ev ov : Value) : Prop where
  pb : wr.heap[w.heap.size]? = some (.cells #[pv] 24 (0, 0))
  sb : wr.heap[w.heap.size + 1]? = some (.cells #[.int .i64 cur.b, ev, .int .i64 cur.r.i, ov] 47 (0, 0))
  rb : wr.heap[w.heap.size + 1 + 1]? = some (.cells #[.slice none 0 0, .slice none 0 0, .bool false] 53 (0, 0))
  ob : wr.heap[B]? = some (.cells #[vv, .slice none 0 0, .bool false] 53 (0, 0))
  row : wr.ownsRow (B + 1) 47 4 vv X.length (X.flatMap Sv.cs)
  cr : Rn (B + 1) wr ev ov cur.r
  xr : ∀ x ∈ X, Rn (B + 1) wr x.ev x.ov x.p.r
  be : Below w.heap.size w wr
  hB : w.heap.size + 1 + 1 + 1 ≤ B

theorem FInv.below {w : World} {pv : Value} {B : Nat} {X : List Sv} {cur : Ps} {wr q : World} {vv ev ov : Value} (h : FInv w pv B X cur wr vv ev ov) (hq : Below wr.heap.size wr q) : FInv w pv B X cur q vv ev ov :=
  ⟨blk_next hq h.pb, blk_next hq h.sb, blk_next hq h.rb, blk_next hq h.ob, own_below h.row hq, h.cr.below hq, fun x hx => (h.xr x hx).below hq, nextB hq h.be, h.hB⟩

/-- Another state to go on from. -/
theorem FInv.move {w : World} {pv : Value} {B : Nat} {X : List Sv} {cur : Ps} {wr : World} {vv ev ov ev2 ov2 : Value} (h : FInv w pv B X cur wr vv ev ov) (b2 : Int) (r2 : Rs) (hR : Rn (B + 1) wr ev2 ov2 r2) :
    FInv w pv B X ⟨b2, r2⟩ ((((wr.setCell ⟨w.heap.size + 1, 0, none⟩ (.int .i64 b2)).setCell ⟨w.heap.size + 1, 1, none⟩ ev2).setCell ⟨w.heap.size + 1, 2, none⟩ (.int .i64 r2.i)).setCell ⟨w.heap.size + 1, 3, none⟩ ov2) vv ev2 ov2 := by
  have hB := h.hB
  have hl : w.heap.size + 1 < B + 1 := by omega
  refine ⟨(set4_other _ _ _ _ (by omega)).trans h.pb, set4 _ _ _ _ h.sb, (set4_other _ _ _ _ (by omega)).trans h.rb, (set4_other _ _ _ _ (by omega)).trans h.ob, ?_, (((hR.set hl).set hl).set hl).set hl, fun x hx => ((((h.xr x hx).set hl).set hl).set hl).set hl,
    (((h.be.setCell (p := ⟨w.heap.size + 1, 0, none⟩) (Nat.le_succ _) _).setCell (p := ⟨w.heap.size + 1, 1, none⟩) (Nat.le_succ _) _).setCell (p := ⟨w.heap.size + 1, 2, none⟩) (Nat.le_succ _) _).setCell (p := ⟨w.heap.size + 1, 3, none⟩) (Nat.le_succ _) _, hB⟩
  have hn : vv.ownBlock ≠ some (w.heap.size + 1) := ownNL h.row hl
  exact ownsRow_setCell_other (ownsRow_setCell_other (ownsRow_setCell_other (ownsRow_setCell_other h.row hn _) hn _) hn _) hn _

theorem flat_snocX (X : List Sv) (x : Sv) : (X ++ [x]).flatMap Sv.cs = X.flatMap Sv.cs ++ x.cs := by simp

/-- One state more is kept. -/
theorem FInv.visit {w : World} {pv : Value} {B : Nat} {X : List Sv} {cur : Ps} {wr w6 : World} {vv ev ov v' : Value} (h : FInv w pv B X cur wr vv ev ov) (x : Sv) (hx : Rn (B + 1) wr x.ev x.ov x.p.r)
    (hg : wr.grownBy w6 vv.ownBlock) (ho : w6.ownsRow (B + 1) 47 4 v' (X.length + 1) (X.flatMap Sv.cs ++ x.cs)) : FInv w pv B (X ++ [x]) cur (w6.setCell ⟨B, 0, none⟩ v') v' ev ov := by
  have hB := h.hB
  have hne : ∀ k, k < B + 1 → some k ≠ vv.ownBlock := fun k hk he => by
    have := (h.row.lt k he.symm).1
    omega
  have hl : B < B + 1 := Nat.lt_succ_self B
  have g1 := (hg.block _ (lt_of_some h.pb) (hne _ (by omega))).trans h.pb
  have g2 := (hg.block _ (lt_of_some h.sb) (hne _ (by omega))).trans h.sb
  have g3 := (hg.block _ (lt_of_some h.rb) (hne _ (by omega))).trans h.rb
  have g4 := (hg.block _ (lt_of_some h.ob) (hne _ (by omega))).trans h.ob
  refine ⟨(heap_setCell_other _ _ _ _ (by show w.heap.size ≠ B; omega)).trans g1, (heap_setCell_other _ _ _ _ (by show w.heap.size + 1 ≠ B; omega)).trans g2, (heap_setCell_other _ _ _ _ (by show w.heap.size + 1 + 1 ≠ B; omega)).trans g3,
    heap_setCell_same _ B 0 _ _ v' g4, ?_, (h.cr.kept h.row hg).set hl, fun y hy => ?_, ?_, hB⟩
  · rw [flat_snocX, List.length_append]
    exact ownsRow_setCell_other ho (ownNL ho hl) _
  · rcases List.mem_append.1 hy with hy | hy
    · exact ((h.xr y hy).kept h.row hg).set hl
    · obtain rfl := List.mem_singleton.1 hy
      exact (hx.kept h.row hg).set hl
  · exact (Below.grown (w := _) h.be hg h.be.size (fun q hq => by have := (h.row.lt q hq).1; omega)).setCell (p := ⟨B, 0, none⟩) (by show w.heap.size ≤ B; omega) _

/-- What a run has told. -/
structure FOut (w' : World) (base : Nat) (L : List Ps) (O : List Nu) (vv ov : Value) : Prop where
  ex : ∃ X : List Sv, X.map Sv.p = L ∧ w'.ownsRow base 47 4 vv X.length (X.flatMap Sv.cs) ∧ ∀ x ∈ X, Rn base w' x.ev x.ov x.p.r
  ou : w'.ownsRow base 27 2 ov O.length (O.flatMap Nu.cs)

def lenOf : Option Value → Nat
  | some (.slice _ n _) => n
  | _ => 0
/-- How many blocks may still be done. -/
def leftF (N : Nat) (a : Act) (w : World) : Nat := match a.tmps.getD 11 undef with
  | .pointer (some p) => N - lenOf (w.cell? p)
  | _ => 0

def frameF (w : World) (iv : Value) (N B : Nat) (g : Bool) (u : Nat → Value) : Act := { tmps := #[u 0, u 1, iv, .int .i64 N, .pointer (some ⟨w.heap.size, 0, none⟩), .pointer (some ⟨w.heap.size + 1, 0, none⟩), u 6, u 7, .pointer (some ⟨w.heap.size + 1 + 1, 0, none⟩), u 9, u 10, .pointer (some ⟨B, 0, none⟩), .bool g, u 13, u 14, u 15, u 16, u 17, u 18, u 19, u 20, u 21, u 22, u 23, u 24, u 25, u 26, u 27, u 28, u 29, u 30, u 31, u 32, u 33, u 34, u 35, u 36, u 37, u 38, u 39, u 40, u 41, u 42, u 43, u 44, u 45, u 46, u 47, u 48, u 49, u 50, u 51, u 52, u 53, u 54, u 55], defers := [] }

/-- At the label. -/
def FromAt (P : List Bl) (I : List Nu) (w : World) (pv iv : Value) (N : Nat) (s0 : Ps) (a : Act) (wr : World) : Prop :=
  ∃ (B : Nat) (X : List Sv) (cur : Ps) (g : Bool) (vv ev ov : Value) (n : Nat), FInv w pv B X cur wr vv ev ov ∧ X.length + n = N ∧ OkS P cur ∧ cur.r.o.length ≤ s0.r.o.length + 12 * X.length ∧
    fromS P I N s0 true = (X.map Sv.p ++ (fromS P I n cur g).1, (fromS P I n cur g).2) ∧ a = frameF w iv N B g (fun i => a.tmps.getD i undef)

end Go.Proofs.Ytaaklejkngpddaa.Pr
