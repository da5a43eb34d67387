/- WALK of soughlaw08.same: it answers true for runs that are alike. WALK of soughref08.From. -/
import Derived.Test.YtaaklejkngpddaaGreatExd
import Derived.Test.YtaaklejkngpddaaGreatExg
import Derived.Test.YtaaklejkngpddaaGreatME

namespace Go.Proofs.YtaaklejkngpddaaGreat.Pr
set_option linter.unusedVariables false
set_option linter.unusedSimpArgs false
open Go Go.RowKit

/-- What a run has told, as far as it is read. -/
structure ROut (w' : World) (L : List Ps) (O : List Nu) (vv ov : Value) : Prop where
  ex : ∃ X : List Sv, X.map Sv.p = L ∧ Sl w' vv Sv.cs X ∧ ∀ x ∈ X, Sl w' x.ev Nu.cs x.p.r.e ∧ Sl w' x.ov Nu.cs x.p.r.o
  ou : Sl w' ov Nu.cs O

theorem slC0 {α : Type} {enc : α → List Value} {W q : World} {v : Value} {L : List α} (h : Sl W v enc L) (hq : ∀ b o, b < W.heap.size → q.cell? ⟨b, o, none⟩ = W.cell? ⟨b, o, none⟩) : Sl q v enc L := by
  obtain ⟨b, off, p, cap, hv, hp, hc⟩ := h
  exact ⟨b, off, p, cap, hv, hp, fun j u hu => (hq b _ (World.block_lt_of_cell? _ _ (hc j u hu))).trans (hc j u hu)⟩
theorem ROut.cells {W q : World} {L : List Ps} {O : List Nu} {vv ov : Value} (h : ROut W L O vv ov) (hq : ∀ b o, b < W.heap.size → q.cell? ⟨b, o, none⟩ = W.cell? ⟨b, o, none⟩) : ROut q L O vv ov := by
  obtain ⟨⟨X, h1, h2, h3⟩, h4⟩ := h
  exact ⟨⟨X, h1, slC0 h2 hq, fun x hx => ⟨slC0 (h3 x hx).1 hq, slC0 (h3 x hx).2 hq⟩⟩, slC0 h4 hq⟩
theorem ROut.below {W q : World} {L : List Ps} {O : List Nu} {vv ov : Value} (h : ROut W L O vv ov) (hq : Below W.heap.size W q) : ROut q L O vv ov := h.cells fun b o hb => hq.cell (p := ⟨b, o, none⟩) hb
theorem FOut.rout {W : World} {base : Nat} {L : List Ps} {O : List Nu} {vv ov : Value} (h : FOut W base L O vv ov) : ROut W L O vv ov := by
  obtain ⟨⟨X, h1, h2, h3⟩, h4⟩ := h
  exact ⟨⟨X, h1, Sl.of_own h2, fun x hx => ⟨Sl.of_own (h3 x hx).e, Sl.of_own (h3 x hx).o⟩⟩, Sl.of_own h4⟩
theorem ROut.len {W : World} {L : List Ps} {O : List Nu} {vv ov : Value} (h : ROut W L O vv ov) : (∃ p c, vv = .slice p L.length c) ∧ ∃ p c, ov = .slice p O.length c := by
  obtain ⟨⟨X, h1, h2, h3⟩, h4⟩ := h
  obtain ⟨b, off, p, cap, hv, _⟩ := h2
  obtain ⟨b2, off2, p2, cap2, hv2, _⟩ := h4
  refine ⟨⟨p, cap, ?_⟩, p2, cap2, hv2⟩
  rw [← h1, List.length_map]
  exact hv
theorem ROut.visits {w' : World} {L : List Ps} {O : List Nu} {p : Option Addr} {c : Nat} {ov : Value} (h : ROut w' L O (.slice p L.length c) ov) : ∃ (b off : Nat) (X : List Sv), X.map Sv.p = L ∧ (0 < L.length → p = some ⟨b, off, none⟩) ∧
    (∀ (k : Nat) (hk : k < X.length) (r : Nat) (u : Value), ((X[k]'hk).cs)[r]? = some u → w'.cell? ⟨b, off + (k * 4 + r), none⟩ = some u) ∧ ∀ x ∈ X, Sl w' x.ev Nu.cs x.p.r.e ∧ Sl w' x.ov Nu.cs x.p.r.o := by
  obtain ⟨⟨X, rfl, h2, h3⟩, h4⟩ := h
  rw [List.length_map] at h2 ⊢
  obtain ⟨b, off, q, cap, hv, hp, hc⟩ := h2.open Sv.cs_len
  injection hv with hv _ _
  subst hv
  exact ⟨b, off, X, rfl, hp, hc, h3⟩

theorem sl_len {α : Type} {enc : α → List Value} {W : World} {v : Value} {L : List α} (h : Sl W v enc L) : ∃ p c, v = .slice p L.length c := by
  obtain ⟨b, off, p, cap, hv, _⟩ := h
  exact ⟨p, cap, hv⟩
theorem three0 {W : World} {B : Nat} {v0 v1 v2 : Value} {t : TypeId} (h : W.heap[B]? = some (.cells #[v0, v1, v2] t (0, 0))) :
    W.cell? ⟨B, 0, none⟩ = some v0 ∧ W.cell? ⟨B, 1, none⟩ = some v1 ∧ W.cell? ⟨B, 2, none⟩ = some v2 ∧ B < W.heap.size :=
  ⟨(cell_of_row W B 0 _ t (0, 0) h).trans rfl, (cell_of_row W B 1 _ t (0, 0) h).trans rfl, (cell_of_row W B 2 _ t (0, 0) h).trans rfl, lt_of_some h⟩

theorem set3 {q : World} {B : Nat} {t : TypeId} {a0 a1 a2 : Value} (b0 b1 b2 : Value) (h : q.heap[B]? = some (.cells #[a0, a1, a2] t (0, 0))) :
    (((q.setCell ⟨B, 0, none⟩ b0).setCell ⟨B, 1, none⟩ b1).setCell ⟨B, 2, none⟩ b2).heap[B]? = some (.cells #[b0, b1, b2] t (0, 0)) := by
  have h1 := heap_setCell_same _ B 0 _ t b0 h
  have h2 := heap_setCell_same _ B 1 _ t b1 h1
  exact heap_setCell_same _ B 2 _ t b2 h2

def boxS (w : World) (A B : Array Value) : World := (w.alloc (.cells A 90)).alloc (.cells B 35)
theorem boxS_below (w : World) (A B : Array Value) : Below w.heap.size w (boxS w A B) := ((Below.refl _ _).alloc (Nat.le_refl _) _).alloc (by simp) _
theorem boxS_a (w : World) (A B : Array Value) : (boxS w A B).heap[w.heap.size]? = some (.cells A 90 (0, 0)) := by
  unfold boxS
  rw [heap_alloc_old _ _ (by simp)]
  exact heap_alloc_new _ _
theorem boxS_b (w : World) (A B : Array Value) : (boxS w A B).heap[w.heap.size + 1]? = some (.cells B 35 (0, 0)) := by
  unfold boxS
  rw [show w.heap.size + 1 = (w.alloc (.cells A 90)).heap.size by simp]
  exact heap_alloc_new _ _

end Go.Proofs.YtaaklejkngpddaaGreat.Pr

namespace Go.Proofs.YtaaklejkngpddaaGreat.Pr
set_option linter.unusedVariables false
set_option linter.unusedSimpArgs false
open Go Go.RowKit

theorem svr_info : (Tryz.prog.info? 38).map (fun i => (i.zero, i.size, i.bytes)) = some (some (.agg #[.int .i64 0, .slice none 0 0, .int .i64 0, .slice none 0 0]), 4, 64) := by kernel_rfl

/-- Rows that lay there before, or are the call's own. -/
def Wh (w wr : World) (v : Value) (L : List Nu) : Prop := (Sl w v Nu.cs L ∧ NilOk v) ∨ wr.ownsRow (w.heap.size + 1 + 1 + 1 + 1) 44 2 v L.length (L.flatMap Nu.cs)
theorem Wh.sl {w wr : World} {v : Value} {L : List Nu} (h : Wh w wr v L) (hB : Below w.heap.size w wr) : Sl wr v Nu.cs L := by
  rcases h with h | h
  · exact h.1.below hB
  · exact Sl.of_own h
theorem Wh.nil {w wr : World} {v : Value} {L : List Nu} (h : Wh w wr v L) : NilOk v := by
  rcases h with h | h
  · exact h.2
  · exact NilOk.own h
theorem Wh.len {w wr : World} {v : Value} {L : List Nu} (h : Wh w wr v L) : ∃ p c, v = .slice p L.length c := by
  rcases h with h | h
  · obtain ⟨b, off, p, cap, hv, _⟩ := h.1
    exact ⟨p, cap, hv⟩
  · exact own_len h
theorem Wh.below {w wr q : World} {v : Value} {L : List Nu} (h : Wh w wr v L) (hq : Below wr.heap.size wr q) : Wh w q v L := by
  rcases h with h | h
  · exact .inl h
  · exact .inr (own_below h hq)
theorem Wh.set {w wr : World} {v u : Value} {L : List Nu} {B j : Nat} (h : Wh w wr v L) (hB : B < w.heap.size + 1 + 1 + 1 + 1) : Wh w (wr.setCell ⟨B, j, none⟩ u) v L := by
  rcases h with h | h
  · exact .inl h
  · exact .inr (ownsRow_setCell_other h (ownNL h hB) _)
theorem Wh.kept {w wr w6 : World} {v v2 : Value} {L : List Nu} {b2 n : Nat} {xs : List Value} (h : Wh w wr v L) (hv : wr.ownsRow b2 38 4 v2 n xs) (hg : wr.grownBy w6 v2.ownBlock) : Wh w w6 v L := by
  rcases h with h | h
  · exact .inl h
  · exact .inr (h.kept hg (ownTy h hv (by decide)))

structure RF (w : World) (pv : Value) (X : List Sv) (cur : Ps) (wr : World) (vv ev ov : Value) : Prop where
  pb : wr.heap[w.heap.size]? = some (.cells #[pv] 24 (0, 0))
  sb : wr.heap[w.heap.size + 1]? = some (.cells #[.int .i64 cur.b, ev, .int .i64 cur.r.i, ov] 38 (0, 0))
  rb : wr.heap[w.heap.size + 1 + 1]? = some (.cells #[.slice none 0 0, .slice none 0 0, .bool false] 35 (0, 0))
  ob : wr.heap[w.heap.size + 1 + 1 + 1]? = some (.cells #[vv, .slice none 0 0, .bool false] 35 (0, 0))
  row : wr.ownsRow (w.heap.size + 1 + 1 + 1 + 1) 38 4 vv X.length (X.flatMap Sv.cs)
  ce : Wh w wr ev cur.r.e
  co : Wh w wr ov cur.r.o
  xr : ∀ x ∈ X, Wh w wr x.ev x.p.r.e ∧ Wh w wr x.ov x.p.r.o
  be : Below w.heap.size w wr

theorem RF.below {w : World} {pv : Value} {X : List Sv} {cur : Ps} {wr q : World} {vv ev ov : Value} (h : RF w pv X cur wr vv ev ov) (hq : Below wr.heap.size wr q) : RF w pv X cur q vv ev ov :=
  ⟨blk_next hq h.pb, blk_next hq h.sb, blk_next hq h.rb, blk_next hq h.ob, own_below h.row hq, h.ce.below hq, h.co.below hq, fun x hx => ⟨(h.xr x hx).1.below hq, (h.xr x hx).2.below hq⟩, nextB hq h.be⟩

/-- Another state to go on from. -/
theorem RF.move {w : World} {pv : Value} {X : List Sv} {cur : Ps} {wr : World} {vv ev ov ev2 ov2 : Value} (h : RF w pv X cur wr vv ev ov) (b2 : Int) (r2 : Rs) (hR : Rn (w.heap.size + 1 + 1 + 1 + 1) wr ev2 ov2 r2) :
    RF w pv X ⟨b2, r2⟩ ((((wr.setCell ⟨w.heap.size + 1, 0, none⟩ (.int .i64 b2)).setCell ⟨w.heap.size + 1, 1, none⟩ ev2).setCell ⟨w.heap.size + 1, 2, none⟩ (.int .i64 r2.i)).setCell ⟨w.heap.size + 1, 3, none⟩ ov2) vv ev2 ov2 := by
  have hl : w.heap.size + 1 < w.heap.size + 1 + 1 + 1 + 1 := by omega
  have hR4 := (((hR.set (j := 0) (u := .int .i64 b2) hl).set (j := 1) (u := ev2) hl).set (j := 2) (u := .int .i64 r2.i) hl).set (j := 3) (u := ov2) hl
  refine ⟨(set4_other _ _ _ _ (by omega)).trans h.pb, set4 _ _ _ _ h.sb, (set4_other _ _ _ _ (by omega)).trans h.rb, (set4_other _ _ _ _ (by omega)).trans h.ob, ?_, .inr hR4.e, .inr hR4.o, fun x hx => ⟨((((h.xr x hx).1.set hl).set hl).set hl).set hl, ((((h.xr x hx).2.set hl).set hl).set hl).set hl⟩,
    (((h.be.setCell (p := ⟨w.heap.size + 1, 0, none⟩) (Nat.le_succ _) _).setCell (p := ⟨w.heap.size + 1, 1, none⟩) (Nat.le_succ _) _).setCell (p := ⟨w.heap.size + 1, 2, none⟩) (Nat.le_succ _) _).setCell (p := ⟨w.heap.size + 1, 3, none⟩) (Nat.le_succ _) _⟩
  have hn : vv.ownBlock ≠ some (w.heap.size + 1) := ownNL h.row hl
  exact ownsRow_setCell_other (ownsRow_setCell_other (ownsRow_setCell_other (ownsRow_setCell_other h.row hn _) hn _) hn _) hn _

/-- The present state is kept. -/
theorem RF.visit {w : World} {pv : Value} {X : List Sv} {cur : Ps} {wr w6 : World} {vv ev ov v' : Value} (h : RF w pv X cur wr vv ev ov)
    (hg : wr.grownBy w6 vv.ownBlock) (ho : w6.ownsRow (w.heap.size + 1 + 1 + 1 + 1) 38 4 v' (X.length + 1) (X.flatMap Sv.cs ++ [.int .i64 cur.b, ev, .int .i64 cur.r.i, ov])) : RF w pv (X ++ [⟨cur, ev, ov⟩]) cur (w6.setCell ⟨w.heap.size + 1 + 1 + 1, 0, none⟩ v') v' ev ov := by
  have hne : ∀ k, k < w.heap.size + 1 + 1 + 1 + 1 → some k ≠ vv.ownBlock := fun k hk he => by
    have := (h.row.lt k he.symm).1
    omega
  have hl : w.heap.size + 1 + 1 + 1 < w.heap.size + 1 + 1 + 1 + 1 := Nat.lt_succ_self _
  have g1 := (hg.block _ (lt_of_some h.pb) (hne _ (by omega))).trans h.pb
  have g2 := (hg.block _ (lt_of_some h.sb) (hne _ (by omega))).trans h.sb
  have g3 := (hg.block _ (lt_of_some h.rb) (hne _ (by omega))).trans h.rb
  have g4 := (hg.block _ (lt_of_some h.ob) (hne _ (by omega))).trans h.ob
  have k1 := (h.ce.kept h.row hg).set (j := 0) (u := v') hl
  have k2 := (h.co.kept h.row hg).set (j := 0) (u := v') hl
  refine ⟨(heap_setCell_other _ _ _ _ (by show w.heap.size ≠ w.heap.size + 1 + 1 + 1; omega)).trans g1, (heap_setCell_other _ _ _ _ (by show w.heap.size + 1 ≠ w.heap.size + 1 + 1 + 1; omega)).trans g2, (heap_setCell_other _ _ _ _ (by show w.heap.size + 1 + 1 ≠ w.heap.size + 1 + 1 + 1; omega)).trans g3,
    heap_setCell_same _ _ 0 _ _ v' g4, ?_, k1, k2, fun y hy => ?_, ?_⟩
  · rw [flat_snocX, List.length_append]
    exact ownsRow_setCell_other ho (ownNL ho hl) _
  · rcases List.mem_append.1 hy with hy | hy
    · exact ⟨((h.xr y hy).1.kept h.row hg).set hl, ((h.xr y hy).2.kept h.row hg).set hl⟩
    · obtain rfl := List.mem_singleton.1 hy
      exact ⟨k1, k2⟩
  · exact (Below.grown (w := _) h.be hg h.be.size (fun q hq => by have := (h.row.lt q hq).1; omega)).setCell (p := ⟨w.heap.size + 1 + 1 + 1, 0, none⟩) (by show w.heap.size ≤ w.heap.size + 1 + 1 + 1; omega) _

theorem RF.fin {w : World} {pv : Value} {X : List Sv} {cur : Ps} {wr : World} {vv ev ov : Value} (h : RF w pv X cur wr vv ev ov) (u1 u2 u3 u4 u5 : Value) :
    ROut (((((wr.setCell ⟨w.heap.size + 1 + 1 + 1, 1, none⟩ u1).setCell ⟨w.heap.size + 1 + 1 + 1, 2, none⟩ u2).setCell ⟨w.heap.size + 1 + 1, 0, none⟩ u3).setCell ⟨w.heap.size + 1 + 1, 1, none⟩ u4).setCell ⟨w.heap.size + 1 + 1, 2, none⟩ u5) (X.map Sv.p) cur.r.o vv ov ∧
      Below w.heap.size w (((((wr.setCell ⟨w.heap.size + 1 + 1 + 1, 1, none⟩ u1).setCell ⟨w.heap.size + 1 + 1 + 1, 2, none⟩ u2).setCell ⟨w.heap.size + 1 + 1, 0, none⟩ u3).setCell ⟨w.heap.size + 1 + 1, 1, none⟩ u4).setCell ⟨w.heap.size + 1 + 1, 2, none⟩ u5) := by
  have l1 : w.heap.size + 1 + 1 + 1 < w.heap.size + 1 + 1 + 1 + 1 := by omega
  have l2 : w.heap.size + 1 + 1 < w.heap.size + 1 + 1 + 1 + 1 := by omega
  have hbe := ((((h.be.setCell (p := ⟨w.heap.size + 1 + 1 + 1, 1, none⟩) (by show w.heap.size ≤ w.heap.size + 1 + 1 + 1; omega) u1).setCell (p := ⟨w.heap.size + 1 + 1 + 1, 2, none⟩) (by show w.heap.size ≤ w.heap.size + 1 + 1 + 1; omega) u2).setCell (p := ⟨w.heap.size + 1 + 1, 0, none⟩) (by show w.heap.size ≤ w.heap.size + 1 + 1; omega) u3).setCell (p := ⟨w.heap.size + 1 + 1, 1, none⟩) (by show w.heap.size ≤ w.heap.size + 1 + 1; omega) u4).setCell (p := ⟨w.heap.size + 1 + 1, 2, none⟩) (by show w.heap.size ≤ w.heap.size + 1 + 1; omega) u5
  have n1 := ownNL h.row l1
  have n2 := ownNL h.row l2
  have hf : ∀ v L, Wh w wr v L → Wh w (((((wr.setCell ⟨w.heap.size + 1 + 1 + 1, 1, none⟩ u1).setCell ⟨w.heap.size + 1 + 1 + 1, 2, none⟩ u2).setCell ⟨w.heap.size + 1 + 1, 0, none⟩ u3).setCell ⟨w.heap.size + 1 + 1, 1, none⟩ u4).setCell ⟨w.heap.size + 1 + 1, 2, none⟩ u5) v L := fun v L hv => ((((hv.set l1).set l1).set l2).set l2).set l2
  exact ⟨⟨⟨X, rfl, Sl.of_own (ownsRow_setCell_other (ownsRow_setCell_other (ownsRow_setCell_other (ownsRow_setCell_other (ownsRow_setCell_other h.row n1 _) n1 _) n2 _) n2 _) n2 _), fun x hx => ⟨(hf _ _ (h.xr x hx).1).sl hbe, (hf _ _ (h.xr x hx).2).sl hbe⟩⟩, (hf _ _ h.co).sl hbe⟩, hbe⟩

theorem gn_pair {P : Program} {f : FuncId} {args : Array Value} {W : World} {b i g : Value} {r : Rs} (h : Calls P f args W fun e w' => ∃ ev ov, e = .returned (.tuple #[.agg #[b, ev, i, ov], g]) ∧ Rn W.heap.size w' ev ov r ∧ Below W.heap.size W w') :
    Calls P f args W fun e w' => ∃ x : Value × Value, e = .returned ((fun x : Value × Value => Value.tuple #[.agg #[b, x.1, i, x.2], g]) x) ∧ (fun (x : Value × Value) W2 => Rn W.heap.size W2 x.1 x.2 r) x w' ∧ Below W.heap.size W w' :=
  h.mono fun e w' ⟨ev, ov, he, hr, hb⟩ => ⟨(ev, ov), he, hr, hb⟩

set_option maxRecDepth 100000 in
set_option maxHeartbeats 8000000 in
theorem rfrom_any (P : List Bl) (I : List Nu) (s0 : Ps) (hok : ChkS P s0.b s0.r.e.length s0.r.i = 0) (hol : s0.r.o.length ≤ 1000) (hil : I.length ≤ 1000000) (most : Int) (pv ev ov iv : Value) (w : World) (h : Pg w pv P) (h12 : P.length ≤ 12) (hl12 : ∀ b ∈ P, b.l.length ≤ 12) (hI : Sl w iv Nu.cs I) (hE : Sl w ev Nu.cs s0.r.e) (hO : Sl w ov Nu.cs s0.r.o) (hz1 : NilOk ev) (hz2 : NilOk ov) :
    Calls Tryz.prog 9 #[.agg #[pv], .agg #[.int .i64 s0.b, ev, .int .i64 s0.r.i, ov], iv, .int .i64 most] w fun e w' => ∃ vv ov', e = .returned (.agg #[vv, ov', .bool (!(fromS P I (capN most) s0 true).2.2)]) ∧
      ROut w' (fromS P I (capN most) s0 true).1 (fromS P I (capN most) s0 true).2.1.r.o vv ov' ∧ Below w.heap.size w w' := by
  obtain ⟨b0, r0⟩ := s0
  obtain ⟨hc0, t1, t2, t3, t4⟩ := chk_ok hok
  have o1 : 0 ≤ b0 := t1
  have o2 : b0 < P.length := t2
  have o3 : r0.e.length = (vars P).length := t3
  have o4 : 0 ≤ r0.i := t4
  clear t1 t2 t3 t4
  have hel : r0.e.length ≤ 1000 := by have := (proper_vars hc0).1; omega
  have hol : r0.o.length ≤ 1000 := hol
  have hE : Sl w ev Nu.cs r0.e := hE
  have hO : Sl w ov Nu.cs r0.o := hO
  obtain ⟨p, cap, rfl⟩ : ∃ p cap, pv = .slice p P.length cap := by obtain ⟨b, off, p, cap, hv, _⟩ := h.1; exact ⟨p, cap, hv⟩
  obtain ⟨ip, ic, rfl⟩ : ∃ p cap, iv = .slice p I.length cap := by obtain ⟨b, off, p, cap, hv, _⟩ := hI; exact ⟨p, cap, hv⟩
  obtain ⟨N, hN⟩ : ∃ N, capN most = N := ⟨_, rfl⟩
  have hN1 : (min (max most 0) 4096).toNat = N := hN
  have hN2 : N ≤ 4096 := by omega
  rw [hN]
  obtain ⟨L, O, g', hLO⟩ : ∃ L O g, (fromS P I N ⟨b0, r0⟩ true).1 = L ∧ (fromS P I N ⟨b0, r0⟩ true).2.1.r.o = O ∧ (fromS P I N ⟨b0, r0⟩ true).2.2 = g := ⟨_, _, _, rfl, rfl, rfl⟩
  rw [hLO.1, hLO.2.1, hLO.2.2]
  have hLO := And.intro True.intro hLO
  have hH := And.intro True.intro (And.intro h hI)
  have hF0 : RF w (.slice p P.length cap) [] ⟨b0, r0⟩ ((((w.alloc (.cells #[.slice p P.length cap] 24)).alloc (.cells #[.int .i64 b0, ev, .int .i64 r0.i, ov] 38)).alloc (.cells #[.slice none 0 0, .slice none 0 0, .bool false] 35)).alloc (.cells #[.slice none 0 0, .slice none 0 0, .bool false] 35)) (.slice none 0 0) ev ov := by
    refine ⟨?_, ?_, ?_, ?_, World.ownsRow_nil _ _ _ _, .inl ⟨hE, hz1⟩, .inl ⟨hO, hz2⟩, fun x hx => by simp at hx, ?_⟩
    · rw [heap_alloc_old _ _ (by simp; try omega), heap_alloc_old _ _ (by simp; try omega), heap_alloc_old _ _ (by simp)]
      exact heap_alloc_new _ _
    · rw [heap_alloc_old _ _ (by simp; try omega), heap_alloc_old _ _ (by simp; try omega), show w.heap.size + 1 = (w.alloc (.cells #[.slice p P.length cap] 24)).heap.size by simp]
      exact heap_alloc_new _ _
    · rw [heap_alloc_old _ _ (by simp; try omega), show w.heap.size + 1 + 1 = ((w.alloc (.cells #[.slice p P.length cap] 24)).alloc (.cells #[.int .i64 b0, ev, .int .i64 r0.i, ov] 38)).heap.size by simp]
      exact heap_alloc_new _ _
    · rw [show w.heap.size + 1 + 1 + 1 = (((w.alloc (.cells #[.slice p P.length cap] 24)).alloc (.cells #[.int .i64 b0, ev, .int .i64 r0.i, ov] 38)).alloc (.cells #[.slice none 0 0, .slice none 0 0, .bool false] 35)).heap.size by simp]
      exact heap_alloc_new _ _
    · exact ((((Below.refl _ _).alloc (Nat.le_refl _) _).alloc (by simp) _).alloc (by simp; omega) _).alloc (by simp; omega) _
  obtain ⟨ep, ec, rfl⟩ : ∃ p cap, ev = .slice p r0.e.length cap := by obtain ⟨b, off, p, cap, hv, _⟩ := hE; exact ⟨p, cap, hv⟩
  obtain ⟨op, oc, rfl⟩ : ∃ p cap, ov = .slice p r0.o.length cap := by obtain ⟨b, off, p, cap, hv, _⟩ := hO; exact ⟨p, cap, hv⟩
  have hs0 : OkS P ⟨b0, r0⟩ := ⟨o1, o2, o3, o4⟩
  have ho3 : Hid (r0.e.length = (vars P).length) := o3
  have hNN : Hid ((min (max most 0) 4096).toNat = N) := hN1
  clear h hI hE hO hN o3 hok hz1 hz2 hN1
  go_enter Tryz.func9, Tryz.ntmps9
  go_wp2_with fail
  go_loopw [10, 11] (fun gv i wr => ∃ (X : List Sv) (cur : Ps) (g : Bool) (vv ev ov : Value) (n : Nat), i = .int .i64 X.length ∧ gv = .bool g ∧ RF w (.slice p P.length cap) X cur wr vv ev ov ∧ X.length + n = N ∧ OkS P cur ∧ cur.r.o.length ≤ r0.o.length + 12 * X.length ∧
    fromS P I N ⟨b0, r0⟩ true = (X.map Sv.p ++ (fromS P I n cur g).1, (fromS P I n cur g).2)) (fun _ i _ => 4096 - (intOf i).toNat)
  case atStart => exact ⟨[], ⟨b0, r0⟩, true, .slice none 0 0, _, _, N, rfl, rfl, hF0, by simp, hs0, by simp, by simp⟩
  case round =>
    obtain ⟨X, cur, g, vv, ev, ov, n, rfl, rfl, hF, hn, hok, hco, hfr⟩ := hrel
    clear hF0
    obtain ⟨zp, zc, rfl⟩ := own_len hF.row
    obtain ⟨xp, xc, rfl⟩ := hF.ce.len
    obtain ⟨yp, yc, rfl⟩ := hF.co.len
    have b0' : wr.cell? ⟨w.heap.size + 1 + 1 + 1, 0, none⟩ = some (.slice zp X.length zc) := cell_of_row wr _ 0 _ _ (0, 0) hF.ob
    have b1 : wr.cell? ⟨w.heap.size + 1 + 1 + 1, 1, none⟩ = some (.slice none 0 0) := cell_of_row wr _ 1 _ _ (0, 0) hF.ob
    have b2 : wr.cell? ⟨w.heap.size + 1 + 1 + 1, 2, none⟩ = some (.bool false) := cell_of_row wr _ 2 _ _ (0, 0) hF.ob
    have bl := lt_of_some hF.ob
    have bf1 := frozen_of_row wr (w.heap.size + 1 + 1 + 1) 1 _ _ hF.ob
    have bf2 := frozen_of_row wr (w.heap.size + 1 + 1 + 1) 2 _ _ hF.ob
    obtain ⟨j0, j1, j2, j3, jf, jl⟩ := four hF.sb
    have hnn : X.length ≤ N := by omega
    obtain ⟨r0', r1', r2', rf, rl⟩ := three hF.rb
    have rf0 := rf 0
    have rf1 := rf 1
    have rf2 := rf 2
    have hN1 : (min (max most 0) 4096).toNat = N := hNN
    have hfin : fromS P I n cur g = ([], cur, g) → X.map Sv.p = L ∧ cur.r.o = O ∧ g = g' := fun hz => by
      rw [hfr, hz] at hLO
      simpa using hLO.2
    by_cases hlt : g = true ∧ X.length < N
    · obtain ⟨rfl, hlt⟩ := hlt
      have ht1 : (X.length : Int) < most := by omega
      have ht2 : (X.length : Int) < 4096 := by omega
      clear hfin hN1
      obtain ⟨n, rfl⟩ : ∃ m, n = m + 1 := ⟨n - 1, by omega⟩
      obtain ⟨cb, cr⟩ := cur
      have hok2 := hok
      obtain ⟨h1, h2, h3, h4⟩ := hok2
      obtain ⟨kb, rfl⟩ : ∃ k : Nat, cb = k := ⟨cb.toNat, (Int.toNat_of_nonneg h1).symm⟩
      have hkb : kb < P.length := by have : (kb : Int) < P.length := h2; omega
      have hcel : cr.e.length ≤ 1000 := by have := (proper_vars hc0).1; have : cr.e.length = _ := h3; omega
      have hcol : cr.o.length ≤ 89000 := by have : cr.o.length ≤ r0.o.length + 12 * X.length := hco; omega
      have hao := adv_ok (I := I) hc0 hl12 hok
      rw [adv_at hkb] at hao
      rw [fromS_succ, adv_at hkb] at hfr
      have hci : 0 ≤ cr.i := h4
      have hrun := fun (W : World) (hB : Below w.heap.size w W) ev ov hE hO hz1 hz2 => rn_pair (rrun_any P I kb hkb cr hc0 h3 (by omega) hci hil _ ev ov _ W (hH.2.1.below hB) h12 hl12 (hH.2.2.below hB) hE hO hz1 hz2)
      have hr1 : (runB P I cr (P[kb]'hkb).l).e.length ≤ 1000 ∧ (runB P I cr (P[kb]'hkb).l).o.length ≤ 90000 := by
        have q1 := runB_len P I (P[kb]'hkb).l cr
        have q2 := hl12 _ (List.getElem_mem hkb)
        omega
      have hgo := fun (W : World) (hB : Below w.heap.size w W) ev ov hE hO hz1 hz2 => rgo_any P kb hkb (runB P I cr (P[kb]'hkb).l) hc0 hr1.1 hr1.2 _ ev ov W (hH.2.1.below hB) h12 hl12 hE hO hz1 hz2
      generalize nextI P (P[kb]'hkb) (runB P I cr (P[kb]'hkb).l).e kb = N2 at hao hfr hgo
      generalize goesB (P[kb]'hkb) = G2 at hao hfr hgo
      generalize runB P I cr (P[kb]'hkb).l = r1 at hao hfr hgo hrun hr1
      have hgo := fun (W : World) (hB : Below w.heap.size w W) ev ov hE hO hz1 hz2 => gn_pair (hgo W hB ev ov hE hO hz1 hz2)
      clear h3
      obtain ⟨i0, hi, hz0, hz1, hz2⟩ := info_parts svr_info
      have hFa := hF.below ((Below.refl wr.heap.size wr).alloc (Nat.le_refl _) (.cells #[.int .i64 kb, .slice xp cr.e.length xc, .int .i64 cr.i, .slice yp cr.o.length yc] 38))
      go_wp2_with (at_builtin; refine wpList_append_own _ rfl _ _ 33 rfl (w.heap.size + 1 + 1 + 1 + 1) 38 i0 (.agg #[.int .i64 0, .slice none 0 0, .int .i64 0, .slice none 0 0]) 4 64 Tryz.underlying33 hi hz0 hz1 hz2 rfl (by decide) _ X.length (X.flatMap Sv.cs) rfl hFa.row _ 1 1 [.int .i64 kb, .slice xp cr.e.length xc, .int .i64 cr.i, .slice yp cr.o.length yc] rfl rfl (news_at rfl) (by intro u hu; simp at hu; rcases hu with rfl | rfl | rfl | rfl <;> rfl) (by unfold maxLen; omega) (by omega) (by have := lt_of_some hFa.ob; omega) ?_; intro v6 W6 ho6 hg6 hv6; obtain ⟨wp6, wc6, rfl⟩ := own_len ho6; have hFn := hFa.visit hg6 ho6; have g4 := (hg6.block (w.heap.size + 1 + 1 + 1) (lt_of_some hFa.ob) (fun he => by have := (hFa.row.lt _ he.symm).1; omega)).trans hFa.ob; obtain ⟨t0, t1, t2, tf, tl⟩ := three g4; have tf0 := tf 0)
      obtain ⟨q, hq⟩ : ∃ q, q = W6.setCell ⟨w.heap.size + 1 + 1 + 1, 0, none⟩ (.slice wp6 (X.length + 1) wc6) := ⟨_, rfl⟩
      rw [← hq] at hFn
      rw [← hq]
      clear hq hg6 ho6 hv6 g4 t0 t1 t2 tf tl tf0 b0' b1 b2 bl bf1 bf2 j0 j1 j2 j3 jf jl r0' r1' r2' rf rl rf0 rf1 rf2 hFa hF
      have hFd := hFn.below ((Below.refl q.heap.size q).drew)
      have hp0 := cell_of_one hFd.pb
      have pl0 := lt_of_some hFd.pb
      obtain ⟨k0, k1, k2, k3, kf, kl⟩ := four hFd.sb
      have kz := lt_of_some hFd.ob
      first | (go_region_law (first | (refine stepSG rfl 33 #[.agg #[.slice p P.length cap], .agg #[.int .i64 kb, .slice xp cr.e.length xc, .int .i64 cr.i, .slice yp cr.o.length yc], .slice ip I.length ic] (fun x : Value × Value => Value.agg #[.int .i64 kb, x.1, .int .i64 r1.i, x.2]) (fun (x : Value × Value) W2 => Rn q.drew.heap.size W2 x.1 x.2 r1) ?hop3 (hrun q.drew hFd.be _ _ (hFd.ce.sl hFd.be) (hFd.co.sl hFd.be) hFd.ce.nil hFd.co.nil) ?_; (case hop3 => (go_simp; done)); rintro ⟨ev1, ov1⟩ q1 hR1 hq1; have hR1 : Rn q.drew.heap.size q1 ev1 ov1 r1 := hR1; obtain ⟨xp1, xc1, rfl⟩ := own_len hR1.e; obtain ⟨yp1, yc1, rfl⟩ := own_len hR1.o; have hF3 := hFd.below hq1; have hp1 := cell_of_one hF3.pb; have pl1 := lt_of_some hF3.pb) | (refine stepSG rfl 32 #[.agg #[.slice p P.length cap], .agg #[.int .i64 kb, .slice xp1 r1.e.length xc1, .int .i64 r1.i, .slice yp1 r1.o.length yc1]] (fun x : Value × Value => Value.tuple #[.agg #[.int .i64 N2, x.1, .int .i64 r1.i, x.2], .bool G2]) (fun (x : Value × Value) W2 => Rn q1.heap.size W2 x.1 x.2 r1) ?hop2 (hgo q1 hF3.be _ _ (Sl.of_own hR1.e) (Sl.of_own hR1.o) (NilOk.own hR1.e) (NilOk.own hR1.o)) ?_; (case hop2 => (go_simp; done)); rintro ⟨ev2, ov2⟩ q2 hR2 hq2; have hR2 : Rn q1.heap.size q2 ev2 ov2 r1 := hR2; obtain ⟨xp2, xc2, rfl⟩ := own_len hR2.e; obtain ⟨yp2, yc2, rfl⟩ := own_len hR2.o; have hF4 := hF3.below hq2; obtain ⟨m0, m1, m2, m3, mf, ml⟩ := four hF4.sb; have mf0 := mf 0; have mf1 := mf 1; have mf2 := mf 2; have mf3 := mf 3))) | fail
      all_goals (
        have hk1 : w.heap.size + 1 + 1 + 1 < q1.heap.size := lt_of_some hF3.ob
        have hFm := hF4.move N2 r1 (hR2.base (by omega))
        clear hp0 pl0 k0 k1 k2 k3 kf kl kz hq1 hR1 hF3 hp1 pl1 hq2 hF4 hR2 hFd hFn hrun hgo hk1
        go_wp2_with fail
        go_roundw
        have hro : r1.o.length ≤ cr.o.length + 12 := hao.2
        have hco' : cr.o.length ≤ r0.o.length + 12 * X.length := hco
        case rel => exact ⟨_, ⟨N2, r1⟩, G2, _, _, _, n, by simp, rfl, hFm, by simp; omega, hao.1, (by simp; omega), (by rw [hfr]; simp)⟩
        case measure => simp [intOf]; omega)
    · have hz : fromS P I n cur g = ([], cur, g) := by
        cases g with
        | false => exact fromS_false P I n cur
        | true =>
          have : n = 0 := by
            have h9 : ¬ X.length < N := fun h => hlt ⟨rfl, h⟩
            omega
          subst this
          rfl
      obtain ⟨e1, e2, e3⟩ := hfin hz
      have hcase : (¬ (X.length : Int) < most) ∨ ((X.length : Int) < most ∧ ¬ (X.length : Int) < 4096) ∨ ((X.length : Int) < most ∧ (X.length : Int) < 4096 ∧ g = false) := by
        by_cases q1 : (X.length : Int) < most
        · by_cases q2 : (X.length : Int) < 4096
          · refine .inr (.inr ⟨q1, q2, ?_⟩)
            cases g with
            | false => rfl
            | true => exact absurd ⟨rfl, by omega⟩ hlt
          · exact .inr (.inl ⟨q1, q2⟩)
        · exact .inl q1
      clear hfin hz hfr hLO hlt hN1 hNN
      subst e1 e2 e3
      rcases hcase with q1 | ⟨q1, q2⟩ | ⟨q1, q2, rfl⟩
      · cases g
        · go_wp2_with fail
          obtain ⟨f1, f2⟩ := hF.fin (.slice yp cur.r.o.length yc) (.bool true) (.slice zp X.length zc) (.slice yp cur.r.o.length yc) (.bool true)
          refine bodyPost_ret (v := .agg #[.slice zp X.length zc, .slice yp cur.r.o.length yc, .bool true]) (by simp only [results, Tryz.results9]; go_simp) rfl ⟨_, _, rfl, f1, f2⟩
        · go_wp2_with fail
          obtain ⟨f1, f2⟩ := hF.fin (.slice yp cur.r.o.length yc) (.bool false) (.slice zp X.length zc) (.slice yp cur.r.o.length yc) (.bool false)
          refine bodyPost_ret (v := .agg #[.slice zp X.length zc, .slice yp cur.r.o.length yc, .bool false]) (by simp only [results, Tryz.results9]; go_simp) rfl ⟨_, _, rfl, f1, f2⟩
      · cases g
        · go_wp2_with fail
          obtain ⟨f1, f2⟩ := hF.fin (.slice yp cur.r.o.length yc) (.bool true) (.slice zp X.length zc) (.slice yp cur.r.o.length yc) (.bool true)
          refine bodyPost_ret (v := .agg #[.slice zp X.length zc, .slice yp cur.r.o.length yc, .bool true]) (by simp only [results, Tryz.results9]; go_simp) rfl ⟨_, _, rfl, f1, f2⟩
        · go_wp2_with fail
          obtain ⟨f1, f2⟩ := hF.fin (.slice yp cur.r.o.length yc) (.bool false) (.slice zp X.length zc) (.slice yp cur.r.o.length yc) (.bool false)
          refine bodyPost_ret (v := .agg #[.slice zp X.length zc, .slice yp cur.r.o.length yc, .bool false]) (by simp only [results, Tryz.results9]; go_simp) rfl ⟨_, _, rfl, f1, f2⟩
      · go_wp2_with fail
        obtain ⟨f1, f2⟩ := hF.fin (.slice yp cur.r.o.length yc) (.bool true) (.slice zp X.length zc) (.slice yp cur.r.o.length yc) (.bool true)
        refine bodyPost_ret (v := .agg #[.slice zp X.length zc, .slice yp cur.r.o.length yc, .bool true]) (by simp only [results, Tryz.results9]; go_simp) rfl ⟨_, _, rfl, f1, f2⟩

end Go.Proofs.YtaaklejkngpddaaGreat.Pr
