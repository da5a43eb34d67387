/- WALK of soughlaw08.same: it answers true for runs that are alike. -/
import Derived.Test.YtaaklejkngpddaaExd
namespace Go.Proofs.Ytaaklejkngpddaa.Pr
set_option linter.unusedVariables false
set_option linter.unusedSimpArgs false
open Go Go.RowKit

/-- What a run has told, as far as it is read. -/
structure ROut (w' : World) (L : List Ps) (O : List Nu) (vv ov : Value) : Prop where
  ex : ∃ X : List Sv, X.map Sv.p = L ∧ Sl w' vv Sv.cs X ∧ ∀ x ∈ X, Sl w' x.ev Nu.cs x.p.r.e ∧ Sl w' x.ov Nu.cs x.p.r.o
  ou : Sl w' ov Nu.cs O

theorem slC0 {α : Type} {enc : α → List Value} {W q : World} {v : Value} {L : List α} (h : Sl W v enc L) (hq : ∀ b o, b < W.heap.size → q.cell? ⟨b, o, none⟩ = W.cell? ⟨b, o, none⟩) : Sl q v enc L := by
  obtain ⟨b, off, p, cap, hv, hp, hc⟩ := h
  exact ⟨b, off, p, cap, hv, hp, fun j u hu => (hq b _ (World.block_lt_of_cell? _ _ (hc j u hu))).trans (hc j u hu)⟩
theorem ROut.cells {W q : World} {L : List Ps} {O : List Nu} {vv ov : Value} (h : ROut W L O vv ov) (hq : ∀ b o, b < W.heap.size → q.cell? ⟨b, o, none⟩ = W.cell? ⟨b, o, none⟩) : ROut q L O vv ov := by
  obtain ⟨⟨X, h1, h2, h3⟩, h4⟩ := h
  exact ⟨⟨X, h1, slC0 h2 hq, fun x hx => ⟨slC0 (h3 x hx).1 hq, slC0 (h3 x hx).2 hq⟩⟩, slC0 h4 hq⟩
theorem ROut.below {W q : World} {L : List Ps} {O : List Nu} {vv ov : Value} (h : ROut W L O vv ov) (hq : Below W.heap.size W q) : ROut q L O vv ov := h.cells fun b o hb => hq.cell (p := ⟨b, o, none⟩) hb
theorem FOut.rout {W : World} {base : Nat} {L : List Ps} {O : List Nu} {vv ov : Value} (h : FOut W base L O vv ov) : ROut W L O vv ov := by
  obtain ⟨⟨X, h1, h2, h3⟩, h4⟩ := h
  exact ⟨⟨X, h1, Sl.of_own h2, fun x hx => ⟨Sl.of_own (h3 x hx).e, Sl.of_own (h3 x hx).o⟩⟩, Sl.of_own h4⟩
theorem ROut.len {W : World} {L : List Ps} {O : List Nu} {vv ov : Value} (h : ROut W L O vv ov) : (∃ p c, vv = .slice p L.length c) ∧ ∃ p c, ov = .slice p O.length c := by
  obtain ⟨⟨X, h1, h2, h3⟩, h4⟩ := h
  obtain ⟨b, off, p, cap, hv, _⟩ := h2
  obtain ⟨b2, off2, p2, cap2, hv2, _⟩ := h4
  refine ⟨⟨p, cap, ?_⟩, p2, cap2, hv2⟩
  rw [← h1, List.length_map]
  exact hv
theorem ROut.visits {w' : World} {L : List Ps} {O : List Nu} {p : Option Addr} {c : Nat} {ov : Value} (h : ROut w' L O (.slice p L.length c) ov) : ∃ (b off : Nat) (X : List Sv), X.map Sv.p = L ∧ (0 < L.length → p = some ⟨b, off, none⟩) ∧
    (∀ (k : Nat) (hk : k < X.length) (r : Nat) (u : Value), ((X[k]'hk).cs)[r]? = some u → w'.cell? ⟨b, off + (k * 4 + r), none⟩ = some u) ∧ ∀ x ∈ X, Sl w' x.ev Nu.cs x.p.r.e ∧ Sl w' x.ov Nu.cs x.p.r.o := by
  obtain ⟨⟨X, rfl, h2, h3⟩, h4⟩ := h
  rw [List.length_map] at h2 ⊢
  obtain ⟨b, off, q, cap, hv, hp, hc⟩ := h2.open Sv.cs_len
  injection hv with hv _ _
  subst hv
  exact ⟨b, off, X, rfl, hp, hc, h3⟩

theorem sl_len {α : Type} {enc : α → List Value} {W : World} {v : Value} {L : List α} (h : Sl W v enc L) : ∃ p c, v = .slice p L.length c := by
  obtain ⟨b, off, p, cap, hv, _⟩ := h
  exact ⟨p, cap, hv⟩
theorem three0 {W : World} {B : Nat} {v0 v1 v2 : Value} {t : TypeId} (h : W.heap[B]? = some (.cells #[v0, v1, v2] t (0, 0))) :
    W.cell? ⟨B, 0, none⟩ = some v0 ∧ W.cell? ⟨B, 1, none⟩ = some v1 ∧ W.cell? ⟨B, 2, none⟩ = some v2 ∧ B < W.heap.size :=
  ⟨(cell_of_row W B 0 _ t (0, 0) h).trans rfl, (cell_of_row W B 1 _ t (0, 0) h).trans rfl, (cell_of_row W B 2 _ t (0, 0) h).trans rfl, lt_of_some h⟩

theorem set3 {q : World} {B : Nat} {t : TypeId} {a0 a1 a2 : Value} (b0 b1 b2 : Value) (h : q.heap[B]? = some (.cells #[a0, a1, a2] t (0, 0))) :
    (((q.setCell ⟨B, 0, none⟩ b0).setCell ⟨B, 1, none⟩ b1).setCell ⟨B, 2, none⟩ b2).heap[B]? = some (.cells #[b0, b1, b2] t (0, 0)) := by
  have h1 := heap_setCell_same _ B 0 _ t b0 h
  have h2 := heap_setCell_same _ B 1 _ t b1 h1
  exact heap_setCell_same _ B 2 _ t b2 h2

def boxS (w : World) (A B : Array Value) : World := (w.alloc (.cells A 53)).alloc (.cells B 63)
theorem boxS_below (w : World) (A B : Array Value) : Below w.heap.size w (boxS w A B) := ((Below.refl _ _).alloc (Nat.le_refl _) _).alloc (by simp) _
theorem boxS_a (w : World) (A B : Array Value) : (boxS w A B).heap[w.heap.size]? = some (.cells A 53 (0, 0)) := by
  unfold boxS
  rw [heap_alloc_old _ _ (by simp)]
  exact heap_alloc_new _ _
theorem boxS_b (w : World) (A B : Array Value) : (boxS w A B).heap[w.heap.size + 1]? = some (.cells B 63 (0, 0)) := by
  unfold boxS
  rw [show w.heap.size + 1 = (w.alloc (.cells A 53)).heap.size by simp]
  exact heap_alloc_new _ _

set_option maxRecDepth 100000 in
set_option maxHeartbeats 4000000 in
theorem same_any (L : List Ps) (O : List Nu) (g : Bool) (hL : ∀ x ∈ L, x.r.e.length ≤ 1000000 ∧ x.r.o.length ≤ 1000000) (hLl : L.length ≤ 1000000) (hO : O.length ≤ 1000000) (va oa vb ob : Value) (w : World) (ha : ROut w L O va oa) (hb : ROut w L O vb ob) :
    Calls Try.prog 24 #[.agg #[va, oa, .bool g], .agg #[vb, ob, .bool g]] w fun e w' => e = .returned (.bool true) ∧ Below w.heap.size w w' := by
  have hnu := fun (W : World) (hB : Below w.heap.size w W) => nums_any O O hO hO _ _ W (ha.ou.below hB) (hb.ou.below hB)
  rw [show decide (O = O) = true from decide_eq_true rfl] at hnu
  obtain ⟨⟨ap, ac, rfl⟩, aop, aoc, rfl⟩ := ha.len
  obtain ⟨⟨bp, bc, rfl⟩, bop, boc, rfl⟩ := hb.len
  obtain ⟨ab, aoff, Xa, hXa, hap, hac, har⟩ := ha.visits
  obtain ⟨bb, boff, Xb, hXb, hbp, hbc, hbr⟩ := hb.visits
  clear ha hb
  have hb2 := boxS_below w #[.slice ap L.length ac, .slice aop O.length aoc, .bool g] #[.slice bp L.length bc, .slice bop O.length boc, .bool g]
  have hya := boxS_a w #[.slice ap L.length ac, .slice aop O.length aoc, .bool g] #[.slice bp L.length bc, .slice bop O.length boc, .bool g]
  have hyb := boxS_b w #[.slice ap L.length ac, .slice aop O.length aoc, .bool g] #[.slice bp L.length bc, .slice bop O.length boc, .bool g]
  have hHX : Hid (Xa.map Sv.p = L) := hXa
  have hHY : Hid (Xb.map Sv.p = L) := hXb
  clear hXa hXb
  cases g
  all_goals (
    have hb3 := hb2
    unfold boxS at hb3
    go_enter Try.func24, Try.ntmps24
    go_wp2_with (go_at_call 26; refine' Calls.aft _ _ (hnu _ hb3) _; rotate_left 2; (first | (with_reducible exact After.below _; rfl) | (with_reducible exact below_drew (After.below _); rfl) | (with_reducible exact below_set (After.below _) _ _; (go_simp; rfl)) | (with_reducible exact below_set (below_set (After.below _) _ _) _ _; (go_simp; rfl)) | (with_reducible exact below_set (below_set (below_set (After.below _) _ _) _ _) _ _; (go_simp; rfl)) | (with_reducible exact below_set (below_set (below_set (below_set (After.below _) _ _) _ _) _ _) _ _; (go_simp; rfl)) | (exact Below.refl _ _; rfl)); intro x1; have hle := After.le x1; (try simp at hle))
    obtain ⟨W1, hW1⟩ : ∃ W1, W1 = x1.val := ⟨_, rfl⟩
    have hx1 := x1.below
    rw [← hW1] at hx1
    rw [← hW1]
    have hBw : Below w.heap.size w W1 := nextB hx1 hb3
    obtain ⟨p0, p1, p2, pl⟩ := three0 (blk_next hx1 hyb)
    clear hW1 hx1 hya hyb hb2 hb3 hnu hle
    go_loopw [32] (fun i wr => ∃ k : Nat, k ≤ L.length ∧ i = .int .i64 k ∧ Below W1.heap.size W1 wr) (fun i _ => L.length - (intOf i).toNat)
    case atStart => exact ⟨0, Nat.zero_le _, rfl, Below.refl _ _⟩
    case round =>
      obtain ⟨k, hk, rfl, hBk⟩ := hrel
      have p0 := nextC hBk p0
      have pl := World.block_lt_of_cell? _ _ p0
      have hBr := nextB hBk hBw
      by_cases hlt : k < L.length
      · obtain rfl := hap (by omega)
        obtain rfl := hbp (by omega)
        have hlt3 : (k : Int) < L.length := by omega
        have hka : k < Xa.length := by have h9 : Xa.map Sv.p = L := hHX; rw [← h9, List.length_map] at hlt; exact hlt
        have hkb : k < Xb.length := by have h9 : Xb.map Sv.p = L := hHY; rw [← h9, List.length_map] at hlt; exact hlt
        have hpa : (Xa[k]'hka).p = L[k]'hlt := by
          have h9 : Xa.map Sv.p = L := hHX
          have h8 : L[k]? = some (Xa[k]'hka).p := by rw [← h9, List.getElem?_map, List.getElem?_eq_getElem hka]; rfl
          rw [List.getElem?_eq_getElem hlt] at h8
          exact (Option.some.inj h8).symm
        have hpb : (Xb[k]'hkb).p = L[k]'hlt := by
          have h9 : Xb.map Sv.p = L := hHY
          have h8 : L[k]? = some (Xb[k]'hkb).p := by rw [← h9, List.getElem?_map, List.getElem?_eq_getElem hkb]; rfl
          rw [List.getElem?_eq_getElem hlt] at h8
          exact (Option.some.inj h8).symm
        have hok := hL _ (List.getElem_mem hlt)
        have hca : ∀ r u, ((Xa[k]'hka).cs)[r]? = some u → wr.cell? ⟨ab, aoff + k * 4 + r, none⟩ = some u := fun r u hu => by
          have h7 := hac k hka r u hu
          rw [Nat.add_assoc]; exact nextC hBr h7
        have hcb : ∀ r u, ((Xb[k]'hkb).cs)[r]? = some u → wr.cell? ⟨bb, boff + k * 4 + r, none⟩ = some u := fun r u hu => by
          rw [Nat.add_assoc]; exact nextC hBr (hbc k hkb r u hu)
        have hra1 := (har _ (List.getElem_mem hka)).1.below hBr
        have hra2 := (har _ (List.getElem_mem hka)).2.below hBr
        have hrb1 := (hbr _ (List.getElem_mem hkb)).1.below hBr
        have hrb2 := (hbr _ (List.getElem_mem hkb)).2.below hBr
        clear hac hbc har hbr hap hbp hHX hHY hL
        generalize Xa[k]'hka = xa at hpa hca hra1 hra2
        generalize Xb[k]'hkb = xb at hpb hcb hrb1 hrb2
        generalize L[k]'hlt = s at hpa hpb hok
        obtain ⟨pa, ev1, ov1⟩ := xa
        obtain ⟨pb, ev2, ov2⟩ := xb
        have hpa : pa = s := hpa
        have hpb : pb = s := hpb
        subst hpa
        subst hpb
        obtain ⟨sb, sr⟩ := pb
        obtain ⟨hle1, hle2⟩ := hok
        have hra1 : Sl wr ev1 Nu.cs sr.e := hra1
        have hra2 : Sl wr ov1 Nu.cs sr.o := hra2
        have hrb1 : Sl wr ev2 Nu.cs sr.e := hrb1
        have hrb2 : Sl wr ov2 Nu.cs sr.o := hrb2
        have hle1 : sr.e.length ≤ 1000000 := hle1
        have hle2 : sr.o.length ≤ 1000000 := hle2
        have hsm := fun (W : World) (hB : Below wr.heap.size wr W) => sameS_any sb sr.i sb sr.i sr.e sr.o sr.e sr.o hle1 hle2 hle1 hle2 _ _ _ _ W (hra1.below hB) (hra2.below hB) (hrb1.below hB) (hrb2.below hB)
        rw [show sameSt sb sr.i sr.e sr.o sb sr.i sr.e sr.o = true by unfold sameSt; simp] at hsm
        obtain ⟨e1p, e1c, rfl⟩ : ∃ p c, ev1 = .slice p sr.e.length c := sl_len hra1
        obtain ⟨o1p, o1c, rfl⟩ : ∃ p c, ov1 = .slice p sr.o.length c := sl_len hra2
        obtain ⟨e2p, e2c, rfl⟩ : ∃ p c, ev2 = .slice p sr.e.length c := sl_len hrb1
        obtain ⟨o2p, o2c, rfl⟩ : ∃ p c, ov2 = .slice p sr.o.length c := sl_len hrb2
        have hsm2 := fun (x : After (wr.alloc (.cells #[.int .i64 sb, .slice e1p sr.e.length e1c, .int .i64 sr.i, .slice o1p sr.o.length o1c] 47))) => hsm x.val (((Below.refl _ _).alloc (Nat.le_refl _) _).trans (x.below.mono (by simp)))
        have c0 : wr.cell? ⟨ab, aoff + k * 4, none⟩ = some (.int .i64 sb) := hca 0 _ rfl
        have cl := World.block_lt_of_cell? _ _ c0
        have c1 : wr.cell? ⟨ab, aoff + k * 4 + 1, none⟩ = some (.slice e1p sr.e.length e1c) := hca 1 _ rfl
        have c2 : wr.cell? ⟨ab, aoff + k * 4 + 2, none⟩ = some (.int .i64 sr.i) := hca 2 _ rfl
        have c3 : wr.cell? ⟨ab, aoff + k * 4 + 3, none⟩ = some (.slice o1p sr.o.length o1c) := hca 3 _ rfl
        have d0 : wr.cell? ⟨bb, boff + k * 4, none⟩ = some (.int .i64 sb) := hcb 0 _ rfl
        have dl := World.block_lt_of_cell? _ _ d0
        have d1 : wr.cell? ⟨bb, boff + k * 4 + 1, none⟩ = some (.slice e2p sr.e.length e2c) := hcb 1 _ rfl
        have d2 : wr.cell? ⟨bb, boff + k * 4 + 2, none⟩ = some (.int .i64 sr.i) := hcb 2 _ rfl
        have d3 : wr.cell? ⟨bb, boff + k * 4 + 3, none⟩ = some (.slice o2p sr.o.length o2c) := hcb 3 _ rfl
        clear hca hcb hra1 hra2 hrb1 hrb2 hsm hle1 hle2
        have hBa := hBk.alloc hBk.size (.cells #[.int .i64 sb, .slice e1p sr.e.length e1c, .int .i64 sr.i, .slice o1p sr.o.length o1c] 47)
        go_wp2_with fail
        refine' region_whole _ _ (by kernel_rfl) (by kernel_rfl) _; rotate_left 2; (exact Below.refl _ _; rfl); (repeat (go_big_quiet_step (first | (go_at_call 16; exact Calls.after_of (back_any _ _ _ _ _ _ _ _ _)) | (go_at_call 15; exact Calls.after_of (hsm2 _))))); refine wpQuiet_nil ?_; intro z
        go_wp2_with fail
        go_roundw
        case rel => exact ⟨k + 1, by omega, by simp, hBa.trans (z.below.mono hBa.size)⟩
        case measure => simp [intOf]; omega
      · have hks : k = L.length := by omega
        subst hks
        have hlt3 : ¬ (L.length : Int) < L.length := by omega
        clear hac hbc har hbr hap hbp hHX hHY hL
        go_wp2_with fail
        go_ret
        exact ⟨rfl, hBr⟩)

end Go.Proofs.Ytaaklejkngpddaa.Pr
