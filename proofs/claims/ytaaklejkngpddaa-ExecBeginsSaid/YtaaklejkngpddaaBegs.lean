/- ExecBegins: it answers true. -/
import Derived.Test.YtaaklejkngpddaaExg
import Derived.Deep.RegionHeld3
namespace Go.Proofs.Ytaaklejkngpddaa.Pr
set_option linter.unusedVariables false
set_option linter.unusedSimpArgs false
open Go Go.RowKit

theorem fewB_le {P : List Bl} {E I : List Nu} (hf : fewB P E I = true) : P.length ≤ 12 ∧ (∀ b ∈ P, b.l.length ≤ 12) ∧ E.length ≤ 70 ∧ I.length ≤ 70 := by
  simp only [fewB, Bool.and_eq_true, decide_eq_true_eq] at hf
  exact ⟨(small_len hf.1.1).1, (small_len hf.1.1).2.1, hf.1.2, hf.2⟩
theorem capN_nat {n : Nat} (h : n ≤ 4096) : capN (n : Int) = n := by unfold capN; omega

theorem slC8 {α : Type} {enc : α → List Value} {W q : World} {v : Value} {L : List α} (h : Sl W v enc L) (hq : ∀ b o, b < W.heap.size → q.cell? ⟨b, o, none⟩ = W.cell? ⟨b, o, none⟩) : Sl q v enc L := by
  obtain ⟨b, off, p, cap, hv, hp, hc⟩ := h
  exact ⟨b, off, p, cap, hv, hp, fun j u hu => (hq b _ (World.block_lt_of_cell? _ _ (hc j u hu))).trans (hc j u hu)⟩
theorem pgC8 {W q : World} {v : Value} {P : List Bl} (h : Pg W v P) (hq : ∀ b o, b < W.heap.size → q.cell? ⟨b, o, none⟩ = W.cell? ⟨b, o, none⟩) : Pg q v P := ⟨slC8 h.1 hq, fun b hb => slC8 (h.2 b hb) hq⟩

theorem begins2 {P : List Bl} {I : List Nu} {n d : Nat} {s sa sb : Ps} {La Lb : List Ps} {ga gb : Bool} (hA : fromS P I n s true = (La, (sa, ga))) (hB : fromS P I (n + d) s true = (Lb, (sb, gb))) :
    La.length ≤ Lb.length ∧ sa.r.o.length ≤ sb.r.o.length ∧ (ga = false → gb = false ∧ La.length = Lb.length) ∧ (∀ i, i < La.length → Lb[i]? = La[i]?) ∧ (∀ h : n < Lb.length, fromS P I d (Lb[n]'h) true = (Lb.drop n, (sb, gb))) := by
  obtain rfl : La = (fromS P I n s true).1 := by rw [hA]
  obtain rfl : sa = (fromS P I n s true).2.1 := by rw [hA]
  obtain rfl : ga = (fromS P I n s true).2.2 := by rw [hA]
  obtain rfl : Lb = (fromS P I (n + d) s true).1 := by rw [hB]
  obtain rfl : sb = (fromS P I (n + d) s true).2.1 := by rw [hB]
  obtain rfl : gb = (fromS P I (n + d) s true).2.2 := by rw [hB]
  exact begins n d s

theorem FOut.visits {w' : World} {base : Nat} {L : List Ps} {O : List Nu} {p : Option Addr} {c : Nat} {ov : Value} (h : FOut w' base L O (.slice p L.length c) ov) : ∃ (b off : Nat) (X : List Sv), X.map Sv.p = L ∧ (0 < L.length → p = some ⟨b, off, none⟩) ∧
    (∀ (k : Nat) (hk : k < X.length) (r : Nat) (u : Value), ((X[k]'hk).cs)[r]? = some u → w'.cell? ⟨b, off + (k * 4 + r), none⟩ = some u) ∧ ∀ x ∈ X, Rn base w' x.ev x.ov x.p.r := by
  obtain ⟨⟨X, rfl, h2, h3⟩, h4⟩ := h
  rw [List.length_map] at h2 ⊢
  obtain ⟨b, off, q, cap, hv, hp, hc⟩ := (Sl.of_own h2).open Sv.cs_len
  injection hv with hv _ _
  subst hv
  exact ⟨b, off, X, rfl, hp, hc, h3⟩

set_option maxRecDepth 100000 in
set_option maxHeartbeats 4000000 in
theorem execBegins_any (P : List Bl) (I : List Nu) (a : Int) (ha0 : 0 ≤ a) (ha1 : a ≤ 255) (c : Int) (hc0 : 0 ≤ c) (hc1 : c ≤ 255) (pv : Value) (hcp : CapOk pv) (iv : Value) (hz : NilOk iv) (w : World) (h : Pg w pv P) (hI : Sl w iv Nu.cs I) :
    Calls Try.prog 5 #[.agg #[pv], iv, .int .u8 a, .int .u8 c] w fun e w' => e = .returned (.bool true) ∧ Below w.heap.size w w' := by
  obtain ⟨p, cap, rfl⟩ : ∃ p cap, pv = .slice p P.length cap := by obtain ⟨b, off, p, cap, hv, _⟩ := h.1; exact ⟨p, cap, hv⟩
  have hfw := fun (W : World) (hB : Below w.heap.size w W) => few_any P [] I _ (.slice none 0 0) iv hcp W (h.below hB) Sl.nil (hI.below hB)
  have hbad := fun (h0 : checkOf P ≠ 0) (h12 : P.length ≤ 12) (hl12 : ∀ b ∈ P, b.l.length ≤ 12) most (W : World) (hB : Below w.heap.size w W) => allF_bad P I h0 most _ _ W (h.below hB) h12 hl12 (hI.below hB)
  have hgood := fun (h0 : checkOf P = 0) (h12 : P.length ≤ 12) (hl12 : ∀ b ∈ P, b.l.length ≤ 12) most (W : World) (hB : Below w.heap.size w W) => allF_ok P I h0 most _ _ W (h.below hB) h12 hl12 (hI.below hB)
  obtain ⟨ip, ic, rfl⟩ : ∃ p cap, iv = .slice p I.length cap := by obtain ⟨b, off, p, cap, hv, _⟩ := hI; exact ⟨p, cap, hv⟩
  have hb1 : Below w.heap.size w (w.alloc (.cells #[.slice p P.length cap] 24)) := (Below.refl _ _).alloc (Nat.le_refl _) _
  have hH := And.intro True.intro (And.intro h hI)
  have hbx := fun (x : After (w.alloc (.cells #[.slice p P.length cap] 24))) => hb1.trans (x.below.mono hb1.size)
  obtain ⟨n, hn⟩ : ∃ n : Nat, a % 20 = (n : Int) := ⟨(a % 20).toNat, by omega⟩
  obtain ⟨d, hd⟩ : ∃ d : Nat, c % 20 = (d : Int) := ⟨(c % 20).toNat, by omega⟩
  have hn19 : n ≤ 19 := by omega
  have hd19 : d ≤ 19 := by omega
  clear h hI hcp hz
  cases hf : fewB P [] I
  · rw [hf] at hfw
    clear hbad hgood
    go_enter Try.func5, Try.ntmps5
    go_wp2_with (first | (go_at_call 9; refine' Calls.aft _ _ (awake8_any _) _; rotate_left 2; (first | (with_reducible exact After.below _; rfl) | (with_reducible exact below_drew (After.below _); rfl) | (with_reducible exact below_set (After.below _) _ _; (go_simp; rfl)) | (with_reducible exact below_set (below_set (After.below _) _ _) _ _; (go_simp; rfl)) | (with_reducible exact below_set (below_set (below_set (After.below _) _ _) _ _) _ _; (go_simp; rfl)) | (with_reducible exact below_set (below_set (below_set (below_set (After.below _) _ _) _ _) _ _) _ _; (go_simp; rfl)) | (exact Below.refl _ _; rfl)); intro x1; have hle := After.le x1; (try simp at hle)) | (go_at_call 10; refine' Calls.aft _ _ (hfw _ (hb1.trans (x1.below.mono hb1.size))) _; rotate_left 2; (first | (with_reducible exact After.below _; rfl) | (with_reducible exact below_drew (After.below _); rfl) | (with_reducible exact below_set (After.below _) _ _; (go_simp; rfl)) | (with_reducible exact below_set (below_set (After.below _) _ _) _ _; (go_simp; rfl)) | (with_reducible exact below_set (below_set (below_set (After.below _) _ _) _ _) _ _; (go_simp; rfl)) | (with_reducible exact below_set (below_set (below_set (below_set (After.below _) _ _) _ _) _ _) _ _; (go_simp; rfl)) | (exact Below.refl _ _; rfl)); intro x2; have hle := After.le x2; (try simp at hle)))
    go_ret
    refine ⟨rfl, ?_⟩
    (repeat (first | exact Below.refl _ _ | apply Below.drew | refine Below.alloc ?_ ?_ _ | refine Below.setCell ?_ ?_ _ | refine Below.trans ?_ (Below.mono (After.below _) ?_))); (all_goals (first | (simp; done) | (simp; omega) | omega))
  rw [hf] at hfw
  obtain ⟨h12, hl12, _, hIl⟩ := fewB_le hf
  clear hf
  by_cases h0 : checkOf P = 0
  · clear hbad
    have hgood := hgood h0 h12 hl12
    have hpc := fun (x : After (w.alloc (.cells #[.slice p P.length cap] 24))) => (x.below.cell (p := ⟨w.heap.size, 0, none⟩) (by simp)).trans (by simp : _ = some (Value.slice p P.length cap))
    obtain ⟨La, sa, ga, hA⟩ : ∃ La sa ga, fromS P I n (beginS P) true = (La, (sa, ga)) := ⟨_, _, _, rfl⟩
    obtain ⟨Lb, sb, gb, hB⟩ : ∃ Lb sb gb, fromS P I (n + d) (beginS P) true = (Lb, (sb, gb)) := ⟨_, _, _, rfl⟩
    have hg1 := fun W hB' => hgood (n : Int) W hB'
    have hg2 := fun W hB' => hgood ((n : Int) + (d : Int)) W hB'
    rw [capN_nat (by omega), hA] at hg1
    rw [show (n : Int) + (d : Int) = ((n + d : Nat) : Int) by omega, capN_nat (by omega), hB] at hg2
    rw [show ((n + d : Nat) : Int) = (n : Int) + (d : Int) by omega] at hg2
    obtain ⟨b1, b2, b3, b4, b5⟩ := begins2 hA hB
    have hOk : ∀ t ∈ Lb, OkS P t ∧ t.r.o.length ≤ 1000 := fun t ht => by
      have h1 := fromS_ok (I := I) h0 hl12 (n + d) (beginS P) true ⟨Int.le_refl 0, by have := (proper_vars h0).2; show (0 : Int) < P.length; omega, by simp [beginS], Int.le_refl 0⟩
      rw [hB] at h1
      have h2 := h1.2.2 t ht
      have h3 : (beginS P).r.o.length = 0 := rfl
      exact ⟨h2.1, by omega⟩
    have l1 : ¬ (Lb.length : Int) < La.length := by omega
    have l2 : ¬ (sb.r.o.length : Int) < sa.r.o.length := by omega
    have hbl := fromS_len P I (n + d) (beginS P) true
    rw [hB] at hbl
    have hal := fromS_len P I n (beginS P) true
    rw [hA] at hal
    have l3 : Lb.length ≤ 38 := by have : Lb.length ≤ n + d := hbl.1; omega
    have l5 : sb.r.o.length ≤ 1000 := by
      have h1 := fromS_ok (I := I) h0 hl12 (n + d) (beginS P) true ⟨Int.le_refl 0, by have := (proper_vars h0).2; show (0 : Int) < P.length; omega, by simp [beginS], Int.le_refl 0⟩
      rw [hB] at h1
      have h2 : sb.r.o.length ≤ (beginS P).r.o.length + 12 * (n + d) := h1.2.1
      have h3 : (beginS P).r.o.length = 0 := rfl
      omega
    have lh : Hid (ga = false → gb = false ∧ La.length = Lb.length) := b3
    clear hgood b3 hA hB hbl hal
    have hga : (ga = true ∧ (!ga) = false) ∨ (ga = false ∧ (!ga) = true ∧ (!gb) = true ∧ ((La.length : Int) != Lb.length) = false) := by
      cases ga with
      | true => exact .inl ⟨rfl, rfl⟩
      | false =>
        obtain ⟨rfl, h2⟩ := lh rfl
        exact .inr ⟨rfl, rfl, rfl, by rw [h2]; simp⟩
    clear lh
    generalize hng : (!ga) = nga at hg1 hga
    clear hng
    generalize hgb : (!gb) = ngb at hg2 hga
    rcases hga with ⟨_, rfl⟩ | ⟨_, rfl, rfl, l4⟩
    · go_enter Try.func5, Try.ntmps5
      have l1n : ¬ Lb.length < La.length := by omega
      have l2n : ¬ sb.r.o.length < sa.r.o.length := by omega
      go_wp2_with (first | (go_at_call 9; refine' Calls.aft _ _ (awake8_any _) _; rotate_left 2; (first | (with_reducible exact After.below _; rfl) | (with_reducible exact below_drew (After.below _); rfl) | (with_reducible exact below_set (After.below _) _ _; (go_simp; rfl)) | (with_reducible exact below_set (below_set (After.below _) _ _) _ _; (go_simp; rfl)) | (with_reducible exact below_set (below_set (below_set (After.below _) _ _) _ _) _ _; (go_simp; rfl)) | (with_reducible exact below_set (below_set (below_set (below_set (After.below _) _ _) _ _) _ _) _ _; (go_simp; rfl)) | (exact Below.refl _ _; rfl)); intro x1; have hle := After.le x1; (try simp at hle)) | (go_at_call 10; refine' Calls.aft _ _ (hfw _ (hbx x1)) _; rotate_left 2; (first | (with_reducible exact After.below _; rfl) | (with_reducible exact below_drew (After.below _); rfl) | (with_reducible exact below_set (After.below _) _ _; (go_simp; rfl)) | (with_reducible exact below_set (below_set (After.below _) _ _) _ _; (go_simp; rfl)) | (with_reducible exact below_set (below_set (below_set (After.below _) _ _) _ _) _ _; (go_simp; rfl)) | (with_reducible exact below_set (below_set (below_set (below_set (After.below _) _ _) _ _) _ _) _ _; (go_simp; rfl)) | (exact Below.refl _ _; rfl)); intro x2; have hle := After.le x2; (try simp at hle)) | (go_at_call 21; first | (with_reducible refine (hg1 _ (hbx x2)).mono ?_; rintro e q1 ⟨va, oa, rfl, hFa, hq1⟩; obtain ⟨⟨ap, ac, rfl⟩, ⟨aop, aoc, rfl⟩⟩ := hFa.len; have hB1 := (nextB hq1 (hbx x2)); have p1 := nextC hq1 (hpc x2); have pl1 := World.block_lt_of_cell? _ _ p1; have hB2 := hB1.alloc hB1.size (.cells #[.slice ap La.length ac, .slice aop sa.r.o.length aoc, .bool false] 53)) | (with_reducible refine (hg2 _ hB2).mono ?_; rintro e q2 ⟨vb, ob, rfl, hFb, hq2⟩; obtain ⟨⟨bp, bc, rfl⟩, ⟨bop, boc, rfl⟩⟩ := hFb.len; have hB3 := nextB hq2 hB2; have p2 := nextC hq2 ((World.cell?_alloc_lt _ _ _ pl1).trans p1); have pl2 := World.block_lt_of_cell? _ _ p2; obtain ⟨k0, k1, k2, _, kl⟩ := three (blk_next hq2 (heap_alloc_new q1 (.cells #[.slice ap La.length ac, .slice aop sa.r.o.length aoc, .bool false] 53))))))
      have hB4 := hB3.alloc hB3.size (.cells #[.slice bp Lb.length bc, .slice bop sb.r.o.length boc, .bool ngb] 53)
      obtain ⟨W5, hW5⟩ : ∃ W5, W5 = q2.alloc (.cells #[.slice bp Lb.length bc, .slice bop sb.r.o.length boc, .bool ngb] 53) := ⟨_, rfl⟩
      have hBw : Below w.heap.size w W5 := by rw [hW5]; exact hB4
      have hq5 : Below q2.heap.size q2 W5 := by rw [hW5]; exact (Below.refl _ _).alloc (Nat.le_refl _) _
      have p5 := nextC hq5 p2
      have a0 := nextC hq5 k0
      obtain ⟨m0, m1, m2, _, ml⟩ := three (B := q2.heap.size) (W := W5) (by rw [hW5]; exact heap_alloc_new _ _ : W5.heap[q2.heap.size]? = some (.cells #[.slice bp Lb.length bc, .slice bop sb.r.o.length boc, .bool ngb] 53))
      have hF1 := ((hFa.below ((Below.refl q1.heap.size q1).alloc (Nat.le_refl _) (.cells #[.slice ap La.length ac, .slice aop sa.r.o.length aoc, .bool false] 53))).below hq2).below hq5
      have hF2 := hFb.below hq5
      rw [← hW5]
      clear hW5 hB4 hB3 hB2 hB1 p1 p2 pl1 pl2 k0 k1 k2 kl hFa hFb hq1 hq2 hg1 hg2 hfw l1 l2
      have hou := Sl.of_own hF2.ou
      obtain ⟨ab, aoff, Xa, hXa, hap, hac, har⟩ := hF1.visits
      obtain ⟨bb, boff, Xb, hXb, hbp, hbc, hbr⟩ := hF2.visits
      clear hF1 hF2 hq5
      go_loopw [96] (fun i wr => ∃ k : Nat, k ≤ La.length ∧ i = .int .i64 k ∧ Below W5.heap.size W5 wr) (fun i _ => La.length - (intOf i).toNat)
      case atStart => exact ⟨0, Nat.zero_le _, rfl, Below.refl _ _⟩
      case round =>
        obtain ⟨k, hk, rfl, hBk⟩ := hrel
        have p5 := nextC hBk p5
        have pl5 := World.block_lt_of_cell? _ _ p5
        have m0 := nextC hBk m0
        have m1 := nextC hBk m1
        have m2 := nextC hBk m2
        have ml := World.block_lt_of_cell? _ _ m0
        by_cases hlt : k < La.length
        · obtain rfl := hap (by omega)
          obtain rfl := hbp (by omega)
          have hlt3 : (k : Int) < La.length := by omega
          have hlt4 : (k : Int) < Lb.length := by omega
          have hka : k < Xa.length := by rw [← hXa, List.length_map] at hlt; exact hlt
          have hkb : k < Xb.length := by have h9 : k < Lb.length := (by omega); rw [← hXb, List.length_map] at h9; exact h9
          have hpp : (Xa[k]'hka).p = (Xb[k]'hkb).p := by
            have h9 := b4 k hlt
            rw [← hXa, ← hXb, List.getElem?_map, List.getElem?_map, List.getElem?_eq_getElem hka, List.getElem?_eq_getElem hkb] at h9
            exact (Option.some.inj h9).symm
          have hok := hOk (Xb[k]'hkb).p (by rw [← hXb]; exact List.mem_map_of_mem (List.getElem_mem hkb))
          have hca : ∀ r u, ((Xa[k]'hka).cs)[r]? = some u → wr.cell? ⟨ab, aoff + k * 4 + r, none⟩ = some u := fun r u hu => by
            rw [Nat.add_assoc]; exact nextC hBk (hac k hka r u hu)
          have hcb : ∀ r u, ((Xb[k]'hkb).cs)[r]? = some u → wr.cell? ⟨bb, boff + k * 4 + r, none⟩ = some u := fun r u hu => by
            rw [Nat.add_assoc]; exact nextC hBk (hbc k hkb r u hu)
          have hra := (har _ (List.getElem_mem hka)).below hBk
          have hrb := (hbr _ (List.getElem_mem hkb)).below hBk
          clear hac hbc har hbr b4 b5
          generalize Xa[k]'hka = xa at hpp hca hra
          generalize Xb[k]'hkb = xb at hpp hcb hrb hok
          obtain ⟨⟨pb, pr⟩, ev1, ov1⟩ := xa
          obtain ⟨pp, ev2, ov2⟩ := xb
          have hpp : (⟨pb, pr⟩ : Ps) = pp := hpp
          subst hpp
          have hra : Rn _ wr ev1 ov1 pr := hra
          have hrb : Rn _ wr ev2 ov2 pr := hrb
          obtain ⟨e1p, e1c, rfl⟩ := own_len hra.e
          obtain ⟨o1p, o1c, rfl⟩ := own_len hra.o
          obtain ⟨e2p, e2c, rfl⟩ := own_len hrb.e
          obtain ⟨o2p, o2c, rfl⟩ := own_len hrb.o
          have hle1 : pr.e.length ≤ 1000000 := by have h8 : pr.e.length = _ := hok.1.2.2.1; have := (proper_vars h0).1; omega
          have hle2 : pr.o.length ≤ 1000000 := by have h8 : pr.o.length ≤ 1000 := hok.2; omega
          have hsm := fun (W : World) (hB : Below wr.heap.size wr W) => sameS_any pb pr.i pb pr.i pr.e pr.o pr.e pr.o hle1 hle2 hle1 hle2 _ _ _ _ W ((Sl.of_own hra.e).below hB) ((Sl.of_own hra.o).below hB) ((Sl.of_own hrb.e).below hB) ((Sl.of_own hrb.o).below hB)
          rw [show sameSt pb pr.i pr.e pr.o pb pr.i pr.e pr.o = true by unfold sameSt; simp] at hsm
          have hsm2 := fun (x : After (wr.alloc (.cells #[.int .i64 pb, .slice e1p pr.e.length e1c, .int .i64 pr.i, .slice o1p pr.o.length o1c] 47))) => hsm x.val (((Below.refl _ _).alloc (Nat.le_refl _) _).trans (x.below.mono (by simp)))
          have c0 : wr.cell? ⟨ab, aoff + k * 4, none⟩ = some (.int .i64 pb) := hca 0 _ rfl
          have cl := World.block_lt_of_cell? _ _ c0
          have c1 : wr.cell? ⟨ab, aoff + k * 4 + 1, none⟩ = some (.slice e1p pr.e.length e1c) := hca 1 _ rfl
          have c2 : wr.cell? ⟨ab, aoff + k * 4 + 2, none⟩ = some (.int .i64 pr.i) := hca 2 _ rfl
          have c3 : wr.cell? ⟨ab, aoff + k * 4 + 3, none⟩ = some (.slice o1p pr.o.length o1c) := hca 3 _ rfl
          have d0 : wr.cell? ⟨bb, boff + k * 4, none⟩ = some (.int .i64 pb) := hcb 0 _ rfl
          have dl := World.block_lt_of_cell? _ _ d0
          have d1 : wr.cell? ⟨bb, boff + k * 4 + 1, none⟩ = some (.slice e2p pr.e.length e2c) := hcb 1 _ rfl
          have d2 : wr.cell? ⟨bb, boff + k * 4 + 2, none⟩ = some (.int .i64 pr.i) := hcb 2 _ rfl
          have d3 : wr.cell? ⟨bb, boff + k * 4 + 3, none⟩ = some (.slice o2p pr.o.length o2c) := hcb 3 _ rfl
          clear hca hcb hra hrb hsm hok hle1 hle2 hOk hou
          have hBa := hBk.alloc hBk.size (.cells #[.int .i64 pb, .slice e1p pr.e.length e1c, .int .i64 pr.i, .slice o1p pr.o.length o1c] 47)
          go_wp2_with fail
          refine' region_whole _ _ (by kernel_rfl) (by kernel_rfl) _; rotate_left 2; (exact Below.refl _ _; rfl); (repeat (go_big_quiet_step (first | (go_at_call 16; exact Calls.after_of (back_any _ _ _ _ _ _ _ _ _)) | (go_at_call 15; exact Calls.after_of (hsm2 _))))); refine wpQuiet_nil ?_; intro z
          go_wp2_with fail
          go_roundw
          case rel => exact ⟨k + 1, by omega, by simp, hBa.trans (z.below.mono hBa.size)⟩
          case measure => simp [intOf]; omega
        · have hks : k = La.length := by omega
          subst hks
          have hlt3 : ¬ (La.length : Int) < La.length := by omega
          clear hac har hap b4
          by_cases hln : Lb.length ≤ n
          · have hln2 : (Lb.length : Int) ≤ n := by omega
            clear hbc hbr b5 hOk hou
            go_wp2_with fail
            go_ret
            exact ⟨rfl, hBw.trans (hBk.mono hBw.size)⟩
          · have hln2 : ¬ (Lb.length : Int) ≤ n := by omega
            have hln3 : (n : Int) < Lb.length := by omega
            have hln4 : n < Lb.length := by omega
            obtain rfl := hbp (by omega)
            have hnb : n < Xb.length := by have h9 : n < Lb.length := (by omega); rw [← hXb, List.length_map] at h9; exact h9
            have hpn : Lb[n]'hln4 = (Xb[n]'hnb).p := by
              have h9 : Lb[n]? = some (Xb[n]'hnb).p := by rw [← hXb, List.getElem?_map, List.getElem?_eq_getElem hnb]; rfl
              rw [List.getElem?_eq_getElem hln4] at h9
              exact Option.some.inj h9
            have b6 := b5 hln4
            rw [hpn] at b6
            have hok := hOk (Xb[n]'hnb).p (by rw [← hXb]; exact List.mem_map_of_mem (List.getElem_mem hnb))
            have hcb : ∀ r u, ((Xb[n]'hnb).cs)[r]? = some u → wr.cell? ⟨bb, boff + n * 4 + r, none⟩ = some u := fun r u hu => by
              rw [Nat.add_assoc]; exact nextC hBk (hbc n hnb r u hu)
            have hrb := (hbr _ (List.getElem_mem hnb)).below hBk
            clear hbc hbr b5 hpn
            generalize Xb[n]'hnb = xb at hcb hrb hok b6
            obtain ⟨⟨pb, pr⟩, ev2, ov2⟩ := xb
            have hrb : Rn _ wr ev2 ov2 pr := hrb
            obtain ⟨e2p, e2c, rfl⟩ := own_len hrb.e
            obtain ⟨o2p, o2c, rfl⟩ := own_len hrb.o
            have d0 : wr.cell? ⟨bb, boff + n * 4, none⟩ = some (.int .i64 pb) := hcb 0 _ rfl
            have dl := World.block_lt_of_cell? _ _ d0
            have d1 : wr.cell? ⟨bb, boff + n * 4 + 1, none⟩ = some (.slice e2p pr.e.length e2c) := hcb 1 _ rfl
            have d2 : wr.cell? ⟨bb, boff + n * 4 + 2, none⟩ = some (.int .i64 pr.i) := hcb 2 _ rfl
            have d3 : wr.cell? ⟨bb, boff + n * 4 + 3, none⟩ = some (.slice o2p pr.o.length o2c) := hcb 3 _ rfl
            have hBz := hBw.trans (hBk.mono hBw.size)
            have hPw := hH.2.1.below hBz
            have hIw := hH.2.2.below hBz
            have hEw := Sl.of_own hrb.e
            have hOw := Sl.of_own hrb.o
            have hou2 := hou.below hBk
            have hfrom : ∀ (W : World) (hS : ∀ b o, b < wr.heap.size → W.cell? ⟨b, o, none⟩ = wr.cell? ⟨b, o, none⟩) (m' : Int) (hm : m' = (d : Int)), Calls Try.prog 19 #[.agg #[.slice p P.length cap], .agg #[.int .i64 pb, .slice e2p pr.e.length e2c, .int .i64 pr.i, .slice o2p pr.o.length o2c], .slice ip I.length ic, .int .i64 m'] W fun e w' => ∃ x : Value × Value, e = .returned ((fun x : Value × Value => Value.tuple #[.agg #[x.1, x.2, .bool (!gb)], .int .i64 0]) x) ∧ (fun (x : Value × Value) W2 => FOut W2 W.heap.size (Lb.drop n) sb.r.o x.1 x.2) x w' ∧ Below W.heap.size W w' := fun W hS m' hm => by
              subst hm
              have h9 := from_ok P I ⟨pb, pr⟩ (chk_of h0 hok.1.1 hok.1.2.1 hok.1.2.2.1 hok.1.2.2.2) hok.2 d _ _ _ _ W (pgC8 hPw hS) h12 hl12 (slC8 hIw hS) (slC8 hEw hS) (slC8 hOw hS)
              rw [capN_nat (by omega), b6] at h9
              exact fo_pair h9
            rw [hgb] at hfrom
            have hdl : ((Lb.drop n).length : Int) = (Lb.length : Int) - n := by rw [List.length_drop]; omega
            generalize Lb.drop n = Lc at hfrom hdl
            have hdb : ((Lc.length : Int) == (Lb.length : Int) - (n : Int)) = true := by rw [hdl]; simp
            have hsbl : sb.r.o.length ≤ 1000000 := by omega
            have hwl : IntKind.i64.wrap ((Lb.length : Int) - (n : Int)) = (Lb.length : Int) - (n : Int) := by rw [IntKind.wrap_i64]; omega
            clear hcb hrb hok b6 hPw hIw hEw hOw hou hOk hdl hgb hXb hXa hH
            go_wp2_with fail
            first | (go_region_held3 (fun w' => ∀ b o, b < wr.heap.size → w'.cell? ⟨b, o, none⟩ = wr.cell? ⟨b, o, none⟩)
              (((try dsimp only); intro b9 o9 h9; refine Below.cell (B := wr.heap.size) (w := wr) ?_ h9; clear h9; (repeat (first | exact Below.refl _ _ | apply Below.drew | refine Below.alloc ?_ ?_ _ | refine Below.setCell ?_ ?_ _ | refine Below.trans ?_ (Below.mono (After.below _) ?_))); (all_goals (first | (simp; done) | (simp; omega) | omega))))
              ((go_at_call 19; (with_reducible refine' Calls.aftS _ _ (hfrom _ (by assumption) _ (by first | omega | (rw [IntKind.wrap_i64]; omega))) _; rotate_left 2; (exact Below.refl _ _; rfl); intro v9 x9 hF9; have hle := After.le x9; (try simp at hle)); obtain ⟨vc, oc⟩ := v9; have hF9 : FOut x9.val _ _ _ vc oc := hF9; obtain ⟨⟨cp, cc, rfl⟩, ⟨cop, coc, rfl⟩⟩ := hF9.len))) | fail
            all_goals (
              have kd : wr.drew.heap.size = wr.heap.size := rfl
              have hx : Below wr.heap.size wr x9.val := by first | exact ((Below.refl _ _).drew).trans x9.below | exact (((Below.refl _ _).drew).alloc (Nat.le_refl _) _).trans (x9.below.mono (by simp [kd]))
              go_wp2_with (go_at_call 26; first | (with_reducible refine' Calls.aft _ _ (nums_any sb.r.o sb.r.o hsbl hsbl _ _ _ (Sl.of_own (hF9.below ((Below.refl _ _).alloc (Nat.le_refl _) _)).ou) (hou2.below (hx.alloc hx.size _))) _; rotate_left 2; (exact Below.refl _ _; rfl); intro x10; have hxx := hx.alloc hx.size (.cells #[.slice cp Lc.length cc, .slice cop sb.r.o.length coc, .bool ngb] 53)) | (with_reducible refine' Calls.aft _ _ (nums_any sb.r.o sb.r.o hsbl hsbl _ _ _ (Sl.of_own (((hF9.set (by simp [kd])).set (by simp [kd])).set (by simp [kd])).ou) (hou2.below (((hx.setCell (p := ⟨wr.heap.size, 0, none⟩) (Nat.le_refl _) _).setCell (p := ⟨wr.heap.size, 1, none⟩) (Nat.le_refl _) _).setCell (p := ⟨wr.heap.size, 2, none⟩) (Nat.le_refl _) _))) _; rotate_left 2; (exact Below.refl _ _; rfl); intro x10; have hxx := ((hx.setCell (p := ⟨wr.heap.size, 0, none⟩) (Nat.le_refl _) (.slice cp Lc.length cc)).setCell (p := ⟨wr.heap.size, 1, none⟩) (Nat.le_refl _) (.slice cop sb.r.o.length coc)).setCell (p := ⟨wr.heap.size, 2, none⟩) (Nat.le_refl _) (.bool ngb)))
              go_ret
              refine ⟨by first | rfl | (simp; done) | (simp [hdb]; done), ?_⟩
              have hx1 : Below wr.heap.size wr x10.val := hxx.trans (x10.below.mono hxx.size)
              exact hBz.trans (hx1.mono hBz.size))
    · go_enter Try.func5, Try.ntmps5
      have l1n : ¬ Lb.length < La.length := by omega
      have l2n : ¬ sb.r.o.length < sa.r.o.length := by omega
      go_wp2_with (first | (go_at_call 9; refine' Calls.aft _ _ (awake8_any _) _; rotate_left 2; (first | (with_reducible exact After.below _; rfl) | (with_reducible exact below_drew (After.below _); rfl) | (with_reducible exact below_set (After.below _) _ _; (go_simp; rfl)) | (with_reducible exact below_set (below_set (After.below _) _ _) _ _; (go_simp; rfl)) | (with_reducible exact below_set (below_set (below_set (After.below _) _ _) _ _) _ _; (go_simp; rfl)) | (with_reducible exact below_set (below_set (below_set (below_set (After.below _) _ _) _ _) _ _) _ _; (go_simp; rfl)) | (exact Below.refl _ _; rfl)); intro x1; have hle := After.le x1; (try simp at hle)) | (go_at_call 10; refine' Calls.aft _ _ (hfw _ (hbx x1)) _; rotate_left 2; (first | (with_reducible exact After.below _; rfl) | (with_reducible exact below_drew (After.below _); rfl) | (with_reducible exact below_set (After.below _) _ _; (go_simp; rfl)) | (with_reducible exact below_set (below_set (After.below _) _ _) _ _; (go_simp; rfl)) | (with_reducible exact below_set (below_set (below_set (After.below _) _ _) _ _) _ _; (go_simp; rfl)) | (with_reducible exact below_set (below_set (below_set (below_set (After.below _) _ _) _ _) _ _) _ _; (go_simp; rfl)) | (exact Below.refl _ _; rfl)); intro x2; have hle := After.le x2; (try simp at hle)) | (go_at_call 21; first | (with_reducible refine (hg1 _ (hbx x2)).mono ?_; rintro e q1 ⟨va, oa, rfl, hFa, hq1⟩; obtain ⟨⟨ap, ac, rfl⟩, ⟨aop, aoc, rfl⟩⟩ := hFa.len; have hB1 := (nextB hq1 (hbx x2)); have p1 := nextC hq1 (hpc x2); have pl1 := World.block_lt_of_cell? _ _ p1; have hB2 := hB1.alloc hB1.size (.cells #[.slice ap La.length ac, .slice aop sa.r.o.length aoc, .bool true] 53)) | (with_reducible refine (hg2 _ hB2).mono ?_; rintro e q2 ⟨vb, ob, rfl, hFb, hq2⟩; obtain ⟨⟨bp, bc, rfl⟩, ⟨bop, boc, rfl⟩⟩ := hFb.len; have hB3 := nextB hq2 hB2; have p2 := nextC hq2 ((World.cell?_alloc_lt _ _ _ pl1).trans p1); have pl2 := World.block_lt_of_cell? _ _ p2; obtain ⟨k0, k1, k2, _, kl⟩ := three (blk_next hq2 (heap_alloc_new q1 (.cells #[.slice ap La.length ac, .slice aop sa.r.o.length aoc, .bool true] 53))))))
      have hB4 := hB3.alloc hB3.size (.cells #[.slice bp Lb.length bc, .slice bop sb.r.o.length boc, .bool true] 53)
      obtain ⟨W5, hW5⟩ : ∃ W5, W5 = q2.alloc (.cells #[.slice bp Lb.length bc, .slice bop sb.r.o.length boc, .bool true] 53) := ⟨_, rfl⟩
      have hBw : Below w.heap.size w W5 := by rw [hW5]; exact hB4
      have hq5 : Below q2.heap.size q2 W5 := by rw [hW5]; exact (Below.refl _ _).alloc (Nat.le_refl _) _
      have p5 := nextC hq5 p2
      have a0 := nextC hq5 k0
      obtain ⟨m0, m1, m2, _, ml⟩ := three (B := q2.heap.size) (W := W5) (by rw [hW5]; exact heap_alloc_new _ _ : W5.heap[q2.heap.size]? = some (.cells #[.slice bp Lb.length bc, .slice bop sb.r.o.length boc, .bool true] 53))
      have hF1 := ((hFa.below ((Below.refl q1.heap.size q1).alloc (Nat.le_refl _) (.cells #[.slice ap La.length ac, .slice aop sa.r.o.length aoc, .bool true] 53))).below hq2).below hq5
      have hF2 := hFb.below hq5
      rw [← hW5]
      clear hW5 hB4 hB3 hB2 hB1 p1 p2 pl1 pl2 k0 k1 k2 kl hFa hFb hq1 hq2 hg1 hg2 hfw l1 l2
      have hou := Sl.of_own hF2.ou
      obtain ⟨ab, aoff, Xa, hXa, hap, hac, har⟩ := hF1.visits
      obtain ⟨bb, boff, Xb, hXb, hbp, hbc, hbr⟩ := hF2.visits
      clear hF1 hF2 hq5
      go_loopw [96] (fun i wr => ∃ k : Nat, k ≤ La.length ∧ i = .int .i64 k ∧ Below W5.heap.size W5 wr) (fun i _ => La.length - (intOf i).toNat)
      case atStart => exact ⟨0, Nat.zero_le _, rfl, Below.refl _ _⟩
      case round =>
        obtain ⟨k, hk, rfl, hBk⟩ := hrel
        have p5 := nextC hBk p5
        have pl5 := World.block_lt_of_cell? _ _ p5
        have m0 := nextC hBk m0
        have m1 := nextC hBk m1
        have m2 := nextC hBk m2
        have ml := World.block_lt_of_cell? _ _ m0
        by_cases hlt : k < La.length
        · obtain rfl := hap (by omega)
          obtain rfl := hbp (by omega)
          have hlt3 : (k : Int) < La.length := by omega
          have hlt4 : (k : Int) < Lb.length := by omega
          have hka : k < Xa.length := by rw [← hXa, List.length_map] at hlt; exact hlt
          have hkb : k < Xb.length := by have h9 : k < Lb.length := (by omega); rw [← hXb, List.length_map] at h9; exact h9
          have hpp : (Xa[k]'hka).p = (Xb[k]'hkb).p := by
            have h9 := b4 k hlt
            rw [← hXa, ← hXb, List.getElem?_map, List.getElem?_map, List.getElem?_eq_getElem hka, List.getElem?_eq_getElem hkb] at h9
            exact (Option.some.inj h9).symm
          have hok := hOk (Xb[k]'hkb).p (by rw [← hXb]; exact List.mem_map_of_mem (List.getElem_mem hkb))
          have hca : ∀ r u, ((Xa[k]'hka).cs)[r]? = some u → wr.cell? ⟨ab, aoff + k * 4 + r, none⟩ = some u := fun r u hu => by
            rw [Nat.add_assoc]; exact nextC hBk (hac k hka r u hu)
          have hcb : ∀ r u, ((Xb[k]'hkb).cs)[r]? = some u → wr.cell? ⟨bb, boff + k * 4 + r, none⟩ = some u := fun r u hu => by
            rw [Nat.add_assoc]; exact nextC hBk (hbc k hkb r u hu)
          have hra := (har _ (List.getElem_mem hka)).below hBk
          have hrb := (hbr _ (List.getElem_mem hkb)).below hBk
          clear hac hbc har hbr b4 b5
          generalize Xa[k]'hka = xa at hpp hca hra
          generalize Xb[k]'hkb = xb at hpp hcb hrb hok
          obtain ⟨⟨pb, pr⟩, ev1, ov1⟩ := xa
          obtain ⟨pp, ev2, ov2⟩ := xb
          have hpp : (⟨pb, pr⟩ : Ps) = pp := hpp
          subst hpp
          have hra : Rn _ wr ev1 ov1 pr := hra
          have hrb : Rn _ wr ev2 ov2 pr := hrb
          obtain ⟨e1p, e1c, rfl⟩ := own_len hra.e
          obtain ⟨o1p, o1c, rfl⟩ := own_len hra.o
          obtain ⟨e2p, e2c, rfl⟩ := own_len hrb.e
          obtain ⟨o2p, o2c, rfl⟩ := own_len hrb.o
          have hle1 : pr.e.length ≤ 1000000 := by have h8 : pr.e.length = _ := hok.1.2.2.1; have := (proper_vars h0).1; omega
          have hle2 : pr.o.length ≤ 1000000 := by have h8 : pr.o.length ≤ 1000 := hok.2; omega
          have hsm := fun (W : World) (hB : Below wr.heap.size wr W) => sameS_any pb pr.i pb pr.i pr.e pr.o pr.e pr.o hle1 hle2 hle1 hle2 _ _ _ _ W ((Sl.of_own hra.e).below hB) ((Sl.of_own hra.o).below hB) ((Sl.of_own hrb.e).below hB) ((Sl.of_own hrb.o).below hB)
          rw [show sameSt pb pr.i pr.e pr.o pb pr.i pr.e pr.o = true by unfold sameSt; simp] at hsm
          have hsm2 := fun (x : After (wr.alloc (.cells #[.int .i64 pb, .slice e1p pr.e.length e1c, .int .i64 pr.i, .slice o1p pr.o.length o1c] 47))) => hsm x.val (((Below.refl _ _).alloc (Nat.le_refl _) _).trans (x.below.mono (by simp)))
          have c0 : wr.cell? ⟨ab, aoff + k * 4, none⟩ = some (.int .i64 pb) := hca 0 _ rfl
          have cl := World.block_lt_of_cell? _ _ c0
          have c1 : wr.cell? ⟨ab, aoff + k * 4 + 1, none⟩ = some (.slice e1p pr.e.length e1c) := hca 1 _ rfl
          have c2 : wr.cell? ⟨ab, aoff + k * 4 + 2, none⟩ = some (.int .i64 pr.i) := hca 2 _ rfl
          have c3 : wr.cell? ⟨ab, aoff + k * 4 + 3, none⟩ = some (.slice o1p pr.o.length o1c) := hca 3 _ rfl
          have d0 : wr.cell? ⟨bb, boff + k * 4, none⟩ = some (.int .i64 pb) := hcb 0 _ rfl
          have dl := World.block_lt_of_cell? _ _ d0
          have d1 : wr.cell? ⟨bb, boff + k * 4 + 1, none⟩ = some (.slice e2p pr.e.length e2c) := hcb 1 _ rfl
          have d2 : wr.cell? ⟨bb, boff + k * 4 + 2, none⟩ = some (.int .i64 pr.i) := hcb 2 _ rfl
          have d3 : wr.cell? ⟨bb, boff + k * 4 + 3, none⟩ = some (.slice o2p pr.o.length o2c) := hcb 3 _ rfl
          clear hca hcb hra hrb hsm hok hle1 hle2 hOk hou
          have hBa := hBk.alloc hBk.size (.cells #[.int .i64 pb, .slice e1p pr.e.length e1c, .int .i64 pr.i, .slice o1p pr.o.length o1c] 47)
          go_wp2_with fail
          refine' region_whole _ _ (by kernel_rfl) (by kernel_rfl) _; rotate_left 2; (exact Below.refl _ _; rfl); (repeat (go_big_quiet_step (first | (go_at_call 16; exact Calls.after_of (back_any _ _ _ _ _ _ _ _ _)) | (go_at_call 15; exact Calls.after_of (hsm2 _))))); refine wpQuiet_nil ?_; intro z
          go_wp2_with fail
          go_roundw
          case rel => exact ⟨k + 1, by omega, by simp, hBa.trans (z.below.mono hBa.size)⟩
          case measure => simp [intOf]; omega
        · have hks : k = La.length := by omega
          subst hks
          have hlt3 : ¬ (La.length : Int) < La.length := by omega
          clear hac har hap b4
          by_cases hln : Lb.length ≤ n
          · have hln2 : (Lb.length : Int) ≤ n := by omega
            clear hbc hbr b5 hOk hou
            go_wp2_with fail
            go_ret
            exact ⟨rfl, hBw.trans (hBk.mono hBw.size)⟩
          · have hln2 : ¬ (Lb.length : Int) ≤ n := by omega
            have hln3 : (n : Int) < Lb.length := by omega
            have hln4 : n < Lb.length := by omega
            obtain rfl := hbp (by omega)
            have hnb : n < Xb.length := by have h9 : n < Lb.length := (by omega); rw [← hXb, List.length_map] at h9; exact h9
            have hpn : Lb[n]'hln4 = (Xb[n]'hnb).p := by
              have h9 : Lb[n]? = some (Xb[n]'hnb).p := by rw [← hXb, List.getElem?_map, List.getElem?_eq_getElem hnb]; rfl
              rw [List.getElem?_eq_getElem hln4] at h9
              exact Option.some.inj h9
            have b6 := b5 hln4
            rw [hpn] at b6
            have hok := hOk (Xb[n]'hnb).p (by rw [← hXb]; exact List.mem_map_of_mem (List.getElem_mem hnb))
            have hcb : ∀ r u, ((Xb[n]'hnb).cs)[r]? = some u → wr.cell? ⟨bb, boff + n * 4 + r, none⟩ = some u := fun r u hu => by
              rw [Nat.add_assoc]; exact nextC hBk (hbc n hnb r u hu)
            have hrb := (hbr _ (List.getElem_mem hnb)).below hBk
            clear hbc hbr b5 hpn
            generalize Xb[n]'hnb = xb at hcb hrb hok b6
            obtain ⟨⟨pb, pr⟩, ev2, ov2⟩ := xb
            have hrb : Rn _ wr ev2 ov2 pr := hrb
            obtain ⟨e2p, e2c, rfl⟩ := own_len hrb.e
            obtain ⟨o2p, o2c, rfl⟩ := own_len hrb.o
            have d0 : wr.cell? ⟨bb, boff + n * 4, none⟩ = some (.int .i64 pb) := hcb 0 _ rfl
            have dl := World.block_lt_of_cell? _ _ d0
            have d1 : wr.cell? ⟨bb, boff + n * 4 + 1, none⟩ = some (.slice e2p pr.e.length e2c) := hcb 1 _ rfl
            have d2 : wr.cell? ⟨bb, boff + n * 4 + 2, none⟩ = some (.int .i64 pr.i) := hcb 2 _ rfl
            have d3 : wr.cell? ⟨bb, boff + n * 4 + 3, none⟩ = some (.slice o2p pr.o.length o2c) := hcb 3 _ rfl
            have hBz := hBw.trans (hBk.mono hBw.size)
            have hPw := hH.2.1.below hBz
            have hIw := hH.2.2.below hBz
            have hEw := Sl.of_own hrb.e
            have hOw := Sl.of_own hrb.o
            have hou2 := hou.below hBk
            have hfrom : ∀ (W : World) (hS : ∀ b o, b < wr.heap.size → W.cell? ⟨b, o, none⟩ = wr.cell? ⟨b, o, none⟩) (m' : Int) (hm : m' = (d : Int)), Calls Try.prog 19 #[.agg #[.slice p P.length cap], .agg #[.int .i64 pb, .slice e2p pr.e.length e2c, .int .i64 pr.i, .slice o2p pr.o.length o2c], .slice ip I.length ic, .int .i64 m'] W fun e w' => ∃ x : Value × Value, e = .returned ((fun x : Value × Value => Value.tuple #[.agg #[x.1, x.2, .bool (!gb)], .int .i64 0]) x) ∧ (fun (x : Value × Value) W2 => FOut W2 W.heap.size (Lb.drop n) sb.r.o x.1 x.2) x w' ∧ Below W.heap.size W w' := fun W hS m' hm => by
              subst hm
              have h9 := from_ok P I ⟨pb, pr⟩ (chk_of h0 hok.1.1 hok.1.2.1 hok.1.2.2.1 hok.1.2.2.2) hok.2 d _ _ _ _ W (pgC8 hPw hS) h12 hl12 (slC8 hIw hS) (slC8 hEw hS) (slC8 hOw hS)
              rw [capN_nat (by omega), b6] at h9
              exact fo_pair h9
            rw [hgb] at hfrom
            have hdl : ((Lb.drop n).length : Int) = (Lb.length : Int) - n := by rw [List.length_drop]; omega
            generalize Lb.drop n = Lc at hfrom hdl
            have hdb : ((Lc.length : Int) == (Lb.length : Int) - (n : Int)) = true := by rw [hdl]; simp
            have hsbl : sb.r.o.length ≤ 1000000 := by omega
            have hwl : IntKind.i64.wrap ((Lb.length : Int) - (n : Int)) = (Lb.length : Int) - (n : Int) := by rw [IntKind.wrap_i64]; omega
            clear hcb hrb hok b6 hPw hIw hEw hOw hou hOk hdl hgb hXb hXa hH
            go_wp2_with fail
            first | (go_region_held3 (fun w' => ∀ b o, b < wr.heap.size → w'.cell? ⟨b, o, none⟩ = wr.cell? ⟨b, o, none⟩)
              (((try dsimp only); intro b9 o9 h9; refine Below.cell (B := wr.heap.size) (w := wr) ?_ h9; clear h9; (repeat (first | exact Below.refl _ _ | apply Below.drew | refine Below.alloc ?_ ?_ _ | refine Below.setCell ?_ ?_ _ | refine Below.trans ?_ (Below.mono (After.below _) ?_))); (all_goals (first | (simp; done) | (simp; omega) | omega))))
              ((go_at_call 19; (with_reducible refine' Calls.aftS _ _ (hfrom _ (by assumption) _ (by first | omega | (rw [IntKind.wrap_i64]; omega))) _; rotate_left 2; (exact Below.refl _ _; rfl); intro v9 x9 hF9; have hle := After.le x9; (try simp at hle)); obtain ⟨vc, oc⟩ := v9; have hF9 : FOut x9.val _ _ _ vc oc := hF9; obtain ⟨⟨cp, cc, rfl⟩, ⟨cop, coc, rfl⟩⟩ := hF9.len))) | fail
            all_goals (
              have kd : wr.drew.heap.size = wr.heap.size := rfl
              have hx : Below wr.heap.size wr x9.val := by first | exact ((Below.refl _ _).drew).trans x9.below | exact (((Below.refl _ _).drew).alloc (Nat.le_refl _) _).trans (x9.below.mono (by simp [kd]))
              go_wp2_with (go_at_call 26; first | (with_reducible refine' Calls.aft _ _ (nums_any sb.r.o sb.r.o hsbl hsbl _ _ _ (Sl.of_own (hF9.below ((Below.refl _ _).alloc (Nat.le_refl _) _)).ou) (hou2.below (hx.alloc hx.size _))) _; rotate_left 2; (exact Below.refl _ _; rfl); intro x10; have hxx := hx.alloc hx.size (.cells #[.slice cp Lc.length cc, .slice cop sb.r.o.length coc, .bool true] 53)) | (with_reducible refine' Calls.aft _ _ (nums_any sb.r.o sb.r.o hsbl hsbl _ _ _ (Sl.of_own (((hF9.set (by simp [kd])).set (by simp [kd])).set (by simp [kd])).ou) (hou2.below (((hx.setCell (p := ⟨wr.heap.size, 0, none⟩) (Nat.le_refl _) _).setCell (p := ⟨wr.heap.size, 1, none⟩) (Nat.le_refl _) _).setCell (p := ⟨wr.heap.size, 2, none⟩) (Nat.le_refl _) _))) _; rotate_left 2; (exact Below.refl _ _; rfl); intro x10; have hxx := ((hx.setCell (p := ⟨wr.heap.size, 0, none⟩) (Nat.le_refl _) (.slice cp Lc.length cc)).setCell (p := ⟨wr.heap.size, 1, none⟩) (Nat.le_refl _) (.slice cop sb.r.o.length coc)).setCell (p := ⟨wr.heap.size, 2, none⟩) (Nat.le_refl _) (.bool true)))
              go_ret
              refine ⟨by first | rfl | (simp; done) | (simp [hdb]; done), ?_⟩
              have hx1 : Below wr.heap.size wr x10.val := hxx.trans (x10.below.mono hxx.size)
              exact hBz.trans (hx1.mono hBz.size))
  · clear hgood
    have hbad := hbad h0 h12 hl12
    generalize checkOf P = K at h0 hbad
    go_enter Try.func5, Try.ntmps5
    go_wp2_with (first | (go_at_call 9; refine' Calls.aft _ _ (awake8_any _) _; rotate_left 2; (first | (with_reducible exact After.below _; rfl) | (with_reducible exact below_drew (After.below _); rfl) | (with_reducible exact below_set (After.below _) _ _; (go_simp; rfl)) | (with_reducible exact below_set (below_set (After.below _) _ _) _ _; (go_simp; rfl)) | (with_reducible exact below_set (below_set (below_set (After.below _) _ _) _ _) _ _; (go_simp; rfl)) | (with_reducible exact below_set (below_set (below_set (below_set (After.below _) _ _) _ _) _ _) _ _; (go_simp; rfl)) | (exact Below.refl _ _; rfl)); intro x1; have hle := After.le x1; (try simp at hle)) | (go_at_call 10; refine' Calls.aft _ _ (hfw _ (hbx x1)) _; rotate_left 2; (first | (with_reducible exact After.below _; rfl) | (with_reducible exact below_drew (After.below _); rfl) | (with_reducible exact below_set (After.below _) _ _; (go_simp; rfl)) | (with_reducible exact below_set (below_set (After.below _) _ _) _ _; (go_simp; rfl)) | (with_reducible exact below_set (below_set (below_set (After.below _) _ _) _ _) _ _; (go_simp; rfl)) | (with_reducible exact below_set (below_set (below_set (below_set (After.below _) _ _) _ _) _ _) _ _; (go_simp; rfl)) | (exact Below.refl _ _; rfl)); intro x2; have hle := After.le x2; (try simp at hle)) | (go_at_call 21; first | (with_reducible refine' Calls.aft _ _ (hbad _ _ (hbx x2)) _; rotate_left 2; (first | (with_reducible exact After.below _; rfl) | (with_reducible exact below_drew (After.below _); rfl) | (with_reducible exact below_set (After.below _) _ _; (go_simp; rfl)) | (with_reducible exact below_set (below_set (After.below _) _ _) _ _; (go_simp; rfl)) | (with_reducible exact below_set (below_set (below_set (After.below _) _ _) _ _) _ _; (go_simp; rfl)) | (with_reducible exact below_set (below_set (below_set (below_set (After.below _) _ _) _ _) _ _) _ _; (go_simp; rfl)) | (exact Below.refl _ _; rfl)); intro x3; have hle := After.le x3; (try simp at hle)) | (with_reducible refine' Calls.aft _ _ (hbad _ _ ((hbx x3).alloc (hbx x3).size _)) _; rotate_left 2; (first | (with_reducible exact After.below _; rfl) | (with_reducible exact below_drew (After.below _); rfl) | (with_reducible exact below_set (After.below _) _ _; (go_simp; rfl)) | (with_reducible exact below_set (below_set (After.below _) _ _) _ _; (go_simp; rfl)) | (with_reducible exact below_set (below_set (below_set (After.below _) _ _) _ _) _ _; (go_simp; rfl)) | (with_reducible exact below_set (below_set (below_set (below_set (After.below _) _ _) _ _) _ _) _ _; (go_simp; rfl)) | (exact Below.refl _ _; rfl)); intro x4; have hle := After.le x4; (try simp at hle))))
    go_ret
    refine ⟨by simp, ?_⟩
    (repeat (first | exact Below.refl _ _ | apply Below.drew | refine Below.alloc ?_ ?_ _ | refine Below.setCell ?_ ?_ _ | refine Below.trans ?_ (Below.mono (After.below _) ?_))); (all_goals (first | (simp; done) | (simp; omega) | omega))

end Go.Proofs.Ytaaklejkngpddaa.Pr
