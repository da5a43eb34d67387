/- TripsValues: it answers true, of a proper program. WALK of the law. -/
import Derived.Test.YtaaklejkngpddaaMD
namespace Go.Proofs.Ytaaklejkngpddaa.Pr
set_option linter.unusedVariables false
set_option linter.unusedSimpArgs false
open Go Go.RowKit

theorem two9 {W : World} {B : Nat} {v0 v1 : Value} {t : TypeId} (h : W.heap[B]? = some (.cells #[v0, v1] t (0, 0))) :
    W.cell? ⟨B, 0, none⟩ = some v0 ∧ W.cell? ⟨B, 1, none⟩ = some v1 ∧ B < W.heap.size :=
  ⟨(cell_of_row W B 0 _ t (0, 0) h).trans rfl, (cell_of_row W B 1 _ t (0, 0) h).trans rfl, lt_of_some h⟩
theorem set2 {q : World} {B : Nat} {t : TypeId} {a0 a1 : Value} (b0 b1 : Value) (h : q.heap[B]? = some (.cells #[a0, a1] t (0, 0))) :
    ((q.setCell ⟨B, 0, none⟩ b0).setCell ⟨B, 1, none⟩ b1).heap[B]? = some (.cells #[b0, b1] t (0, 0)) := by
  have h1 := heap_setCell_same _ B 0 _ t b0 h
  exact heap_setCell_same _ B 1 _ t b1 h1
theorem slC {α : Type} {enc : α → List Value} {W q : World} {v : Value} {L : List α} (h : Sl W v enc L) (hq : ∀ b o, b < W.heap.size → q.cell? ⟨b, o, none⟩ = W.cell? ⟨b, o, none⟩) : Sl q v enc L := by
  obtain ⟨b, off, p, cap, hv, hp, hc⟩ := h
  exact ⟨b, off, p, cap, hv, hp, fun j u hu => (hq b _ (World.block_lt_of_cell? _ _ (hc j u hu))).trans (hc j u hu)⟩
theorem pgC {W q : World} {v : Value} {P : List Bl} (h : Pg W v P) (hq : ∀ b o, b < W.heap.size → q.cell? ⟨b, o, none⟩ = W.cell? ⟨b, o, none⟩) : Pg q v P := ⟨slC h.1 hq, fun b hb => slC (h.2 b hb) hq⟩
theorem lv_len {W : World} {v : Value} {X : List Lv} {K : List (List Int)} {n : Nat} (h : X.map Lv.l = K) (hk : Hid (K.length = n)) (hs : Sl W v Lv.cs X) : ∃ p c, v = .slice p n c := by
  obtain ⟨p, c, hv⟩ := sl_len hs
  have h1 : K.length = n := hk
  have h2 : X.length = n := by rw [← h1, ← h, List.length_map]
  exact ⟨p, c, by rw [hv, h2]⟩
theorem dnew (W : World) (o : Obj) : ((W.alloc o).drew).heap[W.heap.size]? = some o := heap_alloc_new W o
theorem dnew2 (W : World) (o : Obj) : (W.drew.alloc o).heap[W.heap.size]? = some o := heap_alloc_new W.drew o

set_option maxRecDepth 100000 in
set_option maxHeartbeats 16000000 in
theorem tripsValues_ok (P : List Bl) (I : List Nu) (most : Int) (pv : Value) (hcp : CapOk pv) (iv : Value) (w : World) (h : Pg w pv P) (hI : Sl w iv Nu.cs I) (hf : fewT P I = true) (hc : checkOf P = 0) :
    Calls Try.prog 8 #[.agg #[pv], iv, .int .i64 most] w fun e w' => e = .returned (.bool true) ∧ Below w.heap.size w w' := by
  obtain ⟨h12, hl12, hIl⟩ := fewT_le hf
  have hH := And.intro True.intro h
  obtain ⟨bb, off, p, cap, rfl, hpp, hpc⟩ := Pg.open h
  have hfw := fun (W : World) (hB : Below w.heap.size w W) => few9_any P I _ iv hcp W (h.below hB) (hI.below hB)
  have hck := fun (W : World) (hB : Below w.heap.size w W) => rcheck_any P h12 hl12 _ hcp W (h.below hB)
  have hall := fun (W : World) (hB : Below w.heap.size w W) => allF_ok P I hc (min most 25) _ iv W (h.below hB) h12 hl12 (hI.below hB)
  have hla := fun (W : World) (hB : Below w.heap.size w W) => last_ok P I hc (min most 25) _ iv W (h.below hB) h12 hl12 (hI.below hB)
  have hkn := fun (W : World) (hB : Below w.heap.size w W) => known_ok P I hc (min most 25) _ iv W (h.below hB) h12 hl12 (hI.below hB)
  have hOk := (fromS_ok (I := I) hc hl12 (capN (min most 25)) (beginS P) true ⟨Int.le_refl 0, by have := (proper_vars hc).2; show (0 : Int) < P.length; omega, by simp [beginS], Int.le_refl 0⟩).2.2
  have hLl := (fromS_len P I (capN (min most 25)) (beginS P) true).1
  have hva := vals_at hc hl12 (I := I) (capN (min most 25))
  have hcn : capN (min most 25) ≤ 40 := by unfold capN; omega
  have hvl := (proper_vars hc).1
  have hel : (exprsOf P).length ≤ 1000 := by have := exprs_len hl12 P.length (Nat.le_refl _); rw [List.take_length] at this; omega
  have hsl : (sitesOf P).length ≤ 1000 := trsites_len h12 hl12
  obtain ⟨ip, ic, rfl⟩ : ∃ p cap, iv = .slice p I.length cap := by obtain ⟨b, off, p, cap, hv, _⟩ := hI; exact ⟨p, cap, hv⟩
  have hb1 : Below w.heap.size w (w.alloc (.cells #[.slice p P.length cap] 24)) := (Below.refl _ _).alloc (Nat.le_refl _) _
  rw [hf] at hfw
  rw [hc] at hck
  generalize fromS P I (capN (min most 25)) (beginS P) true = T at hall hla hkn hOk hLl hva
  obtain ⟨L, sa, ga⟩ := T
  generalize hgg : (!ga) = gg at hall
  clear hgg
  have hOk2 : ∀ t ∈ L, 0 ≤ t.b ∧ t.b < P.length := fun t ht => ⟨(hOk t ht).1.1, (hOk t ht).1.2.1⟩
  have hEl : ∀ t ∈ L, t.r.e.length ≤ 1000 := fun t ht => by have h9 := (hOk t ht).1.2.2.1; omega
  have hLl : L.length ≤ 40 := Nat.le_trans hLl hcn
  obtain ⟨hLs, hLi⟩ := lastW_all P (sitesOf P) L (nowK (vars P).length (vars P).length) L.length (Nat.le_refl _)
  obtain ⟨hKs, hKi⟩ := knownW_all P (exprsOf P) L (List.replicate (exprsOf P).length false) L.length (Nat.le_refl _)
  have hkl := fun m => knownW_len P (exprsOf P) L (List.replicate (exprsOf P).length false) m
  have hll := fun m => lastW_len P (sitesOf P) L (nowK (vars P).length (vars P).length) m
  generalize (lastW P (sitesOf P) L (nowK (vars P).length (vars P).length) L.length).1 = Ls at hla hLs hLi
  generalize (knownW P (exprsOf P) L (List.replicate (exprsOf P).length false) L.length).1 = Ks at hkn hKs hKi
  have hla : ∀ (W : World) (hB : Below w.heap.size w W), Calls Try.prog 35 #[.agg #[.slice p P.length cap], .slice ip I.length ic, .int .i64 (min most 25)] W fun e w' => ∃ v, e = .returned ((fun v : Value => Value.tuple #[v, .int .i64 0]) v) ∧ (fun (v : Value) W' => ∃ X : List Lv, X.map Lv.l = Ls ∧ Sl W' v Lv.cs X ∧ ∀ x ∈ X, Sl W' x.v ecI x.l) v w' ∧ Below W.heap.size W w' := hla
  have hkn : ∀ (W : World) (hB : Below w.heap.size w W), Calls Try.prog 34 #[.agg #[.slice p P.length cap], .slice ip I.length ic, .int .i64 (min most 25)] W fun e w' => ∃ v, e = .returned ((fun v : Value => Value.tuple #[v, .int .i64 0]) v) ∧ (fun (v : Value) W' => ∃ X : List Lv, X.map Lv.l = Ks ∧ Sl W' v Lv.cs X ∧ ∀ x ∈ X, Sl W' x.v ecI x.l) v w' ∧ Below W.heap.size W w' := hkn
  generalize sa.r.o = Oa at hall
  have hall : ∀ (W : World) (hB : Below w.heap.size w W), Calls Try.prog 21 #[.agg #[.slice p P.length cap], .slice ip I.length ic, .int .i64 (min most 25)] W fun e w' => ∃ x : Value × Value, e = .returned ((fun x : Value × Value => Value.tuple #[.agg #[x.1, x.2, .bool gg], .int .i64 0]) x) ∧ (fun (x : Value × Value) W2 => FOut W2 W.heap.size L Oa x.1 x.2) x w' ∧ Below W.heap.size W w' := fun W hB =>
    (hall W hB).mono fun e w' ⟨vv, ov, he, hr, hb⟩ => ⟨(vv, ov), he, hr, hb⟩
  have hex : ∀ (V : World) (hB : Below w.heap.size w V), Calls Try.prog 36 #[.agg #[.slice p P.length cap]] V fun e w' => ∃ v, e = .returned ((fun v : Value => v) v) ∧ (fun (v : Value) w' => Sl w' v Ex.cs (exprsOf P)) v w' ∧ Below V.heap.size V w' := fun V hB => (exprs_any P _ V (h.below hB) h12 hl12).mono fun e w' ⟨o, he, ho, hb⟩ => ⟨o, he, Sl.of_own ho, hb⟩
  have hsi : ∀ (V : World) (hB : Below w.heap.size w V), Calls Try.prog 37 #[.agg #[.slice p P.length cap]] V fun e w' => ∃ v, e = .returned ((fun v : Value => v) v) ∧ (fun (v : Value) w' => Sl w' v Si.cs (sitesOf P)) v w' ∧ Below V.heap.size V w' := fun V hB => tsites_any P _ V (h.below hB) h12 hl12
  have hfr := fun Xs hXs hsh m s k hm sb sk sv hs x hk blk vp vcap hcap op on oc (W : World) (hB : Below w.heap.size w W) hV => fresh_any P L hOk2 (by omega) Xs hXs hsh m s k hm sb sk sv hs x hk blk _ vp vcap hcap op on oc gg W (h.below hB) h12 hl12 hV
  have hLlH : Hid (L.length ≤ 40) := hLl
  have hXK : Hid (Ks.length = L.length) := hKs
  have hXL : Hid (Ls.length = L.length) := hLs
  have hvlH : (vars P).length ≤ 1000 := by omega
  clear hI hcp hf hcn hvl hIl hc h hOk hKs hLs
  go_enter Try.func8, Try.ntmps8
  go_wp2_with (first | (go_at_call 31; refine' Calls.aft _ _ (awake9_any _) _; rotate_left 2; (first | (with_reducible exact After.below _; rfl) | (with_reducible exact below_drew (After.below _); rfl) | (with_reducible exact below_set (After.below _) _ _; (go_simp; rfl)) | (with_reducible exact below_set (below_set (After.below _) _ _) _ _; (go_simp; rfl)) | (with_reducible exact below_set (below_set (below_set (After.below _) _ _) _ _) _ _; (go_simp; rfl)) | (with_reducible exact below_set (below_set (below_set (below_set (After.below _) _ _) _ _) _ _) _ _; (go_simp; rfl)) | (exact Below.refl _ _; rfl)); intro w1; have hle := After.le w1; (try simp at hle)) | ((go_at_call 33; refine' Calls.aft _ _ (hfw _ (hb1.trans (w1.below.mono hb1.size))) _; rotate_left 2; (first | (with_reducible exact After.below _; rfl) | (with_reducible exact below_drew (After.below _); rfl) | (with_reducible exact below_set (After.below _) _ _; (go_simp; rfl)) | (with_reducible exact below_set (below_set (After.below _) _ _) _ _; (go_simp; rfl)) | (with_reducible exact below_set (below_set (below_set (After.below _) _ _) _ _) _ _; (go_simp; rfl)) | (with_reducible exact below_set (below_set (below_set (below_set (After.below _) _ _) _ _) _ _) _ _; (go_simp; rfl)) | (exact Below.refl _ _; rfl)); intro w2; have hle := After.le w2; (try simp at hle)); have hB2 : Below w.heap.size w w2.val := hb1.trans (w2.below.mono hb1.size); have y0 : w2.val.cell? ⟨w.heap.size, 0, none⟩ = some (Value.slice p P.length cap) := (w2.below.cell (p := ⟨w.heap.size, 0, none⟩) (by simp)).trans (by simp : _ = some (Value.slice p P.length cap))) | ((go_at_call 23; refine' Calls.aft _ _ (hck _ hB2) _; rotate_left 2; (exact Below.refl _ _; rfl); intro w3; have hle := After.le w3; (try simp at hle)); have hB3 := nextB w3.below hB2) | ((go_at_call 21; refine' Calls.aftS _ _ (hall _ hB3) _; rotate_left 2; (exact Below.refl _ _; rfl); intro v4 w4 ho4; have hle := After.le w4; (try simp at hle)); obtain ⟨va, oa⟩ := v4; have ho4 : FOut w4.val _ L Oa va oa := ho4; obtain ⟨⟨ap, ac, rfl⟩, aop, aoc, rfl⟩ := ho4.len; have hB4 := nextB ((Below.refl w4.val.heap.size w4.val).alloc (Nat.le_refl _) (.cells #[.slice ap L.length ac, .slice aop Oa.length aoc, .bool gg] 53)) (nextB w4.below hB3)) | ((go_at_call 34; refine' Calls.aftS _ _ (hkn _ hB4) _; rotate_left 2; (exact Below.refl _ _; rfl); intro v5 w5 ho5; have hle := After.le w5; (try simp at hle)); obtain ⟨X4, hX4, hs4, hr4⟩ := ho5; obtain ⟨kp, kc, rfl⟩ : ∃ p c, v5 = .slice p L.length c := lv_len hX4 hXK hs4; have hB5 := nextB w5.below hB4) | ((go_at_call 35; refine' Calls.aftS _ _ (hla _ hB5) _; rotate_left 2; (exact Below.refl _ _; rfl); intro v6 w6 ho6; have hle := After.le w6; (try simp at hle)); obtain ⟨X3, hX3, hs3, hr3⟩ := ho6; obtain ⟨lp, lc, rfl⟩ : ∃ p c, v6 = .slice p L.length c := lv_len hX3 hXL hs3; have hB6 := nextB w6.below hB5))
  have hr7 : Below w4.val.heap.size w4.val (w4.val.alloc (.cells #[.slice ap L.length ac, .slice aop Oa.length aoc, .bool gg] 53)) := (Below.refl _ _).alloc (Nat.le_refl _) _
  have h56 := nextB w6.below w5.below
  have e7 := blk_next h56 (heap_alloc_new w4.val (.cells #[.slice ap L.length ac, .slice aop Oa.length aoc, .bool gg] 53))
  have y6 := nextC h56 (nextC hr7 (nextC w4.below (nextC w3.below y0)))
  have ho6 := (ho4.below hr7).below h56
  have t4 := hs4.below w6.below
  have r4 : ∀ x ∈ X4, Sl w6.val x.v ecI x.l := fun x hx => (hr4 x hx).below w6.below
  clear hs4 hr4
  obtain ⟨W6, hW6⟩ : ∃ W6, W6 = w6.val := ⟨_, rfl⟩
  obtain ⟨rb, hrb⟩ : ∃ rb, rb = w4.val.heap.size := ⟨_, rfl⟩
  obtain ⟨ub, hub⟩ : ∃ ub, ub = w3.val.heap.size := ⟨_, rfl⟩
  rw [← hrb] at e7
  rw [← hub] at ho6
  rw [← hW6] at e7 y6 ho6 t4 r4 hs3 hr3 hB6
  rw [← hW6, ← hrb]
  clear hW6 hrb hub hr7 h56 ho4 y0 hB2 hB3 hB4 hB5 hfw hck hall hla hkn hle hb1
  have hd : Below W6.heap.size W6 W6.drew := (Below.refl W6.heap.size W6).drew
  have yd := nextC hd y6
  have yl := World.block_lt_of_cell? _ _ yd
  have hBd := nextB hd hB6
  go_cut [13, 14] from 1000 to 1000 (fun v13 v14 wx => ∃ (ep : Option Addr) (ec : Nat) (sp : Option Addr) (sc : Nat), v13 = .slice ep (exprsOf P).length ec ∧ v14 = .slice sp (sitesOf P).length sc ∧ Sl wx (.slice ep (exprsOf P).length ec) Ex.cs (exprsOf P) ∧ Sl wx (.slice sp (sitesOf P).length sc) Si.cs (sitesOf P) ∧ Below W6.heap.size W6 wx)
  case first =>
    first | (go_region_law (first | (refine stepS rfl 36 #[.agg #[.slice p P.length cap]] (fun v : Value => v) (fun (v : Value) w' => Sl w' v Ex.cs (exprsOf P)) ?hop1 (hex _ hBd) ?_; (case hop1 => (go_simp; done)); intro ev q1 hoE hq1; obtain ⟨ep, ec, rfl⟩ : ∃ p c, ev = .slice p (exprsOf P).length c := sl_len hoE; have yq := nextC hq1 yd; have ylq := World.block_lt_of_cell? _ _ yq; have hBq := nextB hq1 hBd) | (refine stepS rfl 37 #[.agg #[.slice p P.length cap]] (fun v : Value => v) (fun (v : Value) w' => Sl w' v Si.cs (sitesOf P)) ?hop2 (hsi _ hBq) ?_; (case hop2 => (go_simp; done)); intro sv9 q2 hoS hq2; obtain ⟨sp, sc, rfl⟩ : ∃ p c, sv9 = .slice p (sitesOf P).length c := sl_len hoS))) | fail
    all_goals (go_wp2_with fail; go_meet; exact ⟨ep, ec, sp, sc, rfl, rfl, hoE.below hq2, hoS, nextB hq2 (nextB hq1 hd)⟩)
  case rest =>
    obtain ⟨ep, ec, sp, sc, rfl, rfl, hoE, hoS, hB9⟩ := hcut
    obtain ⟨Wb, hWb⟩ : ∃ Wb, Wb = wc := ⟨wc, rfl⟩
    subst hWb
    have hBb := nextB hB9 hB6
    have y0 := nextC hB9 y6
    have e7 := blk_next hB9 e7
    have ho := ho6.below hB9
    have f4 : Sl Wb (.slice kp L.length kc) Lv.cs X4 := t4.below hB9
    have f3 : Sl Wb (.slice lp L.length lc) Lv.cs X3 := hs3.below hB9
    have g4 : ∀ x ∈ X4, Sl Wb x.v ecI x.l := fun x hx => (r4 x hx).below hB9
    have g3 : ∀ x ∈ X3, Sl Wb x.v ecI x.l := fun x hx => (hr3 x hx).below hB9
    clear hs3 hr3 t4 r4
    obtain ⟨⟨Xs, hXm, hXo, hXr⟩, _⟩ := ho
    have hXs : Xs.length = L.length := by rw [← hXm, List.length_map]
    have hcap : L.length ≤ ac := by
      obtain ⟨_, _, h9, h8⟩ := own_cap hXo
      injection h9 with _ h7 h6
      omega
    have hV : Sl Wb (.slice ap L.length ac) Sv.cs Xs := Sl.of_own hXo
    have hXe : ∀ x ∈ Xs, Sl Wb x.ev Nu.cs x.p.r.e := fun x hx => Sl.of_own (hXr x hx).e
    have hsh : ∀ x ∈ Xs, (∃ p n c, x.ev = .slice p n c) ∧ ∃ p n c, x.ov = .slice p n c := fun x hx => ⟨by obtain ⟨p, c, h⟩ := own_len (hXr x hx).e; exact ⟨p, _, c, h⟩, by obtain ⟨p, c, h⟩ := own_len (hXr x hx).o; exact ⟨p, _, c, h⟩⟩
    have hXsH : Hid (Xs.length = L.length) := hXs
    have hXmH : Hid (Xs.map Sv.p = L) := hXm
    have hX4H : Hid (X4.map Lv.l = Ks) := hX4
    have hX3H : Hid (X3.map Lv.l = Ls) := hX3
    clear hXs hXm hX4 hX3 hXo hXr ho6 hB9 y6 hd yd yl hBd hex hsi hB6
    obtain ⟨r0, r1, r2, _, rl⟩ := three e7
    have yl := World.block_lt_of_cell? _ _ y0
    have hLl : L.length ≤ 40 := hLlH
    go_wp2_with fail
    clear r0 r1 r2 rl yl
    go_loopw [79] (fun i wr => ∃ j : Nat, j ≤ L.length ∧ i = .int .i64 j ∧ Below Wb.heap.size Wb wr) (fun i _ => L.length - (intOf i).toNat)
    case atStart => exact ⟨0, Nat.zero_le _, rfl, Below.refl _ _⟩
    case round =>
      obtain ⟨i, hi, rfl, hB⟩ := hrel
      have hw := hB.size
      by_cases hlt : i < L.length
      · have hlt2 : (i : Int) < L.length := by omega
        have hmx : i < Xs.length := by have : Xs.length = L.length := hXsH; omega
        have hLp : L[i]? = some (Xs[i]'hmx).p := by
          have h9 : Xs.map Sv.p = L := hXmH
          rw [← h9, List.getElem?_map, List.getElem?_eq_getElem hmx]; rfl
        have hva9 := hva i _ hLp
        have hok := hOk2 _ (List.mem_iff_getElem?.2 ⟨i, hLp⟩)
        have hel9 := hEl _ (List.mem_iff_getElem?.2 ⟨i, hLp⟩)
        have hsx := hsh _ (List.getElem_mem hmx)
        have hxe := hXe _ (List.getElem_mem hmx)
        obtain ⟨vb, voff, vp9, vcap9, hvv, hvp, hvc⟩ := hV.open Sv.cs_len
        injection hvv with hv1 hv2 hv3
        subst hv1 hv3
        clear hv2
        obtain rfl := hvp (by omega)
        have hcv : ∀ r u, ((Xs[i]'hmx).cs)[r]? = some u → wr.cell? ⟨vb, voff + i * 4 + r, none⟩ = some u := fun r u hu => by
          rw [Nat.add_assoc]
          exact nextC hB (hvc i hmx r u hu)
        clear hvc hvp
        -- the visit's lists
        have hx4 : i < X4.length := by have h9 : X4.map Lv.l = Ks := hX4H; have h8 : Ks.length = L.length := hXK; rw [← h9, List.length_map] at h8; omega
        have hx3 : i < X3.length := by have h9 : X3.map Lv.l = Ls := hX3H; have h8 : Ls.length = L.length := hXL; rw [← h9, List.length_map] at h8; omega
        have hk4 : (X4[i]'hx4).l = idxT (knownW P (exprsOf P) L (List.replicate (exprsOf P).length false) i).2 (knownW P (exprsOf P) L (List.replicate (exprsOf P).length false) i).2.length := by
          have h9 : X4.map Lv.l = Ks := hX4H
          have h8 := hKi i hlt
          rw [← h9, List.getElem?_map, List.getElem?_eq_getElem hx4] at h8
          exact Option.some.inj h8
        have hk3 : (X3[i]'hx3).l = (lastW P (sitesOf P) L (nowK (vars P).length (vars P).length) i).2 := by
          have h9 : X3.map Lv.l = Ls := hX3H
          have h8 := hLi i hlt
          rw [← h9, List.getElem?_map, List.getElem?_eq_getElem hx3] at h8
          exact Option.some.inj h8
        have hm4 : ∀ c ∈ (X4[i]'hx4).l, ∃ k : Nat, c = k ∧ k < (exprsOf P).length := fun c hc => by
          rw [hk4] at hc
          obtain ⟨k, h1, h2⟩ := idxT_mem _ _ c hc
          rw [hkl, List.length_replicate] at h2
          exact ⟨k, h1, h2⟩
        have hb4 : (X4[i]'hx4).l.length ≤ 1000 := by
          rw [hk4]
          refine Nat.le_trans (idxT_len _ _) ?_
          rw [hkl, List.length_replicate]; exact hel
        have hb3 : (X3[i]'hx3).l.length ≤ 1000 := by
          rw [hk3, hll, nowK_len]; exact hvlH
        rw [← hk3] at hva9
        have hs4i := g4 _ (List.getElem_mem hx4)
        have hs3i := g3 _ (List.getElem_mem hx3)
        obtain ⟨qb, qoff, qp9, qcap9, hqv, hqp, hqc⟩ := f4.open Lv.cs_len
        injection hqv with hq1 hq2 hq3
        subst hq1 hq3
        clear hq2
        obtain rfl := hqp (by omega)
        have c4 : wr.cell? ⟨qb, qoff + i, none⟩ = some (X4[i]'hx4).v := by have h9 := hqc i hx4 0 _ rfl; rw [Nat.mul_one, Nat.add_zero] at h9; exact nextC hB h9
        obtain ⟨tb, toff, tp9, tcap9, htv, htp, htc⟩ := f3.open Lv.cs_len
        injection htv with ht1 ht2 ht3
        subst ht1 ht3
        clear ht2
        obtain rfl := htp (by omega)
        have c3 : Wb.cell? ⟨tb, toff + i, none⟩ = some (X3[i]'hx3).v := by have h9 := htc i hx3 0 _ rfl; rw [Nat.mul_one, Nat.add_zero] at h9; exact h9
        clear hqp hqc htp htc hk4 hk3
        generalize X4[i]'hx4 = kx at hm4 hb4 hs4i c4
        generalize X3[i]'hx3 = lx at hb3 hva9 hs3i c3
        obtain ⟨K9, kv⟩ := kx
        obtain ⟨N9, lv⟩ := lx
        have hs4i : Sl Wb kv ecI K9 := hs4i
        have hs3i : Sl Wb lv ecI N9 := hs3i
        obtain ⟨kb9, koff9, kp9, kc9, rfl, hkp, hkc⟩ : ∃ b off p cap, kv = .slice p K9.length cap ∧ (0 < K9.length → p = some ⟨b, off, none⟩) ∧ ∀ (i : Nat) (hi : i < K9.length) (r : Nat) (u : Value), (ecI (K9[i]'hi))[r]? = some u → Wb.cell? ⟨b, off + (i * 1 + r), none⟩ = some u := hs4i.open ecI_len
        obtain ⟨lb9, loff9, lp9, lc9, rfl, hlp, hlc⟩ : ∃ b off p cap, lv = .slice p N9.length cap ∧ (0 < N9.length → p = some ⟨b, off, none⟩) ∧ ∀ (i : Nat) (hi : i < N9.length) (r : Nat) (u : Value), (ecI (N9[i]'hi))[r]? = some u → Wb.cell? ⟨b, off + (i * 1 + r), none⟩ = some u := hs3i.open ecI_len
        have c4 : wr.cell? ⟨qb, qoff + i, none⟩ = some (.slice kp9 K9.length kc9) := c4
        have c3 : Wb.cell? ⟨tb, toff + i, none⟩ = some (.slice lp9 N9.length lc9) := c3
        have hm4 : ∀ c ∈ K9, ∃ k : Nat, c = k ∧ k < (exprsOf P).length := hm4
        have hb4 : K9.length ≤ 1000 := hb4
        have hb3 : N9.length ≤ 1000 := hb3
        have hva9 : ∀ (a : Nat) (c : Int), N9[a]? = some c → _ := hva9
        generalize Xs[i]'hmx = xs at hLp hok hcv hsx hxe hel9 hva9
        obtain ⟨⟨cb, cr⟩, ev, oo⟩ := xs
        obtain ⟨⟨ep5, en5, ec5, rfl⟩, qp5, qn5, qc5, rfl⟩ : (∃ p n c, ev = .slice p n c) ∧ ∃ p n c, oo = .slice p n c := hsx
        have hxe : Sl Wb (.slice ep5 en5 ec5) Nu.cs cr.e := hxe
        obtain rfl : en5 = cr.e.length := by obtain ⟨_, _, h9⟩ := sl_len hxe; injection h9
        have d0 : wr.cell? ⟨vb, voff + i * 4, none⟩ = some (.int .i64 cb) := hcv 0 _ rfl
        have dl := World.block_lt_of_cell? _ _ d0
        have d1 : wr.cell? ⟨vb, voff + i * 4 + 1, none⟩ = some (.slice ep5 cr.e.length ec5) := hcv 1 _ rfl
        have d2 : wr.cell? ⟨vb, voff + i * 4 + 2, none⟩ = some (.int .i64 cr.i) := hcv 2 _ rfl
        have d3 : wr.cell? ⟨vb, voff + i * 4 + 3, none⟩ = some (.slice qp5 qn5 qc5) := hcv 3 _ rfl
        have cl4 := World.block_lt_of_cell? _ _ c4
        clear hcv hs4i hs3i
        go_wp2_with fail
        obtain ⟨V2, hV2⟩ : ∃ V2, V2 = wr.alloc (.cells #[.int .i64 cb, .slice ep5 cr.e.length ec5, .int .i64 cr.i, .slice qp5 qn5 qc5] 47) := ⟨_, rfl⟩
        have hwv : Below wr.heap.size wr V2 := by rw [hV2]; exact (Below.refl _ _).alloc (Nat.le_refl _) _
        have e9 : V2.heap[wr.heap.size]? = some (.cells #[.int .i64 cb, .slice ep5 cr.e.length ec5, .int .i64 cr.i, .slice qp5 qn5 qc5] 47 (0, 0)) := by rw [hV2]; exact heap_alloc_new _ _
        have hBv : Below Wb.heap.size Wb V2 := nextB hwv hB
        rw [← hV2]
        obtain ⟨st, hst⟩ : ∃ st, st = wr.heap.size := ⟨_, rfl⟩
        rw [← hst] at e9
        rw [← hst]
        clear hV2 hst d0 d1 d2 d3 dl c4 cl4 hwv
        go_loopw [89] (fun i9 wq => ∃ q : Nat, q ≤ K9.length ∧ i9 = .int .i64 q ∧ Below V2.heap.size V2 wq) (fun i9 _ => K9.length - (intOf i9).toNat)
        case atStart => exact ⟨0, Nat.zero_le _, rfl, Below.refl _ _⟩
        case round =>
          obtain ⟨q, hq, rfl, hBk⟩ := hrel
          have hwk := hBk.size
          have hBz := nextB hBk hBv
          by_cases hqt : q < K9.length
          · obtain rfl := hkp (by omega)
            have hqt2 : (q : Int) < K9.length := by omega
            have m1 : wr.cell? ⟨kb9, koff9 + q, none⟩ = some (.int .i64 (K9[q]'hqt)) := by have h9 := hkc q hqt 0 _ rfl; rw [Nat.mul_one, Nat.add_zero] at h9; exact nextC hBz h9
            have ml := World.block_lt_of_cell? _ _ m1
            obtain ⟨kk, hkk, hkl⟩ := hm4 _ (List.getElem_mem hqt)
            rw [hkk] at m1
            have hkk2 : (kk : Int) < (exprsOf P).length := by omega
            have hkE : (exprsOf P)[kk]? = some ((exprsOf P)[kk]'hkl) := List.getElem?_eq_getElem hkl
            obtain ⟨eb, eoff, ep9, ec9, hev, hep, hec⟩ := hoE.open (k := 7) (fun _ => rfl)
            injection hev with he1 he2 he3
            subst he1 he3
            clear he2 hkk
            have hcE : ∀ r u, (((exprsOf P)[kk]'hkl).cs)[r]? = some u → wr.cell? ⟨eb, eoff + kk * 7 + r, none⟩ = some u := fun r u hu => by
              rw [Nat.add_assoc]
              exact nextC hBz (hec kk hkl r u hu)
            obtain rfl := hep (by omega)
            clear hec hep
            generalize (exprsOf P)[kk]'hkl = x at hcE hkE
            obtain ⟨xop, ⟨x1, xa1, xb1⟩, ⟨x2, xa2, xb2⟩⟩ := x
            have a0 : wr.cell? ⟨eb, eoff + kk * 7, none⟩ = some (.int .i64 xop) := hcE 0 _ rfl
            have al := World.block_lt_of_cell? _ _ a0
            have a1 : wr.cell? ⟨eb, eoff + kk * 7 + 1, none⟩ = some (.string x1) := hcE 1 _ rfl
            have a2 : wr.cell? ⟨eb, eoff + kk * 7 + 2, none⟩ = some (.int .i64 xa1) := hcE 2 _ rfl
            have a3 : wr.cell? ⟨eb, eoff + kk * 7 + 3, none⟩ = some (.int .i64 xb1) := hcE 3 _ rfl
            have a4 : wr.cell? ⟨eb, eoff + kk * 7 + 4, none⟩ = some (.string x2) := hcE 4 _ rfl
            have a5 : wr.cell? ⟨eb, eoff + kk * 7 + 5, none⟩ = some (.int .i64 xa2) := hcE 5 _ rfl
            have a6 : wr.cell? ⟨eb, eoff + kk * 7 + 6, none⟩ = some (.int .i64 xb2) := hcE 6 _ rfl
            obtain ⟨v0, v1, _, _, _, vl⟩ := four (blk_next hBk e9)
            have y0w := nextC hBz y0
            have y0l := World.block_lt_of_cell? _ _ y0w
            have hPw := hH.2.below (nextB hBz hBb)
            have hEw := hxe.below hBz
            have hev9 : ∀ (W : World) (hS : ∀ b o, b < wr.heap.size → W.cell? ⟨b, o, none⟩ = wr.cell? ⟨b, o, none⟩), Calls Try.prog 11 #[.agg #[.slice p P.length cap], .slice ep5 cr.e.length ec5, .agg #[.int .i64 xop, .string x1, .int .i64 xa1, .int .i64 xb1, .string x2, .int .i64 xa2, .int .i64 xb2]] W fun e w' => e = .returned (.tuple #[.agg #[.int .i64 (evalE P cr.e ⟨xop, ⟨x1, xa1, xb1⟩, ⟨x2, xa2, xb2⟩⟩).a, .int .i64 (evalE P cr.e ⟨xop, ⟨x1, xa1, xb1⟩, ⟨x2, xa2, xb2⟩⟩).b], .int .i64 (opN xop)]) ∧ Below W.heap.size W w' := fun W hS => eval_any P cr.e ⟨xop, ⟨x1, xa1, xb1⟩, ⟨x2, xa2, xb2⟩⟩ _ _ W (pgC hPw hS) h12 hl12 (slC hEw hS)
            have hnv : ∀ n, evalE P cr.e ⟨xop, ⟨x1, xa1, xb1⟩, ⟨x2, xa2, xb2⟩⟩ = n → n = evalE P cr.e ⟨xop, ⟨x1, xa1, xb1⟩, ⟨x2, xa2, xb2⟩⟩ := fun n h => h.symm
            obtain ⟨na, nb, hn⟩ : ∃ na nb, Hid (evalE P cr.e ⟨xop, ⟨x1, xa1, xb1⟩, ⟨x2, xa2, xb2⟩⟩ = ⟨na, nb⟩) := ⟨_, _, rfl⟩
            rw [show evalE P cr.e ⟨xop, ⟨x1, xa1, xb1⟩, ⟨x2, xa2, xb2⟩⟩ = ⟨na, nb⟩ from hn] at hev9
            have hev9 : ∀ (W : World) (hS : ∀ b o, b < wr.heap.size → W.cell? ⟨b, o, none⟩ = wr.cell? ⟨b, o, none⟩), Calls Try.prog 11 #[.agg #[.slice p P.length cap], .slice ep5 cr.e.length ec5, .agg #[.int .i64 xop, .string x1, .int .i64 xa1, .int .i64 xb1, .string x2, .int .i64 xa2, .int .i64 xb2]] W fun e w' => e = .returned (.tuple #[.agg #[.int .i64 na, .int .i64 nb], .int .i64 (opN xop)]) ∧ Below W.heap.size W w' := hev9
            clear hnv
            generalize opN xop = on9 at hev9
            obtain ⟨Wk, hWk⟩ : ∃ Wk, Wk = wr := ⟨wr, rfl⟩
            subst hWk
            go_wp2_with fail
            go_cut [19] from 1000 to 1000 (fun v19 wx => ∃ nbx : Nat, v19 = .pointer (some ⟨nbx, 0, none⟩) ∧ wx.heap[nbx]? = some (.cells #[.int .i64 na, .int .i64 nb] 27 (0, 0)) ∧ Below Wk.heap.size Wk wx)
            case first =>
              first | (go_region_held3 (fun w' => ∀ b o, b < Wk.heap.size → w'.cell? ⟨b, o, none⟩ = Wk.cell? ⟨b, o, none⟩)
                (((try dsimp only); intro b9 o9 h9; refine Below.cell (B := Wk.heap.size) (w := Wk) ?_ h9; clear h9; (repeat (first | exact Below.refl _ _ | apply Below.drew | refine Below.alloc ?_ ?_ _ | refine Below.setCell ?_ ?_ _ | refine Below.trans ?_ (Below.mono (After.below _) ?_))); (all_goals (first | (simp; done) | (simp; omega) | omega))))
                ((go_at_call 11; refine' Calls.aft _ _ (hev9 _ (by assumption)) _; rotate_left 2; (exact Below.refl _ _; rfl); intro x5; have hle := After.le x5; (try simp at hle)))) | fail
              all_goals (
                go_wp2_with fail
                go_meet
                first | (refine ⟨x5.val.heap.size, rfl, (by with_reducible exact heap_alloc_new _ _), ?_⟩; (repeat (first | exact Below.refl _ _ | apply Below.drew | refine Below.alloc ?_ ?_ _ | refine Below.setCell ?_ ?_ _ | refine Below.trans ?_ (Below.mono (After.below _) ?_))); (all_goals (first | (simp; done) | (simp; omega) | omega))) | (refine ⟨Wk.heap.size, rfl, set2 _ _ (blk_next x5.below (dnew2 _ _)), ?_⟩; (repeat (first | exact Below.refl _ _ | apply Below.drew | refine Below.alloc ?_ ?_ _ | refine Below.setCell ?_ ?_ _ | refine Below.trans ?_ (Below.mono (After.below _) ?_))); (all_goals (first | (simp; done) | (simp; omega) | omega))) | (refine ⟨Wk.heap.size, rfl, set2 _ _ (blk_next x5.below (dnew _ _)), ?_⟩; (repeat (first | exact Below.refl _ _ | apply Below.drew | refine Below.alloc ?_ ?_ _ | refine Below.setCell ?_ ?_ _ | refine Below.trans ?_ (Below.mono (After.below _) ?_))); (all_goals (first | (simp; done) | (simp; omega) | omega))))
            case rest =>
              obtain ⟨nbx, rfl, hnb, hB7⟩ := hcut
              have hB7b : Below Wk.heap.size Wk wc := hB7
              have hBc : Below Wb.heap.size Wb wc := nextB hB7 hBz
              have e9c := blk_next hB7 (blk_next hBk e9)
              have c3c := nextC hBc c3
              have cl3 := World.block_lt_of_cell? _ _ c3c
              obtain ⟨sbb, soff, sp9, sc9, hsv, hsp, hsc⟩ := hoS.open Si.cs_len
              injection hsv with hsv1 hsv2 hsv3
              subst hsv1 hsv3
              clear hsv2 a0 a1 a2 a3 a4 a5 a6 al m1 ml v0 v1 vl y0w y0l hPw hEw hev9 hB7
              obtain ⟨Wc, hWc⟩ : ∃ Wc, Wc = wc := ⟨wc, rfl⟩
              subst hWc
              go_wp2_with fail
              go_loopw [109] (fun i9 wq => ∃ a : Nat, a ≤ N9.length ∧ i9 = .int .i64 a ∧ Below Wc.heap.size Wc wq) (fun i9 _ => N9.length - (intOf i9).toNat)
              case atStart => exact ⟨0, Nat.zero_le _, rfl, Below.refl _ _⟩
              case round =>
                obtain ⟨a, ha, rfl, hBa⟩ := hrel
                have hwa := hBa.size
                have hBy := nextB hBa hBc
                clear c3c cl3
                by_cases hat : a < N9.length
                · obtain rfl := hlp (by omega)
                  have hat2 : (a : Int) < N9.length := by omega
                  have m1 : wr.cell? ⟨lb9, loff9 + a, none⟩ = some (.int .i64 (N9[a]'hat)) := by have h9 := hlc a hat 0 _ rfl; rw [Nat.mul_one, Nat.add_zero] at h9; exact nextC hBy h9
                  have ml := World.block_lt_of_cell? _ _ m1
                  obtain ⟨s, hs, hae, hkind⟩ := hva9 a (N9[a]'hat) (List.getElem?_eq_getElem hat)
                  have hae : a < cr.e.length := hae
                  rw [hs] at m1
                  clear hs
                  obtain ⟨u0, u1, _, _, _, ul⟩ := four (blk_next hBa e9c)
                  obtain ⟨r0, r1, r2, _, rl⟩ := three (blk_next hBy e7)
                  obtain ⟨n0, n1, nl⟩ := two9 (blk_next hBa hnb)
                  have y0w := nextC hBy y0
                  have y0l := World.block_lt_of_cell? _ _ y0w
                  have hae2 : (a : Int) < cr.e.length := by omega
                  rcases hkind with ⟨v, hy⟩ | ⟨b, k, B, t, hPb, hBt, hy, hval⟩
                  · obtain ⟨hsl8, hye⟩ := List.getElem?_eq_some_iff.1 hy
                    have hcS : ∀ r u, ((⟨-1, 0, v⟩ : Si).cs)[r]? = some u → wr.cell? ⟨sbb, soff + s * 3 + r, none⟩ = some u := fun r u hu => by
                      rw [Nat.add_assoc]
                      exact nextC hBy (hsc s hsl8 r u (by rw [hye]; exact hu))
                    have hsl7 : (s : Int) < (sitesOf P).length := by omega
                    obtain rfl := hsp (by omega)
                    have d0 : wr.cell? ⟨sbb, soff + s * 3, none⟩ = some (.int .i64 (-1)) := hcS 0 _ rfl
                    have d1 : wr.cell? ⟨sbb, soff + s * 3 + 1, none⟩ = some (.int .i64 0) := hcS 1 _ rfl
                    have d2 : wr.cell? ⟨sbb, soff + s * 3 + 2, none⟩ = some (.string v) := hcS 2 _ rfl
                    have dl := World.block_lt_of_cell? _ _ d0
                    clear hcS hye hy
                    go_wp2_with fail
                    refine' region_whole _ _ (by kernel_rfl) (by kernel_rfl) _; rotate_left 2; (exact Below.refl _ _; rfl); (repeat (go_big_quiet_step (first | fail))); refine wpQuiet_nil ?_; intro z
                    go_wp2_with fail
                    go_roundw
                    case rel => exact ⟨a + 1, by omega, by simp, nextB z.below (hBa.alloc hwa _)⟩
                    case measure => simp [intOf]; omega
                  · obtain ⟨hsl8, hye⟩ := List.getElem?_eq_some_iff.1 hy
                    have hcS : ∀ r u, ((⟨(b : Int), (k : Int), t.v⟩ : Si).cs)[r]? = some u → wr.cell? ⟨sbb, soff + s * 3 + r, none⟩ = some u := fun r u hu => by
                      rw [Nat.add_assoc]
                      exact nextC hBy (hsc s hsl8 r u (by rw [hye]; exact hu))
                    have hsl7 : (s : Int) < (sitesOf P).length := by omega
                    obtain rfl := hsp (by omega)
                    have d0 : wr.cell? ⟨sbb, soff + s * 3, none⟩ = some (.int .i64 b) := hcS 0 _ rfl
                    have d1 : wr.cell? ⟨sbb, soff + s * 3 + 1, none⟩ = some (.int .i64 k) := hcS 1 _ rfl
                    have d2 : wr.cell? ⟨sbb, soff + s * 3 + 2, none⟩ = some (.string t.v) := hcS 2 _ rfl
                    have dl := World.block_lt_of_cell? _ _ d0
                    clear hcS hye
                    obtain ⟨hbl, hbe⟩ := List.getElem?_eq_some_iff.1 hPb
                    obtain ⟨hkl7, hke⟩ := List.getElem?_eq_some_iff.1 hBt
                    have hb2 : (b : Int) < P.length := by omega
                    have hk2 : (k : Int) < B.l.length := by omega
                    have hbw := nextB hBy hBb
                    obtain ⟨hcb0, hsl9⟩ := hpc b hbl
                    have hcb : ∀ r u, (B.cs)[r]? = some u → wr.cell? ⟨bb, off + b * 8 + r, none⟩ = some u := fun r u hu => by
                      rw [Nat.add_assoc]
                      exact nextC hbw (hcb0 r u (by rw [hbe]; exact hu))
                    rw [hbe] at hsl9
                    obtain rfl := hpp (by omega)
                    obtain ⟨lb, loff, lp8, lc8, hlv, hlp8, hlc8⟩ := hsl9.open St.cs_len
                    have b1 := hcb 1 _ rfl
                    rw [hlv] at b1
                    obtain rfl := hlp8 (by omega)
                    have b1 : wr.cell? ⟨bb, off + b * 8 + 1, none⟩ = some (.slice (some ⟨lb, loff, none⟩) B.l.length lc8) := b1
                    have bl := World.block_lt_of_cell? _ _ b1
                    have hcs : ∀ r u, (t.cs)[r]? = some u → wr.cell? ⟨lb, loff + k * 9 + r, none⟩ = some u := fun r u hu => by
                      rw [Nat.add_assoc]
                      exact nextC hbw (hlc8 k hkl7 r u (by rw [hke]; exact hu))
                    clear hcb hcb0 hsl9 hlv hlc8 hbe hke hPb hBt
                    obtain ⟨tk, tv, ⟨top, ⟨s1, sa1, sb1⟩, ⟨s2, sa2, sb2⟩⟩⟩ := t
                    have d2 : wr.cell? ⟨sbb, soff + s * 3 + 2, none⟩ = some (.string tv) := d2
                    have hy : (sitesOf P)[s]? = some ⟨(b : Int), (k : Int), tv⟩ := hy
                    have hval : tk = 1 → frW P L b k ⟨top, ⟨s1, sa1, sb1⟩, ⟨s2, sa2, sb2⟩⟩ i = true → cr.e[a]? = some (evalE P cr.e ⟨top, ⟨s1, sa1, sb1⟩, ⟨s2, sa2, sb2⟩⟩) := hval
                    have e0 : wr.cell? ⟨lb, loff + k * 9, none⟩ = some (.int .i64 tk) := hcs 0 _ rfl
                    have el := World.block_lt_of_cell? _ _ e0
                    have e2 : wr.cell? ⟨lb, loff + k * 9 + 2, none⟩ = some (.int .i64 top) := hcs 2 _ rfl
                    have e3 : wr.cell? ⟨lb, loff + k * 9 + 3, none⟩ = some (.string s1) := hcs 3 _ rfl
                    have e4 : wr.cell? ⟨lb, loff + k * 9 + 4, none⟩ = some (.int .i64 sa1) := hcs 4 _ rfl
                    have e5 : wr.cell? ⟨lb, loff + k * 9 + 5, none⟩ = some (.int .i64 sb1) := hcs 5 _ rfl
                    have e6 : wr.cell? ⟨lb, loff + k * 9 + 6, none⟩ = some (.string s2) := hcs 6 _ rfl
                    have e7s : wr.cell? ⟨lb, loff + k * 9 + 7, none⟩ = some (.int .i64 sa2) := hcs 7 _ rfl
                    have e8 : wr.cell? ⟨lb, loff + k * 9 + 8, none⟩ = some (.int .i64 sb2) := hcs 8 _ rfl
                    have hcE : ∀ r u, ((⟨xop, ⟨x1, xa1, xb1⟩, ⟨x2, xa2, xb2⟩⟩ : Ex).cs)[r]? = some u → wr.cell? ⟨eb, eoff + kk * 7 + r, none⟩ = some u := fun r u hu => nextC hBa (nextC hB7b (hcE r u hu))
                    have a0 : wr.cell? ⟨eb, eoff + kk * 7, none⟩ = some (.int .i64 xop) := hcE 0 _ rfl
                    have al := World.block_lt_of_cell? _ _ a0
                    have a1 : wr.cell? ⟨eb, eoff + kk * 7 + 1, none⟩ = some (.string x1) := hcE 1 _ rfl
                    have a2 : wr.cell? ⟨eb, eoff + kk * 7 + 2, none⟩ = some (.int .i64 xa1) := hcE 2 _ rfl
                    have a3 : wr.cell? ⟨eb, eoff + kk * 7 + 3, none⟩ = some (.int .i64 xb1) := hcE 3 _ rfl
                    have a4 : wr.cell? ⟨eb, eoff + kk * 7 + 4, none⟩ = some (.string x2) := hcE 4 _ rfl
                    have a5 : wr.cell? ⟨eb, eoff + kk * 7 + 5, none⟩ = some (.int .i64 xa2) := hcE 5 _ rfl
                    have a6 : wr.cell? ⟨eb, eoff + kk * 7 + 6, none⟩ = some (.int .i64 xb2) := hcE 6 _ rfl
                    clear hcs hcE
                    have hbs : Below wr.heap.size wr (wr.alloc (.cells #[.int .i64 b, .int .i64 k, .string tv] 88)) := (Below.refl _ _).alloc (Nat.le_refl _) _
                    have hfz := fun (z : After (wr.alloc (.cells #[.int .i64 b, .int .i64 k, .string tv] 88))) => hfr Xs (show Xs.map Sv.p = L from hXmH) hsh i s kk (by omega) b k tv hy ⟨xop, ⟨x1, xa1, xb1⟩, ⟨x2, xa2, xb2⟩⟩ hkE cb (some ⟨vb, voff, none⟩) ac hcap aop Oa.length aoc z.val (nextB z.below (nextB hbs hbw)) (hV.below (nextB z.below (nextB hbs hBy)))
                    go_wp2_with fail
                    cases heq : eqE ⟨top, ⟨s1, sa1, sb1⟩, ⟨s2, sa2, sb2⟩⟩ ⟨xop, ⟨x1, xa1, xb1⟩, ⟨x2, xa2, xb2⟩⟩
                    · refine' region_whole _ _ (by kernel_rfl) (by kernel_rfl) _; rotate_left 2; (exact Below.refl _ _; rfl); (repeat (go_big_quiet_step (first | fail))); refine wpQuiet_nil ?_; intro z
                      go_wp2_with fail
                      go_roundw
                      case rel => exact ⟨a + 1, by omega, by simp, nextB z.below (hBa.alloc hwa _)⟩
                      case measure => simp [intOf]; omega
                    · by_cases hk1 : tk = 1
                      · subst hk1
                        have hte := eqE_eq heq
                        rw [hte, show evalE P cr.e ⟨xop, ⟨x1, xa1, xb1⟩, ⟨x2, xa2, xb2⟩⟩ = ⟨na, nb⟩ from hn] at hval
                        clear hte
                        cases hF : frW P L b k ⟨xop, ⟨x1, xa1, xb1⟩, ⟨x2, xa2, xb2⟩⟩ i
                        · rw [hF] at hfz
                          refine' region_whole _ _ (by kernel_rfl) (by kernel_rfl) _; rotate_left 2; (exact Below.refl _ _; rfl); (repeat (go_big_quiet_step (first | (go_at_call 38; exact Calls.after_of (hfz _))))); refine wpQuiet_nil ?_; intro z
                          go_wp2_with fail
                          go_roundw
                          case rel => exact ⟨a + 1, by omega, by simp, nextB z.below (hBa.alloc hwa _)⟩
                          case measure => simp [intOf]; omega
                        · rw [hF] at hfz
                          have hval := hval rfl hF
                          obtain ⟨hvl8, hve⟩ := List.getElem?_eq_some_iff.1 hval
                          obtain ⟨nbb, noff, np9, nc9, hnv, hnp, hnc⟩ := hxe.open Nu.cs_len
                          injection hnv with hnv1 hnv2 hnv3
                          subst hnv1 hnv3
                          obtain rfl := hnp (by omega)
                          have k0 : wr.cell? ⟨nbb, noff + a * 2, none⟩ = some (.int .i64 na) := nextC hBy (hnc a hvl8 0 _ (by rw [hve]; rfl))
                          have k1 : wr.cell? ⟨nbb, noff + a * 2 + 1, none⟩ = some (.int .i64 nb) := nextC hBy (hnc a hvl8 1 _ (by rw [hve]; rfl))
                          have kl := World.block_lt_of_cell? _ _ k0
                          clear hnv2 hnc hve hval
                          refine' region_whole _ _ (by kernel_rfl) (by kernel_rfl) _; rotate_left 2; (exact Below.refl _ _; rfl); (repeat (go_big_quiet_step (first | (go_at_call 38; exact Calls.after_of (hfz _))))); refine wpQuiet_nil ?_; intro z
                          go_wp2_with fail
                          go_roundw
                          case rel => exact ⟨a + 1, by omega, by simp, nextB z.below (hBa.alloc hwa _)⟩
                          case measure => simp [intOf]; omega
                      · have hkb : (tk == 1) = false := by simpa using hk1
                        refine' region_whole _ _ (by kernel_rfl) (by kernel_rfl) _; rotate_left 2; (exact Below.refl _ _; rfl); (repeat (go_big_quiet_step (first | fail))); refine wpQuiet_nil ?_; intro z
                        go_wp2_with fail
                        go_roundw
                        case rel => exact ⟨a + 1, by omega, by simp, nextB z.below (hBa.alloc hwa _)⟩
                        case measure => simp [intOf]; omega
                · have hks : a = N9.length := by omega
                  have hat2 : ¬ (a : Int) < N9.length := by omega
                  clear hks
                  go_wp2_with fail
                  go_roundw
                  case rel => exact ⟨q + 1, by omega, by simp, nextB hBa (nextB hB7b hBk)⟩
                  case measure => simp [intOf]; omega
          · have hks : q = K9.length := by omega
            have hqt2 : ¬ (q : Int) < K9.length := by omega
            clear hks
            go_wp2_with fail
            go_roundw
            case rel => exact ⟨i + 1, by omega, by simp, hBz⟩
            case measure => simp [intOf]; omega
      · have hks : i = L.length := by omega
        subst hks
        have hlt2 : ¬ (L.length : Int) < L.length := by omega
        go_wp2_with fail
        go_ret
        exact ⟨rfl, nextB hB hBb⟩

theorem tripsValues_any (P : List Bl) (I : List Nu) (most : Int) (pv : Value) (hcp : CapOk pv) (iv : Value) (hz : NilOk iv) (w : World) (h : Pg w pv P) (hI : Sl w iv Nu.cs I) :
    Calls Try.prog 8 #[.agg #[pv], iv, .int .i64 most] w fun e w' => e = .returned (.bool true) ∧ Below w.heap.size w w' := by
  cases hf : fewT P I
  · exact tripsValues_few P I most pv hcp iv w h hI hf
  · by_cases hc : checkOf P = 0
    · exact tripsValues_ok P I most pv hcp iv w h hI hf hc
    · exact tripsValues_bad P I most pv hcp iv w h hI hf hc

end Go.Proofs.Ytaaklejkngpddaa.Pr
