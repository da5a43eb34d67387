/- The page's Last: what a site tells. (The walk is to come.) WALK of soughref09.Last. soughlaw09.awake: it answers true. WALK of trips.Blocks; TripsBlocks: it answers true. ARGUMENTS that are lists of ints. TripsTell: it answers true. WALKS of soughlaw09.few and of the law. TripsTell: it answers true, of a proper program. WALK of the law. -/
import Derived.Test.YtaaklejkngpddaaGreatMA
import Derived.Test.YtaaklejkngpddaaGreatMC
import Derived.Test.YtaaklejkngpddaaGreatExc
import Derived.Test.YtaaklejkngpddaaGreatMF
import Derived.Test.YtaaklejkngpddaaGreatExg

namespace Go.Proofs.YtaaklejkngpddaaGreat.Pr
set_option linter.unusedVariables false
set_option linter.unusedSimpArgs false
open Go Go.RowKit

theorem stSites_var {i : Nat} {l : List St} {x : Si} : ∀ {n : Nat}, x ∈ stSites i l n → ∃ (k : Nat) (s : St), l[k]? = some s ∧ x = ⟨i, k, s.v⟩ ∧ (s.k = 1 ∨ s.k = 2)
  | 0, h => by simp [stSites] at h
  | n + 1, h => by
    simp only [stSites, List.mem_append] at h
    rcases h with h | h
    · exact stSites_var h
    · split at h
      · rename_i s hs
        unfold siteOf at h
        split at h
        · rename_i hk
          exact ⟨n, s, hs, by simpa using h, hk⟩
        · simp at h
      · simp at h
theorem blSites_var {P : List Bl} {x : Si} : ∀ {n : Nat}, x ∈ blSites P n → ∃ (i : Nat) (b : Bl) (k : Nat) (s : St), P[i]? = some b ∧ b.l[k]? = some s ∧ x = ⟨i, k, s.v⟩ ∧ (s.k = 1 ∨ s.k = 2)
  | 0, h => by simp [blSites] at h
  | n + 1, h => by
    simp only [blSites, List.mem_append] at h
    rcases h with h | h
    · exact blSites_var h
    · split at h
      · rename_i b hb
        obtain ⟨k, s, hs, hx, hk⟩ := stSites_var h
        exact ⟨n, b, k, s, hb, hs, hx, hk⟩
      · simp at h
/-- A site of a block's statement has that statement's variable. -/
theorem sites_var {P : List Bl} {x : Si} (h : x ∈ sitesOf P) {i k : Nat} (hi : i < P.length) (hk : k < (P[i]'hi).l.length) (hb : x.b = i) (hkk : x.k = k) : x = ⟨i, k, ((P[i]'hi).l[k]'hk).v⟩ ∧ (((P[i]'hi).l[k]'hk).k = 1 ∨ ((P[i]'hi).l[k]'hk).k = 2) := by
  unfold sitesOf at h
  rcases List.mem_append.1 h with h | h
  · obtain ⟨v, _, rfl⟩ := List.mem_map.1 h
    have hb : (-1 : Int) = i := hb
    omega
  · obtain ⟨i', b, k', s, h1, h2, rfl, h3⟩ := blSites_var h
    have hb : (i' : Int) = i := hb
    have hkk : (k' : Int) = k := hkk
    have e1 : i' = i := by omega
    have e2 : k' = k := by omega
    subst e1 e2
    rw [List.getElem?_eq_getElem hi] at h1
    obtain rfl := Option.some.inj h1
    rw [List.getElem?_eq_getElem hk] at h2
    obtain rfl := Option.some.inj h2
    exact ⟨rfl, h3⟩
/-- At a site of a statement its variable has a place. -/
theorem sites_idx {P : List Bl} (hc : checkOf P = 0) {x : Si} (h : x ∈ sitesOf P) {i k : Nat} (hi : i < P.length) (hk : k < (P[i]'hi).l.length) (hb : x.b = i) (hkk : x.k = k) : 0 ≤ idx (vars P) ((P[i]'hi).l[k]'hk).v ∧ idx (vars P) ((P[i]'hi).l[k]'hk).v < (vars P).length := by
  have h1 := (sites_var h hi hk hb hkk).2
  exact (proper_stmt hc (List.getElem_mem hi) (List.getElem_mem hk)).2 (by omega)

end Go.Proofs.YtaaklejkngpddaaGreat.Pr

namespace Go.Proofs.YtaaklejkngpddaaGreat.Pr
set_option linter.unusedVariables false
set_option linter.unusedSimpArgs false
open Go Go.RowKit

/-- What stands while the page goes through the visits: rows behind the world W1. -/
structure RL (W1 : World) (X : List Lv) (now : List Int) (wr : World) (ov nv : Value) : Prop where
  oo : wr.ownsRow W1.heap.size 56 1 ov X.length (X.flatMap Lv.cs)
  no : wr.ownsRow W1.heap.size 3 1 nv now.length (now.flatMap ecI)
  xr : ∀ x ∈ X, wr.ownsRow W1.heap.size 3 1 x.v x.l.length (x.l.flatMap ecI) ∧ (x.v.ownBlock = none ∨ x.v.ownBlock ≠ nv.ownBlock)
  be : Below W1.heap.size W1 wr
theorem RL.below {W1 : World} {X : List Lv} {now : List Int} {wr q : World} {ov nv : Value} (h : RL W1 X now wr ov nv) (hq : Below wr.heap.size wr q) : RL W1 X now q ov nv :=
  ⟨own_below h.oo hq, own_below h.no hq, fun x hx => ⟨own_below (h.xr x hx).1 hq, (h.xr x hx).2⟩, nextB hq h.be⟩
theorem RL.visit {W1 : World} {X : List Lv} {now l : List Int} {W W6 : World} {ov nv v v' : Value} (h : RL W1 X now W ov nv) (hv : W.ownsRow W1.heap.size 3 1 v l.length (l.flatMap ecI)) (hvn : v.ownBlock = none ∨ v.ownBlock ≠ nv.ownBlock)
    (hg : W.grownBy W6 ov.ownBlock) (ho : W6.ownsRow W1.heap.size 56 1 v' (X.length + 1) (X.flatMap Lv.cs ++ [v])) : RL W1 (X ++ [⟨l, v⟩]) now W6 v' nv := by
  refine ⟨?_, h.no.kept hg (ownTy h.no h.oo (by decide)), fun x hx => ?_, Below.grown (w := _) h.be hg h.be.size (fun q hq => (h.oo.lt q hq).1)⟩
  · rw [flat_snocL, List.length_append]
    exact ho
  · rcases List.mem_append.1 hx with hx | hx
    · exact ⟨(h.xr x hx).1.kept hg (ownTy (h.xr x hx).1 h.oo (by decide)), (h.xr x hx).2⟩
    · obtain rfl := List.mem_singleton.1 hx
      exact ⟨hv.kept hg (ownTy hv h.oo (by decide)), hvn⟩
theorem RL.put {W1 : World} {g c : Nat} {X : List Lv} {now : List Int} {W : World} {ov : Value} (h : RL W1 X now W ov (.slice (some ⟨g, 0, none⟩) now.length c)) (M : Nat) (hM : M < now.length) (x : Int) :
    RL W1 X (now.set M x) (W.setCell ⟨g, M, none⟩ (.int .i64 x)) ov (.slice (some ⟨g, 0, none⟩) now.length c) := by
  have hb := (h.no.lt g rfl).1
  have hgt : ∃ cs f, W.heap[g]? = some (.cells cs 3 f) := by
    rcases h.no.2 with ⟨he, _⟩ | ⟨g', cap, cur, he, hbg, hg, _⟩
    · cases he
    · cases he
      exact ⟨_, _, hg⟩
  obtain ⟨cs, f, hg⟩ := hgt
  refine ⟨ownsRow_setCell_other h.oo (own_ne h.oo hg (by decide)) _, ?_, fun y hy => ⟨ownsRow_setCell_other (h.xr y hy).1 (fun he => ?_) _, (h.xr y hy).2⟩, h.be.setCell (p := ⟨g, M, none⟩) hb _⟩
  · rw [List.length_set]
    exact own_setI h.no M x hM
  · rcases (h.xr y hy).2 with h3 | h3
    · rw [h3] at he; cases he
    · exact h3 he

theorem RL.put2 {W1 : World} {g c n : Nat} {X : List Lv} {now : List Int} {W : World} {ov : Value} (h : RL W1 X now W ov (.slice (some ⟨g, 0, none⟩) n c)) (hl : now.length = n) (M : Nat) (hM : M < n) (x : Int) :
    RL W1 X (now.set M x) (W.setCell ⟨g, M, none⟩ (.int .i64 x)) ov (.slice (some ⟨g, 0, none⟩) n c) := by
  subst hl
  exact h.put M hM x

theorem apart_rows {w W5 : World} {base2 s s2 n n2 : Nat} {t t2 : TypeId} {v v2 : Value} {xs xs2 : List Value} (h : W5.ownsRow w.heap.size t s v n xs) (h2 : w.ownsRow base2 t2 s2 v2 n2 xs2) : v.ownBlock = none ∨ v.ownBlock ≠ v2.ownBlock := by
  cases e1 : v.ownBlock with
  | none => exact .inl rfl
  | some k =>
    refine .inr fun he => ?_
    have h1 := (h.lt _ e1).1
    have h2 := (h2.lt _ he.symm).2
    omega

theorem own_same {w : World} {base s n m c : Nat} {t : TypeId} {p : Option Addr} {xs : List Value} (h : w.ownsRow base t s (.slice p n c) m xs) (he : m = n) : w.ownsRow base t s (.slice p m c) m xs := by
  subst he
  exact h

theorem nowK_list (n : Nat) : nowK n n = (List.range n).map fun i : Nat => (i : Int) := by
  unfold nowK
  refine List.map_congr_left fun i hi => ?_
  rw [if_pos (List.mem_range.1 hi)]

set_option maxRecDepth 100000 in
set_option maxHeartbeats 8000000 in
theorem rlast_any (P : List Bl) (hc0 : checkOf P = 0) (L : List Ps) (hOk : ∀ t ∈ L, 0 ≤ t.b ∧ t.b < P.length) (hLl : L.length ≤ 5000) (Xs : List Sv) (hXs : Xs.map Sv.p = L) (hsh : ∀ x ∈ Xs, (∃ p n c, x.ev = .slice p n c) ∧ ∃ p n c, x.ov = .slice p n c) (pv vv : Value) (w : World) (hP : Pg w pv P) (h12 : P.length ≤ 12) (hl12 : ∀ b ∈ P, b.l.length ≤ 12) (hV : Sl w vv Sv.cs Xs) :
    Calls Tryz.prog 12 #[.agg #[pv], vv] w fun e w' => ∃ o, e = .returned o ∧ (∃ X : List Lv, X.map Lv.l = (lastW P (sitesOf P) L (nowK (vars P).length (vars P).length) L.length).1 ∧ Sl w' o Lv.cs X ∧ ∀ x ∈ X, Sl w' x.v ecI x.l) ∧ Below w.heap.size w w' := by
  obtain ⟨i0, hi, hz0, hz1, hz2⟩ := info_parts ii_info
  obtain ⟨j0, hj, hy0, hy1, hy2⟩ := info_parts i_info
  have hXl : Xs.length = L.length := by rw [← hXs, List.length_map]
  have hXs2 : Hid (Xs.map Sv.p = L) := hXs
  obtain ⟨bb, off, p, cap, rfl, hpp, hpc⟩ := Pg.open hP
  obtain ⟨vb, voff, vp, vcap, rfl, hvp, hvc⟩ := hV.open Sv.cs_len
  rw [hXl] at hvp ⊢
  have hXl2 : Hid (Xs.length = L.length) := hXl
  have hB1 : Below w.heap.size w (w.alloc (.cells #[.slice p P.length cap] 24)) := (Below.refl _ _).alloc (Nat.le_refl _) _
  have hsi := rsites_any P _ _ (hP.below hB1) h12 hl12
  have hva := fun (V : World) (hB : Below w.heap.size w V) => rvars_any P _ V (hP.below hB) h12 hl12
  have hvl := (proper_vars hc0).1
  have hpb0 := heap_alloc_new w (.cells #[.slice p P.length cap] 24)
  have hlw := lastW_len P (sitesOf P) L (nowK (vars P).length (vars P).length)
  have hH := And.intro True.intro hP
  clear hV hXs hXl hP
  go_enter Tryz.func12, Tryz.ntmps12
  go_wp2_with (first | (go_at_call 34; refine hsi.mono ?_; rintro e W1 ⟨sv, rfl, hsv, hBs⟩; obtain ⟨svp, svc, rfl⟩ : ∃ p c, sv = .slice p (sitesOf P).length c := sl_len hsv; have y0 := nextC hBs (cell_of_one hpb0); have yl := World.block_lt_of_cell? _ _ y0; have hBw := hB1.trans (hBs.mono hB1.size)) | (go_at_call 30; refine (hva _ hBw).mono ?_; rintro e W2 ⟨v1, rfl, hv1, hB2⟩; obtain ⟨xp, xc, rfl⟩ : ∃ p c, v1 = .slice p (vars P).length c := sl_len hv1))
  clear hsi hva hpb0 hB1 hv1
  go_loopw [6, 19] (fun nv i wr => ∃ (k : Nat) (N : List Int), k ≤ (vars P).length ∧ i = .int .i64 k ∧ N = (List.range k).map (fun i : Nat => (i : Int)) ∧ wr.ownsRow W1.heap.size 3 1 nv N.length (N.flatMap ecI) ∧ Below W1.heap.size W1 wr) (fun _ i _ => (vars P).length - (intOf i).toNat)
  case atStart => exact ⟨0, [], Nat.zero_le _, rfl, rfl, World.ownsRow_nil _ _ _ _, hB2⟩
  case round =>
    obtain ⟨k, N, hk, rfl, hN, hown, hB⟩ := hrel
    have hw := hB.size
    obtain ⟨np, nc, hnv⟩ := own_len hown
    subst hnv
    have hNl : N.length = k := by rw [hN, List.length_map, List.length_range]
    have hNH : Hid (N = (List.range k).map (fun i : Nat => (i : Int))) := hN
    have hNb : N.length ≤ 1000 := by omega
    clear hN hNl
    by_cases hlt : k < (vars P).length
    · have hlt2 : (k : Int) < (vars P).length := by omega
      go_wp2_with (at_builtin; refine wpList_append_own _ rfl _ _ 56 rfl W1.heap.size 3 j0 (.int .i64 0) 1 8 Tryz.underlying56 hj hy0 hy1 hy2 rfl (by decide) _ N.length (N.flatMap ecI) rfl (hown.alloc _) _ 1 1 [.int .i64 (k : Int)] rfl rfl (news_at rfl) (by intro u hu; simp at hu; subst hu; rfl) (by unfold maxLen; omega) (by omega) (by simp; omega) ?_; intro v2 w1 hown' hgrow _)
      have hlt1 := hown.lt
      have hB3 : Below W1.heap.size W1 w1 := Below.grown (w := _) (hB.alloc hw _) hgrow (by simp; omega) (fun q hq => (hlt1 q hq).1)
      go_wp2_with fail
      go_roundw
      case rel => exact ⟨k + 1, N ++ [(k : Int)], by omega, by simp, by rw [List.range_succ, List.map_append, show N = _ from hNH]; rfl, by rw [List.flatMap_append, List.length_append]; exact hown', hB3⟩
      case measure => simp [intOf]; omega
    · have hks : k = (vars P).length := by omega
      subst hks
      have hlt2 : ¬ ((vars P).length : Int) < (vars P).length := by omega
      have hNe : N = nowK (vars P).length (vars P).length := by rw [nowK_list]; exact hNH
      have hR0 : RL W1 [] N wr (.slice none 0 0) (.slice np N.length nc) := ⟨World.ownsRow_nil _ _ _ _, hown, fun x hx => by simp at hx, hB⟩
      rw [← hNe] at hlw
      have hNeH : Hid (N = nowK (vars P).length (vars P).length) := hNe
      clear hNe hown hB hNH
      go_wp2_with fail
      have hnl : N.length = (vars P).length := by rw [show N = _ from hNeH, nowK_len]
      have hnlH : Hid (N.length = (vars P).length) := hnl
      clear hnl
      go_loopw [8, 29] (fun o i wr => ∃ (m : Nat) (X : List Lv), m ≤ L.length ∧ i = .int .i64 m ∧ X.map Lv.l = (lastW P (sitesOf P) L N m).1 ∧ X.length = m ∧ RL W1 X (lastW P (sitesOf P) L N m).2 wr o (.slice np N.length nc)) (fun _ i _ => L.length - (intOf i).toNat)
      case atStart => exact ⟨0, [], Nat.zero_le _, rfl, rfl, rfl, hR0⟩
      case round =>
        obtain ⟨m, X, hm, rfl, hXm, hXn, hR⟩ := hrel
        clear hR0
        have hB := hR.be
        have hw := hB.size
        have hBw2 := hBw.trans (hB.mono hBw.size)
        obtain ⟨op, oc, hov⟩ := own_len hR.oo
        subst hov
        have hk2 := hlw m
        have hXnH : Hid (X.length = m) := hXn
        have hXb : X.length ≤ 5000 := by omega
        clear hXn
        by_cases hlt : m < L.length
        · obtain rfl := hvp (by omega)
          have hlt2 : (m : Int) < L.length := by omega
          have hmx : m < Xs.length := by have : Xs.length = L.length := hXl2; omega
          have hLp : L[m]'hlt = (Xs[m]'hmx).p := by
            have h9 : Xs.map Sv.p = L := hXs2
            have h8 : L[m]? = some (Xs[m]'hmx).p := by rw [← h9, List.getElem?_map, List.getElem?_eq_getElem hmx]; rfl
            rw [List.getElem?_eq_getElem hlt] at h8
            exact Option.some.inj h8
          have hok := hOk _ (List.getElem_mem hlt)
          have hlw1 : lastW P (sitesOf P) L N (m + 1) = ((lastW P (sitesOf P) L N m).1 ++ [(lastW P (sitesOf P) L N m).2], doneN P (sitesOf P) (L[m]'hlt).b (P.getD (L[m]'hlt).b.toNat default).l (P.getD (L[m]'hlt).b.toNat default).l.length (lastW P (sitesOf P) L N m).2) := by
            simp only [lastW, List.getElem?_eq_getElem hlt]
          have hcv : ∀ r u, ((Xs[m]'hmx).cs)[r]? = some u → wr.cell? ⟨vb, voff + m * 4 + r, none⟩ = some u := fun r u hu => by
            rw [Nat.add_assoc]
            exact nextC hBw2 (hvc m hmx r u hu)
          have hsx := hsh _ (List.getElem_mem hmx)
          clear hvc hvp
          rw [hLp] at hlw1 hok
          clear hLp
          generalize lastW P (sitesOf P) L N m = A at hXm hR hlw1 hk2
          obtain ⟨A1, A2⟩ := A
          generalize Xs[m]'hmx = xs at hlw1 hok hcv hsx
          obtain ⟨⟨cb, cr⟩, ev, oo⟩ := xs
          obtain ⟨⟨ep, en, ec, rfl⟩, qp, qn, qc, rfl⟩ : (∃ p n c, ev = .slice p n c) ∧ ∃ p n c, oo = .slice p n c := hsx
          have g1 : 0 ≤ cb := hok.1
          have g2 : cb < P.length := hok.2
          obtain ⟨kb, rfl⟩ : ∃ k : Nat, cb = k := ⟨cb.toNat, (Int.toNat_of_nonneg g1).symm⟩
          have hkb : kb < P.length := by omega
          have hgd : P.getD ((kb : Nat) : Int).toNat default = P[kb]'hkb := by rw [Int.toNat_natCast]; simp [List.getD, List.getElem?_eq_getElem hkb]
          have hlw1 : lastW P (sitesOf P) L N (m + 1) = (A1 ++ [A2], doneN P (sitesOf P) (kb : Int) (P.getD ((kb : Nat) : Int).toNat default).l (P.getD ((kb : Nat) : Int).toNat default).l.length A2) := hlw1
          rw [hgd] at hlw1
          have hHw : Hid (lastW P (sitesOf P) L N (m + 1) = (A1 ++ [A2], doneN P (sitesOf P) (kb : Int) (P[kb]'hkb).l (P[kb]'hkb).l.length A2)) := hlw1
          have hA2 : A2.length = N.length := hk2
          have hA2H : Hid (A2.length = N.length) := hA2
          have hA2l : A2.length ≤ 1000 := by omega
          have hR : RL W1 X A2 wr (.slice op X.length oc) (.slice np N.length nc) := hR
          clear hlw1 hgd hk2 hA2 g1 hok
          have d0 : wr.cell? ⟨vb, voff + m * 4, none⟩ = some (.int .i64 kb) := hcv 0 _ rfl
          have dl := World.block_lt_of_cell? _ _ d0
          have d1 : wr.cell? ⟨vb, voff + m * 4 + 1, none⟩ = some (.slice ep en ec) := hcv 1 _ rfl
          have d2 : wr.cell? ⟨vb, voff + m * 4 + 2, none⟩ = some (.int .i64 cr.i) := hcv 2 _ rfl
          have d3 : wr.cell? ⟨vb, voff + m * 4 + 3, none⟩ = some (.slice qp qn qc) := hcv 3 _ rfl
          clear hcv
          have hkb2 : (kb : Int) < P.length := by omega
          have hsl := (hpc kb hkb).2
          have hcb : ∀ r u, ((P[kb]'hkb).cs)[r]? = some u → w.cell? ⟨bb, off + kb * 8 + r, none⟩ = some u := fun r u hu => by
            rw [Nat.add_assoc]
            exact (hpc kb hkb).1 r u hu
          have hllB := hl12 _ (List.getElem_mem hkb)
          have hSv : ∀ x ∈ sitesOf P, ∀ (k : Nat) (hk : k < (P[kb]'hkb).l.length), x.b = (kb : Int) → x.k = (k : Int) → x = ⟨(kb : Int), (k : Int), ((P[kb]'hkb).l[k]'hk).v⟩ ∧ 0 ≤ idx (vars P) ((P[kb]'hkb).l[k]'hk).v ∧ idx (vars P) ((P[kb]'hkb).l[k]'hk).v < (vars P).length := fun x hx k hk h1 h2 => ⟨(sites_var hx hkb hk h1 h2).1, sites_idx hc0 hx hkb hk h1 h2⟩
          obtain rfl := hpp (by omega)
          generalize P[kb]'hkb = B at hHw hsl hcb hllB hSv
          obtain ⟨lp, lc, hlv⟩ : ∃ p c, B.lv = .slice p B.l.length c := sl_len hsl
          have b1 : w.cell? ⟨bb, off + kb * 8 + 1, none⟩ = some (.slice lp B.l.length lc) := by rw [← hlv]; exact hcb 1 _ rfl
          clear hcb hlv hsl
          obtain ⟨Wo, hWo⟩ : ∃ Wo, Wo = wr := ⟨wr, rfl⟩
          subst hWo
          have hwv : Below Wo.heap.size Wo (Wo.alloc (.cells #[.int .i64 kb, .slice ep en ec, .int .i64 cr.i, .slice qp qn qc] 38)) := (Below.refl _ _).alloc (Nat.le_refl _) _
          have hR2 := hR.below hwv
          have e9 := heap_alloc_new Wo (.cells #[.int .i64 kb, .slice ep en ec, .int .i64 cr.i, .slice qp qn qc] 38)
          have hV2s := hR2.be.size
          clear hR hwv
          go_wp2_with (first | (go_at_call 35; refine (copiedI_any A2 (by omega) (.slice np N.length nc) _ (Sl.of_own hR2.no) (NilOk.own hR2.no)).mono ?_; rintro e W5 ⟨cv, rfl, hcv, hB5⟩; obtain ⟨cp, cc, rfl⟩ : ∃ p c, cv = .slice p A2.length c := own_len hcv; have hq := (hR2.below hB5).below ((Below.refl W5.heap.size W5).alloc (Nat.le_refl _) (.cells #[.slice cp A2.length cc] 56)); have e10 := blk_next ((Below.refl W5.heap.size W5).alloc (Nat.le_refl _) (.cells #[.slice cp A2.length cc] 56)) (blk_next hB5 e9); have hnv := apart_rows hcv hR2.no) | (at_builtin; refine wpList_append_own _ rfl _ _ 28 rfl W1.heap.size 56 i0 (.slice none 0 0) 1 24 Tryz.underlying28 hi hz0 hz1 hz2 rfl (by decide) _ X.length (X.flatMap Lv.cs) rfl hq.oo _ 1 1 [.slice cp A2.length cc] rfl rfl (news_at rfl) (by intro u hu; simp at hu; subst hu; rfl) (by unfold maxLen; omega) (by omega) (by have := hq.be.size; omega) ?_; intro v6 W6 ho6 hg6 hv6; have hRv := hq.visit (own_base (hcv.alloc _) hV2s) hnv hg6 ho6; have y6 := nextC hRv.be y0; have yl6 := World.block_lt_of_cell? _ _ y6; have e11 := (hg6.block _ (lt_of_some e10) (fun he => own_ne hq.oo e10 (by decide) he.symm)).trans e10; obtain ⟨f0, _, _, _, _, fl⟩ := four e11; have b1' := nextC (hBw.trans (hRv.be.mono hBw.size)) b1; have bl' := World.block_lt_of_cell? _ _ b1'))
          clear y6 yl6 f0 fl b1' bl' d0 d1 d2 d3 dl b1 hq ho6 hg6 hv6 e10 hcv hnv hB5 hR2 e9
          have hvd : ∀ k : Nat, (doneN P (sitesOf P) (kb : Int) B.l k A2).length = N.length := fun k => (doneN_len P (sitesOf P) (kb : Int) B.l k A2).trans hA2H
          have hSb : (sitesOf P).length ≤ 1000 := trsites_len h12 hl12
          have hvdH : Hid (∀ k : Nat, (doneN P (sitesOf P) (kb : Int) B.l k A2).length = N.length) := hvd
          clear hvd
          go_loopw [46] (fun i wq => ∃ k : Nat, k ≤ B.l.length ∧ i = .int .i64 k ∧ RL W1 (X ++ [⟨A2, .slice cp A2.length cc⟩]) (doneN P (sitesOf P) (kb : Int) B.l k A2) wq v6 (.slice np N.length nc) ∧ wq.heap[Wo.heap.size]? = some (.cells #[.int .i64 kb, .slice ep en ec, .int .i64 cr.i, .slice qp qn qc] 38 (0, 0))) (fun i _ => B.l.length - (intOf i).toNat)
          case atStart => exact ⟨0, Nat.zero_le _, rfl, hRv, e11⟩
          case round =>
            obtain ⟨k, hk, rfl, hRk, hbk⟩ := hrel
            clear hRv e11
            by_cases hlk : k < B.l.length
            · have hlk2 : (k : Int) < B.l.length := by omega
              have hdn : doneN P (sitesOf P) (kb : Int) B.l (k + 1) A2 = putI P (sitesOf P) ⟨(kb : Int), (k : Int), (B.l[k]'hlk).v⟩ (sitesOf P).length (doneN P (sitesOf P) (kb : Int) B.l k A2) := by
                simp only [doneN, List.getElem?_eq_getElem hlk]
              have hSk := fun x hx => hSv x hx k hlk
              have hDl : Hid ((doneN P (sitesOf P) (kb : Int) B.l k A2).length = N.length) := (show ∀ k : Nat, (doneN P (sitesOf P) (kb : Int) B.l k A2).length = N.length from hvdH) k
              generalize (B.l[k]'hlk).v = sv at hdn hSk
              have hHd : Hid (doneN P (sitesOf P) (kb : Int) B.l (k + 1) A2 = putI P (sitesOf P) ⟨(kb : Int), (k : Int), sv⟩ (sitesOf P).length (doneN P (sitesOf P) (kb : Int) B.l k A2)) := hdn
              clear hdn
              generalize doneN P (sitesOf P) (kb : Int) B.l k A2 = D at hRk hHd hDl
              have hvr := fun (V : World) (hB : Below w.heap.size w V) => rvar_any P sv _ V (hH.2.below hB) h12 hl12
              have hpl : Hid (∀ j, (putI P (sitesOf P) ⟨(kb : Int), (k : Int), sv⟩ j D).length = N.length) := fun j => (putI_len P (sitesOf P) ⟨(kb : Int), (k : Int), sv⟩ j D).trans hDl
              go_wp2_with fail
              go_loopw [51] (fun i wq => ∃ j : Nat, j ≤ (sitesOf P).length ∧ i = .int .i64 j ∧ RL W1 (X ++ [⟨A2, .slice cp A2.length cc⟩]) (putI P (sitesOf P) ⟨(kb : Int), (k : Int), sv⟩ j D) wq v6 (.slice np N.length nc) ∧ wq.heap[Wo.heap.size]? = some (.cells #[.int .i64 kb, .slice ep en ec, .int .i64 cr.i, .slice qp qn qc] 38 (0, 0))) (fun i _ => (sitesOf P).length - (intOf i).toNat)
              case atStart => exact ⟨0, Nat.zero_le _, rfl, hRk, hbk⟩
              case round =>
                obtain ⟨j, hj, rfl, hRj, hbj⟩ := hrel
                clear hRk hbk
                have hBj := hRj.be
                have hszj := hBj.size
                obtain ⟨f0, _, _, _, _, fl⟩ := four hbj
                have y6 := nextC hBj y0
                have yl6 := World.block_lt_of_cell? _ _ y6
                by_cases hjt : j < (sitesOf P).length
                · have hjt2 : (j : Int) < (sitesOf P).length := by omega
                  obtain ⟨sbb, soff, sp, scap, hsv2, hsp, hsc⟩ := hsv.open Si.cs_len
                  injection hsv2 with hsv3 hsv9 hsv4
                  clear hsv9
                  subst hsv3 hsv4
                  obtain rfl := hsp (by omega)
                  have hcr : ∀ r u, (((sitesOf P)[j]'hjt).cs)[r]? = some u → wr.cell? ⟨sbb, soff + j * 3 + r, none⟩ = some u := fun r u hu => by
                    rw [Nat.add_assoc]
                    exact nextC hBj (hsc j hjt r u hu)
                  have hhit := hSk _ (List.getElem_mem hjt)
                  have hput : putI P (sitesOf P) ⟨(kb : Int), (k : Int), sv⟩ (j + 1) D = if (sitesOf P)[j]? = some ⟨(kb : Int), (k : Int), sv⟩ then (putI P (sitesOf P) ⟨(kb : Int), (k : Int), sv⟩ j D).set (max (idx (vars P) sv) 0).toNat (j : Int) else putI P (sitesOf P) ⟨(kb : Int), (k : Int), sv⟩ j D := rfl
                  rw [List.getElem?_eq_getElem hjt] at hput
                  clear hsc hsp
                  have hN1 : (putI P (sitesOf P) ⟨(kb : Int), (k : Int), sv⟩ j D).length = N.length := (show ∀ j, (putI P (sitesOf P) ⟨(kb : Int), (k : Int), sv⟩ j D).length = N.length from hpl) j
                  generalize (sitesOf P)[j]'hjt = y at hcr hhit hput
                  generalize putI P (sitesOf P) ⟨(kb : Int), (k : Int), sv⟩ j D = N1 at hRj hput hN1
                  obtain ⟨yb, yk, yv⟩ := y
                  have d0 : wr.cell? ⟨sbb, soff + j * 3, none⟩ = some (.int .i64 yb) := hcr 0 _ rfl
                  have d1 : wr.cell? ⟨sbb, soff + j * 3 + 1, none⟩ = some (.int .i64 yk) := hcr 1 _ rfl
                  have d2 : wr.cell? ⟨sbb, soff + j * 3 + 2, none⟩ = some (.string yv) := hcr 2 _ rfl
                  have dl := World.block_lt_of_cell? _ _ d0
                  clear hcr
                  have hsb : Below wr.heap.size wr (wr.alloc (.cells #[.int .i64 yb, .int .i64 yk, .string yv] 82)) := (Below.refl wr.heap.size wr).alloc (Nat.le_refl _) _
                  have hRs := hRj.below hsb
                  have hbs := blk_next hsb hbj
                  have hBw4 := hBw.trans (hRs.be.mono hBw.size)
                  have hN1H : Hid (N1.length = N.length) := hN1
                  clear hN1
                  by_cases hy : yb = (kb : Int) ∧ yk = (k : Int)
                  · obtain ⟨rfl, rfl⟩ := hy
                    obtain ⟨he, hi0, hi1⟩ := hhit rfl rfl
                    injection he with _ _ e5
                    subst e5
                    rw [if_pos rfl] at hput
                    clear hhit
                    have hvr4 := hvr _ hBw4
                    generalize idx (vars P) yv = r at hput hi0 hi1 hvr4
                    obtain ⟨M, rfl⟩ : ∃ M : Nat, r = M := ⟨r.toNat, (Int.toNat_of_nonneg hi0).symm⟩
                    rw [show (max (M : Int) 0).toNat = M by omega] at hput
                    have hputH : Hid (putI P (sitesOf P) ⟨(kb : Int), (k : Int), yv⟩ (j + 1) D = N1.set M (j : Int)) := hput
                    have hMl : M < N.length := by have : N.length = (vars P).length := hnlH; omega
                    have hMl2 : M < N1.length := by have : N1.length = N.length := hN1H; omega
                    have hMl3 : (M : Int) < N.length := by omega
                    clear hput hi0 hi1 hvr
                    obtain ⟨g, gc, hgv, hg1, hg2⟩ := own_some hRs.no (by omega)
                    injection hgv with hgv1 hgv2 hgv3
                    clear hgv2
                    subst hgv1 hgv3
                    go_wp2_with (go_at_call 36; refine hvr4.mono ?_; rintro e W9 ⟨rfl, hB9⟩; have hR9 := hRs.below hB9; have hb9 := blk_next hB9 hbs; have hR8 := own_same hR9.no hN1H; have q0 := hR8.frozenAt M; have dd := (hR8.cellAt M (by omega)).trans (ecI_get N1 M hMl2); have gl := (hR8.lt g rfl).2)
                    go_roundw
                    case rel => exact ⟨j + 1, by omega, by simp, by rw [show putI P (sitesOf P) ⟨(kb : Int), (k : Int), yv⟩ (j + 1) D = _ from hputH]; exact hR9.put2 hN1H M hMl _, (heap_setCell_other _ _ _ _ (fun he => own_ne hR9.no hb9 (by decide) (by rw [he]; rfl))).trans hb9⟩
                    case measure => simp [intOf]; omega
                  · have hH2 : Hid (putI P (sitesOf P) ⟨(kb : Int), (k : Int), sv⟩ (j + 1) D = N1) := by
                      refine hput.trans (if_neg fun he => hy ?_)
                      injection he with he
                      injection he with h1 h2 h3
                      exact ⟨h1, h2⟩
                    clear hput hhit hvr
                    by_cases h1 : yb = (kb : Int)
                    · subst h1
                      have h2 : ¬ yk = (k : Int) := fun h => hy ⟨rfl, h⟩
                      clear hy
                      go_wp2_with fail
                      go_roundw
                      case rel => exact ⟨j + 1, by omega, by simp, by rw [show putI P (sitesOf P) ⟨(kb : Int), (k : Int), sv⟩ (j + 1) D = _ from hH2]; exact hRs, hbs⟩
                      case measure => simp [intOf]; omega
                    · clear hy
                      go_wp2_with fail
                      go_roundw
                      case rel => exact ⟨j + 1, by omega, by simp, by rw [show putI P (sitesOf P) ⟨(kb : Int), (k : Int), sv⟩ (j + 1) D = _ from hH2]; exact hRs, hbs⟩
                      case measure => simp [intOf]; omega
                · have hks : j = (sitesOf P).length := by omega
                  have hjt2 : ¬ (j : Int) < (sitesOf P).length := by omega
                  have hHd2 : Hid (doneN P (sitesOf P) (kb : Int) B.l (k + 1) A2 = putI P (sitesOf P) ⟨(kb : Int), (k : Int), sv⟩ j D) := by rw [hks]; exact hHd
                  clear hks
                  go_wp2_with fail
                  go_roundw
                  case rel => exact ⟨k + 1, by omega, by simp, by rw [show doneN P (sitesOf P) (kb : Int) B.l (k + 1) A2 = _ from hHd2]; exact hRj, hbj⟩
                  case measure => simp [intOf]; omega
            · have hks : k = B.l.length := by omega
              have hlk2 : ¬ (k : Int) < B.l.length := by omega
              have hHw2 : Hid (lastW P (sitesOf P) L N (m + 1) = (A1 ++ [A2], doneN P (sitesOf P) (kb : Int) B.l k A2)) := by rw [hks]; exact hHw
              clear hks
              go_wp2_with fail
              go_roundw
              case rel => exact ⟨m + 1, X ++ [⟨A2, .slice cp A2.length cc⟩], by omega, by simp, by rw [show lastW P (sitesOf P) L N (m + 1) = _ from hHw2]; simp [hXm], by rw [List.length_append, show X.length = m from hXnH]; rfl, by rw [show lastW P (sitesOf P) L N (m + 1) = _ from hHw2]; exact hRk⟩
              case measure => simp [intOf]; omega
        · have hks : m = L.length := by omega
          subst hks
          have hlt2 : ¬ (L.length : Int) < L.length := by omega
          clear hvc hvp
          go_wp2_with fail
          refine bodyPost_ret (v := .slice op X.length oc) (by simp only [results, Tryz.results12]; go_simp) rfl ⟨_, rfl, ?_, hBw2⟩
          exact ⟨X, (by rw [show nowK (vars P).length (vars P).length = N from (show N = _ from hNeH).symm]; exact hXm), Sl.of_own hR.oo, fun x hx => Sl.of_own (hR.xr x hx).1⟩

end Go.Proofs.YtaaklejkngpddaaGreat.Pr

namespace Go.Proofs.YtaaklejkngpddaaGreat.Pr
set_option linter.unusedVariables false
set_option linter.unusedSimpArgs false
open Go Go.RowKit

def t9 : Te := ⟨1, zA, ⟨#[97]⟩, ⟨#[]⟩⟩
/-- The example's program. -/
def P9 (lv : Value) : List Bl := [⟨⟨#[97]⟩, [sA8], t9, lv⟩]
theorem P9_vars (lv : Value) : vars (P9 lv) = [⟨#[120]⟩] := by
  show putS (putS (putS (putS [] ⟨#[120]⟩) ⟨#[]⟩) ⟨#[]⟩) ⟨#[]⟩ = _
  decide +kernel
theorem P9_sites (lv : Value) : sitesOf (P9 lv) = [⟨-1, 0, ⟨#[120]⟩⟩, ⟨0, 0, ⟨#[120]⟩⟩] := by
  unfold sitesOf
  rw [P9_vars]
  rfl
theorem P9_check (lv : Value) : checkOf (P9 lv) = 0 := by
  refine check_0 (by simp [P9]) (by simp [P9]) (by simp [P9]) ?_ (by rw [P9_vars]; decide) (fun k hk => ?_) (fun k hk => ?_)
  · show (blockB _ && true) = true
    rw [blockB_def]
    show ((Tk.nameB ⟨#[97]⟩ && (termB t9 && (stmtB sA8 && true))) && true) = true
    have ht : termB t9 = true := by
      unfold termB
      simp only [t9]
      first | (rw [if_pos (by decide)]; show (Tk.nameB ⟨#[97]⟩ && _) = true; rw [nameB8_a]; decide +kernel) | trace_state
    rw [nameB8_a, stmt_A8, ht]
    decide +kernel
  · have : k = 0 := by simp [P9] at hk; exact hk
    subst this
    rfl
  · have : k = 0 := by simp [P9] at hk; exact hk
    subst this
    rfl
theorem P9_begin (lv : Value) : beginS (P9 lv) = ⟨((0 : Nat) : Int), ⟨[zN], 0, []⟩⟩ := by unfold beginS; rw [P9_vars]; rfl
theorem P9_do (lv : Value) : runB (P9 lv) [] ⟨[zN], 0, []⟩ [sA8] = ⟨[zN], 1, []⟩ := by
  show doS (P9 lv) [] ⟨[zN], 0, []⟩ sA8 = _
  rw [doS_2 (s := sA8) rfl, P9_vars]
  kernel_rfl
theorem P9_next (lv : Value) (E : List Nu) : nextI (P9 lv) ((P9 lv)[0]'(by simp [P9])) E ((0 : Nat) : Int) = ((0 : Nat) : Int) := by
  have ht : ((P9 lv)[0]'(by simp [P9])).t = t9 := rfl
  unfold nextI toN
  rw [ht, if_neg (by decide), if_neg (fun h => by have := h.1; revert this; decide)]
  rfl
theorem P9_run (lv : Value) : ∃ st, fromS (P9 lv) [] (capN 2) (beginS (P9 lv)) true = ([⟨((0 : Nat) : Int), ⟨[zN], 0, []⟩⟩, ⟨((0 : Nat) : Int), ⟨[zN], 1, []⟩⟩], st) := by
  have e : ((P9 lv)[0]'(by simp [P9])).l = [sA8] := rfl
  have g : goesB ((P9 lv)[0]'(by simp [P9])) = true := rfl
  rw [P9_begin, show capN 2 = (0 + 1) + 1 from rfl, fromS_succ, adv_at (P := P9 lv) (by simp [P9] : 0 < (P9 lv).length), e, P9_do, g, P9_next, fromS_succ]
  exact ⟨_, rfl⟩
theorem P9_last (lv : Value) (r0 r1 : Rs) : (lastW (P9 lv) [⟨-1, 0, ⟨#[120]⟩⟩, ⟨0, 0, ⟨#[120]⟩⟩] [⟨((0 : Nat) : Int), r0⟩, ⟨((0 : Nat) : Int), r1⟩] (nowK 1 1) 2).1 = [[0], [1]] := by
  have h1 : (lastW (P9 lv) [⟨-1, 0, ⟨#[120]⟩⟩, ⟨0, 0, ⟨#[120]⟩⟩] [⟨((0 : Nat) : Int), r0⟩, ⟨((0 : Nat) : Int), r1⟩] (nowK 1 1) 2).1 = [nowK 1 1, putI (P9 lv) [⟨-1, 0, ⟨#[120]⟩⟩, ⟨0, 0, ⟨#[120]⟩⟩] ⟨0, 0, ⟨#[120]⟩⟩ 2 (nowK 1 1)] := rfl
  have h2 : putI (P9 lv) [⟨-1, 0, ⟨#[120]⟩⟩, ⟨0, 0, ⟨#[120]⟩⟩] ⟨0, 0, ⟨#[120]⟩⟩ 2 (nowK 1 1) = [1] := by
    simp only [putI]
    rw [P9_vars]
    decide +kernel
  rw [h1, h2]
  rfl

theorem two_lists {X : List Lv} {a b : List Int} (h : X.map Lv.l = [a, b]) : ∃ v1 v2, X = [⟨a, v1⟩, ⟨b, v2⟩] := by
  cases X with
  | nil => simp at h
  | cons x X =>
    cases X with
    | nil => simp at h
    | cons y X =>
      cases X with
      | cons z X => simp at h
      | nil =>
        obtain ⟨l1, v1⟩ := x
        obtain ⟨l2, v2⟩ := y
        simp at h
        obtain ⟨rfl, rfl⟩ := h
        exact ⟨v1, v2, rfl⟩

def R2 : Obj := .cells #[.int .i64 2, .string ⟨#[120]⟩, .int .i64 0, .string ⟨#[]⟩, .int .i64 0, .int .i64 0, .string ⟨#[]⟩, .int .i64 0, .int .i64 0] 50
def R3 (w : World) : Obj := .cells #[.string ⟨#[97]⟩, .slice (some ⟨w.heap.size, 0, none⟩) 1 1, .int .i64 1, .string ⟨#[]⟩, .int .i64 0, .int .i64 0, .string ⟨#[97]⟩, .string ⟨#[]⟩] 55
def R4 (w : World) : Obj := .cells #[.slice (some ⟨w.heap.size + 1, 0, none⟩) 1 1] 24
def V9 (w : World) : World := ((w.alloc R2).alloc (R3 w)).alloc (R4 w)
theorem V9_2 (w : World) : (V9 w).heap[w.heap.size]? = some R2 := by
  unfold V9
  rw [heap_alloc_old _ _ (by simp; try omega), heap_alloc_old _ _ (by simp)]
  exact heap_alloc_new _ _
theorem V9_3 (w : World) : (V9 w).heap[w.heap.size + 1]? = some (R3 w) := by
  unfold V9
  rw [heap_alloc_old _ _ (by simp; try omega), show w.heap.size + 1 = (w.alloc R2).heap.size by simp]
  exact heap_alloc_new _ _
theorem V9_below (w : World) : Below w.heap.size w (V9 w) := (((Below.refl _ _).alloc (Nat.le_refl _) _).alloc (by simp) _).alloc (by simp; try omega) _
theorem V9_pg (w : World) : Pg (V9 w) (.slice (some ⟨w.heap.size + 1, 0, none⟩) 1 1) (P9 (.slice (some ⟨w.heap.size, 0, none⟩) 1 1)) := by
  refine ⟨Sl.lit (P9 (.slice (some ⟨w.heap.size, 0, none⟩) 1 1)) rfl rfl (V9_3 w), fun b hb => ?_⟩
  have : b = ⟨⟨#[97]⟩, [sA8], t9, .slice (some ⟨w.heap.size, 0, none⟩) 1 1⟩ := by simpa [P9] using hb
  subst this
  exact Sl.lit [sA8] rfl rfl (V9_2 w)

set_option maxRecDepth 100000 in
theorem awake9_any (w : World) : Calls Tryz.prog 4 #[] w fun e w' => e = .returned (.bool true) ∧ Below w.heap.size w w' := by
  have hal := last_ok (P9 (.slice (some ⟨w.heap.size, 0, none⟩) 1 1)) [] (P9_check _) 2 _ (.slice none 0 0) _ (V9_pg w) (by simp [P9]) (by simp [P9, sA8]) Sl.nil
  obtain ⟨st, hr⟩ := P9_run (.slice (some ⟨w.heap.size, 0, none⟩) 1 1)
  rw [hr, P9_sites, P9_vars] at hal
  have hl := P9_last (.slice (some ⟨w.heap.size, 0, none⟩) 1 1) ⟨[zN], 0, []⟩ ⟨[zN], 1, []⟩
  have hBW := V9_below w
  have hal : Calls Tryz.prog 6 #[.agg #[.slice (some ⟨w.heap.size + 1, 0, none⟩) 1 1], .slice none 0 0, .int .i64 2] (V9 w) fun e W' => ∃ ov, e = .returned (.tuple #[ov, .int .i64 0]) ∧ (∃ X : List Lv, X.map Lv.l = [[0], [1]] ∧ Sl W' ov Lv.cs X ∧ ∀ x ∈ X, Sl W' x.v ecI x.l) ∧ Below (V9 w).heap.size (V9 w) W' := by
    rw [← hl]
    exact hal
  clear hr hl
  unfold V9 R2 R3 R4 at hal hBW
  go_enter Tryz.func4, Tryz.ntmps4
  go_wp2_with (go_at_call 6; refine (hal).mono ?_; rintro e q ⟨ov, rfl, ⟨X, hX, hov, hXr⟩, hq⟩; obtain ⟨v1, v2, rfl⟩ := two_lists hX; obtain ⟨ob, off, op, oc, rfl, hop, hoc⟩ := hov.open Lv.cs_len; obtain rfl := hop (by simp); have r1 : Sl q v1 ecI [0] := hXr ⟨[0], v1⟩ (by simp); have r2 : Sl q v2 ecI [1] := hXr ⟨[1], v2⟩ (by simp); obtain ⟨b1, o1, p1, c1, rfl, hp1, hc1⟩ := r1.open ecI_len; obtain rfl := hp1 (by simp); obtain ⟨b2, o2, p2, c2, rfl, hp2, hc2⟩ := r2.open ecI_len; obtain rfl := hp2 (by simp); have k0 : q.cell? ⟨ob, off, none⟩ = some (.slice (some ⟨b1, o1, none⟩) 1 c1) := hoc 0 (by simp) 0 _ rfl; have k1 : q.cell? ⟨ob, off + 1, none⟩ = some (.slice (some ⟨b2, o2, none⟩) 1 c2) := hoc 1 (by simp) 0 _ rfl; have kl := World.block_lt_of_cell? _ _ k0; have m0 : q.cell? ⟨b1, o1, none⟩ = some (.int .i64 0) := hc1 0 (by simp) 0 _ rfl; have m1 : q.cell? ⟨b2, o2, none⟩ = some (.int .i64 1) := hc2 0 (by simp) 0 _ rfl; have ml := World.block_lt_of_cell? _ _ m0; have ml1 := World.block_lt_of_cell? _ _ m1)
  go_ret
  exact ⟨rfl, hBW.trans (hq.mono hBW.size)⟩

end Go.Proofs.YtaaklejkngpddaaGreat.Pr

namespace Go.Proofs.YtaaklejkngpddaaGreat.Pr
set_option linter.unusedVariables false
set_option linter.unusedSimpArgs false
open Go Go.RowKit

/-- A state of a block alone. -/
def ecT (b : Int) : List Value := [.int .i64 b, .slice none 0 0, .int .i64 0, .slice none 0 0]
theorem ecT_len (b : Int) : (ecT b).length = 4 := rfl
theorem snocI (L : List Int) (x : Int) : (L ++ [x]).flatMap ecI = L.flatMap ecI ++ [.int .i64 x] := by simp [ecI]
theorem snocT (L : List Int) (x : Int) : (L ++ [x]).flatMap ecT = L.flatMap ecT ++ ecT x := by simp

/-- The blocks so far are visits. -/
structure TI (w : World) (rb : Nat) (X : List Int) (wr : World) (vv : Value) : Prop where
  ob : wr.heap[rb]? = some (.cells #[vv, .slice none 0 0, .bool false] 90 (0, 0))
  row : wr.ownsRow rb 95 4 vv X.length (X.flatMap ecT)
  be : Below w.heap.size w wr
  hb : w.heap.size ≤ rb
theorem TI.below {w : World} {rb : Nat} {X : List Int} {wr q : World} {vv : Value} (h : TI w rb X wr vv) (hq : Below wr.heap.size wr q) : TI w rb X q vv := ⟨blk_next hq h.ob, own_below h.row hq, nextB hq h.be, h.hb⟩
theorem TI.visit {w : World} {rb : Nat} {X : List Int} {wr w1 : World} {vv v2 : Value} (h : TI w rb X wr vv) (x : Int) (hg : wr.grownBy w1 vv.ownBlock) (ho : w1.ownsRow rb 95 4 v2 (X.length + 1) (X.flatMap ecT ++ [.int .i64 x, .slice none 0 0, .int .i64 0, .slice none 0 0])) :
    TI w rb (X ++ [x]) (w1.setCell ⟨rb, 0, none⟩ v2) v2 := by
  have g4 : w1.heap[rb]? = some (.cells #[vv, .slice none 0 0, .bool false] 90 (0, 0)) := (hg.block _ (lt_of_some h.ob) (fun he => own_ne h.row h.ob (by decide) he.symm)).trans h.ob
  refine ⟨heap_setCell_same _ rb 0 _ _ v2 g4, ?_, ?_, h.hb⟩
  · rw [snocT, List.length_append]
    exact ownsRow_setCell_other ho (own_ne ho g4 (by decide)) _
  · exact (Below.grown (w := _) h.be hg h.be.size (fun q hq => Nat.le_trans h.hb (h.row.lt q hq).1)).setCell (p := ⟨rb, 0, none⟩) h.hb _

end Go.Proofs.YtaaklejkngpddaaGreat.Pr

namespace Go.Proofs.YtaaklejkngpddaaGreat.Pr
set_option linter.unusedVariables false
set_option linter.unusedSimpArgs false
open Go Go.ChangeShapes Go.WideShapes Go.ChangeAt Go.RowKit

section
variable {H : Type} {enc : TypeId × Value → H} {W : World} {base : Nat} {v : Value} {d : DataW H} {p : List MemPlace}

theorem cells_Int {n : Nat} {cs : List Value} {y : DataW H × List MemPlace} (h : DataW.trod enc Tryz.prog W 0 (fun _ => true) true n 3 cs = some y) : ∃ x : Int, cs = ecI x ∧ True := by
  obtain ⟨a, e, _, _⟩ := DataW.trod_int Tryz.underlying3 h
  exact ⟨a, e, trivial⟩

set_option maxRecDepth 100000 in
theorem open_ints (hv : Value.okWide Tryz.prog W .any base 56 v) (h : DataW.Trod enc Tryz.prog W 0 (fun _ => true) true 56 v d p) : ∃ L : List Int, Sl W v ecI L := by
  obtain ⟨a, len, cap, rfl⟩ := okWide_slice Tryz.underlying56 hv
  obtain ⟨fuel, hf⟩ := h
  obtain ⟨L, ⟨v, e0, hS⟩, _⟩ := slice_T (ec := ecI) (k := 1) Tryz.underlying56 (by kernel_rfl) ecI_len (by decide) (fun _ => True) (fun n cs' y' h => cells_Int h) hf
  simp [Value.cells] at e0
  subst e0
  exact ⟨L, hS⟩
end

end Go.Proofs.YtaaklejkngpddaaGreat.Pr

namespace Go.Proofs.YtaaklejkngpddaaGreat.Pr
set_option linter.unusedVariables false
set_option linter.unusedSimpArgs false
open Go Go.RowKit

theorem stepS {P : Program} {ops : Array Oper} {o : Oper} {a : Act} {w : World} {K : Act → World → Prop} {Q : Exit → Act → World → Prop} {E : Prop} (hgd : o.guard = none) (f : FuncId) (vs : Array Value) {α : Type} (g : α → Value) (S : α → World → Prop)
    (hop : (execOp a.eval o).run P w = .ok (.enter f vs) w)
    (h : Calls P f vs w fun e w' => ∃ v, e = .returned (g v) ∧ S v w' ∧ Below w.heap.size w w') (hk : ∀ v w', S v w' → Below w.heap.size w w' → K (a.put o.dst (g v)) w') :
    if Region.wanted o (yielded ops a.tmps) = true then Oper.wp P o a w K Q else E :=
  step_callS hgd f vs (fun v w' => ∃ x, v = g x ∧ S x w') hop (h.mono fun e w' ⟨v, he, hs, hb⟩ => ⟨_, he, ⟨v, rfl, hs⟩, hb⟩) (fun v w' ⟨x, hx, hs⟩ hb => by subst hx; exact hk x w' hs hb)

theorem lastW_sizes (P : List Bl) (S : List Si) (L : List Ps) (n0 : List Int) : ∀ m, (lastW P S L n0 m).1.length ≤ m ∧ ∀ l ∈ (lastW P S L n0 m).1, l.length = n0.length
  | 0 => ⟨Nat.le_refl _, fun l hl => by simp [lastW] at hl⟩
  | m + 1 => by
    have ih := lastW_sizes P S L n0 m
    have hn := lastW_len P S L n0 m
    unfold lastW
    split
    · refine ⟨by simp; omega, fun l hl => ?_⟩
      rcases List.mem_append.1 hl with h | h
      · exact ih.2 l h
      · rw [List.mem_singleton.1 h]; exact hn
    · exact ⟨by omega, ih.2⟩
theorem knownW_sizes (P : List Bl) (E : List Ex) (L : List Ps) (n0 : List Bool) : ∀ m, (knownW P E L n0 m).1.length ≤ m ∧ ∀ l ∈ (knownW P E L n0 m).1, l.length ≤ n0.length
  | 0 => ⟨Nat.le_refl _, fun l hl => by simp [knownW] at hl⟩
  | m + 1 => by
    have ih := knownW_sizes P E L n0 m
    have hn := knownW_len P E L n0 m
    unfold knownW
    split
    · refine ⟨by simp; omega, fun l hl => ?_⟩
      rcases List.mem_append.1 hl with h | h
      · exact ih.2 l h
      · rw [List.mem_singleton.1 h]
        exact Nat.le_trans (idxT_len _ _) (by omega)
    · exact ⟨by omega, ih.2⟩

theorem nameB_some {s : ByteArray} (h : Tk.nameB s = true) : emptyB s = false := by
  cases he : emptyB s
  · rfl
  · exact absurd h (by
      have h1 := (emptyB_iff s).1 he
      intro h2
      have h3 := nameB_size h2
      omega)
theorem tells_proper {P : List Bl} (h : checkOf P = 0) : Tells P := by
  intro b hb s hs
  have h1 := (proper_block h hb).1
  rw [blockB_def, Bool.and_eq_true, Bool.and_eq_true] at h1
  have h2 : stmtB s = true := List.all_eq_true.1 h1.2.2 s hs
  unfold stmtB at h2
  split at h2
  · rename_i hk
    rw [Bool.and_eq_true] at h2
    rw [nameB_some h2.1, hk]; rfl
  · split at h2
    · rename_i hk
      rw [Bool.and_eq_true] at h2
      rw [nameB_some h2.1, hk]; rfl
    · split at h2
      · rename_i hk
        rw [Bool.and_eq_true] at h2
        rw [h2.1, hk]; rfl
      · cases h2

def fewT (P : List Bl) (I : List Nu) : Bool := smallB P && decide (I.length ≤ 40)
theorem fewT_le {P : List Bl} {I : List Nu} (hf : fewT P I = true) : P.length ≤ 12 ∧ (∀ b ∈ P, b.l.length ≤ 12) ∧ I.length ≤ 40 := by
  simp only [fewT, Bool.and_eq_true, decide_eq_true_eq] at hf
  exact ⟨(small_len hf.1).1, (small_len hf.1).2.1, hf.2⟩

set_option maxRecDepth 100000 in
theorem few9_any (P : List Bl) (I : List Nu) (pv iv : Value) (hcp : CapOk pv) (w : World) (h : Pg w pv P) (hI : Sl w iv Nu.cs I) :
    Calls Tryz.prog 5 #[.agg #[pv], iv] w fun e w' => e = .returned (.bool (fewT P I)) ∧ Below w.heap.size w w' := by
  unfold fewT
  obtain ⟨p, cap, rfl⟩ : ∃ p cap, pv = .slice p P.length cap := by obtain ⟨b, off, p, cap, hv, _⟩ := h.1; exact ⟨p, cap, hv⟩
  obtain ⟨ip, ic, rfl⟩ : ∃ p cap, iv = .slice p I.length cap := by obtain ⟨b, off, p, cap, hv, _⟩ := hI; exact ⟨p, cap, hv⟩
  have hb1 : Below w.heap.size w (w.alloc (.cells #[.slice p P.length cap] 24)) := (Below.refl _ _).alloc (Nat.le_refl _) _
  have hs := small_any P _ _ (h.below hb1)
  clear h hI
  generalize smallB P = S at hs ⊢
  cases S
  · simp only [Bool.false_and]
    go_enter Tryz.func5, Tryz.ntmps5
    go_wp2_with (go_at_call 14; refine' Calls.aft _ _ (hs) _; rotate_left 2; (first | (with_reducible exact After.below _; rfl) | (with_reducible exact below_drew (After.below _); rfl) | (with_reducible exact below_set (After.below _) _ _; (go_simp; rfl)) | (with_reducible exact below_set (below_set (After.below _) _ _) _ _; (go_simp; rfl)) | (with_reducible exact below_set (below_set (below_set (After.below _) _ _) _ _) _ _; (go_simp; rfl)) | (with_reducible exact below_set (below_set (below_set (below_set (After.below _) _ _) _ _) _ _) _ _; (go_simp; rfl)) | (exact Below.refl _ _; rfl)); intro x1; have hle := After.le x1; (try simp at hle))
    go_ret
    exact ⟨rfl, hb1.trans (x1.below.mono hb1.size)⟩
  · simp only [Bool.true_and]
    by_cases h2 : I.length ≤ 40
    · have h2' : (I.length : Int) ≤ 40 := by omega
      have h2b : decide ((I.length : Int) ≤ 40) = true := decide_eq_true h2'
      rw [decide_eq_true h2]
      go_enter Tryz.func5, Tryz.ntmps5
      go_wp2_with (go_at_call 14; refine' Calls.aft _ _ (hs) _; rotate_left 2; (first | (with_reducible exact After.below _; rfl) | (with_reducible exact below_drew (After.below _); rfl) | (with_reducible exact below_set (After.below _) _ _; (go_simp; rfl)) | (with_reducible exact below_set (below_set (After.below _) _ _) _ _; (go_simp; rfl)) | (with_reducible exact below_set (below_set (below_set (After.below _) _ _) _ _) _ _; (go_simp; rfl)) | (with_reducible exact below_set (below_set (below_set (below_set (After.below _) _ _) _ _) _ _) _ _; (go_simp; rfl)) | (exact Below.refl _ _; rfl)); intro x1; have hle := After.le x1; (try simp at hle))
      go_ret
      exact ⟨by first | rfl | (simp [h2b]; done) | (simp; omega), hb1.trans (x1.below.mono hb1.size)⟩
    · have h2' : ¬ (I.length : Int) ≤ 40 := by omega
      have h2b : decide ((I.length : Int) ≤ 40) = false := decide_eq_false h2'
      rw [decide_eq_false h2]
      go_enter Tryz.func5, Tryz.ntmps5
      go_wp2_with (go_at_call 14; refine' Calls.aft _ _ (hs) _; rotate_left 2; (first | (with_reducible exact After.below _; rfl) | (with_reducible exact below_drew (After.below _); rfl) | (with_reducible exact below_set (After.below _) _ _; (go_simp; rfl)) | (with_reducible exact below_set (below_set (After.below _) _ _) _ _; (go_simp; rfl)) | (with_reducible exact below_set (below_set (below_set (After.below _) _ _) _ _) _ _; (go_simp; rfl)) | (with_reducible exact below_set (below_set (below_set (below_set (After.below _) _ _) _ _) _ _) _ _; (go_simp; rfl)) | (exact Below.refl _ _; rfl)); intro x1; have hle := After.le x1; (try simp at hle))
      go_ret
      exact ⟨by first | rfl | (simp [h2b]; done) | (simp; omega), hb1.trans (x1.below.mono hb1.size)⟩

set_option maxRecDepth 100000 in
set_option maxHeartbeats 4000000 in
theorem tripsTell_few (P : List Bl) (I : List Nu) (most : Int) (pv : Value) (hcp : CapOk pv) (iv : Value) (w : World) (h : Pg w pv P) (hI : Sl w iv Nu.cs I) (hf : fewT P I = false) :
    Calls Tryz.prog 3 #[.agg #[pv], iv, .int .i64 most] w fun e w' => e = .returned (.bool true) ∧ Below w.heap.size w w' := by
  obtain ⟨p, cap, rfl⟩ : ∃ p cap, pv = .slice p P.length cap := by obtain ⟨b, off, p, cap, hv, _⟩ := h.1; exact ⟨p, cap, hv⟩
  have hfw := fun (W : World) (hB : Below w.heap.size w W) => few9_any P I _ iv hcp W (h.below hB) (hI.below hB)
  obtain ⟨ip, ic, rfl⟩ : ∃ p cap, iv = .slice p I.length cap := by obtain ⟨b, off, p, cap, hv, _⟩ := hI; exact ⟨p, cap, hv⟩
  have hb1 : Below w.heap.size w (w.alloc (.cells #[.slice p P.length cap] 24)) := (Below.refl _ _).alloc (Nat.le_refl _) _
  rw [hf] at hfw
  clear h hI hcp hf
  go_enter Tryz.func3, Tryz.ntmps3
  go_wp2_with (first | (go_at_call 4; refine' Calls.aft _ _ (awake9_any _) _; rotate_left 2; (first | (with_reducible exact After.below _; rfl) | (with_reducible exact below_drew (After.below _); rfl) | (with_reducible exact below_set (After.below _) _ _; (go_simp; rfl)) | (with_reducible exact below_set (below_set (After.below _) _ _) _ _; (go_simp; rfl)) | (with_reducible exact below_set (below_set (below_set (After.below _) _ _) _ _) _ _; (go_simp; rfl)) | (with_reducible exact below_set (below_set (below_set (below_set (After.below _) _ _) _ _) _ _) _ _; (go_simp; rfl)) | (exact Below.refl _ _; rfl)); intro x1; have hle := After.le x1; (try simp at hle)) | (go_at_call 5; refine' Calls.aft _ _ (hfw _ (hb1.trans (x1.below.mono hb1.size))) _; rotate_left 2; (first | (with_reducible exact After.below _; rfl) | (with_reducible exact below_drew (After.below _); rfl) | (with_reducible exact below_set (After.below _) _ _; (go_simp; rfl)) | (with_reducible exact below_set (below_set (After.below _) _ _) _ _; (go_simp; rfl)) | (with_reducible exact below_set (below_set (below_set (After.below _) _ _) _ _) _ _; (go_simp; rfl)) | (with_reducible exact below_set (below_set (below_set (below_set (After.below _) _ _) _ _) _ _) _ _; (go_simp; rfl)) | (exact Below.refl _ _; rfl)); intro x2; have hle := After.le x2; (try simp at hle)))
  go_ret
  refine ⟨rfl, ?_⟩
  (repeat (first | exact Below.refl _ _ | apply Below.drew | refine Below.alloc ?_ ?_ _ | refine Below.setCell ?_ ?_ _ | refine Below.trans ?_ (Below.mono (After.below _) ?_))); (all_goals (first | (simp; done) | (simp; omega) | omega))

set_option maxRecDepth 100000 in
set_option maxHeartbeats 4000000 in
theorem tripsTell_bad (P : List Bl) (I : List Nu) (most : Int) (pv : Value) (hcp : CapOk pv) (iv : Value) (w : World) (h : Pg w pv P) (hI : Sl w iv Nu.cs I) (hf : fewT P I = true) (hc : checkOf P ≠ 0) :
    Calls Tryz.prog 3 #[.agg #[pv], iv, .int .i64 most] w fun e w' => e = .returned (.bool true) ∧ Below w.heap.size w w' := by
  obtain ⟨h12, hl12, hIl⟩ := fewT_le hf
  obtain ⟨p, cap, rfl⟩ : ∃ p cap, pv = .slice p P.length cap := by obtain ⟨b, off, p, cap, hv, _⟩ := h.1; exact ⟨p, cap, hv⟩
  have hfw := fun (W : World) (hB : Below w.heap.size w W) => few9_any P I _ iv hcp W (h.below hB) (hI.below hB)
  have hla := fun (W : World) (hB : Below w.heap.size w W) => last_bad P I hc (min most 25) _ iv W (h.below hB) h12 hl12 (hI.below hB)
  have hkn := fun (W : World) (hB : Below w.heap.size w W) => known_bad P I hc (min most 25) _ iv W (h.below hB) h12 hl12 (hI.below hB)
  have hck := fun (W : World) (hB : Below w.heap.size w W) => rcheck_any P h12 hl12 _ hcp W (h.below hB)
  have hla : ∀ (W : World) (hB : Below w.heap.size w W), Calls Tryz.prog 6 #[.agg #[.slice p P.length cap], iv, .int .i64 (min most 25)] W fun e w' => e = .returned (.tuple #[.slice none 0 0, .int .i64 (checkOf P)]) ∧ Below W.heap.size W w' := fun W hB => (hla W hB).mono fun e w' ⟨ov, h1, h2, h3⟩ => ⟨by rw [h1, h2], h3⟩
  have hkn : ∀ (W : World) (hB : Below w.heap.size w W), Calls Tryz.prog 7 #[.agg #[.slice p P.length cap], iv, .int .i64 (min most 25)] W fun e w' => e = .returned (.tuple #[.slice none 0 0, .int .i64 (checkOf P)]) ∧ Below W.heap.size W w' := fun W hB => (hkn W hB).mono fun e w' ⟨ov, h1, h2, h3⟩ => ⟨by rw [h1, h2], h3⟩
  obtain ⟨ip, ic, rfl⟩ : ∃ p cap, iv = .slice p I.length cap := by obtain ⟨b, off, p, cap, hv, _⟩ := hI; exact ⟨p, cap, hv⟩
  have hb1 : Below w.heap.size w (w.alloc (.cells #[.slice p P.length cap] 24)) := (Below.refl _ _).alloc (Nat.le_refl _) _
  rw [hf] at hfw
  generalize checkOf P = X at hc hla hkn hck
  clear h hI hcp hf
  go_enter Tryz.func3, Tryz.ntmps3
  go_wp2_with (first | (go_at_call 4; refine' Calls.aft _ _ (awake9_any _) _; rotate_left 2; (first | (with_reducible exact After.below _; rfl) | (with_reducible exact below_drew (After.below _); rfl) | (with_reducible exact below_set (After.below _) _ _; (go_simp; rfl)) | (with_reducible exact below_set (below_set (After.below _) _ _) _ _; (go_simp; rfl)) | (with_reducible exact below_set (below_set (below_set (After.below _) _ _) _ _) _ _; (go_simp; rfl)) | (with_reducible exact below_set (below_set (below_set (below_set (After.below _) _ _) _ _) _ _) _ _; (go_simp; rfl)) | (exact Below.refl _ _; rfl)); intro x1; have hle := After.le x1; (try simp at hle)) | (go_at_call 5; refine' Calls.aft _ _ (hfw _ (hb1.trans (x1.below.mono hb1.size))) _; rotate_left 2; (first | (with_reducible exact After.below _; rfl) | (with_reducible exact below_drew (After.below _); rfl) | (with_reducible exact below_set (After.below _) _ _; (go_simp; rfl)) | (with_reducible exact below_set (below_set (After.below _) _ _) _ _; (go_simp; rfl)) | (with_reducible exact below_set (below_set (below_set (After.below _) _ _) _ _) _ _; (go_simp; rfl)) | (with_reducible exact below_set (below_set (below_set (below_set (After.below _) _ _) _ _) _ _) _ _; (go_simp; rfl)) | (exact Below.refl _ _; rfl)); intro x2; have hle := After.le x2; (try simp at hle)) | (go_at_call 6; refine' Calls.aft _ _ (hla _ (hb1.trans (x2.below.mono hb1.size))) _; rotate_left 2; (first | (with_reducible exact After.below _; rfl) | (with_reducible exact below_drew (After.below _); rfl) | (with_reducible exact below_set (After.below _) _ _; (go_simp; rfl)) | (with_reducible exact below_set (below_set (After.below _) _ _) _ _; (go_simp; rfl)) | (with_reducible exact below_set (below_set (below_set (After.below _) _ _) _ _) _ _; (go_simp; rfl)) | (with_reducible exact below_set (below_set (below_set (below_set (After.below _) _ _) _ _) _ _) _ _; (go_simp; rfl)) | (exact Below.refl _ _; rfl)); intro x3; have hle := After.le x3; (try simp at hle)) | (go_at_call 7; refine' Calls.aft _ _ (hkn _ (hb1.trans (x3.below.mono hb1.size))) _; rotate_left 2; (first | (with_reducible exact After.below _; rfl) | (with_reducible exact below_drew (After.below _); rfl) | (with_reducible exact below_set (After.below _) _ _; (go_simp; rfl)) | (with_reducible exact below_set (below_set (After.below _) _ _) _ _; (go_simp; rfl)) | (with_reducible exact below_set (below_set (below_set (After.below _) _ _) _ _) _ _; (go_simp; rfl)) | (with_reducible exact below_set (below_set (below_set (below_set (After.below _) _ _) _ _) _ _) _ _; (go_simp; rfl)) | (exact Below.refl _ _; rfl)); intro x4; have hle := After.le x4; (try simp at hle)) | (go_at_call 8; refine' Calls.aft _ _ (hck _ (hb1.trans (x4.below.mono hb1.size))) _; rotate_left 2; (first | (with_reducible exact After.below _; rfl) | (with_reducible exact below_drew (After.below _); rfl) | (with_reducible exact below_set (After.below _) _ _; (go_simp; rfl)) | (with_reducible exact below_set (below_set (After.below _) _ _) _ _; (go_simp; rfl)) | (with_reducible exact below_set (below_set (below_set (After.below _) _ _) _ _) _ _; (go_simp; rfl)) | (with_reducible exact below_set (below_set (below_set (below_set (After.below _) _ _) _ _) _ _) _ _; (go_simp; rfl)) | (exact Below.refl _ _; rfl)); intro x5; have hle := After.le x5; (try simp at hle)))
  go_ret
  refine ⟨by first | rfl | simp, ?_⟩
  (repeat (first | exact Below.refl _ _ | apply Below.drew | refine Below.alloc ?_ ?_ _ | refine Below.setCell ?_ ?_ _ | refine Below.trans ?_ (Below.mono (After.below _) ?_))); (all_goals (first | (simp; done) | (simp; omega) | omega))

end Go.Proofs.YtaaklejkngpddaaGreat.Pr

namespace Go.Proofs.YtaaklejkngpddaaGreat.Pr
set_option linter.unusedVariables false
set_option linter.unusedSimpArgs false
open Go Go.RowKit

set_option maxRecDepth 100000 in
set_option maxHeartbeats 8000000 in
theorem tripsTell_ok (P : List Bl) (I : List Nu) (most : Int) (pv : Value) (hcp : CapOk pv) (iv : Value) (w : World) (h : Pg w pv P) (hI : Sl w iv Nu.cs I) (hf : fewT P I = true) (hc : checkOf P = 0) :
    Calls Tryz.prog 3 #[.agg #[pv], iv, .int .i64 most] w fun e w' => e = .returned (.bool true) ∧ Below w.heap.size w w' := by
  obtain ⟨h12, hl12, hIl⟩ := fewT_le hf
  have hfd : ∀ (w : World) (a1 : Option Addr) (n1 c1 : Nat) (a2 : Option Addr) (n2 c2 : Nat) (g9 : Bool), (Instr.field 35 (.agg #[.slice a1 n1 c1, .slice a2 n2 c2, .bool g9]) 0).run Tryz.prog w = .ok (.slice a1 n1 c1) w := fun _ _ _ _ _ _ _ _ => by kernel_rfl
  obtain ⟨p, cap, rfl⟩ : ∃ p cap, pv = .slice p P.length cap := by obtain ⟨b, off, p, cap, hv, _⟩ := h.1; exact ⟨p, cap, hv⟩
  have hfw := fun (W : World) (hB : Below w.heap.size w W) => few9_any P I _ iv hcp W (h.below hB) (hI.below hB)
  have hla := fun (W : World) (hB : Below w.heap.size w W) => last_ok P I hc (min most 25) _ iv W (h.below hB) h12 hl12 (hI.below hB)
  have hkn := fun (W : World) (hB : Below w.heap.size w W) => known_ok P I hc (min most 25) _ iv W (h.below hB) h12 hl12 (hI.below hB)
  have hck := fun (W : World) (hB : Below w.heap.size w W) => rcheck_any P h12 hl12 _ hcp W (h.below hB)
  have hst := fun (W : World) (hB : Below w.heap.size w W) => rstart_any P _ W (h.below hB) h12 hl12
  have hrf := fun (W : World) (hB : Below w.heap.size w W) (ev : Value) hE hz => rfrom_any P I (beginS P) (start_ok hc) (by show List.length [] ≤ _; simp) (by omega) (min most 25) _ ev (.slice none 0 0) _ W (h.below hB) h12 hl12 (hI.below hB) hE Sl.nil hz NilOk.nil
  have hOk := (fromS_ok (I := I) hc hl12 (capN (min most 25)) (beginS P) true ⟨Int.le_refl 0, by have := (proper_vars hc).2; show (0 : Int) < P.length; omega, by simp [beginS], Int.le_refl 0⟩).2.2
  have hLl := (fromS_len P I (capN (min most 25)) (beginS P) true).1
  have hcn : capN (min most 25) ≤ 40 := by unfold capN; omega
  have hvl := (proper_vars hc).1
  have hel : (exprsOf P).length ≤ 1000 := by have := exprs_len hl12 P.length (Nat.le_refl _); rw [List.take_length] at this; omega
  obtain ⟨ip, ic, rfl⟩ : ∃ p cap, iv = .slice p I.length cap := by obtain ⟨b, off, p, cap, hv, _⟩ := hI; exact ⟨p, cap, hv⟩
  have hb1 : Below w.heap.size w (w.alloc (.cells #[.slice p P.length cap] 24)) := (Below.refl _ _).alloc (Nat.le_refl _) _
  rw [hf] at hfw
  rw [hc] at hck
  generalize fromS P I (capN (min most 25)) (beginS P) true = T at hla hkn hrf hOk hLl
  obtain ⟨L, sa, ga⟩ := T
  generalize hgg : (!ga) = gg at hrf
  clear hgg
  have hOk : ∀ t ∈ L, 0 ≤ t.b ∧ t.b < P.length := fun t ht => ⟨(hOk t ht).1.1, (hOk t ht).1.2.1⟩
  have hLl : L.length ≤ 40 := Nat.le_trans hLl hcn
  obtain ⟨g1, g2⟩ := lastW_sizes P (sitesOf P) L (nowK (vars P).length (vars P).length) L.length
  obtain ⟨k1, k2⟩ := knownW_sizes P (exprsOf P) L (List.replicate (exprsOf P).length false) L.length
  rw [nowK_len] at g2
  rw [List.length_replicate] at k2
  have hrl := fun (W : World) (hB : Below w.heap.size w W) Xs hXs hsh vv hV => rlast_any P hc L hOk (by omega) Xs hXs hsh _ vv W (h.below hB) h12 hl12 hV
  have hrk := fun (W : World) (hB : Below w.heap.size w W) Xs hXs hsh vv hV => rknown_any P (tells_proper hc) L hOk (by omega) Xs hXs hsh _ vv W (h.below hB) h12 hl12 hV
  generalize (lastW P (sitesOf P) L (nowK (vars P).length (vars P).length) L.length).1 = A at hla hrl g1 g2
  generalize (knownW P (exprsOf P) L (List.replicate (exprsOf P).length false) L.length).1 = B at hkn hrk k1 k2
  have hsA := fun va vb W X Y hX hY ha hb hxr hyr => same9_any A (by omega) (fun l hl => by have := g2 l hl; omega) va vb W X Y hX hY ha hb hxr hyr
  have hsB := fun va vb W X Y hX hY ha hb hxr hyr => same9_any B (by omega) (fun l hl => by have := k2 l hl; omega) va vb W X Y hX hY ha hb hxr hyr
  have hla : ∀ (W : World) (hB : Below w.heap.size w W), Calls Tryz.prog 6 #[.agg #[.slice p P.length cap], .slice ip I.length ic, .int .i64 (min most 25)] W fun e w' => ∃ v, e = .returned ((fun v : Value => Value.tuple #[v, .int .i64 0]) v) ∧ (fun (v : Value) W' => ∃ X : List Lv, X.map Lv.l = A ∧ Sl W' v Lv.cs X ∧ ∀ x ∈ X, Sl W' x.v ecI x.l) v w' ∧ Below W.heap.size W w' := hla
  have hkn : ∀ (W : World) (hB : Below w.heap.size w W), Calls Tryz.prog 7 #[.agg #[.slice p P.length cap], .slice ip I.length ic, .int .i64 (min most 25)] W fun e w' => ∃ v, e = .returned ((fun v : Value => Value.tuple #[v, .int .i64 0]) v) ∧ (fun (v : Value) W' => ∃ X : List Lv, X.map Lv.l = B ∧ Sl W' v Lv.cs X ∧ ∀ x ∈ X, Sl W' x.v ecI x.l) v w' ∧ Below W.heap.size W w' := hkn
  have hst : ∀ (W : World) (hB : Below w.heap.size w W), Calls Tryz.prog 10 #[.agg #[.slice p P.length cap]] W fun e w' => ∃ ev, e = .returned ((fun ev : Value => .agg #[.int .i64 0, ev, .int .i64 0, .slice none 0 0]) ev) ∧ (fun (ev : Value) w' => Sl w' ev Nu.cs (List.replicate (vars P).length zN) ∧ NilOk ev) ev w' ∧ Below W.heap.size W w' := fun W hB =>
    (hst W hB).mono fun e w' ⟨ev, he, ho, hb⟩ => ⟨ev, he, ⟨Sl.of_own (base := W.heap.size) (e := 44) (size := 2) (by rw [List.length_replicate]; exact ho), NilOk.own ho⟩, hb⟩
  generalize sa.r.o = Oa at hrf
  have hrf : ∀ (W : World) (hB : Below w.heap.size w W) (ev : Value) (he : Sl W ev Nu.cs (List.replicate (vars P).length zN) ∧ NilOk ev), Calls Tryz.prog 9 #[.agg #[.slice p P.length cap], .agg #[.int .i64 0, ev, .int .i64 0, .slice none 0 0], .slice ip I.length ic, .int .i64 (min most 25)] W fun e w' => ∃ x : Value × Value, e = .returned ((fun x : Value × Value => Value.agg #[x.1, x.2, .bool gg]) x) ∧ (fun (x : Value × Value) W2 => ROut W2 L Oa x.1 x.2) x w' ∧ Below W.heap.size W w' := fun W hB ev he =>
    (hrf W hB ev he.1 he.2).mono fun e w' ⟨vv, ov, he, hr, hb⟩ => ⟨(vv, ov), he, hr, hb⟩
  generalize List.replicate (vars P).length zN = Z at hst hrf
  clear hI hcp hf hOk g1 g2 k1 k2 hcn hel hvl hIl hc h hl12
  go_enter Tryz.func3, Tryz.ntmps3
  go_wp2_with (first | (go_at_call 4; refine' Calls.aft _ _ (awake9_any _) _; rotate_left 2; (first | (with_reducible exact After.below _; rfl) | (with_reducible exact below_drew (After.below _); rfl) | (with_reducible exact below_set (After.below _) _ _; (go_simp; rfl)) | (with_reducible exact below_set (below_set (After.below _) _ _) _ _; (go_simp; rfl)) | (with_reducible exact below_set (below_set (below_set (After.below _) _ _) _ _) _ _; (go_simp; rfl)) | (with_reducible exact below_set (below_set (below_set (below_set (After.below _) _ _) _ _) _ _) _ _; (go_simp; rfl)) | (exact Below.refl _ _; rfl)); intro x1; have hle := After.le x1; (try simp at hle)) | (go_at_call 5; refine' Calls.aft _ _ (hfw _ (hb1.trans (x1.below.mono hb1.size))) _; rotate_left 2; (first | (with_reducible exact After.below _; rfl) | (with_reducible exact below_drew (After.below _); rfl) | (with_reducible exact below_set (After.below _) _ _; (go_simp; rfl)) | (with_reducible exact below_set (below_set (After.below _) _ _) _ _; (go_simp; rfl)) | (with_reducible exact below_set (below_set (below_set (After.below _) _ _) _ _) _ _; (go_simp; rfl)) | (with_reducible exact below_set (below_set (below_set (below_set (After.below _) _ _) _ _) _ _) _ _; (go_simp; rfl)) | (exact Below.refl _ _; rfl)); intro x2; have hle := After.le x2; (try simp at hle)) | ((go_at_call 6; refine' Calls.aftS _ _ (hla _ (hb1.trans (x2.below.mono hb1.size))) _; rotate_left 2; (exact Below.refl _ _; rfl); intro v3 x3 ho3; have hle := After.le x3; (try simp at hle)); obtain ⟨X3, hX3, hs3, hr3⟩ := ho3; obtain ⟨lp, lc, rfl⟩ : ∃ p c, v3 = .slice p X3.length c := sl_len hs3) | ((go_at_call 7; refine' Calls.aftS _ _ (hkn _ (nextB x3.below (hb1.trans (x2.below.mono hb1.size)))) _; rotate_left 2; (exact Below.refl _ _; rfl); intro v4 x4 ho4; have hle := After.le x4; (try simp at hle)); obtain ⟨X4, hX4, hs4, hr4⟩ := ho4; obtain ⟨kp, kc, rfl⟩ : ∃ p c, v4 = .slice p X4.length c := sl_len hs4) | (go_at_call 8; refine' Calls.aft _ _ (hck _ (nextB x4.below (nextB x3.below (hb1.trans (x2.below.mono hb1.size))))) _; rotate_left 2; (exact Below.refl _ _; rfl); intro x5; have hle := After.le x5; (try simp at hle)))
  have hB2 : Below w.heap.size w x2.val := hb1.trans (x2.below.mono hb1.size)
  have h45 := nextB x5.below x4.below
  have h35 : Below x2.val.heap.size x2.val x5.val := nextB h45 x3.below
  have y0 : x2.val.cell? ⟨w.heap.size, 0, none⟩ = some (Value.slice p P.length cap) := (x2.below.cell (p := ⟨w.heap.size, 0, none⟩) (by simp)).trans (by simp : _ = some (Value.slice p P.length cap))
  obtain ⟨W5, hW5⟩ : ∃ W5, W5 = x5.val := ⟨_, rfl⟩
  have hs3 : Sl W5 (.slice lp X3.length lc) Lv.cs X3 := by rw [hW5]; exact hs3.below h45
  have hr3 : ∀ x ∈ X3, Sl W5 x.v ecI x.l := fun x hx => by rw [hW5]; exact (hr3 x hx).below h45
  have hs4 : Sl W5 (.slice kp X4.length kc) Lv.cs X4 := by rw [hW5]; exact hs4.below x5.below
  have hr4 : ∀ x ∈ X4, Sl W5 x.v ecI x.l := fun x hx => by rw [hW5]; exact (hr4 x hx).below x5.below
  have hB5 : Below w.heap.size w W5 := by rw [hW5]; exact nextB h35 hB2
  have y5 : W5.cell? ⟨w.heap.size, 0, none⟩ = some (Value.slice p P.length cap) := by rw [hW5]; exact nextC h35 y0
  rw [← hW5]
  clear hW5 h45 h35 y0 hB2 hle
  have hd : Below W5.heap.size W5 W5.drew := (Below.refl W5.heap.size W5).drew
  have yd := nextC hd y5
  have yl := World.block_lt_of_cell? _ _ yd
  have hBd := nextB hd hB5
  first | (go_region_law (first | (refine stepS rfl 10 #[.agg #[.slice p P.length cap]] (fun ev : Value => .agg #[.int .i64 0, ev, .int .i64 0, .slice none 0 0]) (fun (ev : Value) w' => Sl w' ev Nu.cs Z ∧ NilOk ev) ?hop3 (hst _ hBd) ?_; (case hop3 => (go_simp; done)); intro v7 q7 ho7 hq7; obtain ⟨sp7, sc7, rfl⟩ : ∃ p c, v7 = .slice p Z.length c := sl_len ho7.1; have yq := nextC hq7 yd; have ylq := World.block_lt_of_cell? _ _ yq; have hBq := nextB hq7 hBd) | (refine stepS rfl 9 #[.agg #[.slice p P.length cap], .agg #[.int .i64 0, .slice sp7 Z.length sc7, .int .i64 0, .slice none 0 0], .slice ip I.length ic, .int .i64 (min most 25)] (fun x : Value × Value => Value.agg #[x.1, x.2, .bool gg]) (fun (x : Value × Value) W2 => ROut W2 L Oa x.1 x.2) ?hop2 (hrf _ hBq _ ho7) ?_; (case hop2 => (go_simp; done)); rintro ⟨va, oa⟩ q8 ho8 hq8; have ho8 : ROut q8 L Oa va oa := ho8; obtain ⟨⟨ap, ac, rfl⟩, aop, aoc, rfl⟩ := ho8.len))) | fail
  all_goals (
    have h58 : Below W5.heap.size W5 q8 := nextB hq8 (nextB hq7 hd)
    have y8 := nextC h58 y5
    have yl8 := World.block_lt_of_cell? _ _ y8
    have hB8 := nextB h58 hB5
    have hs3 := hs3.below h58
    have hr3 : ∀ x ∈ X3, Sl q8 x.v ecI x.l := fun x hx => (hr3 x hx).below h58
    have hs4 := hs4.below h58
    have hr4 : ∀ x ∈ X4, Sl q8 x.v ecI x.l := fun x hx => (hr4 x hx).below h58
    obtain ⟨⟨Xs, hXm, hXs, hXr⟩, _⟩ := ho8
    have hsh : ∀ x ∈ Xs, (∃ p n c, x.ev = .slice p n c) ∧ ∃ p n c, x.ov = .slice p n c := fun x hx => ⟨by obtain ⟨p, c, h⟩ := sl_len (hXr x hx).1; exact ⟨p, _, c, h⟩, by obtain ⟨p, c, h⟩ := sl_len (hXr x hx).2; exact ⟨p, _, c, h⟩⟩
    clear y5 yd yl hBd hd ho7 hq7 hq8 hXr hst hrf hla hkn hck hfw
    go_wp2_with (first | ((go_at_call 12; refine' Calls.aftS _ _ (hrl _ hB8 Xs hXm hsh _ hXs) _; rotate_left 2; (exact Below.refl _ _; rfl); intro v9 x9 ho9; have hle := After.le x9; (try simp at hle)); obtain ⟨X9, hX9, hs9, hr9⟩ := ho9) | (with_reducible (go_at_call 11; refine' Calls.aft _ _ (hsA _ _ _ _ _ hX3 hX9 (hs3.below x9.below) hs9 (fun x hx => (hr3 x hx).below x9.below) hr9) _; rotate_left 2; (exact Below.refl _ _; rfl); intro z1; have hle := After.le z1; (try simp at hle))) | ((go_at_call 13; refine' Calls.aftS _ _ (hrk _ (nextB z1.below (nextB x9.below hB8)) Xs hXm hsh _ (hXs.below (nextB z1.below x9.below))) _; rotate_left 2; (exact Below.refl _ _; rfl); intro v10 x10 ho10; have hle := After.le x10; (try simp at hle)); obtain ⟨X10, hX10, hs10, hr10⟩ := ho10) | (with_reducible (go_at_call 11; refine' Calls.aft _ _ (hsB _ _ _ _ _ hX4 hX10 (hs4.below (nextB x10.below (nextB z1.below x9.below))) hs10 (fun x hx => (hr4 x hx).below (nextB x10.below (nextB z1.below x9.below))) hr10) _; rotate_left 2; (exact Below.refl _ _; rfl); intro z2; have hle := After.le z2; (try simp at hle))))
    go_ret
    exact ⟨rfl, nextB z2.below (nextB x10.below (nextB z1.below (nextB x9.below hB8)))⟩)

theorem tripsTell_any (P : List Bl) (I : List Nu) (most : Int) (pv : Value) (hcp : CapOk pv) (iv : Value) (hz : NilOk iv) (w : World) (h : Pg w pv P) (hI : Sl w iv Nu.cs I) :
    Calls Tryz.prog 3 #[.agg #[pv], iv, .int .i64 most] w fun e w' => e = .returned (.bool true) ∧ Below w.heap.size w w' := by
  cases hf : fewT P I
  · exact tripsTell_few P I most pv hcp iv w h hI hf
  · by_cases hc : checkOf P = 0
    · exact tripsTell_ok P I most pv hcp iv w h hI hf hc
    · exact tripsTell_bad P I most pv hcp iv w h hI hf hc

end Go.Proofs.YtaaklejkngpddaaGreat.Pr
