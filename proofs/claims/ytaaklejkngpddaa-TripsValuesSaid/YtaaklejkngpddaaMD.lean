/- The page's Last: what a site tells. (The walk is to come.) soughlaw09.awake: it answers true. WALK of trips.Blocks; TripsBlocks: it answers true. ARGUMENTS that are lists of ints. TripsValues, the plain law: along a run, what an expression came to when a variable got it last, that variable has still, where no variable of the expression got a value since. WALK of soughlaw09.fresh. TripsValues: it answers true. WALKS of soughlaw09.few and of the law. -/
import Derived.Test.YtaaklejkngpddaaMA
import Derived.Test.YtaaklejkngpddaaExc
import Derived.Test.YtaaklejkngpddaaMB
import Derived.Deep.RegionHeld3
import Derived.Deep.CutRange

namespace Go.Proofs.Ytaaklejkngpddaa.Pr
set_option linter.unusedVariables false
set_option linter.unusedSimpArgs false
open Go Go.RowKit

theorem stSites_var {i : Nat} {l : List St} {x : Si} : ∀ {n : Nat}, x ∈ stSites i l n → ∃ (k : Nat) (s : St), l[k]? = some s ∧ x = ⟨i, k, s.v⟩ ∧ (s.k = 1 ∨ s.k = 2)
  | 0, h => by simp [stSites] at h
  | n + 1, h => by
    simp only [stSites, List.mem_append] at h
    rcases h with h | h
    · exact stSites_var h
    · split at h
      · rename_i s hs
        unfold siteOf at h
        split at h
        · rename_i hk
          exact ⟨n, s, hs, by simpa using h, hk⟩
        · simp at h
      · simp at h
theorem blSites_var {P : List Bl} {x : Si} : ∀ {n : Nat}, x ∈ blSites P n → ∃ (i : Nat) (b : Bl) (k : Nat) (s : St), P[i]? = some b ∧ b.l[k]? = some s ∧ x = ⟨i, k, s.v⟩ ∧ (s.k = 1 ∨ s.k = 2)
  | 0, h => by simp [blSites] at h
  | n + 1, h => by
    simp only [blSites, List.mem_append] at h
    rcases h with h | h
    · exact blSites_var h
    · split at h
      · rename_i b hb
        obtain ⟨k, s, hs, hx, hk⟩ := stSites_var h
        exact ⟨n, b, k, s, hb, hs, hx, hk⟩
      · simp at h
/-- A site of a block's statement has that statement's variable. -/
theorem sites_var {P : List Bl} {x : Si} (h : x ∈ sitesOf P) {i k : Nat} (hi : i < P.length) (hk : k < (P[i]'hi).l.length) (hb : x.b = i) (hkk : x.k = k) : x = ⟨i, k, ((P[i]'hi).l[k]'hk).v⟩ ∧ (((P[i]'hi).l[k]'hk).k = 1 ∨ ((P[i]'hi).l[k]'hk).k = 2) := by
  unfold sitesOf at h
  rcases List.mem_append.1 h with h | h
  · obtain ⟨v, _, rfl⟩ := List.mem_map.1 h
    have hb : (-1 : Int) = i := hb
    omega
  · obtain ⟨i', b, k', s, h1, h2, rfl, h3⟩ := blSites_var h
    have hb : (i' : Int) = i := hb
    have hkk : (k' : Int) = k := hkk
    have e1 : i' = i := by omega
    have e2 : k' = k := by omega
    subst e1 e2
    rw [List.getElem?_eq_getElem hi] at h1
    obtain rfl := Option.some.inj h1
    rw [List.getElem?_eq_getElem hk] at h2
    obtain rfl := Option.some.inj h2
    exact ⟨rfl, h3⟩
/-- At a site of a statement its variable has a place. -/
theorem sites_idx {P : List Bl} (hc : checkOf P = 0) {x : Si} (h : x ∈ sitesOf P) {i k : Nat} (hi : i < P.length) (hk : k < (P[i]'hi).l.length) (hb : x.b = i) (hkk : x.k = k) : 0 ≤ idx (vars P) ((P[i]'hi).l[k]'hk).v ∧ idx (vars P) ((P[i]'hi).l[k]'hk).v < (vars P).length := by
  have h1 := (sites_var h hi hk hb hkk).2
  exact (proper_stmt hc (List.getElem_mem hi) (List.getElem_mem hk)).2 (by omega)

end Go.Proofs.Ytaaklejkngpddaa.Pr

namespace Go.Proofs.Ytaaklejkngpddaa.Pr
set_option linter.unusedVariables false
set_option linter.unusedSimpArgs false
open Go Go.RowKit

def t9 : Te := ⟨1, zA, ⟨#[97]⟩, ⟨#[]⟩⟩
/-- The example's program. -/
def P9 (lv : Value) : List Bl := [⟨⟨#[97]⟩, [sA8], t9, lv⟩]
theorem P9_vars (lv : Value) : vars (P9 lv) = [⟨#[120]⟩] := by
  show putS (putS (putS (putS [] ⟨#[120]⟩) ⟨#[]⟩) ⟨#[]⟩) ⟨#[]⟩ = _
  decide +kernel
theorem P9_sites (lv : Value) : sitesOf (P9 lv) = [⟨-1, 0, ⟨#[120]⟩⟩, ⟨0, 0, ⟨#[120]⟩⟩] := by
  unfold sitesOf
  rw [P9_vars]
  rfl
theorem P9_check (lv : Value) : checkOf (P9 lv) = 0 := by
  refine check_0 (by simp [P9]) (by simp [P9]) (by simp [P9]) ?_ (by rw [P9_vars]; decide) (fun k hk => ?_) (fun k hk => ?_)
  · show (blockB _ && true) = true
    rw [blockB_def]
    show ((Tk.nameB ⟨#[97]⟩ && (termB t9 && (stmtB sA8 && true))) && true) = true
    have ht : termB t9 = true := by
      unfold termB
      simp only [t9]
      first | (rw [if_pos (by decide)]; show (Tk.nameB ⟨#[97]⟩ && _) = true; rw [nameB8_a]; decide +kernel) | trace_state
    rw [nameB8_a, stmt_A8, ht]
    decide +kernel
  · have : k = 0 := by simp [P9] at hk; exact hk
    subst this
    rfl
  · have : k = 0 := by simp [P9] at hk; exact hk
    subst this
    rfl
theorem P9_begin (lv : Value) : beginS (P9 lv) = ⟨((0 : Nat) : Int), ⟨[zN], 0, []⟩⟩ := by unfold beginS; rw [P9_vars]; rfl
theorem P9_do (lv : Value) : runB (P9 lv) [] ⟨[zN], 0, []⟩ [sA8] = ⟨[zN], 1, []⟩ := by
  show doS (P9 lv) [] ⟨[zN], 0, []⟩ sA8 = _
  rw [doS_2 (s := sA8) rfl, P9_vars]
  kernel_rfl
theorem P9_next (lv : Value) (E : List Nu) : nextI (P9 lv) ((P9 lv)[0]'(by simp [P9])) E ((0 : Nat) : Int) = ((0 : Nat) : Int) := by
  have ht : ((P9 lv)[0]'(by simp [P9])).t = t9 := rfl
  unfold nextI toN
  rw [ht, if_neg (by decide), if_neg (fun h => by have := h.1; revert this; decide)]
  rfl
theorem P9_run (lv : Value) : ∃ st, fromS (P9 lv) [] (capN 2) (beginS (P9 lv)) true = ([⟨((0 : Nat) : Int), ⟨[zN], 0, []⟩⟩, ⟨((0 : Nat) : Int), ⟨[zN], 1, []⟩⟩], st) := by
  have e : ((P9 lv)[0]'(by simp [P9])).l = [sA8] := rfl
  have g : goesB ((P9 lv)[0]'(by simp [P9])) = true := rfl
  rw [P9_begin, show capN 2 = (0 + 1) + 1 from rfl, fromS_succ, adv_at (P := P9 lv) (by simp [P9] : 0 < (P9 lv).length), e, P9_do, g, P9_next, fromS_succ]
  exact ⟨_, rfl⟩
theorem P9_last (lv : Value) (r0 r1 : Rs) : (lastW (P9 lv) [⟨-1, 0, ⟨#[120]⟩⟩, ⟨0, 0, ⟨#[120]⟩⟩] [⟨((0 : Nat) : Int), r0⟩, ⟨((0 : Nat) : Int), r1⟩] (nowK 1 1) 2).1 = [[0], [1]] := by
  have h1 : (lastW (P9 lv) [⟨-1, 0, ⟨#[120]⟩⟩, ⟨0, 0, ⟨#[120]⟩⟩] [⟨((0 : Nat) : Int), r0⟩, ⟨((0 : Nat) : Int), r1⟩] (nowK 1 1) 2).1 = [nowK 1 1, putI (P9 lv) [⟨-1, 0, ⟨#[120]⟩⟩, ⟨0, 0, ⟨#[120]⟩⟩] ⟨0, 0, ⟨#[120]⟩⟩ 2 (nowK 1 1)] := rfl
  have h2 : putI (P9 lv) [⟨-1, 0, ⟨#[120]⟩⟩, ⟨0, 0, ⟨#[120]⟩⟩] ⟨0, 0, ⟨#[120]⟩⟩ 2 (nowK 1 1) = [1] := by
    simp only [putI]
    rw [P9_vars]
    decide +kernel
  rw [h1, h2]
  rfl

theorem two_lists {X : List Lv} {a b : List Int} (h : X.map Lv.l = [a, b]) : ∃ v1 v2, X = [⟨a, v1⟩, ⟨b, v2⟩] := by
  cases X with
  | nil => simp at h
  | cons x X =>
    cases X with
    | nil => simp at h
    | cons y X =>
      cases X with
      | cons z X => simp at h
      | nil =>
        obtain ⟨l1, v1⟩ := x
        obtain ⟨l2, v2⟩ := y
        simp at h
        obtain ⟨rfl, rfl⟩ := h
        exact ⟨v1, v2, rfl⟩

def R2 : Obj := .cells #[.int .i64 2, .string ⟨#[120]⟩, .int .i64 0, .string ⟨#[]⟩, .int .i64 0, .int .i64 0, .string ⟨#[]⟩, .int .i64 0, .int .i64 0] 90
def R3 (w : World) : Obj := .cells #[.string ⟨#[97]⟩, .slice (some ⟨w.heap.size, 0, none⟩) 1 1, .int .i64 1, .string ⟨#[]⟩, .int .i64 0, .int .i64 0, .string ⟨#[97]⟩, .string ⟨#[]⟩] 95
def R4 (w : World) : Obj := .cells #[.slice (some ⟨w.heap.size + 1, 0, none⟩) 1 1] 24
def V9 (w : World) : World := ((w.alloc R2).alloc (R3 w)).alloc (R4 w)
theorem V9_2 (w : World) : (V9 w).heap[w.heap.size]? = some R2 := by
  unfold V9
  rw [heap_alloc_old _ _ (by simp; try omega), heap_alloc_old _ _ (by simp)]
  exact heap_alloc_new _ _
theorem V9_3 (w : World) : (V9 w).heap[w.heap.size + 1]? = some (R3 w) := by
  unfold V9
  rw [heap_alloc_old _ _ (by simp; try omega), show w.heap.size + 1 = (w.alloc R2).heap.size by simp]
  exact heap_alloc_new _ _
theorem V9_below (w : World) : Below w.heap.size w (V9 w) := (((Below.refl _ _).alloc (Nat.le_refl _) _).alloc (by simp) _).alloc (by simp; try omega) _
theorem V9_pg (w : World) : Pg (V9 w) (.slice (some ⟨w.heap.size + 1, 0, none⟩) 1 1) (P9 (.slice (some ⟨w.heap.size, 0, none⟩) 1 1)) := by
  refine ⟨Sl.lit (P9 (.slice (some ⟨w.heap.size, 0, none⟩) 1 1)) rfl rfl (V9_3 w), fun b hb => ?_⟩
  have : b = ⟨⟨#[97]⟩, [sA8], t9, .slice (some ⟨w.heap.size, 0, none⟩) 1 1⟩ := by simpa [P9] using hb
  subst this
  exact Sl.lit [sA8] rfl rfl (V9_2 w)

set_option maxRecDepth 100000 in
theorem awake9_any (w : World) : Calls Try.prog 31 #[] w fun e w' => e = .returned (.bool true) ∧ Below w.heap.size w w' := by
  have hal := last_ok (P9 (.slice (some ⟨w.heap.size, 0, none⟩) 1 1)) [] (P9_check _) 2 _ (.slice none 0 0) _ (V9_pg w) (by simp [P9]) (by simp [P9, sA8]) Sl.nil
  obtain ⟨st, hr⟩ := P9_run (.slice (some ⟨w.heap.size, 0, none⟩) 1 1)
  rw [hr, P9_sites, P9_vars] at hal
  have hl := P9_last (.slice (some ⟨w.heap.size, 0, none⟩) 1 1) ⟨[zN], 0, []⟩ ⟨[zN], 1, []⟩
  have hBW := V9_below w
  have hal : Calls Try.prog 35 #[.agg #[.slice (some ⟨w.heap.size + 1, 0, none⟩) 1 1], .slice none 0 0, .int .i64 2] (V9 w) fun e W' => ∃ ov, e = .returned (.tuple #[ov, .int .i64 0]) ∧ (∃ X : List Lv, X.map Lv.l = [[0], [1]] ∧ Sl W' ov Lv.cs X ∧ ∀ x ∈ X, Sl W' x.v ecI x.l) ∧ Below (V9 w).heap.size (V9 w) W' := by
    rw [← hl]
    exact hal
  clear hr hl
  unfold V9 R2 R3 R4 at hal hBW
  go_enter Try.func31, Try.ntmps31
  go_wp2_with (go_at_call 35; refine (hal).mono ?_; rintro e q ⟨ov, rfl, ⟨X, hX, hov, hXr⟩, hq⟩; obtain ⟨v1, v2, rfl⟩ := two_lists hX; obtain ⟨ob, off, op, oc, rfl, hop, hoc⟩ := hov.open Lv.cs_len; obtain rfl := hop (by simp); have r1 : Sl q v1 ecI [0] := hXr ⟨[0], v1⟩ (by simp); have r2 : Sl q v2 ecI [1] := hXr ⟨[1], v2⟩ (by simp); obtain ⟨b1, o1, p1, c1, rfl, hp1, hc1⟩ := r1.open ecI_len; obtain rfl := hp1 (by simp); obtain ⟨b2, o2, p2, c2, rfl, hp2, hc2⟩ := r2.open ecI_len; obtain rfl := hp2 (by simp); have k0 : q.cell? ⟨ob, off, none⟩ = some (.slice (some ⟨b1, o1, none⟩) 1 c1) := hoc 0 (by simp) 0 _ rfl; have k1 : q.cell? ⟨ob, off + 1, none⟩ = some (.slice (some ⟨b2, o2, none⟩) 1 c2) := hoc 1 (by simp) 0 _ rfl; have kl := World.block_lt_of_cell? _ _ k0; have m0 : q.cell? ⟨b1, o1, none⟩ = some (.int .i64 0) := hc1 0 (by simp) 0 _ rfl; have m1 : q.cell? ⟨b2, o2, none⟩ = some (.int .i64 1) := hc2 0 (by simp) 0 _ rfl; have ml := World.block_lt_of_cell? _ _ m0; have ml1 := World.block_lt_of_cell? _ _ m1)
  go_ret
  exact ⟨rfl, hBW.trans (hq.mono hBW.size)⟩

end Go.Proofs.Ytaaklejkngpddaa.Pr

namespace Go.Proofs.Ytaaklejkngpddaa.Pr
set_option linter.unusedVariables false
set_option linter.unusedSimpArgs false
open Go Go.RowKit

/-- A state of a block alone. -/
def ecT (b : Int) : List Value := [.int .i64 b, .slice none 0 0, .int .i64 0, .slice none 0 0]
theorem ecT_len (b : Int) : (ecT b).length = 4 := rfl
theorem snocI (L : List Int) (x : Int) : (L ++ [x]).flatMap ecI = L.flatMap ecI ++ [.int .i64 x] := by simp [ecI]
theorem snocT (L : List Int) (x : Int) : (L ++ [x]).flatMap ecT = L.flatMap ecT ++ ecT x := by simp

set_option maxRecDepth 100000 in
set_option maxHeartbeats 2000000 in
theorem blocks_any (L : List Int) (hl : L.length ≤ 1000) (vv : Value) (w : World) (h : Sl w vv ecT L) :
    Calls Try.prog 32 #[.agg #[vv, .slice none 0 0, .bool false]] w fun e w' => ∃ o, e = .returned o ∧ w'.ownsRow w.heap.size 3 1 o L.length (L.flatMap ecI) ∧ Below w.heap.size w w' := by
  obtain ⟨i0, hi, hz0, hz1, hz2⟩ := info_parts i_info
  obtain ⟨b, off, p, cap, rfl, hp, hc⟩ := h.open ecT_len
  go_enter Try.func32, Try.ntmps32
  go_wp2_with fail
  go_loopw [3, 9] (fun o i wr => ∃ k : Nat, k ≤ L.length ∧ i = .int .i64 k ∧ wr.ownsRow w.heap.size 3 1 o (L.take k).length ((L.take k).flatMap ecI) ∧ Below w.heap.size w wr) (fun _ i _ => L.length - (intOf i).toNat)
  case atStart => exact ⟨0, Nat.zero_le _, rfl, World.ownsRow_nil _ _ _ _, (Below.refl _ _).alloc (Nat.le_refl _) _⟩
  case round =>
    obtain ⟨k, hk, rfl, hown, hB⟩ := hrel
    have hsz := hB.size
    obtain ⟨op, oc, rfl⟩ := own_len hown
    by_cases hlt : k < L.length
    · obtain rfl := hp (by omega)
      have hlt2 : (k : Int) < L.length := by omega
      have hcr : ∀ r u, (ecT (L[k]'hlt))[r]? = some u → wr.cell? ⟨b, off + k * 4 + r, none⟩ = some u := fun r u hu => by
        rw [Nat.add_assoc]
        exact nextC hB (hc k hlt r u hu)
      have ht : L.take (k + 1) = L.take k ++ [L[k]'hlt] := List.take_succ_eq_append_getElem hlt
      have hHt : Hid (L.take (k + 1) = L.take k ++ [L[k]'hlt]) := ht
      clear hc ht
      generalize L[k]'hlt = x at hcr hHt
      have hxl : (L.take k).length ≤ 1000 := by rw [List.length_take]; omega
      generalize L.take k = X at hown hHt hxl
      have c0 : wr.cell? ⟨b, off + k * 4, none⟩ = some (.int .i64 x) := hcr 0 _ rfl
      have cl := World.block_lt_of_cell? _ _ c0
      have c1 : wr.cell? ⟨b, off + k * 4 + 1, none⟩ = some (.slice none 0 0) := hcr 1 _ rfl
      have c2 : wr.cell? ⟨b, off + k * 4 + 2, none⟩ = some (.int .i64 0) := hcr 2 _ rfl
      have c3 : wr.cell? ⟨b, off + k * 4 + 3, none⟩ = some (.slice none 0 0) := hcr 3 _ rfl
      clear hcr
      have hBa := (hB.alloc hsz (.cells #[.int .i64 x, .slice none 0 0, .int .i64 0, .slice none 0 0] 47)).alloc (by simp; omega) (.cells #[.int .i64 x] 3)
      go_wp2_with (at_builtin; refine wpList_append_own _ rfl _ _ 76 rfl w.heap.size 3 i0 (.int .i64 0) 1 8 Try.underlying76 hi hz0 hz1 hz2 rfl (by decide) _ X.length (X.flatMap ecI) rfl ((hown.alloc _).alloc _) _ 1 1 [.int .i64 x] rfl rfl (news_at (by simp)) (by intro u hu; simp at hu; subst hu; rfl) (by unfold maxLen; omega) (by omega) (by simp; omega) ?_; intro v2 w1 hown' hgrow _)
      have hlt1 := hown.lt
      have hB2 : Below w.heap.size w w1 := Below.grown (w := _) hBa hgrow (by simp; omega) (fun q hq => (hlt1 q hq).1)
      go_wp2_with fail
      go_roundw
      case rel => exact ⟨k + 1, by omega, by simp, by rw [show L.take (k + 1) = _ from hHt, snocI, List.length_append]; exact hown', hB2⟩
      case measure => simp [intOf]; omega
    · have hks : k = L.length := by omega
      subst hks
      have hlt2 : ¬ (L.length : Int) < L.length := by omega
      rw [List.take_length] at hown
      go_wp2_with fail
      refine bodyPost_ret (v := .slice op (L.take L.length).length oc) (by simp only [results, Try.results32]; go_simp) rfl ⟨_, rfl, ?_, hB⟩
      rw [List.take_length]
      exact hown

/-- The blocks so far are visits. -/
structure TI (w : World) (rb : Nat) (X : List Int) (wr : World) (vv : Value) : Prop where
  ob : wr.heap[rb]? = some (.cells #[vv, .slice none 0 0, .bool false] 53 (0, 0))
  row : wr.ownsRow rb 47 4 vv X.length (X.flatMap ecT)
  be : Below w.heap.size w wr
  hb : w.heap.size ≤ rb
theorem TI.below {w : World} {rb : Nat} {X : List Int} {wr q : World} {vv : Value} (h : TI w rb X wr vv) (hq : Below wr.heap.size wr q) : TI w rb X q vv := ⟨blk_next hq h.ob, own_below h.row hq, nextB hq h.be, h.hb⟩
theorem TI.visit {w : World} {rb : Nat} {X : List Int} {wr w1 : World} {vv v2 : Value} (h : TI w rb X wr vv) (x : Int) (hg : wr.grownBy w1 vv.ownBlock) (ho : w1.ownsRow rb 47 4 v2 (X.length + 1) (X.flatMap ecT ++ [.int .i64 x, .slice none 0 0, .int .i64 0, .slice none 0 0])) :
    TI w rb (X ++ [x]) (w1.setCell ⟨rb, 0, none⟩ v2) v2 := by
  have g4 : w1.heap[rb]? = some (.cells #[vv, .slice none 0 0, .bool false] 53 (0, 0)) := (hg.block _ (lt_of_some h.ob) (fun he => own_ne h.row h.ob (by decide) he.symm)).trans h.ob
  refine ⟨heap_setCell_same _ rb 0 _ _ v2 g4, ?_, ?_, h.hb⟩
  · rw [snocT, List.length_append]
    exact ownsRow_setCell_other ho (own_ne ho g4 (by decide)) _
  · exact (Below.grown (w := _) h.be hg h.be.size (fun q hq => Nat.le_trans h.hb (h.row.lt q hq).1)).setCell (p := ⟨rb, 0, none⟩) h.hb _

set_option maxRecDepth 100000 in
set_option maxHeartbeats 4000000 in
theorem tripsBlocks_any (L : List Int) (v : Value) (w : World) (h : Sl w v ecI L) :
    Calls Try.prog 7 #[v] w fun e w' => e = .returned (.bool true) ∧ Below w.heap.size w w' := by
  obtain ⟨i0, hi, hz0, hz1, hz2⟩ := info_parts sv_info
  obtain ⟨b, off, p, cap, rfl, hp, hc⟩ := h.open ecI_len
  by_cases hl : L.length ≤ 100
  · have hl1 : ¬ (100 : Int) < L.length := by omega
    go_enter Try.func7, Try.ntmps7
    go_wp2_with (go_at_call 31; refine' Calls.aft _ _ (awake9_any _) _; rotate_left 2; (exact Below.refl _ _; rfl); intro x1; have hle := After.le x1; (try simp at hle))
    have hx := x1.below
    obtain ⟨rb, hrb⟩ : ∃ rb, rb = x1.val.heap.size := ⟨_, rfl⟩
    obtain ⟨W1, hW1⟩ : ∃ W1, W1 = x1.val.alloc (.cells #[.slice none 0 0, .slice none 0 0, .bool false] 53) := ⟨_, rfl⟩
    have hT0 : TI w rb [] W1 (.slice none 0 0) := by
      rw [hW1, hrb]
      exact ⟨heap_alloc_new _ _, World.ownsRow_nil _ _ _ _, hx.alloc hx.size _, hx.size⟩
    show Code.wp _ _ _ _ (x1.val.alloc (.cells #[.slice none 0 0, .slice none 0 0, .bool false] 53))
    rw [← hW1, ← hrb]
    clear hW1 hrb
    go_loopw [15] (fun i wr => ∃ (k : Nat) (vv : Value), k ≤ L.length ∧ i = .int .i64 k ∧ TI w rb (L.take k) wr vv) (fun i _ => L.length - (intOf i).toNat)
    case atStart => exact ⟨0, _, Nat.zero_le _, rfl, hT0⟩
    case round =>
      obtain ⟨k, vv, hk, rfl, hT⟩ := hrel
      clear hT0
      have hB := hT.be
      have hsz := hB.size
      obtain ⟨op, oc, rfl⟩ := own_len hT.row
      obtain ⟨r0, r1, r2, _, rl⟩ := three hT.ob
      by_cases hlt : k < L.length
      · obtain rfl := hp (by omega)
        have hlt2 : (k : Int) < L.length := by omega
        have c0 : wr.cell? ⟨b, off + k, none⟩ = some (.int .i64 (L[k]'hlt)) := by
          have := hc k hlt 0 _ rfl
          rw [Nat.mul_one, Nat.add_zero] at this
          exact nextC hB this
        have cl := World.block_lt_of_cell? _ _ c0
        have hHt : Hid (L.take (k + 1) = L.take k ++ [L[k]'hlt]) := List.take_succ_eq_append_getElem hlt
        generalize L[k]'hlt = x at c0 hHt
        have hxl : (L.take k).length ≤ 1000 := by rw [List.length_take]; omega
        generalize L.take k = X at hT hHt hxl r0 r1 r2 rl
        have hTa := hT.below ((Below.refl wr.heap.size wr).alloc (Nat.le_refl _) (.cells #[.int .i64 x, .slice none 0 0, .int .i64 0, .slice none 0 0] 47))
        go_wp2_with (at_builtin; refine wpList_append_own _ rfl _ _ 51 rfl rb 47 i0 (.agg #[.int .i64 0, .slice none 0 0, .int .i64 0, .slice none 0 0]) 4 64 Try.underlying51 hi hz0 hz1 hz2 rfl (by decide) _ X.length (X.flatMap ecT) rfl hTa.row _ 1 1 [.int .i64 x, .slice none 0 0, .int .i64 0, .slice none 0 0] rfl rfl (news_at rfl) (by intro u hu; simp at hu; rcases hu with rfl | rfl | rfl | rfl <;> rfl) (by unfold maxLen; omega) (by omega) (by have := lt_of_some hTa.ob; omega) ?_; intro v6 W6 ho6 hg6 hv6; obtain ⟨wp6, wc6, rfl⟩ := own_len ho6; have hTn := hTa.visit x hg6 ho6; have g4 := (hg6.block rb (lt_of_some hTa.ob) (fun he => own_ne hTa.row hTa.ob (by decide) he.symm)).trans hTa.ob; obtain ⟨t0, t1, t2, tf, tl⟩ := three g4; have tf0 := tf 0)
        go_roundw
        case rel => exact ⟨k + 1, _, by omega, by simp, by rw [show L.take (k + 1) = _ from hHt]; exact hTn⟩
        case measure => simp [intOf]; omega
      · have hks : k = L.length := by omega
        subst hks
        have hlt2 : ¬ (L.length : Int) < L.length := by omega
        have hrow := hT.row
        rw [List.take_length] at hrow
        have hbk := blocks_any L (by omega) _ wr (Sl.of_own hrow)
        rw [List.take_length] at r0
        clear hT hrow
        go_wp2_with ((go_at_call 32; refine' Calls.aftS _ _ (hbk) _; rotate_left 2; (exact Below.refl _ _; rfl); intro o x2 ho; have hle := After.le x2; (try simp at hle)); obtain ⟨qp, qc, rfl⟩ := own_len ho)
        have hB2 := nextB x2.below hB
        obtain ⟨gb, goff, gp, gcap, hgv, hgp, hgc⟩ := (Sl.of_own ho : Sl x2.val (.slice qp L.length qc) ecI L).open ecI_len
        injection hgv with hgv1 _ hgv3
        subst hgv1 hgv3
        obtain ⟨W3, hW3⟩ : ∃ W3, W3 = x2.val := ⟨_, rfl⟩
        rw [← hW3] at hgc hB2
        rw [← hW3]
        clear hW3 ho r0 r1 r2 rl
        go_loopw [31] (fun i wq => ∃ k : Nat, k ≤ L.length ∧ i = .int .i64 k ∧ Below W3.heap.size W3 wq) (fun i _ => L.length - (intOf i).toNat)
        case atStart => exact ⟨0, Nat.zero_le _, rfl, Below.refl _ _⟩
        case round =>
          obtain ⟨k, hk, rfl, hBk⟩ := hrel
          by_cases hlt : k < L.length
          · obtain rfl := hp (by omega)
            obtain rfl := hgp (by omega)
            have hlt3 : (k : Int) < L.length := by omega
            have hlt4 : ¬ (L.length : Int) ≤ k := by omega
            have hlt5 : decide (L.length ≤ k) = false := decide_eq_false (by omega)
            have c0 : wr.cell? ⟨b, off + k, none⟩ = some (.int .i64 (L[k]'hlt)) := by
              have := hc k hlt 0 _ rfl
              rw [Nat.mul_one, Nat.add_zero] at this
              exact nextC (nextB hBk hB2) this
            have d0 : wr.cell? ⟨gb, goff + k, none⟩ = some (.int .i64 (L[k]'hlt)) := by
              have := hgc k hlt 0 _ rfl
              rw [Nat.mul_one, Nat.add_zero] at this
              exact nextC hBk this
            have cl := World.block_lt_of_cell? _ _ c0
            have dl := World.block_lt_of_cell? _ _ d0
            generalize L[k]'hlt = x at c0 d0
            go_wp2_with fail
            refine' region_whole _ _ (by kernel_rfl) (by kernel_rfl) _; rotate_left 2; (exact Below.refl _ _; rfl); (repeat (go_big_quiet_step (first | fail))); refine wpQuiet_nil ?_; intro z
            go_wp2_with fail
            go_roundw
            case rel => exact ⟨k + 1, by omega, by simp, hBk.trans (z.below.mono hBk.size)⟩
            case measure => simp [intOf]; omega
          · have hks : k = L.length := by omega
            have hlt3 : ¬ (k : Int) < L.length := by omega
            go_wp2_with fail
            go_ret
            exact ⟨by simp, nextB hBk hB2⟩
  · have hl1 : (100 : Int) < L.length := by omega
    go_enter Try.func7, Try.ntmps7
    go_wp2_with (go_at_call 31; refine' Calls.aft _ _ (awake9_any _) _; rotate_left 2; (exact Below.refl _ _; rfl); intro x1; have hle := After.le x1; (try simp at hle))
    go_ret
    exact ⟨rfl, x1.below⟩

end Go.Proofs.Ytaaklejkngpddaa.Pr

namespace Go.Proofs.Ytaaklejkngpddaa.Pr
set_option linter.unusedVariables false
set_option linter.unusedSimpArgs false
open Go Go.ChangeShapes Go.WideShapes Go.ChangeAt Go.RowKit

section
variable {H : Type} {enc : TypeId × Value → H} {W : World} {base : Nat} {v : Value} {d : DataW H} {p : List MemPlace}

theorem cells_Int {n : Nat} {cs : List Value} {y : DataW H × List MemPlace} (h : DataW.trod enc Try.prog W 0 (fun _ => true) true n 3 cs = some y) : ∃ x : Int, cs = ecI x ∧ True := by
  obtain ⟨a, e, _, _⟩ := DataW.trod_int Try.underlying3 h
  exact ⟨a, e, trivial⟩

set_option maxRecDepth 100000 in
theorem open_ints (hv : Value.okWide Try.prog W .any base 76 v) (h : DataW.Trod enc Try.prog W 0 (fun _ => true) true 76 v d p) : ∃ L : List Int, Sl W v ecI L := by
  obtain ⟨a, len, cap, rfl⟩ := okWide_slice Try.underlying76 hv
  obtain ⟨fuel, hf⟩ := h
  obtain ⟨L, ⟨v, e0, hS⟩, _⟩ := slice_T (ec := ecI) (k := 1) Try.underlying76 (by kernel_rfl) ecI_len (by decide) (fun _ => True) (fun n cs' y' h => cells_Int h) hf
  simp [Value.cells] at e0
  subst e0
  exact ⟨L, hS⟩
end

end Go.Proofs.Ytaaklejkngpddaa.Pr

namespace Go.Proofs.Ytaaklejkngpddaa.Pr
set_option linter.unusedVariables false
set_option linter.unusedSimpArgs false
open Go Go.RowKit

theorem idx_get {α : Type} [DecidableEq α] {x : α} : ∀ {L : List α} {k : Nat}, idx L x = k → L[k]? = some x
  | [], k, h => by simp [idx] at h
  | y :: L, k, h => by
    unfold idx at h
    split at h
    · rename_i he
      obtain rfl : k = 0 := by omega
      simp [he]
    · split at h
      · omega
      · obtain ⟨j, rfl⟩ : ∃ j, k = j + 1 := ⟨k - 1, by omega⟩
        have h9 : idx L x = j := by omega
        simpa using idx_get h9
theorem idx_inj {α : Type} [DecidableEq α] {L : List α} {x y : α} (h0 : 0 ≤ idx L x) (h : idx L x = idx L y) : x = y := by
  obtain ⟨k, hk⟩ : ∃ k : Nat, idx L x = k := ⟨(idx L x).toNat, (Int.toNat_of_nonneg h0).symm⟩
  have h1 := idx_get hk
  have h2 := idx_get (h ▸ hk : idx L y = k)
  rw [h1] at h2
  exact Option.some.inj h2

/-- Whether, behind a statement, none of an expression's variables got a value since the site was come to. -/
def frS (b : Int) (k : Nat) (s : St) (sb sk : Int) (x : Ex) (is : Bool) : Bool :=
  if s.k ≠ 3 ∧ (s.v = x.x.v ∨ s.v = x.y.v) then false else if b = sb ∧ (k : Int) = sk then true else is
def frB (b : Int) (l : List St) (sb sk : Int) (x : Ex) : Nat → Bool → Bool
  | 0, is => is
  | k + 1, is => match l[k]? with
    | some s => frS b k s sb sk x (frB b l sb sk x k is)
    | none => frB b l sb sk x k is
def frW (P : List Bl) (L : List Ps) (sb sk : Int) (x : Ex) : Nat → Bool
  | 0 => false
  | m + 1 => match L[m]? with
    | some p => frB p.b (P.getD p.b.toNat default).l sb sk x (P.getD p.b.toNat default).l.length (frW P L sb sk x m)
    | none => frW P L sb sk x m

/-- What a list of sites keeps of a statement's site. -/
theorem putI_at (P : List Bl) (S : List Si) (y : Si) (N : List Int) (M : Nat) (hM : (max (idx (vars P) y.v) 0).toNat = M) (hMl : M < N.length) : ∀ n,
    (∀ k, k ≠ M → (putI P S y n N)[k]? = N[k]?) ∧ (((∀ j, j < n → S[j]? ≠ some y) ∧ putI P S y n N = N) ∨ ∃ j, j < n ∧ S[j]? = some y ∧ (putI P S y n N)[M]? = some (j : Int))
  | 0 => ⟨fun k _ => rfl, .inl ⟨fun j hj => by omega, rfl⟩⟩
  | n + 1 => by
    obtain ⟨i1, i2⟩ := putI_at P S y N M hM hMl n
    have hl := putI_len P S y n N
    unfold putI
    split
    · rename_i hs
      rw [hM]
      refine ⟨fun k hk => ?_, .inr ⟨n, by omega, hs, ?_⟩⟩
      · rw [List.getElem?_set_ne (fun h => hk h.symm)]
        exact i1 k hk
      · rw [List.getElem?_set_self (by omega)]
    · rename_i hs
      refine ⟨i1, ?_⟩
      rcases i2 with ⟨h1, h2⟩ | ⟨j, h1, h2, h3⟩
      · refine .inl ⟨fun j hj => ?_, h2⟩
        by_cases hjn : j = n
        · rw [hjn]; exact hs
        · exact h1 j (by omega)
      · exact .inr ⟨j, by omega, h2, h3⟩

/-- A statement that sets has a site. -/
theorem stSites_has {i : Nat} {l : List St} {k : Nat} {s : St} (hs : l[k]? = some s) (hk : s.k = 1 ∨ s.k = 2) : ∀ {n : Nat}, k < n → (⟨i, k, s.v⟩ : Si) ∈ stSites i l n
  | 0, h => by omega
  | n + 1, h => by
    simp only [stSites, List.mem_append]
    by_cases hn : k = n
    · subst hn
      refine .inr ?_
      rw [hs]
      simp [siteOf, hk]
    · exact .inl (stSites_has hs hk (by omega))
theorem blSites_has {P : List Bl} {i : Nat} {b : Bl} {k : Nat} {s : St} (hb : P[i]? = some b) (hs : b.l[k]? = some s) (hk : s.k = 1 ∨ s.k = 2) : ∀ {n : Nat}, i < n → (⟨i, k, s.v⟩ : Si) ∈ blSites P n
  | 0, h => by omega
  | n + 1, h => by
    simp only [blSites, List.mem_append]
    by_cases hn : i = n
    · subst hn
      refine .inr ?_
      rw [hb]
      exact stSites_has hs hk (List.getElem?_eq_some_iff.1 hs).1
    · exact .inl (blSites_has hb hs hk (by omega))
theorem sites_has {P : List Bl} {i k : Nat} {b : Bl} {s : St} (hb : P[i]? = some b) (hs : b.l[k]? = some s) (hk : s.k = 1 ∨ s.k = 2) : (⟨i, k, s.v⟩ : Si) ∈ sitesOf P :=
  List.mem_append.2 (.inr (blSites_has hb hs hk (List.getElem?_eq_some_iff.1 hb).1))

/-- A site that isn't a beginning is a statement's. -/
theorem site_stmt {P : List Bl} {x : Si} (h : x ∈ sitesOf P) (hb : 0 ≤ x.b) : ∃ (i k : Nat) (b : Bl) (s : St), P[i]? = some b ∧ b.l[k]? = some s ∧ x = ⟨i, k, s.v⟩ ∧ (s.k = 1 ∨ s.k = 2) := by
  unfold sitesOf at h
  rcases List.mem_append.1 h with h | h
  · obtain ⟨v, _, rfl⟩ := List.mem_map.1 h
    have hb : (0 : Int) ≤ -1 := hb
    omega
  · obtain ⟨i, b, k, s, h1, h2, h3, h4⟩ := blSites_var h
    exact ⟨i, k, b, s, h1, h2, h3, h4⟩

theorem valA_set {P : List Bl} {E : List Nu} {v : ByteArray} {M : Nat} {n : Nu} (hM : idx (vars P) v = M) (a : At) (ha : a.v ≠ v) : valA P (E.set M n) a = valA P E a := by
  unfold valA
  split
  · rfl
  · unfold atN
    rw [List.length_set]
    split
    · rename_i hr
      have hne : M ≠ (idx (vars P) a.v).toNat := fun he => ha (idx_inj hr.1 (by omega))
      simp only [List.getD, List.getElem?_set_ne hne]
    · rfl
theorem evalE_set {P : List Bl} {E : List Nu} {v : ByteArray} {M : Nat} {n : Nu} (hM : idx (vars P) v = M) (x : Ex) (h1 : x.x.v ≠ v) (h2 : x.y.v ≠ v) : evalE P (E.set M n) x = evalE P E x := by
  unfold evalE
  rw [valA_set hM _ h1, valA_set hM _ h2]

/-- What stands along a run, of one site and the expression that it sets. -/
structure Kept (P : List Bl) (sb sk : Nat) (sv : ByteArray) (x : Ex) (E : List Nu) (N : List Int) (is : Bool) : Prop where
  el : E.length = (vars P).length
  nl : N.length = (vars P).length
  own : ∀ (k : Nat) (c : Int), N[k]? = some c → ∃ j : Nat, c = j ∧ ∃ y, (sitesOf P)[j]? = some y ∧ (0 ≤ y.b → idx (vars P) y.v = k)
  val : is = true → ∀ (k j : Nat), N[k]? = some (j : Int) → (sitesOf P)[j]? = some ⟨sb, sk, sv⟩ → E[k]? = some (evalE P E x)

theorem Kept.step {P : List Bl} (hc : checkOf P = 0) {I : List Nu} {sb sk : Nat} {sv : ByteArray} {x : Ex} {r : Rs} {N : List Int} {is : Bool} {b k : Nat} {B : Bl} {s : St} (h : Kept P sb sk sv x r.e N is)
    (hB : P[b]? = some B) (hs : B.l[k]? = some s) (hset : b = sb → k = sk → s.e = x ∧ s.k = 1) :
    Kept P sb sk sv x (doS P I r s).e (putI P (sitesOf P) ⟨b, k, s.v⟩ (sitesOf P).length N) (frS b k s sb sk x is) := by
  obtain ⟨hbl, hbe⟩ := List.getElem?_eq_some_iff.1 hB
  subst hbe
  obtain ⟨hkl, hke⟩ := List.getElem?_eq_some_iff.1 hs
  have hpr := proper_stmt hc (List.getElem_mem hbl) (List.mem_iff_getElem?.2 ⟨k, hs⟩)
  have hvar : ∀ (j : Nat) (y : Si), (sitesOf P)[j]? = some y → y.b = b → y.k = k → y = ⟨b, k, s.v⟩ ∧ (s.k = 1 ∨ s.k = 2) := fun j y hy h1 h2 => by
    have h9 := sites_var (List.mem_iff_getElem?.2 ⟨j, hy⟩) hbl hkl h1 h2
    rw [hke] at h9
    exact h9
  by_cases hk3 : s.k = 3
  · have hN : putI P (sitesOf P) ⟨b, k, s.v⟩ (sitesOf P).length N = N := by
      have : ∀ n, putI P (sitesOf P) ⟨b, k, s.v⟩ n N = N := fun n => by
        induction n with
        | zero => rfl
        | succ n ih =>
          unfold putI
          rw [if_neg, ih]
          intro h9
          have := (hvar n _ h9 rfl rfl).2
          omega
      exact this _
    have hE : (doS P I r s).e = r.e := by
      unfold doS
      rw [if_neg (by omega), if_neg (by omega), if_pos hk3]
    have hI : frS b k s sb sk x is = is := by
      unfold frS
      rw [if_neg (fun h9 => h9.1 hk3), if_neg]
      rintro ⟨h1, h2⟩
      have := hset (by omega) (by omega)
      omega
    rw [hN, hE, hI]
    exact h
  · obtain ⟨i1, i2⟩ := hpr.2 hk3
    have hk12 : s.k = 1 ∨ s.k = 2 := by rcases hpr.1 with h9 | h9 | h9 <;> omega
    obtain ⟨M, hM⟩ : ∃ M : Nat, idx (vars P) s.v = M := ⟨(idx (vars P) s.v).toNat, (Int.toNat_of_nonneg i1).symm⟩
    have hMl : M < N.length := by rw [h.nl]; omega
    obtain ⟨p1, p2⟩ := putI_at P (sitesOf P) ⟨b, k, s.v⟩ N M (by show (max (idx (vars P) s.v) 0).toNat = M; omega) hMl (sitesOf P).length
    obtain ⟨j9, hj9⟩ := List.mem_iff_getElem?.1 (sites_has hB hs hk12)
    obtain ⟨j, hj1, hj2, hj3⟩ : ∃ j, j < (sitesOf P).length ∧ (sitesOf P)[j]? = some ⟨b, k, s.v⟩ ∧ (putI P (sitesOf P) ⟨b, k, s.v⟩ (sitesOf P).length N)[M]? = some (j : Int) := by
      rcases p2 with ⟨h9, _⟩ | h9
      · exact absurd hj9 (h9 j9 (List.getElem?_eq_some_iff.1 hj9).1)
      · exact h9
    obtain ⟨n, hE⟩ : ∃ n, (doS P I r s).e = r.e.set M n ∧ (s.k = 1 → n = evalE P r.e s.e) := by
      unfold doS
      rw [hM]
      rcases hk12 with h9 | h9
      · rw [if_pos h9]
        exact ⟨_, rfl, fun _ => rfl⟩
      · rw [if_neg (by omega), if_pos h9]
        exact ⟨_, rfl, fun h8 => by omega⟩
    rw [hE.1]
    refine ⟨by rw [List.length_set]; exact h.el, by rw [putI_len]; exact h.nl, fun q c hq => ?_, fun his q c hq hcs => ?_⟩
    · by_cases hqM : q = M
      · subst hqM
        rw [hj3] at hq
        exact ⟨j, (Option.some.inj hq).symm, _, hj2, fun _ => hM⟩
      · rw [p1 q hqM] at hq
        exact h.own q c hq
    · unfold frS at his
      split at his
      · cases his
      · rename_i hno
        have hx1 : x.x.v ≠ s.v := fun h9 => hno ⟨hk3, .inl h9.symm⟩
        have hx2 : x.y.v ≠ s.v := fun h9 => hno ⟨hk3, .inr h9.symm⟩
        rw [evalE_set hM x hx1 hx2]
        by_cases hqM : q = M
        · subst hqM
          rw [hj3] at hq
          have hcj : j = c := by have := Option.some.inj hq; omega
          rw [← hcj, hj2] at hcs
          have he := Option.some.inj hcs
          injection he with e1 e2 e3
          obtain ⟨t1, t2⟩ := hset (by omega) (by omega)
          rw [List.getElem?_set_self (by rw [h.el]; omega), hE.2 t2, t1]
        · rw [p1 q hqM] at hq
          rw [List.getElem?_set_ne (fun h9 => hqM h9.symm)]
          have hne : ¬ ((b : Int) = sb ∧ (k : Int) = sk) := by
            rintro ⟨e1, e2⟩
            obtain ⟨j2, hj4, y, hy, hyi⟩ := h.own q _ hq
            have hjj : j2 = c := by omega
            rw [hjj, hcs] at hy
            obtain rfl := Option.some.inj hy
            have h9 := (hvar c _ hcs e1.symm e2.symm).1
            injection h9 with _ _ e3
            have h8 := hyi (by show (0 : Int) ≤ sb; omega)
            have h8 : idx (vars P) sv = q := h8
            rw [e3, hM] at h8
            omega
          rw [if_neg hne] at his
          exact h.val his q c hq hcs

theorem Kept.block {P : List Bl} (hc : checkOf P = 0) {I : List Nu} {sb sk : Nat} {sv : ByteArray} {x : Ex} {r : Rs} {N : List Int} {is : Bool} {b : Nat} {B : Bl} (h : Kept P sb sk sv x r.e N is)
    (hB : P[b]? = some B) (hset : ∀ (C : Bl) (s : St), P[sb]? = some C → C.l[sk]? = some s → s.e = x ∧ s.k = 1) : ∀ n, n ≤ B.l.length →
    Kept P sb sk sv x (runB P I r (B.l.take n)).e (doneN P (sitesOf P) b B.l n N) (frB b B.l sb sk x n is)
  | 0, _ => h
  | n + 1, hn => by
    have ih := Kept.block hc (I := I) h hB hset n (by omega)
    have hs : B.l[n]? = some (B.l[n]'(by omega)) := List.getElem?_eq_getElem (by omega)
    have h9 := Kept.step hc (I := I) ih hB hs (fun e1 e2 => hset B _ (e1 ▸ hB) (e2 ▸ hs))
    have e1 : runB P I r (B.l.take (n + 1)) = doS P I (runB P I r (B.l.take n)) (B.l[n]'(by omega)) := by
      unfold runB
      rw [List.take_add_one, hs, List.foldl_append]
      rfl
    have e2 : doneN P (sitesOf P) b B.l (n + 1) N = putI P (sitesOf P) ⟨b, n, (B.l[n]'(by omega)).v⟩ (sitesOf P).length (doneN P (sitesOf P) b B.l n N) := by
      simp only [doneN, hs]
    have e3 : frB b B.l sb sk x (n + 1) is = frS b n (B.l[n]'(by omega)) sb sk x (frB b B.l sb sk x n is) := by
      simp only [frB, hs]
    rw [e1, e2, e3]
    exact h9

theorem fromS_get {P : List Bl} {I : List Nu} : ∀ (n : Nat) (s : Ps) (g : Bool) (m : Nat) (p : Ps), (fromS P I n s g).1[m + 1]? = some p → ∃ q, (fromS P I n s g).1[m]? = some q ∧ p = (adv P I q).1
  | 0, s, g, m, p, h => by simp [fromS] at h
  | n + 1, s, g, m, p, h => by
    unfold fromS at h ⊢
    split at h
    · rename_i hg
      rw [if_pos hg]
      simp only [List.getElem?_cons_succ] at h
      cases m with
      | zero =>
        refine ⟨s, rfl, ?_⟩
        cases n with
        | zero => simp [fromS] at h
        | succ n =>
          unfold fromS at h
          split at h
          · simp only [List.getElem?_cons_zero] at h
            exact (Option.some.inj h).symm
          · simp at h
      | succ m =>
        obtain ⟨q, h1, h2⟩ := fromS_get n _ _ m p h
        exact ⟨q, by simpa using h1, h2⟩
    · simp at h
theorem fromS_head {P : List Bl} {I : List Nu} (n : Nat) (s : Ps) (g : Bool) (p : Ps) (h : (fromS P I n s g).1[0]? = some p) : p = s := by
  cases n with
  | zero => simp [fromS] at h
  | succ n =>
    unfold fromS at h
    split at h
    · simp only [List.getElem?_cons_zero] at h
      exact (Option.some.inj h).symm
    · simp at h

theorem nowK_get (n k : Nat) (c : Int) (h : (nowK n n)[k]? = some c) : c = k ∧ k < n := by
  have hk : k < n := by have := (List.getElem?_eq_some_iff.1 h).1; rw [nowK_len] at this; exact this
  unfold nowK at h
  rw [List.getElem?_map, List.getElem?_range hk] at h
  have h9 := Option.some.inj h
  simp only [hk, if_true] at h9
  exact ⟨h9.symm, hk⟩

/-- What stands at a run's visits. -/
theorem kept_visit {P : List Bl} (hc : checkOf P = 0) (hl : ∀ b ∈ P, b.l.length ≤ 12) {I : List Nu} (n : Nat) {sb sk : Nat} {sv : ByteArray} {x : Ex} (hset : ∀ (C : Bl) (s : St), P[sb]? = some C → C.l[sk]? = some s → s.e = x ∧ s.k = 1) : ∀ (m : Nat) (p : Ps), (fromS P I n (beginS P) true).1[m]? = some p →
    Kept P sb sk sv x p.r.e (lastW P (sitesOf P) (fromS P I n (beginS P) true).1 (nowK (vars P).length (vars P).length) m).2 (frW P (fromS P I n (beginS P) true).1 sb sk x m)
  | 0, p, h => by
    obtain rfl := fromS_head n _ _ _ h
    refine ⟨by simp [beginS], nowK_len _ _, fun k c hk => ?_, fun h9 => by cases h9⟩
    obtain ⟨rfl, hk2⟩ := nowK_get _ _ _ hk
    refine ⟨k, rfl, ⟨-1, 0, (vars P)[k]'hk2⟩, ?_, fun h9 => ?_⟩
    · unfold sitesOf
      rw [List.getElem?_append_left (by rw [List.length_map]; exact hk2), List.getElem?_map, List.getElem?_eq_getElem hk2]
      rfl
    · have h9 : (0 : Int) ≤ -1 := h9
      omega
  | m + 1, p, h => by
    obtain ⟨q, hq, rfl⟩ := fromS_get n _ _ m p h
    have ih := kept_visit hc hl (I := I) n (sv := sv) hset m q hq
    have hok := ((fromS_ok (I := I) hc hl n (beginS P) true ⟨Int.le_refl 0, by have := (proper_vars hc).2; show (0 : Int) < P.length; omega, by simp [beginS], Int.le_refl 0⟩).2.2 q (List.mem_iff_getElem?.2 ⟨m, hq⟩)).1
    obtain ⟨b, hb⟩ : ∃ b : Nat, q.b = b := ⟨q.b.toNat, (Int.toNat_of_nonneg hok.1).symm⟩
    have hbl : b < P.length := by have := hok.2.1; omega
    have hB : P[b]? = some (P[b]'hbl) := List.getElem?_eq_getElem hbl
    have hgd2 : P.getD (b : Int).toNat default = P[b]'hbl := by rw [Int.toNat_natCast]; simp [List.getD, hB]
    have hgd : P.getD q.b.toNat default = P[b]'hbl := by rw [hb]; exact hgd2
    have h9 := Kept.block hc (I := I) ih hB hset _ (Nat.le_refl _)
    rw [List.take_length] at h9
    have e1 : (adv P I q).1.r = runB P I q.r (P[b]'hbl).l := by unfold adv; rw [hgd]
    have e2 : (lastW P (sitesOf P) (fromS P I n (beginS P) true).1 (nowK (vars P).length (vars P).length) (m + 1)).2 = doneN P (sitesOf P) b (P[b]'hbl).l (P[b]'hbl).l.length (lastW P (sitesOf P) (fromS P I n (beginS P) true).1 (nowK (vars P).length (vars P).length) m).2 := by
      simp only [lastW, hq, hb, hgd2]
    have e3 : frW P (fromS P I n (beginS P) true).1 sb sk x (m + 1) = frB b (P[b]'hbl).l sb sk x (P[b]'hbl).l.length (frW P (fromS P I n (beginS P) true).1 sb sk x m) := by
      simp only [frW, hq, hb, hgd2]
    rw [e1, e2, e3]
    exact h9

end Go.Proofs.Ytaaklejkngpddaa.Pr

namespace Go.Proofs.Ytaaklejkngpddaa.Pr
set_option linter.unusedVariables false
set_option linter.unusedSimpArgs false
open Go Go.RowKit

theorem stepS {P : Program} {ops : Array Oper} {o : Oper} {a : Act} {w : World} {K : Act → World → Prop} {Q : Exit → Act → World → Prop} {E : Prop} (hgd : o.guard = none) (f : FuncId) (vs : Array Value) {α : Type} (g : α → Value) (S : α → World → Prop)
    (hop : (execOp a.eval o).run P w = .ok (.enter f vs) w)
    (h : Calls P f vs w fun e w' => ∃ v, e = .returned (g v) ∧ S v w' ∧ Below w.heap.size w w') (hk : ∀ v w', S v w' → Below w.heap.size w w' → K (a.put o.dst (g v)) w') :
    if Region.wanted o (yielded ops a.tmps) = true then Oper.wp P o a w K Q else E :=
  step_callS hgd f vs (fun v w' => ∃ x, v = g x ∧ S x w') hop (h.mono fun e w' ⟨v, he, hs, hb⟩ => ⟨_, he, ⟨v, rfl, hs⟩, hb⟩) (fun v w' ⟨x, hx, hs⟩ hb => by subst hx; exact hk x w' hs hb)

def frameV (p0 rv ev sv : Value) (blk m s k : Int) (b6 b8 : Nat) (u : Nat → Value) : Act := { tmps := #[p0, .int .i64 blk, rv, .int .i64 m, .int .i64 s, .int .i64 k, .pointer (some ⟨b6, 0, none⟩), u 7, .pointer (some ⟨b8, 0, none⟩), u 9, u 10, u 11, .bool false, ev, sv, u 15, u 16, u 17, u 18, u 19, u 20, u 21, u 22, u 23, u 24, u 25, u 26, u 27, u 28, u 29, u 30, u 31, u 32, u 33, u 34, u 35, u 36, u 37, u 38, u 39, u 40, u 41, u 42, u 43, u 44, u 45, u 46, u 47, u 48, u 49, u 50, u 51, u 52, u 53, u 54, u 55, u 56, u 57, u 58, u 59, u 60, u 61, u 62, u 63, u 64, u 65, u 66, u 67, u 68, u 69, u 70, u 71, u 72, u 73, u 74, u 75, u 76, u 77, u 78, u 79, u 80, u 81, u 82, u 83, u 84, u 85, u 86, u 87, u 88, u 89, u 90], defers := [] }

set_option maxRecDepth 100000 in
set_option maxHeartbeats 8000000 in
theorem fresh_any (P : List Bl) (L : List Ps) (hOk : ∀ t ∈ L, 0 ≤ t.b ∧ t.b < P.length) (hLl : L.length ≤ 5000) (Xs : List Sv) (hXs : Xs.map Sv.p = L) (hsh : ∀ x ∈ Xs, (∃ p n c, x.ev = .slice p n c) ∧ ∃ p n c, x.ov = .slice p n c)
    (m s k : Nat) (hm : m ≤ L.length) (sb sk : Int) (sv : ByteArray) (hs : (sitesOf P)[s]? = some ⟨sb, sk, sv⟩) (x : Ex) (hk : (exprsOf P)[k]? = some x) (blk : Int) (pv : Value) (vp : Option Addr) (vcap : Nat) (hcap : L.length ≤ vcap) (op : Option Addr) (on oc : Nat) (g : Bool) (w : World) (hP : Pg w pv P) (h12 : P.length ≤ 12) (hl12 : ∀ b ∈ P, b.l.length ≤ 12) (hV : Sl w (.slice vp L.length vcap) Sv.cs Xs) :
    Calls Try.prog 38 #[.agg #[pv], .int .i64 blk, .agg #[.slice vp L.length vcap, .slice op on oc, .bool g], .int .i64 m, .int .i64 s, .int .i64 k] w fun e w' => e = .returned (.bool (frW P L sb sk x m)) ∧ Below w.heap.size w w' := by
  have hXl : Xs.length = L.length := by rw [← hXs, List.length_map]
  have hXs2 : Hid (Xs.map Sv.p = L) := hXs
  obtain ⟨bb, off, p, cap, rfl, hpp, hpc⟩ := Pg.open hP
  obtain ⟨vb, voff, vp', vcap', hvv, hvp, hvc⟩ := hV.open Sv.cs_len
  injection hvv with hv1 hv2 hv3
  clear hv2
  subst hv1 hv3
  rw [hXl] at hvp
  have hXl2 : Hid (Xs.length = L.length) := hXl
  have hex : ∀ (V : World) (hB : Below w.heap.size w V), Calls Try.prog 36 #[.agg #[.slice p P.length cap]] V fun e w' => ∃ v, e = .returned ((fun v : Value => v) v) ∧ (fun (v : Value) w' => Sl w' v Ex.cs (exprsOf P)) v w' ∧ Below V.heap.size V w' := fun V hB => (exprs_any P _ V (hP.below hB) h12 hl12).mono fun e w' ⟨o, he, ho, hb⟩ => ⟨o, he, Sl.of_own ho, hb⟩
  have hsi : ∀ (V : World) (hB : Below w.heap.size w V), Calls Try.prog 37 #[.agg #[.slice p P.length cap]] V fun e w' => ∃ v, e = .returned ((fun v : Value => v) v) ∧ (fun (v : Value) w' => Sl w' v Si.cs (sitesOf P)) v w' ∧ Below V.heap.size V w' := fun V hB => tsites_any P _ V (hP.below hB) h12 hl12
  obtain ⟨V, hVe⟩ : ∃ V, V = (w.alloc (.cells #[.slice p P.length cap] 24)).alloc (.cells #[.slice vp L.length vcap, .slice op on oc, .bool g] 53) := ⟨_, rfl⟩
  have h6 : V.heap[w.heap.size]? = some (.cells #[.slice p P.length cap] 24 (0, 0)) := by
    rw [hVe]
    exact blk_next ((Below.refl _ _).alloc (Nat.le_refl _) _) (heap_alloc_new _ _)
  have h8 : V.heap[w.heap.size + 1]? = some (.cells #[.slice vp L.length vcap, .slice op on oc, .bool g] 53 (0, 0)) := by
    rw [hVe]
    exact (by simp : (w.alloc (.cells #[.slice p P.length cap] 24)).heap.size = w.heap.size + 1) ▸ heap_alloc_new (w.alloc (.cells #[.slice p P.length cap] 24)) _
  have hBV : Below w.heap.size w V := by
    rw [hVe]
    exact ((Below.refl _ _).alloc (Nat.le_refl _) _).alloc (by simp) _
  obtain ⟨hsl, hse⟩ := List.getElem?_eq_some_iff.1 hs
  obtain ⟨hkl, hke⟩ := List.getElem?_eq_some_iff.1 hk
  clear hV hXs hXl hP hs hk
  go_enter Try.func38, Try.ntmps38
  go_wp2_with fail
  rename_i K hK
  rw [← hVe]
  clear hVe
  have hK7 : ∀ (a2 : Act) (q2 : World) (ep : Option Addr) (ec : Nat) (sp : Option Addr) (sc : Nat), a2 = frameV (.agg #[.slice p P.length cap]) (.agg #[.slice vp L.length vcap, .slice op on oc, .bool g]) (.slice ep (exprsOf P).length ec) (.slice sp (sitesOf P).length sc) blk m s k w.heap.size (w.heap.size + 1) (fun i => a2.tmps.getD i undef) →
      Below V.heap.size V q2 → Sl q2 (.slice ep (exprsOf P).length ec) Ex.cs (exprsOf P) → Sl q2 (.slice sp (sitesOf P).length sc) Si.cs (sitesOf P) → K a2 q2 := by
    intro a2 q2 ep ec sp sc ha hdq hoE hoS
    obtain ⟨u, hu⟩ : ∃ u : Nat → Value, (fun i => a2.tmps.getD i undef) = u := ⟨_, rfl⟩
    rw [hu] at ha
    clear hu
    subst ha
    refine hK _ _ ?_
    simp only [frameV]
    clear hK
    have h6 := blk_next hdq h6
    have h8 := blk_next hdq h8
    have hBq2 := nextB hdq hBV
    clear hdq hBV hex hsi
    obtain ⟨eb, eoff, ep', ec', hev, hep, hec⟩ := hoE.open (k := 7) (fun _ => rfl)
    injection hev with e1 e2 e3
    clear e2
    subst e1 e3
    obtain ⟨sbb, soff, sp', sc', hsv, hsp, hsc⟩ := hoS.open Si.cs_len
    injection hsv with e1 e2 e3
    clear e2
    subst e1 e3
    have hcE : ∀ r u, (x.cs)[r]? = some u → q2.cell? ⟨eb, eoff + k * 7 + r, none⟩ = some u := fun r u hu => by
      rw [Nat.add_assoc]
      exact hec k hkl r u (by rw [hke]; exact hu)
    have hcS : ∀ r u, ((⟨sb, sk, sv⟩ : Si).cs)[r]? = some u → q2.cell? ⟨sbb, soff + s * 3 + r, none⟩ = some u := fun r u hu => by
      rw [Nat.add_assoc]
      exact hsc s hsl r u (by rw [hse]; exact hu)
    obtain rfl := hep (by omega)
    obtain rfl := hsp (by omega)
    clear hec hsc hep hsp hke hse hoE hoS
    generalize (exprsOf P).length = el at hkl
    generalize (sitesOf P).length = sl at hsl
    have r0 := (three h8).1
    have rl := lt_of_some h8
    have hkl2 : (k : Int) < el := by omega
    have hsl2 : (s : Int) < sl := by omega
    have hm2 : (m : Int) ≤ vcap := by omega
    have hmb : m ≤ 5000 := by omega
    go_wp2_with fail
    clear r0 rl
    go_loopw [15, 29] (fun b0 i wr => ∃ j : Nat, j ≤ m ∧ i = .int .i64 j ∧ b0 = .bool (frW P L sb sk x j) ∧ Below q2.heap.size q2 wr) (fun _ i _ => m - (intOf i).toNat)
    case atStart => exact ⟨0, Nat.zero_le _, rfl, rfl, Below.refl _ _⟩
    case round =>
      obtain ⟨j, hj, rfl, rfl, hB⟩ := hrel
      have hw := hB.size
      have hBw := nextB hB hBq2
      by_cases hlt : j < m
      · have hltL : j < L.length := by omega
        obtain rfl := hvp (by omega)
        have hlt2 : (j : Int) < m := by omega
        have hmx : j < Xs.length := by have : Xs.length = L.length := hXl2; omega
        have hLp : L[j]'hltL = (Xs[j]'hmx).p := by
          have h9 : Xs.map Sv.p = L := hXs2
          have h8 : L[j]? = some (Xs[j]'hmx).p := by rw [← h9, List.getElem?_map, List.getElem?_eq_getElem hmx]; rfl
          rw [List.getElem?_eq_getElem hltL] at h8
          exact Option.some.inj h8
        have hok := hOk _ (List.getElem_mem hltL)
        have hlw1 : frW P L sb sk x (j + 1) = frB (L[j]'hltL).b (P.getD (L[j]'hltL).b.toNat default).l sb sk x (P.getD (L[j]'hltL).b.toNat default).l.length (frW P L sb sk x j) := by
          simp only [frW, List.getElem?_eq_getElem hltL]
        have hcv : ∀ r u, ((Xs[j]'hmx).cs)[r]? = some u → wr.cell? ⟨vb, voff + j * 4 + r, none⟩ = some u := fun r u hu => by
          rw [Nat.add_assoc]
          exact nextC hBw (hvc j hmx r u hu)
        have hsx := hsh _ (List.getElem_mem hmx)
        rw [hLp] at hlw1 hok
        clear hLp
        generalize frW P L sb sk x j = F at hlw1
        generalize Xs[j]'hmx = xs at hlw1 hok hcv hsx
        obtain ⟨⟨cb, cr⟩, ev, oo⟩ := xs
        obtain ⟨⟨ep, en, ec, rfl⟩, qp, qn, qc, rfl⟩ : (∃ p n c, ev = .slice p n c) ∧ ∃ p n c, oo = .slice p n c := hsx
        have g1 : 0 ≤ cb := hok.1
        have g2 : cb < P.length := hok.2
        obtain ⟨kb, rfl⟩ : ∃ k : Nat, cb = k := ⟨cb.toNat, (Int.toNat_of_nonneg g1).symm⟩
        have hkb : kb < P.length := by omega
        have hgd : P.getD ((kb : Nat) : Int).toNat default = P[kb]'hkb := by rw [Int.toNat_natCast]; simp [List.getD, List.getElem?_eq_getElem hkb]
        have hlw1 : frW P L sb sk x (j + 1) = frB (kb : Int) (P.getD ((kb : Nat) : Int).toNat default).l sb sk x (P.getD ((kb : Nat) : Int).toNat default).l.length F := hlw1
        rw [hgd] at hlw1
        have hHw : Hid (frW P L sb sk x (j + 1) = frB (kb : Int) (P[kb]'hkb).l sb sk x (P[kb]'hkb).l.length F) := hlw1
        clear hlw1 hgd g1 hok
        have d0 : wr.cell? ⟨vb, voff + j * 4, none⟩ = some (.int .i64 kb) := hcv 0 _ rfl
        have dl := World.block_lt_of_cell? _ _ d0
        have d1 : wr.cell? ⟨vb, voff + j * 4 + 1, none⟩ = some (.slice ep en ec) := hcv 1 _ rfl
        have d2 : wr.cell? ⟨vb, voff + j * 4 + 2, none⟩ = some (.int .i64 cr.i) := hcv 2 _ rfl
        have d3 : wr.cell? ⟨vb, voff + j * 4 + 3, none⟩ = some (.slice qp qn qc) := hcv 3 _ rfl
        clear hcv
        have hkb2 : (kb : Int) < P.length := by omega
        have hsl9 := (hpc kb hkb).2
        have hcb : ∀ r u, ((P[kb]'hkb).cs)[r]? = some u → w.cell? ⟨bb, off + kb * 8 + r, none⟩ = some u := fun r u hu => by
          rw [Nat.add_assoc]
          exact (hpc kb hkb).1 r u hu
        have hllB := hl12 _ (List.getElem_mem hkb)
        obtain rfl := hpp (by omega)
        generalize P[kb]'hkb = B at hHw hsl9 hcb hllB
        obtain ⟨lb, loff, lp, lc, hlv, hlp, hlc⟩ := hsl9.open St.cs_len
        have b1 := nextC hBw (hcb 1 _ rfl)
        rw [hlv] at b1
        have b1 : wr.cell? ⟨bb, off + kb * 8 + 1, none⟩ = some (.slice lp B.l.length lc) := b1
        have bl := World.block_lt_of_cell? _ _ b1
        have y0 := cell_of_one (blk_next hB h6)
        have yl := World.block_lt_of_cell? _ _ y0
        clear hcb hlv hsl9
        go_wp2_with fail
        obtain ⟨V2, hV2⟩ : ∃ V2, V2 = wr.alloc (.cells #[.int .i64 kb, .slice ep en ec, .int .i64 cr.i, .slice qp qn qc] 47) := ⟨_, rfl⟩
        have hwv : Below wr.heap.size wr V2 := by rw [hV2]; exact (Below.refl _ _).alloc (Nat.le_refl _) _
        have e9 : V2.heap[wr.heap.size]? = some (.cells #[.int .i64 kb, .slice ep en ec, .int .i64 cr.i, .slice qp qn qc] 47 (0, 0)) := by rw [hV2]; exact heap_alloc_new _ _
        have hBv : Below q2.heap.size q2 V2 := nextB hwv hB
        rw [← hV2]
        clear hV2 d0 d1 d2 d3 dl b1 bl y0 yl
        go_loopw [15, 41] (fun b0 i wq => ∃ q : Nat, q ≤ B.l.length ∧ i = .int .i64 q ∧ b0 = .bool (frB (kb : Int) B.l sb sk x q F) ∧ Below V2.heap.size V2 wq) (fun _ i _ => B.l.length - (intOf i).toNat)
        case atStart => exact ⟨0, Nat.zero_le _, rfl, rfl, Below.refl _ _⟩
        case round =>
          obtain ⟨q, hq, rfl, rfl, hBk⟩ := hrel
          have hwk := hBk.size
          have hBz := nextB hBk hBv
          by_cases hqt : q < B.l.length
          · obtain rfl := hlp (by omega)
            have hqt2 : (q : Int) < B.l.length := by omega
            have hcs : ∀ r u, ((B.l[q]'hqt).cs)[r]? = some u → wr.cell? ⟨lb, loff + q * 9 + r, none⟩ = some u := fun r u hu => by
              rw [Nat.add_assoc]
              exact nextC (nextB hBz hBq2) (hlc q hqt r u hu)
            have hst1 : frB (kb : Int) B.l sb sk x (q + 1) F = frS (kb : Int) q (B.l[q]'hqt) sb sk x (frB (kb : Int) B.l sb sk x q F) := by
              simp only [frB, List.getElem?_eq_getElem hqt]
            generalize B.l[q]'hqt = t at hcs hst1
            generalize frB (kb : Int) B.l sb sk x q F = F1 at hst1
            obtain ⟨tk, tv, ⟨top, ⟨s1, sa1, sb1⟩, ⟨s2, sa2, sb2⟩⟩⟩ := t
            obtain ⟨xop, ⟨x1, xa1, xb1⟩, ⟨x2, xa2, xb2⟩⟩ := x
            have hst : Hid (frB (kb : Int) B.l sb sk ⟨xop, ⟨x1, xa1, xb1⟩, ⟨x2, xa2, xb2⟩⟩ (q + 1) F = frS (kb : Int) q ⟨tk, tv, ⟨top, ⟨s1, sa1, sb1⟩, ⟨s2, sa2, sb2⟩⟩⟩ sb sk ⟨xop, ⟨x1, xa1, xb1⟩, ⟨x2, xa2, xb2⟩⟩ F1) := hst1
            clear hst1
            have e0 : wr.cell? ⟨lb, loff + q * 9, none⟩ = some (.int .i64 tk) := hcs 0 _ rfl
            have el := World.block_lt_of_cell? _ _ e0
            have e1 : wr.cell? ⟨lb, loff + q * 9 + 1, none⟩ = some (.string tv) := hcs 1 _ rfl
            have e2 : wr.cell? ⟨lb, loff + q * 9 + 2, none⟩ = some (.int .i64 top) := hcs 2 _ rfl
            have e3 : wr.cell? ⟨lb, loff + q * 9 + 3, none⟩ = some (.string s1) := hcs 3 _ rfl
            have e4 : wr.cell? ⟨lb, loff + q * 9 + 4, none⟩ = some (.int .i64 sa1) := hcs 4 _ rfl
            have e5 : wr.cell? ⟨lb, loff + q * 9 + 5, none⟩ = some (.int .i64 sb1) := hcs 5 _ rfl
            have e6 : wr.cell? ⟨lb, loff + q * 9 + 6, none⟩ = some (.string s2) := hcs 6 _ rfl
            have e7 : wr.cell? ⟨lb, loff + q * 9 + 7, none⟩ = some (.int .i64 sa2) := hcs 7 _ rfl
            have e8 : wr.cell? ⟨lb, loff + q * 9 + 8, none⟩ = some (.int .i64 sb2) := hcs 8 _ rfl
            have c0 : wr.cell? ⟨sbb, soff + s * 3, none⟩ = some (.int .i64 sb) := nextC hBz (hcS 0 _ rfl)
            have c1 : wr.cell? ⟨sbb, soff + s * 3 + 1, none⟩ = some (.int .i64 sk) := nextC hBz (hcS 1 _ rfl)
            have cl := World.block_lt_of_cell? _ _ c0
            have a0 : wr.cell? ⟨eb, eoff + k * 7, none⟩ = some (.int .i64 xop) := nextC hBz (hcE 0 _ rfl)
            have al := World.block_lt_of_cell? _ _ a0
            have a1 : wr.cell? ⟨eb, eoff + k * 7 + 1, none⟩ = some (.string x1) := nextC hBz (hcE 1 _ rfl)
            have a4 : wr.cell? ⟨eb, eoff + k * 7 + 4, none⟩ = some (.string x2) := nextC hBz (hcE 4 _ rfl)
            obtain ⟨v0, _, _, _, _, vl⟩ := four (blk_next hBk e9)
            clear hcs
            go_wp2_with fail
            by_cases h1 : (kb : Int) = sb
            · subst h1
              by_cases h2 : (q : Int) = sk
              · subst h2
                refine' region_whole _ _ (by kernel_rfl) (by kernel_rfl) _; rotate_left 2; (exact Below.refl _ _; rfl); (repeat (go_big_quiet_step (first | fail))); refine wpQuiet_nil ?_; intro z
                have hz1 := z.below
                have hBz1 : Below V2.heap.size V2 z.val := nextB hz1 (hBk.alloc hwk _)
                go_wp2_with fail
                by_cases h3 : tk = 3
                · subst h3
                  have hfr : frS (kb : Int) q ⟨3, tv, ⟨top, ⟨s1, sa1, sb1⟩, ⟨s2, sa2, sb2⟩⟩⟩ (kb : Int) (q : Int) ⟨xop, ⟨x1, xa1, xb1⟩, ⟨x2, xa2, xb2⟩⟩ F1 = true := by unfold frS; simp
                  have hst := (show _ = _ from hst).trans hfr
                  have hst := (hst : Hid _)
                  clear hfr
                  refine' region_whole _ _ (by kernel_rfl) (by kernel_rfl) _; rotate_left 2; (exact Below.refl _ _; rfl); (repeat (go_big_quiet_step (first | fail))); refine wpQuiet_nil ?_; intro z
                  go_wp2_with fail
                  go_roundw
                  case rel => exact ⟨q + 1, by omega, by simp, by rw [show frB (kb : Int) B.l _ _ _ (q + 1) F = _ from hst], nextB z.below hBz1⟩
                  case measure => simp [intOf]; omega
                · have h3b : (tk != 3) = true := by simp [h3]
                  by_cases h4 : tv = x1
                  · subst h4
                    have hfr : frS (kb : Int) q ⟨tk, tv, ⟨top, ⟨s1, sa1, sb1⟩, ⟨s2, sa2, sb2⟩⟩⟩ (kb : Int) (q : Int) ⟨xop, ⟨tv, xa1, xb1⟩, ⟨x2, xa2, xb2⟩⟩ F1 = false := by unfold frS; simp [h3]
                    have hst := (show _ = _ from hst).trans hfr
                    have hst := (hst : Hid _)
                    clear hfr
                    refine' region_whole _ _ (by kernel_rfl) (by kernel_rfl) _; rotate_left 2; (exact Below.refl _ _; rfl); (repeat (go_big_quiet_step (first | fail))); refine wpQuiet_nil ?_; intro z
                    go_wp2_with fail
                    go_roundw
                    case rel => exact ⟨q + 1, by omega, by simp, by rw [show frB (kb : Int) B.l _ _ _ (q + 1) F = _ from hst], nextB z.below hBz1⟩
                    case measure => simp [intOf]; omega
                  · have h4s : (tv.toList == x1.toList) = false := by simpa using fun h => h4 (toList_inj h)
                    by_cases h5 : tv = x2
                    · subst h5
                      have hfr : frS (kb : Int) q ⟨tk, tv, ⟨top, ⟨s1, sa1, sb1⟩, ⟨s2, sa2, sb2⟩⟩⟩ (kb : Int) (q : Int) ⟨xop, ⟨x1, xa1, xb1⟩, ⟨tv, xa2, xb2⟩⟩ F1 = false := by unfold frS; simp [h3]
                      have hst := (show _ = _ from hst).trans hfr
                      have hst := (hst : Hid _)
                      clear hfr
                      refine' region_whole _ _ (by kernel_rfl) (by kernel_rfl) _; rotate_left 2; (exact Below.refl _ _; rfl); (repeat (go_big_quiet_step (first | fail))); refine wpQuiet_nil ?_; intro z
                      go_wp2_with fail
                      go_roundw
                      case rel => exact ⟨q + 1, by omega, by simp, by rw [show frB (kb : Int) B.l _ _ _ (q + 1) F = _ from hst], nextB z.below hBz1⟩
                      case measure => simp [intOf]; omega
                    · have h5s : (tv.toList == x2.toList) = false := by simpa using fun h => h5 (toList_inj h)
                      have hfr : frS (kb : Int) q ⟨tk, tv, ⟨top, ⟨s1, sa1, sb1⟩, ⟨s2, sa2, sb2⟩⟩⟩ (kb : Int) (q : Int) ⟨xop, ⟨x1, xa1, xb1⟩, ⟨x2, xa2, xb2⟩⟩ F1 = true := by unfold frS; simp [h3, h4, h5]
                      have hst := (show _ = _ from hst).trans hfr
                      have hst := (hst : Hid _)
                      clear hfr
                      refine' region_whole _ _ (by kernel_rfl) (by kernel_rfl) _; rotate_left 2; (exact Below.refl _ _; rfl); (repeat (go_big_quiet_step (first | fail))); refine wpQuiet_nil ?_; intro z
                      go_wp2_with fail
                      go_roundw
                      case rel => exact ⟨q + 1, by omega, by simp, by rw [show frB (kb : Int) B.l _ _ _ (q + 1) F = _ from hst], nextB z.below hBz1⟩
                      case measure => simp [intOf]; omega
              · have h2b : ((q : Int) == sk) = false := by simpa using h2
                refine' region_whole _ _ (by kernel_rfl) (by kernel_rfl) _; rotate_left 2; (exact Below.refl _ _; rfl); (repeat (go_big_quiet_step (first | fail))); refine wpQuiet_nil ?_; intro z
                have hz1 := z.below
                have hBz1 : Below V2.heap.size V2 z.val := nextB hz1 (hBk.alloc hwk _)
                go_wp2_with fail
                by_cases h3 : tk = 3
                · subst h3
                  have hfr : frS (kb : Int) q ⟨3, tv, ⟨top, ⟨s1, sa1, sb1⟩, ⟨s2, sa2, sb2⟩⟩⟩ (kb : Int) sk ⟨xop, ⟨x1, xa1, xb1⟩, ⟨x2, xa2, xb2⟩⟩ F1 = F1 := by unfold frS; simp [h2]
                  have hst := (show _ = _ from hst).trans hfr
                  have hst := (hst : Hid _)
                  clear hfr
                  refine' region_whole _ _ (by kernel_rfl) (by kernel_rfl) _; rotate_left 2; (exact Below.refl _ _; rfl); (repeat (go_big_quiet_step (first | fail))); refine wpQuiet_nil ?_; intro z
                  go_wp2_with fail
                  go_roundw
                  case rel => exact ⟨q + 1, by omega, by simp, by rw [show frB (kb : Int) B.l _ _ _ (q + 1) F = _ from hst], nextB z.below hBz1⟩
                  case measure => simp [intOf]; omega
                · have h3b : (tk != 3) = true := by simp [h3]
                  by_cases h4 : tv = x1
                  · subst h4
                    have hfr : frS (kb : Int) q ⟨tk, tv, ⟨top, ⟨s1, sa1, sb1⟩, ⟨s2, sa2, sb2⟩⟩⟩ (kb : Int) sk ⟨xop, ⟨tv, xa1, xb1⟩, ⟨x2, xa2, xb2⟩⟩ F1 = false := by unfold frS; simp [h3]
                    have hst := (show _ = _ from hst).trans hfr
                    have hst := (hst : Hid _)
                    clear hfr
                    refine' region_whole _ _ (by kernel_rfl) (by kernel_rfl) _; rotate_left 2; (exact Below.refl _ _; rfl); (repeat (go_big_quiet_step (first | fail))); refine wpQuiet_nil ?_; intro z
                    go_wp2_with fail
                    go_roundw
                    case rel => exact ⟨q + 1, by omega, by simp, by rw [show frB (kb : Int) B.l _ _ _ (q + 1) F = _ from hst], nextB z.below hBz1⟩
                    case measure => simp [intOf]; omega
                  · have h4s : (tv.toList == x1.toList) = false := by simpa using fun h => h4 (toList_inj h)
                    by_cases h5 : tv = x2
                    · subst h5
                      have hfr : frS (kb : Int) q ⟨tk, tv, ⟨top, ⟨s1, sa1, sb1⟩, ⟨s2, sa2, sb2⟩⟩⟩ (kb : Int) sk ⟨xop, ⟨x1, xa1, xb1⟩, ⟨tv, xa2, xb2⟩⟩ F1 = false := by unfold frS; simp [h3]
                      have hst := (show _ = _ from hst).trans hfr
                      have hst := (hst : Hid _)
                      clear hfr
                      refine' region_whole _ _ (by kernel_rfl) (by kernel_rfl) _; rotate_left 2; (exact Below.refl _ _; rfl); (repeat (go_big_quiet_step (first | fail))); refine wpQuiet_nil ?_; intro z
                      go_wp2_with fail
                      go_roundw
                      case rel => exact ⟨q + 1, by omega, by simp, by rw [show frB (kb : Int) B.l _ _ _ (q + 1) F = _ from hst], nextB z.below hBz1⟩
                      case measure => simp [intOf]; omega
                    · have h5s : (tv.toList == x2.toList) = false := by simpa using fun h => h5 (toList_inj h)
                      have hfr : frS (kb : Int) q ⟨tk, tv, ⟨top, ⟨s1, sa1, sb1⟩, ⟨s2, sa2, sb2⟩⟩⟩ (kb : Int) sk ⟨xop, ⟨x1, xa1, xb1⟩, ⟨x2, xa2, xb2⟩⟩ F1 = F1 := by unfold frS; simp [h3, h4, h5, h2]
                      have hst := (show _ = _ from hst).trans hfr
                      have hst := (hst : Hid _)
                      clear hfr
                      refine' region_whole _ _ (by kernel_rfl) (by kernel_rfl) _; rotate_left 2; (exact Below.refl _ _; rfl); (repeat (go_big_quiet_step (first | fail))); refine wpQuiet_nil ?_; intro z
                      go_wp2_with fail
                      go_roundw
                      case rel => exact ⟨q + 1, by omega, by simp, by rw [show frB (kb : Int) B.l _ _ _ (q + 1) F = _ from hst], nextB z.below hBz1⟩
                      case measure => simp [intOf]; omega
            · have h1b : ((kb : Int) == sb) = false := by simpa using h1
              refine' region_whole _ _ (by kernel_rfl) (by kernel_rfl) _; rotate_left 2; (exact Below.refl _ _; rfl); (repeat (go_big_quiet_step (first | fail))); refine wpQuiet_nil ?_; intro z
              have hz1 := z.below
              have hBz1 : Below V2.heap.size V2 z.val := nextB hz1 (hBk.alloc hwk _)
              go_wp2_with fail
              by_cases h3 : tk = 3
              · subst h3
                have hfr : frS (kb : Int) q ⟨3, tv, ⟨top, ⟨s1, sa1, sb1⟩, ⟨s2, sa2, sb2⟩⟩⟩ sb sk ⟨xop, ⟨x1, xa1, xb1⟩, ⟨x2, xa2, xb2⟩⟩ F1 = F1 := by unfold frS; simp [h1]
                have hst := (show _ = _ from hst).trans hfr
                have hst := (hst : Hid _)
                clear hfr
                refine' region_whole _ _ (by kernel_rfl) (by kernel_rfl) _; rotate_left 2; (exact Below.refl _ _; rfl); (repeat (go_big_quiet_step (first | fail))); refine wpQuiet_nil ?_; intro z
                go_wp2_with fail
                go_roundw
                case rel => exact ⟨q + 1, by omega, by simp, by rw [show frB (kb : Int) B.l _ _ _ (q + 1) F = _ from hst], nextB z.below hBz1⟩
                case measure => simp [intOf]; omega
              · have h3b : (tk != 3) = true := by simp [h3]
                by_cases h4 : tv = x1
                · subst h4
                  have hfr : frS (kb : Int) q ⟨tk, tv, ⟨top, ⟨s1, sa1, sb1⟩, ⟨s2, sa2, sb2⟩⟩⟩ sb sk ⟨xop, ⟨tv, xa1, xb1⟩, ⟨x2, xa2, xb2⟩⟩ F1 = false := by unfold frS; simp [h3]
                  have hst := (show _ = _ from hst).trans hfr
                  have hst := (hst : Hid _)
                  clear hfr
                  refine' region_whole _ _ (by kernel_rfl) (by kernel_rfl) _; rotate_left 2; (exact Below.refl _ _; rfl); (repeat (go_big_quiet_step (first | fail))); refine wpQuiet_nil ?_; intro z
                  go_wp2_with fail
                  go_roundw
                  case rel => exact ⟨q + 1, by omega, by simp, by rw [show frB (kb : Int) B.l _ _ _ (q + 1) F = _ from hst], nextB z.below hBz1⟩
                  case measure => simp [intOf]; omega
                · have h4s : (tv.toList == x1.toList) = false := by simpa using fun h => h4 (toList_inj h)
                  by_cases h5 : tv = x2
                  · subst h5
                    have hfr : frS (kb : Int) q ⟨tk, tv, ⟨top, ⟨s1, sa1, sb1⟩, ⟨s2, sa2, sb2⟩⟩⟩ sb sk ⟨xop, ⟨x1, xa1, xb1⟩, ⟨tv, xa2, xb2⟩⟩ F1 = false := by unfold frS; simp [h3]
                    have hst := (show _ = _ from hst).trans hfr
                    have hst := (hst : Hid _)
                    clear hfr
                    refine' region_whole _ _ (by kernel_rfl) (by kernel_rfl) _; rotate_left 2; (exact Below.refl _ _; rfl); (repeat (go_big_quiet_step (first | fail))); refine wpQuiet_nil ?_; intro z
                    go_wp2_with fail
                    go_roundw
                    case rel => exact ⟨q + 1, by omega, by simp, by rw [show frB (kb : Int) B.l _ _ _ (q + 1) F = _ from hst], nextB z.below hBz1⟩
                    case measure => simp [intOf]; omega
                  · have h5s : (tv.toList == x2.toList) = false := by simpa using fun h => h5 (toList_inj h)
                    have hfr : frS (kb : Int) q ⟨tk, tv, ⟨top, ⟨s1, sa1, sb1⟩, ⟨s2, sa2, sb2⟩⟩⟩ sb sk ⟨xop, ⟨x1, xa1, xb1⟩, ⟨x2, xa2, xb2⟩⟩ F1 = F1 := by unfold frS; simp [h3, h4, h5, h1]
                    have hst := (show _ = _ from hst).trans hfr
                    have hst := (hst : Hid _)
                    clear hfr
                    refine' region_whole _ _ (by kernel_rfl) (by kernel_rfl) _; rotate_left 2; (exact Below.refl _ _; rfl); (repeat (go_big_quiet_step (first | fail))); refine wpQuiet_nil ?_; intro z
                    go_wp2_with fail
                    go_roundw
                    case rel => exact ⟨q + 1, by omega, by simp, by rw [show frB (kb : Int) B.l _ _ _ (q + 1) F = _ from hst], nextB z.below hBz1⟩
                    case measure => simp [intOf]; omega
          · have hks : q = B.l.length := by omega
            have hqt2 : ¬ (q : Int) < B.l.length := by omega
            have hHw2 : Hid (frW P L sb sk x (j + 1) = frB (kb : Int) B.l sb sk x q F) := by rw [hks]; exact hHw
            clear hks
            go_wp2_with fail
            go_roundw
            case rel => exact ⟨j + 1, by omega, by simp, by rw [show frW P L sb sk x (j + 1) = _ from hHw2], hBz⟩
            case measure => simp [intOf]; omega
      · have hks : j = m := by omega
        subst hks
        have hlt2 : ¬ (j : Int) < j := by omega
        clear hvc hvp
        go_wp2_with fail
        go_ret
        exact ⟨rfl, hBw⟩
  have hKK := And.intro True.intro hK7
  clear hK hK7
  have hd : Below V.heap.size V V.drew := (Below.refl V.heap.size V).drew
  have y0 := cell_of_one h6
  have yd := nextC hd y0
  have yl := World.block_lt_of_cell? _ _ yd
  have hBd := nextB hd hBV
  clear hpc hvc hke hse
  first | (go_region_law (first | (refine stepS rfl 36 #[.agg #[.slice p P.length cap]] (fun v : Value => v) (fun (v : Value) w' => Sl w' v Ex.cs (exprsOf P)) ?hop1 (hex _ hBd) ?_; (case hop1 => (go_simp; done)); intro ev q1 hoE hq1; obtain ⟨ep, ec, rfl⟩ : ∃ p c, ev = .slice p (exprsOf P).length c := sl_len hoE; have yq := nextC hq1 yd; have ylq := World.block_lt_of_cell? _ _ yq; have hBq := nextB hq1 hBd) | (refine stepS rfl 37 #[.agg #[.slice p P.length cap]] (fun v : Value => v) (fun (v : Value) w' => Sl w' v Si.cs (sitesOf P)) ?hop2 (hsi _ hBq) ?_; (case hop2 => (go_simp; done)); intro sv9 q2 hoS hq2; obtain ⟨sp, sc, rfl⟩ : ∃ p c, sv9 = .slice p (sitesOf P).length c := sl_len hoS))) | fail
  all_goals (refine hKK.2 _ q2 ep ec sp sc rfl (nextB hq2 (nextB hq1 hd)) (hoE.below hq2) hoS)

end Go.Proofs.Ytaaklejkngpddaa.Pr

namespace Go.Proofs.Ytaaklejkngpddaa.Pr
set_option linter.unusedVariables false
set_option linter.unusedSimpArgs false
open Go Go.RowKit

theorem lastW_all (P : List Bl) (S : List Si) (L : List Ps) (n0 : List Int) : ∀ m, m ≤ L.length → (lastW P S L n0 m).1.length = m ∧ ∀ i, i < m → (lastW P S L n0 m).1[i]? = some (lastW P S L n0 i).2
  | 0, _ => ⟨rfl, fun i hi => by omega⟩
  | m + 1, hm => by
    have ih := lastW_all P S L n0 m (by omega)
    have e : (lastW P S L n0 (m + 1)).1 = (lastW P S L n0 m).1 ++ [(lastW P S L n0 m).2] := by
      simp only [lastW, List.getElem?_eq_getElem (show m < L.length by omega)]
    rw [e]
    refine ⟨by simp [ih.1], fun i hi => ?_⟩
    by_cases h : i = m
    · subst h
      rw [List.getElem?_append_right (by omega), ih.1]
      simp
    · rw [List.getElem?_append_left (by omega)]
      exact ih.2 i (by omega)
theorem knownW_all (P : List Bl) (E : List Ex) (L : List Ps) (n0 : List Bool) : ∀ m, m ≤ L.length → (knownW P E L n0 m).1.length = m ∧ ∀ i, i < m → (knownW P E L n0 m).1[i]? = some (idxT (knownW P E L n0 i).2 (knownW P E L n0 i).2.length)
  | 0, _ => ⟨rfl, fun i hi => by omega⟩
  | m + 1, hm => by
    have ih := knownW_all P E L n0 m (by omega)
    have e : (knownW P E L n0 (m + 1)).1 = (knownW P E L n0 m).1 ++ [idxT (knownW P E L n0 m).2 (knownW P E L n0 m).2.length] := by
      simp only [knownW, List.getElem?_eq_getElem (show m < L.length by omega)]
    rw [e]
    refine ⟨by simp [ih.1], fun i hi => ?_⟩
    by_cases h : i = m
    · subst h
      rw [List.getElem?_append_right (by omega), ih.1]
      simp
    · rw [List.getElem?_append_left (by omega)]
      exact ih.2 i (by omega)
theorem idxT_mem (now : List Bool) : ∀ n, ∀ c ∈ idxT now n, ∃ k : Nat, c = k ∧ k < n
  | 0, c, h => by simp [idxT] at h
  | n + 1, c, h => by
    unfold idxT at h
    split at h
    · rcases List.mem_append.1 h with h | h
      · obtain ⟨k, h1, h2⟩ := idxT_mem now n c h
        exact ⟨k, h1, by omega⟩
      · exact ⟨n, List.mem_singleton.1 h, by omega⟩
    · obtain ⟨k, h1, h2⟩ := idxT_mem now n c h
      exact ⟨k, h1, by omega⟩

theorem eqA_eq {x y : At} (h : eqA x y = true) : x = y := by
  obtain ⟨v, a, b⟩ := x
  obtain ⟨v2, a2, b2⟩ := y
  simp only [eqA, Bool.and_eq_true, beq_iff_eq] at h
  obtain ⟨h1, h2, h3⟩ := h
  rw [toList_inj h1, h2, h3]
theorem eqE_eq {x y : Ex} (h : eqE x y = true) : x = y := by
  obtain ⟨o, a, b⟩ := x
  obtain ⟨o2, a2, b2⟩ := y
  simp only [eqE, Bool.and_eq_true, beq_iff_eq] at h
  obtain ⟨h1, h2, h3⟩ := h
  have h1 : o = o2 := h1
  have h2 := eqA_eq h2
  have h3 := eqA_eq h3
  have h2 : a = a2 := h2
  have h3 : b = b2 := h3
  rw [h1, h2, h3]

/-- What the list of a visit's last sites tells. -/
theorem vals_at {P : List Bl} (hc : checkOf P = 0) (hl : ∀ b ∈ P, b.l.length ≤ 12) {I : List Nu} (n : Nat) (i : Nat) (p : Ps) (hp : (fromS P I n (beginS P) true).1[i]? = some p) (a : Nat) (c : Int) (h : (lastW P (sitesOf P) (fromS P I n (beginS P) true).1 (nowK (vars P).length (vars P).length) i).2[a]? = some c) :
    ∃ s : Nat, c = s ∧ a < p.r.e.length ∧ ((∃ v, (sitesOf P)[s]? = some ⟨-1, 0, v⟩) ∨ ∃ (b k : Nat) (B : Bl) (t : St), P[b]? = some B ∧ B.l[k]? = some t ∧ (sitesOf P)[s]? = some ⟨b, k, t.v⟩ ∧ (t.k = 1 → frW P (fromS P I n (beginS P) true).1 b k t.e i = true → p.r.e[a]? = some (evalE P p.r.e t.e))) := by
  have k0 := kept_visit hc hl (I := I) n (sb := P.length) (sk := 0) (sv := ⟨#[]⟩) (x := default) (fun C s h1 _ => by rw [List.getElem?_eq_none (Nat.le_refl _)] at h1; cases h1) i p hp
  obtain ⟨s, rfl, y, hy, _⟩ := k0.own a c h
  have hal : a < p.r.e.length := by rw [k0.el, ← k0.nl]; exact (List.getElem?_eq_some_iff.1 h).1
  refine ⟨s, rfl, hal, ?_⟩
  have hm := List.mem_iff_getElem?.2 ⟨s, hy⟩
  unfold sitesOf at hm
  rcases List.mem_append.1 hm with hm | hm
  · obtain ⟨v, _, rfl⟩ := List.mem_map.1 hm
    exact .inl ⟨v, hy⟩
  · obtain ⟨b, B, k, t, h1, h2, rfl, h4⟩ := blSites_var hm
    refine .inr ⟨b, k, B, t, h1, h2, hy, fun hk hfr => ?_⟩
    have k1 := kept_visit hc hl (I := I) n (sb := b) (sk := k) (sv := t.v) (x := t.e) (fun C s h5 h6 => by
      rw [h1] at h5
      obtain rfl := Option.some.inj h5
      rw [h2] at h6
      obtain rfl := Option.some.inj h6
      exact ⟨rfl, hk⟩) i p hp
    exact k1.val hfr a s h hy

def fewT (P : List Bl) (I : List Nu) : Bool := smallB P && decide (I.length ≤ 40)
theorem fewT_le {P : List Bl} {I : List Nu} (hf : fewT P I = true) : P.length ≤ 12 ∧ (∀ b ∈ P, b.l.length ≤ 12) ∧ I.length ≤ 40 := by
  simp only [fewT, Bool.and_eq_true, decide_eq_true_eq] at hf
  exact ⟨(small_len hf.1).1, (small_len hf.1).2.1, hf.2⟩

set_option maxRecDepth 100000 in
theorem few9_any (P : List Bl) (I : List Nu) (pv iv : Value) (hcp : CapOk pv) (w : World) (h : Pg w pv P) (hI : Sl w iv Nu.cs I) :
    Calls Try.prog 33 #[.agg #[pv], iv] w fun e w' => e = .returned (.bool (fewT P I)) ∧ Below w.heap.size w w' := by
  unfold fewT
  obtain ⟨p, cap, rfl⟩ : ∃ p cap, pv = .slice p P.length cap := by obtain ⟨b, off, p, cap, hv, _⟩ := h.1; exact ⟨p, cap, hv⟩
  obtain ⟨ip, ic, rfl⟩ : ∃ p cap, iv = .slice p I.length cap := by obtain ⟨b, off, p, cap, hv, _⟩ := hI; exact ⟨p, cap, hv⟩
  have hb1 : Below w.heap.size w (w.alloc (.cells #[.slice p P.length cap] 24)) := (Below.refl _ _).alloc (Nat.le_refl _) _
  have hs := small_any P _ _ (h.below hb1)
  clear h hI
  generalize smallB P = S at hs ⊢
  cases S
  · simp only [Bool.false_and]
    go_enter Try.func33, Try.ntmps33
    go_wp2_with (go_at_call 39; refine' Calls.aft _ _ (hs) _; rotate_left 2; (first | (with_reducible exact After.below _; rfl) | (with_reducible exact below_drew (After.below _); rfl) | (with_reducible exact below_set (After.below _) _ _; (go_simp; rfl)) | (with_reducible exact below_set (below_set (After.below _) _ _) _ _; (go_simp; rfl)) | (with_reducible exact below_set (below_set (below_set (After.below _) _ _) _ _) _ _; (go_simp; rfl)) | (with_reducible exact below_set (below_set (below_set (below_set (After.below _) _ _) _ _) _ _) _ _; (go_simp; rfl)) | (exact Below.refl _ _; rfl)); intro x1; have hle := After.le x1; (try simp at hle))
    go_ret
    exact ⟨rfl, hb1.trans (x1.below.mono hb1.size)⟩
  · simp only [Bool.true_and]
    by_cases h2 : I.length ≤ 40
    · have h2' : (I.length : Int) ≤ 40 := by omega
      have h2b : decide ((I.length : Int) ≤ 40) = true := decide_eq_true h2'
      rw [decide_eq_true h2]
      go_enter Try.func33, Try.ntmps33
      go_wp2_with (go_at_call 39; refine' Calls.aft _ _ (hs) _; rotate_left 2; (first | (with_reducible exact After.below _; rfl) | (with_reducible exact below_drew (After.below _); rfl) | (with_reducible exact below_set (After.below _) _ _; (go_simp; rfl)) | (with_reducible exact below_set (below_set (After.below _) _ _) _ _; (go_simp; rfl)) | (with_reducible exact below_set (below_set (below_set (After.below _) _ _) _ _) _ _; (go_simp; rfl)) | (with_reducible exact below_set (below_set (below_set (below_set (After.below _) _ _) _ _) _ _) _ _; (go_simp; rfl)) | (exact Below.refl _ _; rfl)); intro x1; have hle := After.le x1; (try simp at hle))
      go_ret
      exact ⟨by first | rfl | (simp [h2b]; done) | (simp; omega), hb1.trans (x1.below.mono hb1.size)⟩
    · have h2' : ¬ (I.length : Int) ≤ 40 := by omega
      have h2b : decide ((I.length : Int) ≤ 40) = false := decide_eq_false h2'
      rw [decide_eq_false h2]
      go_enter Try.func33, Try.ntmps33
      go_wp2_with (go_at_call 39; refine' Calls.aft _ _ (hs) _; rotate_left 2; (first | (with_reducible exact After.below _; rfl) | (with_reducible exact below_drew (After.below _); rfl) | (with_reducible exact below_set (After.below _) _ _; (go_simp; rfl)) | (with_reducible exact below_set (below_set (After.below _) _ _) _ _; (go_simp; rfl)) | (with_reducible exact below_set (below_set (below_set (After.below _) _ _) _ _) _ _; (go_simp; rfl)) | (with_reducible exact below_set (below_set (below_set (below_set (After.below _) _ _) _ _) _ _) _ _; (go_simp; rfl)) | (exact Below.refl _ _; rfl)); intro x1; have hle := After.le x1; (try simp at hle))
      go_ret
      exact ⟨by first | rfl | (simp [h2b]; done) | (simp; omega), hb1.trans (x1.below.mono hb1.size)⟩

set_option maxRecDepth 100000 in
set_option maxHeartbeats 4000000 in
theorem tripsValues_few (P : List Bl) (I : List Nu) (most : Int) (pv : Value) (hcp : CapOk pv) (iv : Value) (w : World) (h : Pg w pv P) (hI : Sl w iv Nu.cs I) (hf : fewT P I = false) :
    Calls Try.prog 8 #[.agg #[pv], iv, .int .i64 most] w fun e w' => e = .returned (.bool true) ∧ Below w.heap.size w w' := by
  obtain ⟨p, cap, rfl⟩ : ∃ p cap, pv = .slice p P.length cap := by obtain ⟨b, off, p, cap, hv, _⟩ := h.1; exact ⟨p, cap, hv⟩
  have hfw := fun (W : World) (hB : Below w.heap.size w W) => few9_any P I _ iv hcp W (h.below hB) (hI.below hB)
  obtain ⟨ip, ic, rfl⟩ : ∃ p cap, iv = .slice p I.length cap := by obtain ⟨b, off, p, cap, hv, _⟩ := hI; exact ⟨p, cap, hv⟩
  have hb1 : Below w.heap.size w (w.alloc (.cells #[.slice p P.length cap] 24)) := (Below.refl _ _).alloc (Nat.le_refl _) _
  rw [hf] at hfw
  clear h hI hcp hf
  go_enter Try.func8, Try.ntmps8
  go_wp2_with (first | (go_at_call 31; refine' Calls.aft _ _ (awake9_any _) _; rotate_left 2; (first | (with_reducible exact After.below _; rfl) | (with_reducible exact below_drew (After.below _); rfl) | (with_reducible exact below_set (After.below _) _ _; (go_simp; rfl)) | (with_reducible exact below_set (below_set (After.below _) _ _) _ _; (go_simp; rfl)) | (with_reducible exact below_set (below_set (below_set (After.below _) _ _) _ _) _ _; (go_simp; rfl)) | (with_reducible exact below_set (below_set (below_set (below_set (After.below _) _ _) _ _) _ _) _ _; (go_simp; rfl)) | (exact Below.refl _ _; rfl)); intro x1; have hle := After.le x1; (try simp at hle)) | (go_at_call 33; refine' Calls.aft _ _ (hfw _ (hb1.trans (x1.below.mono hb1.size))) _; rotate_left 2; (first | (with_reducible exact After.below _; rfl) | (with_reducible exact below_drew (After.below _); rfl) | (with_reducible exact below_set (After.below _) _ _; (go_simp; rfl)) | (with_reducible exact below_set (below_set (After.below _) _ _) _ _; (go_simp; rfl)) | (with_reducible exact below_set (below_set (below_set (After.below _) _ _) _ _) _ _; (go_simp; rfl)) | (with_reducible exact below_set (below_set (below_set (below_set (After.below _) _ _) _ _) _ _) _ _; (go_simp; rfl)) | (exact Below.refl _ _; rfl)); intro x2; have hle := After.le x2; (try simp at hle)))
  go_ret
  refine ⟨rfl, ?_⟩
  (repeat (first | exact Below.refl _ _ | apply Below.drew | refine Below.alloc ?_ ?_ _ | refine Below.setCell ?_ ?_ _ | refine Below.trans ?_ (Below.mono (After.below _) ?_))); (all_goals (first | (simp; done) | (simp; omega) | omega))

set_option maxRecDepth 100000 in
set_option maxHeartbeats 4000000 in
theorem tripsValues_bad (P : List Bl) (I : List Nu) (most : Int) (pv : Value) (hcp : CapOk pv) (iv : Value) (w : World) (h : Pg w pv P) (hI : Sl w iv Nu.cs I) (hf : fewT P I = true) (hc : checkOf P ≠ 0) :
    Calls Try.prog 8 #[.agg #[pv], iv, .int .i64 most] w fun e w' => e = .returned (.bool true) ∧ Below w.heap.size w w' := by
  obtain ⟨h12, hl12, hIl⟩ := fewT_le hf
  obtain ⟨p, cap, rfl⟩ : ∃ p cap, pv = .slice p P.length cap := by obtain ⟨b, off, p, cap, hv, _⟩ := h.1; exact ⟨p, cap, hv⟩
  have hfw := fun (W : World) (hB : Below w.heap.size w W) => few9_any P I _ iv hcp W (h.below hB) (hI.below hB)
  have hck := fun (W : World) (hB : Below w.heap.size w W) => rcheck_any P h12 hl12 _ hcp W (h.below hB)
  obtain ⟨ip, ic, rfl⟩ : ∃ p cap, iv = .slice p I.length cap := by obtain ⟨b, off, p, cap, hv, _⟩ := hI; exact ⟨p, cap, hv⟩
  have hb1 : Below w.heap.size w (w.alloc (.cells #[.slice p P.length cap] 24)) := (Below.refl _ _).alloc (Nat.le_refl _) _
  rw [hf] at hfw
  generalize checkOf P = X at hc hck
  have hcb : (X != 0) = true := by simpa using hc
  clear h hI hcp hf
  go_enter Try.func8, Try.ntmps8
  go_wp2_with (first | (go_at_call 31; refine' Calls.aft _ _ (awake9_any _) _; rotate_left 2; (first | (with_reducible exact After.below _; rfl) | (with_reducible exact below_drew (After.below _); rfl) | (with_reducible exact below_set (After.below _) _ _; (go_simp; rfl)) | (with_reducible exact below_set (below_set (After.below _) _ _) _ _; (go_simp; rfl)) | (with_reducible exact below_set (below_set (below_set (After.below _) _ _) _ _) _ _; (go_simp; rfl)) | (with_reducible exact below_set (below_set (below_set (below_set (After.below _) _ _) _ _) _ _) _ _; (go_simp; rfl)) | (exact Below.refl _ _; rfl)); intro x1; have hle := After.le x1; (try simp at hle)) | (go_at_call 33; refine' Calls.aft _ _ (hfw _ (hb1.trans (x1.below.mono hb1.size))) _; rotate_left 2; (first | (with_reducible exact After.below _; rfl) | (with_reducible exact below_drew (After.below _); rfl) | (with_reducible exact below_set (After.below _) _ _; (go_simp; rfl)) | (with_reducible exact below_set (below_set (After.below _) _ _) _ _; (go_simp; rfl)) | (with_reducible exact below_set (below_set (below_set (After.below _) _ _) _ _) _ _; (go_simp; rfl)) | (with_reducible exact below_set (below_set (below_set (below_set (After.below _) _ _) _ _) _ _) _ _; (go_simp; rfl)) | (exact Below.refl _ _; rfl)); intro x2; have hle := After.le x2; (try simp at hle)) | (go_at_call 23; refine' Calls.aft _ _ (hck _ (hb1.trans (x2.below.mono hb1.size))) _; rotate_left 2; (first | (with_reducible exact After.below _; rfl) | (with_reducible exact below_drew (After.below _); rfl) | (with_reducible exact below_set (After.below _) _ _; (go_simp; rfl)) | (with_reducible exact below_set (below_set (After.below _) _ _) _ _; (go_simp; rfl)) | (with_reducible exact below_set (below_set (below_set (After.below _) _ _) _ _) _ _; (go_simp; rfl)) | (with_reducible exact below_set (below_set (below_set (below_set (After.below _) _ _) _ _) _ _) _ _; (go_simp; rfl)) | (exact Below.refl _ _; rfl)); intro x5; have hle := After.le x5; (try simp at hle)))
  go_ret
  refine ⟨by first | rfl | simp, ?_⟩
  (repeat (first | exact Below.refl _ _ | apply Below.drew | refine Below.alloc ?_ ?_ _ | refine Below.setCell ?_ ?_ _ | refine Below.trans ?_ (Below.mono (After.below _) ?_))); (all_goals (first | (simp; done) | (simp; omega) | omega))

end Go.Proofs.Ytaaklejkngpddaa.Pr
