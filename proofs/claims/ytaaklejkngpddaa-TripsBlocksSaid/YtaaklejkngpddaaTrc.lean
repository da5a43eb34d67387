/- soughlaw09.awake: it answers true. WALK of trips.Blocks; TripsBlocks: it answers true. ARGUMENTS that are lists of ints. -/
import Derived.Test.YtaaklejkngpddaaTrb
import Derived.Test.YtaaklejkngpddaaTra
import Derived.Test.YtaaklejkngpddaaExc
namespace Go.Proofs.Ytaaklejkngpddaa.Pr
set_option linter.unusedVariables false
set_option linter.unusedSimpArgs false
open Go Go.RowKit

def t9 : Te := ⟨1, zA, ⟨#[97]⟩, ⟨#[]⟩⟩
/-- The example's program. -/
def P9 (lv : Value) : List Bl := [⟨⟨#[97]⟩, [sA8], t9, lv⟩]
theorem P9_vars (lv : Value) : vars (P9 lv) = [⟨#[120]⟩] := by
  show putS (putS (putS (putS [] ⟨#[120]⟩) ⟨#[]⟩) ⟨#[]⟩) ⟨#[]⟩ = _
  decide +kernel
theorem P9_sites (lv : Value) : sitesOf (P9 lv) = [⟨-1, 0, ⟨#[120]⟩⟩, ⟨0, 0, ⟨#[120]⟩⟩] := by
  unfold sitesOf
  rw [P9_vars]
  rfl
theorem P9_check (lv : Value) : checkOf (P9 lv) = 0 := by
  refine check_0 (by simp [P9]) (by simp [P9]) (by simp [P9]) ?_ (by rw [P9_vars]; decide) (fun k hk => ?_) (fun k hk => ?_)
  · show (blockB _ && true) = true
    rw [blockB_def]
    show ((Tk.nameB ⟨#[97]⟩ && (termB t9 && (stmtB sA8 && true))) && true) = true
    have ht : termB t9 = true := by
      unfold termB
      simp only [t9]
      first | (rw [if_pos (by decide)]; show (Tk.nameB ⟨#[97]⟩ && _) = true; rw [nameB8_a]; decide +kernel) | trace_state
    rw [nameB8_a, stmt_A8, ht]
    decide +kernel
  · have : k = 0 := by simp [P9] at hk; exact hk
    subst this
    rfl
  · have : k = 0 := by simp [P9] at hk; exact hk
    subst this
    rfl
theorem P9_begin (lv : Value) : beginS (P9 lv) = ⟨((0 : Nat) : Int), ⟨[zN], 0, []⟩⟩ := by unfold beginS; rw [P9_vars]; rfl
theorem P9_do (lv : Value) : runB (P9 lv) [] ⟨[zN], 0, []⟩ [sA8] = ⟨[zN], 1, []⟩ := by
  show doS (P9 lv) [] ⟨[zN], 0, []⟩ sA8 = _
  rw [doS_2 (s := sA8) rfl, P9_vars]
  kernel_rfl
theorem P9_next (lv : Value) (E : List Nu) : nextI (P9 lv) ((P9 lv)[0]'(by simp [P9])) E ((0 : Nat) : Int) = ((0 : Nat) : Int) := by
  have ht : ((P9 lv)[0]'(by simp [P9])).t = t9 := rfl
  unfold nextI toN
  rw [ht, if_neg (by decide), if_neg (fun h => by have := h.1; revert this; decide)]
  rfl
theorem P9_run (lv : Value) : ∃ st, fromS (P9 lv) [] (capN 2) (beginS (P9 lv)) true = ([⟨((0 : Nat) : Int), ⟨[zN], 0, []⟩⟩, ⟨((0 : Nat) : Int), ⟨[zN], 1, []⟩⟩], st) := by
  have e : ((P9 lv)[0]'(by simp [P9])).l = [sA8] := rfl
  have g : goesB ((P9 lv)[0]'(by simp [P9])) = true := rfl
  rw [P9_begin, show capN 2 = (0 + 1) + 1 from rfl, fromS_succ, adv_at (P := P9 lv) (by simp [P9] : 0 < (P9 lv).length), e, P9_do, g, P9_next, fromS_succ]
  exact ⟨_, rfl⟩
theorem P9_last (lv : Value) (r0 r1 : Rs) : (lastW (P9 lv) [⟨-1, 0, ⟨#[120]⟩⟩, ⟨0, 0, ⟨#[120]⟩⟩] [⟨((0 : Nat) : Int), r0⟩, ⟨((0 : Nat) : Int), r1⟩] (nowK 1 1) 2).1 = [[0], [1]] := by
  have h1 : (lastW (P9 lv) [⟨-1, 0, ⟨#[120]⟩⟩, ⟨0, 0, ⟨#[120]⟩⟩] [⟨((0 : Nat) : Int), r0⟩, ⟨((0 : Nat) : Int), r1⟩] (nowK 1 1) 2).1 = [nowK 1 1, putI (P9 lv) [⟨-1, 0, ⟨#[120]⟩⟩, ⟨0, 0, ⟨#[120]⟩⟩] ⟨0, 0, ⟨#[120]⟩⟩ 2 (nowK 1 1)] := rfl
  have h2 : putI (P9 lv) [⟨-1, 0, ⟨#[120]⟩⟩, ⟨0, 0, ⟨#[120]⟩⟩] ⟨0, 0, ⟨#[120]⟩⟩ 2 (nowK 1 1) = [1] := by
    simp only [putI]
    rw [P9_vars]
    decide +kernel
  rw [h1, h2]
  rfl

theorem two_lists {X : List Lv} {a b : List Int} (h : X.map Lv.l = [a, b]) : ∃ v1 v2, X = [⟨a, v1⟩, ⟨b, v2⟩] := by
  cases X with
  | nil => simp at h
  | cons x X =>
    cases X with
    | nil => simp at h
    | cons y X =>
      cases X with
      | cons z X => simp at h
      | nil =>
        obtain ⟨l1, v1⟩ := x
        obtain ⟨l2, v2⟩ := y
        simp at h
        obtain ⟨rfl, rfl⟩ := h
        exact ⟨v1, v2, rfl⟩

def R2 : Obj := .cells #[.int .i64 2, .string ⟨#[120]⟩, .int .i64 0, .string ⟨#[]⟩, .int .i64 0, .int .i64 0, .string ⟨#[]⟩, .int .i64 0, .int .i64 0] 90
def R3 (w : World) : Obj := .cells #[.string ⟨#[97]⟩, .slice (some ⟨w.heap.size, 0, none⟩) 1 1, .int .i64 1, .string ⟨#[]⟩, .int .i64 0, .int .i64 0, .string ⟨#[97]⟩, .string ⟨#[]⟩] 95
def R4 (w : World) : Obj := .cells #[.slice (some ⟨w.heap.size + 1, 0, none⟩) 1 1] 24
def V9 (w : World) : World := ((w.alloc R2).alloc (R3 w)).alloc (R4 w)
theorem V9_2 (w : World) : (V9 w).heap[w.heap.size]? = some R2 := by
  unfold V9
  rw [heap_alloc_old _ _ (by simp; try omega), heap_alloc_old _ _ (by simp)]
  exact heap_alloc_new _ _
theorem V9_3 (w : World) : (V9 w).heap[w.heap.size + 1]? = some (R3 w) := by
  unfold V9
  rw [heap_alloc_old _ _ (by simp; try omega), show w.heap.size + 1 = (w.alloc R2).heap.size by simp]
  exact heap_alloc_new _ _
theorem V9_below (w : World) : Below w.heap.size w (V9 w) := (((Below.refl _ _).alloc (Nat.le_refl _) _).alloc (by simp) _).alloc (by simp; try omega) _
theorem V9_pg (w : World) : Pg (V9 w) (.slice (some ⟨w.heap.size + 1, 0, none⟩) 1 1) (P9 (.slice (some ⟨w.heap.size, 0, none⟩) 1 1)) := by
  refine ⟨Sl.lit (P9 (.slice (some ⟨w.heap.size, 0, none⟩) 1 1)) rfl rfl (V9_3 w), fun b hb => ?_⟩
  have : b = ⟨⟨#[97]⟩, [sA8], t9, .slice (some ⟨w.heap.size, 0, none⟩) 1 1⟩ := by simpa [P9] using hb
  subst this
  exact Sl.lit [sA8] rfl rfl (V9_2 w)

set_option maxRecDepth 100000 in
theorem awake9_any (w : World) : Calls Try.prog 31 #[] w fun e w' => e = .returned (.bool true) ∧ Below w.heap.size w w' := by
  have hal := last_ok (P9 (.slice (some ⟨w.heap.size, 0, none⟩) 1 1)) [] (P9_check _) 2 _ (.slice none 0 0) _ (V9_pg w) (by simp [P9]) (by simp [P9, sA8]) Sl.nil
  obtain ⟨st, hr⟩ := P9_run (.slice (some ⟨w.heap.size, 0, none⟩) 1 1)
  rw [hr, P9_sites, P9_vars] at hal
  have hl := P9_last (.slice (some ⟨w.heap.size, 0, none⟩) 1 1) ⟨[zN], 0, []⟩ ⟨[zN], 1, []⟩
  have hBW := V9_below w
  have hal : Calls Try.prog 35 #[.agg #[.slice (some ⟨w.heap.size + 1, 0, none⟩) 1 1], .slice none 0 0, .int .i64 2] (V9 w) fun e W' => ∃ ov, e = .returned (.tuple #[ov, .int .i64 0]) ∧ (∃ X : List Lv, X.map Lv.l = [[0], [1]] ∧ Sl W' ov Lv.cs X ∧ ∀ x ∈ X, Sl W' x.v ecI x.l) ∧ Below (V9 w).heap.size (V9 w) W' := by
    rw [← hl]
    exact hal
  clear hr hl
  unfold V9 R2 R3 R4 at hal hBW
  go_enter Try.func31, Try.ntmps31
  go_wp2_with (go_at_call 35; refine (hal).mono ?_; rintro e q ⟨ov, rfl, ⟨X, hX, hov, hXr⟩, hq⟩; obtain ⟨v1, v2, rfl⟩ := two_lists hX; obtain ⟨ob, off, op, oc, rfl, hop, hoc⟩ := hov.open Lv.cs_len; obtain rfl := hop (by simp); have r1 : Sl q v1 ecI [0] := hXr ⟨[0], v1⟩ (by simp); have r2 : Sl q v2 ecI [1] := hXr ⟨[1], v2⟩ (by simp); obtain ⟨b1, o1, p1, c1, rfl, hp1, hc1⟩ := r1.open ecI_len; obtain rfl := hp1 (by simp); obtain ⟨b2, o2, p2, c2, rfl, hp2, hc2⟩ := r2.open ecI_len; obtain rfl := hp2 (by simp); have k0 : q.cell? ⟨ob, off, none⟩ = some (.slice (some ⟨b1, o1, none⟩) 1 c1) := hoc 0 (by simp) 0 _ rfl; have k1 : q.cell? ⟨ob, off + 1, none⟩ = some (.slice (some ⟨b2, o2, none⟩) 1 c2) := hoc 1 (by simp) 0 _ rfl; have kl := World.block_lt_of_cell? _ _ k0; have m0 : q.cell? ⟨b1, o1, none⟩ = some (.int .i64 0) := hc1 0 (by simp) 0 _ rfl; have m1 : q.cell? ⟨b2, o2, none⟩ = some (.int .i64 1) := hc2 0 (by simp) 0 _ rfl; have ml := World.block_lt_of_cell? _ _ m0; have ml1 := World.block_lt_of_cell? _ _ m1)
  go_ret
  exact ⟨rfl, hBW.trans (hq.mono hBW.size)⟩

end Go.Proofs.Ytaaklejkngpddaa.Pr

namespace Go.Proofs.Ytaaklejkngpddaa.Pr
set_option linter.unusedVariables false
set_option linter.unusedSimpArgs false
open Go Go.RowKit

/-- A state of a block alone. -/
def ecT (b : Int) : List Value := [.int .i64 b, .slice none 0 0, .int .i64 0, .slice none 0 0]
theorem ecT_len (b : Int) : (ecT b).length = 4 := rfl
theorem snocI (L : List Int) (x : Int) : (L ++ [x]).flatMap ecI = L.flatMap ecI ++ [.int .i64 x] := by simp [ecI]
theorem snocT (L : List Int) (x : Int) : (L ++ [x]).flatMap ecT = L.flatMap ecT ++ ecT x := by simp

set_option maxRecDepth 100000 in
set_option maxHeartbeats 2000000 in
theorem blocks_any (L : List Int) (hl : L.length ≤ 1000) (vv : Value) (w : World) (h : Sl w vv ecT L) :
    Calls Try.prog 32 #[.agg #[vv, .slice none 0 0, .bool false]] w fun e w' => ∃ o, e = .returned o ∧ w'.ownsRow w.heap.size 3 1 o L.length (L.flatMap ecI) ∧ Below w.heap.size w w' := by
  obtain ⟨i0, hi, hz0, hz1, hz2⟩ := info_parts i_info
  obtain ⟨b, off, p, cap, rfl, hp, hc⟩ := h.open ecT_len
  go_enter Try.func32, Try.ntmps32
  go_wp2_with fail
  go_loopw [3, 9] (fun o i wr => ∃ k : Nat, k ≤ L.length ∧ i = .int .i64 k ∧ wr.ownsRow w.heap.size 3 1 o (L.take k).length ((L.take k).flatMap ecI) ∧ Below w.heap.size w wr) (fun _ i _ => L.length - (intOf i).toNat)
  case atStart => exact ⟨0, Nat.zero_le _, rfl, World.ownsRow_nil _ _ _ _, (Below.refl _ _).alloc (Nat.le_refl _) _⟩
  case round =>
    obtain ⟨k, hk, rfl, hown, hB⟩ := hrel
    have hsz := hB.size
    obtain ⟨op, oc, rfl⟩ := own_len hown
    by_cases hlt : k < L.length
    · obtain rfl := hp (by omega)
      have hlt2 : (k : Int) < L.length := by omega
      have hcr : ∀ r u, (ecT (L[k]'hlt))[r]? = some u → wr.cell? ⟨b, off + k * 4 + r, none⟩ = some u := fun r u hu => by
        rw [Nat.add_assoc]
        exact nextC hB (hc k hlt r u hu)
      have ht : L.take (k + 1) = L.take k ++ [L[k]'hlt] := List.take_succ_eq_append_getElem hlt
      have hHt : Hid (L.take (k + 1) = L.take k ++ [L[k]'hlt]) := ht
      clear hc ht
      generalize L[k]'hlt = x at hcr hHt
      have hxl : (L.take k).length ≤ 1000 := by rw [List.length_take]; omega
      generalize L.take k = X at hown hHt hxl
      have c0 : wr.cell? ⟨b, off + k * 4, none⟩ = some (.int .i64 x) := hcr 0 _ rfl
      have cl := World.block_lt_of_cell? _ _ c0
      have c1 : wr.cell? ⟨b, off + k * 4 + 1, none⟩ = some (.slice none 0 0) := hcr 1 _ rfl
      have c2 : wr.cell? ⟨b, off + k * 4 + 2, none⟩ = some (.int .i64 0) := hcr 2 _ rfl
      have c3 : wr.cell? ⟨b, off + k * 4 + 3, none⟩ = some (.slice none 0 0) := hcr 3 _ rfl
      clear hcr
      have hBa := (hB.alloc hsz (.cells #[.int .i64 x, .slice none 0 0, .int .i64 0, .slice none 0 0] 47)).alloc (by simp; omega) (.cells #[.int .i64 x] 3)
      go_wp2_with (at_builtin; refine wpList_append_own _ rfl _ _ 76 rfl w.heap.size 3 i0 (.int .i64 0) 1 8 Try.underlying76 hi hz0 hz1 hz2 rfl (by decide) _ X.length (X.flatMap ecI) rfl ((hown.alloc _).alloc _) _ 1 1 [.int .i64 x] rfl rfl (news_at (by simp)) (by intro u hu; simp at hu; subst hu; rfl) (by unfold maxLen; omega) (by omega) (by simp; omega) ?_; intro v2 w1 hown' hgrow _)
      have hlt1 := hown.lt
      have hB2 : Below w.heap.size w w1 := Below.grown (w := _) hBa hgrow (by simp; omega) (fun q hq => (hlt1 q hq).1)
      go_wp2_with fail
      go_roundw
      case rel => exact ⟨k + 1, by omega, by simp, by rw [show L.take (k + 1) = _ from hHt, snocI, List.length_append]; exact hown', hB2⟩
      case measure => simp [intOf]; omega
    · have hks : k = L.length := by omega
      subst hks
      have hlt2 : ¬ (L.length : Int) < L.length := by omega
      rw [List.take_length] at hown
      go_wp2_with fail
      refine bodyPost_ret (v := .slice op (L.take L.length).length oc) (by simp only [results, Try.results32]; go_simp) rfl ⟨_, rfl, ?_, hB⟩
      rw [List.take_length]
      exact hown

/-- The blocks so far are visits. -/
structure TI (w : World) (rb : Nat) (X : List Int) (wr : World) (vv : Value) : Prop where
  ob : wr.heap[rb]? = some (.cells #[vv, .slice none 0 0, .bool false] 53 (0, 0))
  row : wr.ownsRow rb 47 4 vv X.length (X.flatMap ecT)
  be : Below w.heap.size w wr
  hb : w.heap.size ≤ rb
theorem TI.below {w : World} {rb : Nat} {X : List Int} {wr q : World} {vv : Value} (h : TI w rb X wr vv) (hq : Below wr.heap.size wr q) : TI w rb X q vv := ⟨blk_next hq h.ob, own_below h.row hq, nextB hq h.be, h.hb⟩
theorem TI.visit {w : World} {rb : Nat} {X : List Int} {wr w1 : World} {vv v2 : Value} (h : TI w rb X wr vv) (x : Int) (hg : wr.grownBy w1 vv.ownBlock) (ho : w1.ownsRow rb 47 4 v2 (X.length + 1) (X.flatMap ecT ++ [.int .i64 x, .slice none 0 0, .int .i64 0, .slice none 0 0])) :
    TI w rb (X ++ [x]) (w1.setCell ⟨rb, 0, none⟩ v2) v2 := by
  have g4 : w1.heap[rb]? = some (.cells #[vv, .slice none 0 0, .bool false] 53 (0, 0)) := (hg.block _ (lt_of_some h.ob) (fun he => own_ne h.row h.ob (by decide) he.symm)).trans h.ob
  refine ⟨heap_setCell_same _ rb 0 _ _ v2 g4, ?_, ?_, h.hb⟩
  · rw [snocT, List.length_append]
    exact ownsRow_setCell_other ho (own_ne ho g4 (by decide)) _
  · exact (Below.grown (w := _) h.be hg h.be.size (fun q hq => Nat.le_trans h.hb (h.row.lt q hq).1)).setCell (p := ⟨rb, 0, none⟩) h.hb _

set_option maxRecDepth 100000 in
set_option maxHeartbeats 4000000 in
theorem tripsBlocks_any (L : List Int) (v : Value) (w : World) (h : Sl w v ecI L) :
    Calls Try.prog 7 #[v] w fun e w' => e = .returned (.bool true) ∧ Below w.heap.size w w' := by
  obtain ⟨i0, hi, hz0, hz1, hz2⟩ := info_parts sv_info
  obtain ⟨b, off, p, cap, rfl, hp, hc⟩ := h.open ecI_len
  by_cases hl : L.length ≤ 100
  · have hl1 : ¬ (100 : Int) < L.length := by omega
    go_enter Try.func7, Try.ntmps7
    go_wp2_with (go_at_call 31; refine' Calls.aft _ _ (awake9_any _) _; rotate_left 2; (exact Below.refl _ _; rfl); intro x1; have hle := After.le x1; (try simp at hle))
    have hx := x1.below
    obtain ⟨rb, hrb⟩ : ∃ rb, rb = x1.val.heap.size := ⟨_, rfl⟩
    obtain ⟨W1, hW1⟩ : ∃ W1, W1 = x1.val.alloc (.cells #[.slice none 0 0, .slice none 0 0, .bool false] 53) := ⟨_, rfl⟩
    have hT0 : TI w rb [] W1 (.slice none 0 0) := by
      rw [hW1, hrb]
      exact ⟨heap_alloc_new _ _, World.ownsRow_nil _ _ _ _, hx.alloc hx.size _, hx.size⟩
    show Code.wp _ _ _ _ (x1.val.alloc (.cells #[.slice none 0 0, .slice none 0 0, .bool false] 53))
    rw [← hW1, ← hrb]
    clear hW1 hrb
    go_loopw [15] (fun i wr => ∃ (k : Nat) (vv : Value), k ≤ L.length ∧ i = .int .i64 k ∧ TI w rb (L.take k) wr vv) (fun i _ => L.length - (intOf i).toNat)
    case atStart => exact ⟨0, _, Nat.zero_le _, rfl, hT0⟩
    case round =>
      obtain ⟨k, vv, hk, rfl, hT⟩ := hrel
      clear hT0
      have hB := hT.be
      have hsz := hB.size
      obtain ⟨op, oc, rfl⟩ := own_len hT.row
      obtain ⟨r0, r1, r2, _, rl⟩ := three hT.ob
      by_cases hlt : k < L.length
      · obtain rfl := hp (by omega)
        have hlt2 : (k : Int) < L.length := by omega
        have c0 : wr.cell? ⟨b, off + k, none⟩ = some (.int .i64 (L[k]'hlt)) := by
          have := hc k hlt 0 _ rfl
          rw [Nat.mul_one, Nat.add_zero] at this
          exact nextC hB this
        have cl := World.block_lt_of_cell? _ _ c0
        have hHt : Hid (L.take (k + 1) = L.take k ++ [L[k]'hlt]) := List.take_succ_eq_append_getElem hlt
        generalize L[k]'hlt = x at c0 hHt
        have hxl : (L.take k).length ≤ 1000 := by rw [List.length_take]; omega
        generalize L.take k = X at hT hHt hxl r0 r1 r2 rl
        have hTa := hT.below ((Below.refl wr.heap.size wr).alloc (Nat.le_refl _) (.cells #[.int .i64 x, .slice none 0 0, .int .i64 0, .slice none 0 0] 47))
        go_wp2_with (at_builtin; refine wpList_append_own _ rfl _ _ 51 rfl rb 47 i0 (.agg #[.int .i64 0, .slice none 0 0, .int .i64 0, .slice none 0 0]) 4 64 Try.underlying51 hi hz0 hz1 hz2 rfl (by decide) _ X.length (X.flatMap ecT) rfl hTa.row _ 1 1 [.int .i64 x, .slice none 0 0, .int .i64 0, .slice none 0 0] rfl rfl (news_at rfl) (by intro u hu; simp at hu; rcases hu with rfl | rfl | rfl | rfl <;> rfl) (by unfold maxLen; omega) (by omega) (by have := lt_of_some hTa.ob; omega) ?_; intro v6 W6 ho6 hg6 hv6; obtain ⟨wp6, wc6, rfl⟩ := own_len ho6; have hTn := hTa.visit x hg6 ho6; have g4 := (hg6.block rb (lt_of_some hTa.ob) (fun he => own_ne hTa.row hTa.ob (by decide) he.symm)).trans hTa.ob; obtain ⟨t0, t1, t2, tf, tl⟩ := three g4; have tf0 := tf 0)
        go_roundw
        case rel => exact ⟨k + 1, _, by omega, by simp, by rw [show L.take (k + 1) = _ from hHt]; exact hTn⟩
        case measure => simp [intOf]; omega
      · have hks : k = L.length := by omega
        subst hks
        have hlt2 : ¬ (L.length : Int) < L.length := by omega
        have hrow := hT.row
        rw [List.take_length] at hrow
        have hbk := blocks_any L (by omega) _ wr (Sl.of_own hrow)
        rw [List.take_length] at r0
        clear hT hrow
        go_wp2_with ((go_at_call 32; refine' Calls.aftS _ _ (hbk) _; rotate_left 2; (exact Below.refl _ _; rfl); intro o x2 ho; have hle := After.le x2; (try simp at hle)); obtain ⟨qp, qc, rfl⟩ := own_len ho)
        have hB2 := nextB x2.below hB
        obtain ⟨gb, goff, gp, gcap, hgv, hgp, hgc⟩ := (Sl.of_own ho : Sl x2.val (.slice qp L.length qc) ecI L).open ecI_len
        injection hgv with hgv1 _ hgv3
        subst hgv1 hgv3
        obtain ⟨W3, hW3⟩ : ∃ W3, W3 = x2.val := ⟨_, rfl⟩
        rw [← hW3] at hgc hB2
        rw [← hW3]
        clear hW3 ho r0 r1 r2 rl
        go_loopw [31] (fun i wq => ∃ k : Nat, k ≤ L.length ∧ i = .int .i64 k ∧ Below W3.heap.size W3 wq) (fun i _ => L.length - (intOf i).toNat)
        case atStart => exact ⟨0, Nat.zero_le _, rfl, Below.refl _ _⟩
        case round =>
          obtain ⟨k, hk, rfl, hBk⟩ := hrel
          by_cases hlt : k < L.length
          · obtain rfl := hp (by omega)
            obtain rfl := hgp (by omega)
            have hlt3 : (k : Int) < L.length := by omega
            have hlt4 : ¬ (L.length : Int) ≤ k := by omega
            have hlt5 : decide (L.length ≤ k) = false := decide_eq_false (by omega)
            have c0 : wr.cell? ⟨b, off + k, none⟩ = some (.int .i64 (L[k]'hlt)) := by
              have := hc k hlt 0 _ rfl
              rw [Nat.mul_one, Nat.add_zero] at this
              exact nextC (nextB hBk hB2) this
            have d0 : wr.cell? ⟨gb, goff + k, none⟩ = some (.int .i64 (L[k]'hlt)) := by
              have := hgc k hlt 0 _ rfl
              rw [Nat.mul_one, Nat.add_zero] at this
              exact nextC hBk this
            have cl := World.block_lt_of_cell? _ _ c0
            have dl := World.block_lt_of_cell? _ _ d0
            generalize L[k]'hlt = x at c0 d0
            go_wp2_with fail
            refine' region_whole _ _ (by kernel_rfl) (by kernel_rfl) _; rotate_left 2; (exact Below.refl _ _; rfl); (repeat (go_big_quiet_step (first | fail))); refine wpQuiet_nil ?_; intro z
            go_wp2_with fail
            go_roundw
            case rel => exact ⟨k + 1, by omega, by simp, hBk.trans (z.below.mono hBk.size)⟩
            case measure => simp [intOf]; omega
          · have hks : k = L.length := by omega
            have hlt3 : ¬ (k : Int) < L.length := by omega
            go_wp2_with fail
            go_ret
            exact ⟨by simp, nextB hBk hB2⟩
  · have hl1 : (100 : Int) < L.length := by omega
    go_enter Try.func7, Try.ntmps7
    go_wp2_with (go_at_call 31; refine' Calls.aft _ _ (awake9_any _) _; rotate_left 2; (exact Below.refl _ _; rfl); intro x1; have hle := After.le x1; (try simp at hle))
    go_ret
    exact ⟨rfl, x1.below⟩

end Go.Proofs.Ytaaklejkngpddaa.Pr

namespace Go.Proofs.Ytaaklejkngpddaa.Pr
set_option linter.unusedVariables false
set_option linter.unusedSimpArgs false
open Go Go.ChangeShapes Go.WideShapes Go.ChangeAt Go.RowKit

section
variable {H : Type} {enc : TypeId × Value → H} {W : World} {base : Nat} {v : Value} {d : DataW H} {p : List MemPlace}

theorem cells_Int {n : Nat} {cs : List Value} {y : DataW H × List MemPlace} (h : DataW.trod enc Try.prog W 0 (fun _ => true) true n 3 cs = some y) : ∃ x : Int, cs = ecI x ∧ True := by
  obtain ⟨a, e, _, _⟩ := DataW.trod_int Try.underlying3 h
  exact ⟨a, e, trivial⟩

set_option maxRecDepth 100000 in
theorem open_ints (hv : Value.okWide Try.prog W .any base 76 v) (h : DataW.Trod enc Try.prog W 0 (fun _ => true) true 76 v d p) : ∃ L : List Int, Sl W v ecI L := by
  obtain ⟨a, len, cap, rfl⟩ := okWide_slice Try.underlying76 hv
  obtain ⟨fuel, hf⟩ := h
  obtain ⟨L, ⟨v, e0, hS⟩, _⟩ := slice_T (ec := ecI) (k := 1) Try.underlying76 (by kernel_rfl) ecI_len (by decide) (fun _ => True) (fun n cs' y' h => cells_Int h) hf
  simp [Value.cells] at e0
  subst e0
  exact ⟨L, hS⟩
end

end Go.Proofs.Ytaaklejkngpddaa.Pr
