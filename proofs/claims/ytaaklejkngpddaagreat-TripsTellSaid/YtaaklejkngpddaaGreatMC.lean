/- WALKS of soughref09.copied, asks, Same. WALK of soughref09.Same: it answers true for lists that are alike. WALK of soughref06.Exprs. WALK of soughref09.After. WALK of soughref09.Known. -/
import Derived.Test.YtaaklejkngpddaaGreatMB
import Derived.Test.YtaaklejkngpddaaGreatMA
import Derived.BigQuiet

namespace Go.Proofs.YtaaklejkngpddaaGreat.Pr
set_option linter.unusedVariables false
set_option linter.unusedSimpArgs false
open Go Go.RowKit

set_option maxRecDepth 100000 in
set_option maxHeartbeats 1000000 in
theorem copiedI_any (L : List Int) (hl : L.length ≤ 1000000) (v : Value) (w : World) (h : Sl w v ecI L) (hz : NilOk v) :
    Calls Tryz.prog 35 #[v] w fun e w' => ∃ o, e = .returned o ∧ w'.ownsRow w.heap.size 3 1 o L.length (L.flatMap ecI) ∧ Below w.heap.size w w' := by
  obtain ⟨i0, hi, hz0, hz1, hz2⟩ := info_parts i_info
  obtain ⟨b, off, p, cap, rfl, hp, hc⟩ := h
  cases p with
  | none =>
    have h0 : L.length = 0 := by
      rcases Nat.eq_zero_or_pos L.length with h | h
      · exact h
      · have := hp h; cases this
    have hL : L = [] := List.eq_nil_of_length_eq_zero h0
    subst hL
    obtain rfl := hz _ _ rfl
    clear hp hc hz
    go_enter Tryz.func35, Tryz.ntmps35
    go_wp2_with (at_builtin; refine wpList_append_own_none rfl _ _ 56 rfl w.heap.size 3 i0 1 Tryz.underlying56 hi _ 0 [] rfl (own_empty w 3 1) rfl ?_)
    refine bodyPost_ret (v := .slice (some ⟨w.heap.size, 0, none⟩) 0 0) (by simp only [results, Tryz.results35]; go_simp) rfl ⟨_, rfl, own_empty w 3 1, (Below.refl _ _).alloc (Nat.le_refl _) _⟩
  | some a =>
    have hnews : ∀ j u, (L.flatMap ecI)[j]? = some u → (w.alloc (.cells #[] 3)).cell? (a.add j) = some u := fun j u hu => by
      have h0 : 0 < L.length := by
        rcases Nat.eq_zero_or_pos L.length with h | h
        · have : L = [] := List.eq_nil_of_length_eq_zero h
          subst this
          simp at hu
        · exact h
      have ha := hp h0
      cases ha
      rw [Go.WideShapes.add_plain]
      have := hc j u hu
      exact (World.cell?_alloc_lt _ _ _ (World.block_lt_of_cell? _ _ this)).trans this
    have hlen : (L.flatMap ecI).length = L.length * 1 := flat_length ecI_len L
    have hn := And.intro True.intro (And.intro hnews hlen)
    clear hp hc hnews hlen hz
    go_enter Tryz.func35, Tryz.ntmps35
    go_wp2_with (at_builtin; refine wpList_append_own _ rfl _ _ 56 rfl w.heap.size 3 i0 (.int .i64 0) 1 8 Tryz.underlying56 hi hz0 hz1 hz2 rfl (by decide) _ 0 [] rfl (own_empty w 3 1) _ L.length cap (L.flatMap ecI) rfl hn.2.2 hn.2.1 int_one (by unfold maxLen; omega) (by omega) (by simp) ?_; intro v2 w1 hown' hgrow _)
    have hB2 : Below w.heap.size w w1 := Below.grown (w := _) ((Below.refl _ _).alloc (Nat.le_refl _) _) hgrow (by simp) (fun q hq => by cases hq; exact Nat.le_refl _)
    rw [Nat.zero_add, List.nil_append] at hown'
    go_wp2_with fail
    refine bodyPost_ret (v := v2) (by simp only [results, Tryz.results35]; go_simp) rfl ⟨_, rfl, hown', hB2⟩

set_option maxRecDepth 100000 in
set_option maxHeartbeats 1000000 in
theorem asks_any (e : Ex) (x : ByteArray) (w : World) :
    Calls Tryz.prog 60 #[.agg #[.int .i64 e.op, .string e.x.v, .int .i64 e.x.a, .int .i64 e.x.b, .string e.y.v, .int .i64 e.y.a, .int .i64 e.y.b], .string x] w fun e' w' => e' = .returned (.bool (hasX e x)) ∧ Below w.heap.size w w' := by
  have hat := fun W : World => ratoms_any e.op e.x.v e.x.a e.x.b e.y.v e.y.a e.y.b W
  have hat : ∀ W, Calls Tryz.prog 59 #[.agg #[.int .i64 e.op, .string e.x.v, .int .i64 e.x.a, .int .i64 e.x.b, .string e.y.v, .int .i64 e.y.a, .int .i64 e.y.b]] W fun e' w' => ∃ o, e' = .returned o ∧ Sl w' o At.cs (atomsOf e) ∧ Below W.heap.size W w' := hat
  have hal : (atomsOf e).length ≤ 1000 := by
    unfold atomsOf
    split
    · simp
    · split <;> simp
  unfold hasX
  generalize atomsOf e = A at hat hal ⊢
  obtain ⟨R, hR⟩ : ∃ R, Hid (A.all (notV x) = R) := ⟨_, rfl⟩
  rw [show A.all (notV x) = R from hR]
  go_enter Tryz.func60, Tryz.ntmps60
  go_wp2_with ((go_at_call 59; refine' Calls.aftS _ _ (hat _) _; rotate_left 2; (exact Below.refl _ _; rfl); intro av x1 ho1; have hle := After.le x1; (try simp at hle)); obtain ⟨b, off, p, cap, rfl, hp, hc⟩ := ho1.open At.cs_len)
  obtain ⟨W1, hW1⟩ : ∃ W1, W1 = x1.val := ⟨_, rfl⟩
  have hB1 : Below w.heap.size w W1 := by rw [hW1]; exact ((Below.refl w.heap.size w).alloc (Nat.le_refl _) _).trans (x1.below.mono (by simp))
  rw [← hW1] at hc
  rw [← hW1]
  clear hW1 ho1 hle
  go_loopw [10] (fun i wr => ∃ k : Nat, k ≤ A.length ∧ i = .int .i64 k ∧ (A.take k).all (notV x) = true ∧ Below W1.heap.size W1 wr) (fun i _ => A.length - (intOf i).toNat)
  case atStart => exact ⟨0, Nat.zero_le _, rfl, by simp, Below.refl _ _⟩
  case round =>
    obtain ⟨k, hk, rfl, hall, hB⟩ := hrel
    have hw := hB.size
    by_cases hlt : k < A.length
    · obtain rfl := hp (by omega)
      have hlt2 : (k : Int) < A.length := by omega
      have hbad : notV x (A[k]'hlt) = false → R = false := fun h => by rw [← show A.all (notV x) = R from hR]; exact all_bad hlt h
      have hnext : notV x (A[k]'hlt) = true → (A.take (k + 1)).all (notV x) = true := fun h => all_next hlt hall h
      have hcr : ∀ r u, ((A[k]'hlt).cs)[r]? = some u → wr.cell? ⟨b, off + k * 3 + r, none⟩ = some u := fun r u hu => by
        rw [Nat.add_assoc]
        exact nextC hB (hc k hlt r u hu)
      clear hc hall
      generalize A[k]'hlt = s at hcr hbad hnext
      have e0 : wr.cell? ⟨b, off + k * 3, none⟩ = some (.string s.v) := hcr 0 _ rfl
      have hg := World.block_lt_of_cell? _ _ e0
      have e1 := hcr 1 _ rfl
      have e2 := hcr 2 _ rfl
      clear hcr
      cases hn : (s.v.toList == x.toList)
      · have hx := And.intro True.intro (hnext (by unfold notV; rw [hn]; rfl))
        have hn2 : decide (s.v.toList = x.toList) = false := by simpa using hn
        have hn3 : ¬ s.v.toList = x.toList := by simpa using hn
        clear hbad hnext
        go_wp2_with fail
        go_roundw
        case rel => exact ⟨k + 1, by omega, by simp, hx.2, hB.alloc hw _⟩
        case measure => simp [intOf]; omega
      · have hf := hbad (by unfold notV; rw [hn]; rfl)
        have hn3 : s.v.toList = x.toList := by simpa using hn
        subst hf
        clear hbad hnext hR
        go_wp2_with fail
        go_ret
        exact ⟨by simp, nextB (hB.alloc hw _) hB1⟩
    · have hks : k = A.length := by omega
      subst hks
      have hlt2 : ¬ (A.length : Int) < A.length := by omega
      have hRt : R = true := by rw [← show A.all (notV x) = R from hR]; rw [List.take_length] at hall; exact hall
      subst hRt
      clear hc hR
      go_wp2_with fail
      go_ret
      exact ⟨by simp, nextB hB hB1⟩

end Go.Proofs.YtaaklejkngpddaaGreat.Pr

namespace Go.Proofs.YtaaklejkngpddaaGreat.Pr
set_option linter.unusedVariables false
set_option linter.unusedSimpArgs false
open Go Go.RowKit

set_option maxRecDepth 100000 in
set_option maxHeartbeats 2000000 in
theorem same9_any (A : List (List Int)) (hA : A.length ≤ 1000000) (hAl : ∀ l ∈ A, l.length ≤ 1000000) (va vb : Value) (w : World) (X Y : List Lv) (hX : X.map Lv.l = A) (hY : Y.map Lv.l = A) (ha : Sl w va Lv.cs X) (hb : Sl w vb Lv.cs Y) (hxr : ∀ x ∈ X, Sl w x.v ecI x.l) (hyr : ∀ x ∈ Y, Sl w x.v ecI x.l) :
    Calls Tryz.prog 11 #[va, vb] w fun e w' => e = .returned (.bool true) ∧ Below w.heap.size w w' := by
  have hxl : X.length = A.length := by rw [← hX, List.length_map]
  have hyl : Y.length = A.length := by rw [← hY, List.length_map]
  obtain ⟨ab, aoff, ap, ac, rfl, hap, hac⟩ := ha.open Lv.cs_len
  obtain ⟨bb, boff, bp, bc, rfl, hbp, hbc⟩ := hb.open Lv.cs_len
  have hX2 : Hid (X.map Lv.l = A) := hX
  have hY2 : Hid (Y.map Lv.l = A) := hY
  have hxl2 : Hid (X.length = A.length) := hxl
  have hyl2 : Hid (Y.length = A.length) := hyl
  rw [hxl] at hap ⊢
  rw [hyl] at hbp ⊢
  clear ha hb hX hY hxl hyl
  go_enter Tryz.func11, Tryz.ntmps11
  go_wp2_with fail
  go_loopw [15] (fun i wr => ∃ k : Nat, k ≤ A.length ∧ i = .int .i64 k ∧ Below w.heap.size w wr) (fun i _ => A.length - (intOf i).toNat)
  case atStart => exact ⟨0, Nat.zero_le _, rfl, Below.refl _ _⟩
  case round =>
    obtain ⟨k, hk, rfl, hB⟩ := hrel
    by_cases hlt : k < A.length
    · obtain rfl := hap (by omega)
      obtain rfl := hbp (by omega)
      have hlt2 : (k : Int) < A.length := by omega
      have hkx : k < X.length := by have : X.length = A.length := hxl2; omega
      have hky : k < Y.length := by have : Y.length = A.length := hyl2; omega
      have hpx : (X[k]'hkx).l = A[k]'hlt := by
        have h9 : X.map Lv.l = A := hX2
        have h8 : A[k]? = some (X[k]'hkx).l := by rw [← h9, List.getElem?_map, List.getElem?_eq_getElem hkx]; rfl
        rw [List.getElem?_eq_getElem hlt] at h8
        exact (Option.some.inj h8).symm
      have hpy : (Y[k]'hky).l = A[k]'hlt := by
        have h9 : Y.map Lv.l = A := hY2
        have h8 : A[k]? = some (Y[k]'hky).l := by rw [← h9, List.getElem?_map, List.getElem?_eq_getElem hky]; rfl
        rw [List.getElem?_eq_getElem hlt] at h8
        exact (Option.some.inj h8).symm
      have cx : w.cell? ⟨ab, aoff + k, none⟩ = some (X[k]'hkx).v := by have h9 := hac k hkx 0 _ rfl; rwa [Nat.mul_one, Nat.add_zero] at h9
      have cy : w.cell? ⟨bb, boff + k, none⟩ = some (Y[k]'hky).v := by have h9 := hbc k hky 0 _ rfl; rwa [Nat.mul_one, Nat.add_zero] at h9
      have hrx := hxr _ (List.getElem_mem hkx)
      have hry := hyr _ (List.getElem_mem hky)
      have hll := hAl _ (List.getElem_mem hlt)
      rw [hpx] at hrx
      rw [hpy] at hry
      clear hac hbc hxr hyr hap hbp hpx hpy
      generalize (X[k]'hkx).v = v1 at cx hrx
      generalize (Y[k]'hky).v = v2 at cy hry
      generalize A[k]'hlt = l at hrx hry hll
      obtain ⟨b1, o1, p1, c1, rfl, hp1, hc1⟩ := hrx.open ecI_len
      obtain ⟨b2, o2, p2, c2, rfl, hp2, hc2⟩ := hry.open ecI_len
      clear hrx hry
      have cxw := cx
      have cyw := cy
      have cx := nextC hB cx
      have cy := nextC hB cy
      have lx := World.block_lt_of_cell? _ _ cx
      have ly := World.block_lt_of_cell? _ _ cy
      go_wp2_with fail
      go_loopw [30] (fun i wq => ∃ j : Nat, j ≤ l.length ∧ i = .int .i64 j ∧ Below w.heap.size w wq) (fun i _ => l.length - (intOf i).toNat)
      case atStart => exact ⟨0, Nat.zero_le _, rfl, hB⟩
      case round =>
        obtain ⟨j, hj, rfl, hBj⟩ := hrel
        have cy2 := nextC hBj cyw
        have ly2 := World.block_lt_of_cell? _ _ cy2
        clear cx cy lx ly
        by_cases hjt : j < l.length
        · obtain rfl := hp1 (by omega)
          obtain rfl := hp2 (by omega)
          have hjt2 : (j : Int) < l.length := by omega
          have m1 : wr.cell? ⟨b1, o1 + j, none⟩ = some (.int .i64 (l[j]'hjt)) := by have h9 := hc1 j hjt 0 _ rfl; rw [Nat.mul_one, Nat.add_zero] at h9; exact nextC hBj h9
          have m2 : wr.cell? ⟨b2, o2 + j, none⟩ = some (.int .i64 (l[j]'hjt)) := by have h9 := hc2 j hjt 0 _ rfl; rw [Nat.mul_one, Nat.add_zero] at h9; exact nextC hBj h9
          have lm1 := World.block_lt_of_cell? _ _ m1
          have lm2 := World.block_lt_of_cell? _ _ m2
          generalize l[j]'hjt = y0 at m1 m2
          clear hc1 hc2 hp1 hp2
          go_wp2_with fail
          refine' region_whole _ _ (by kernel_rfl) (by kernel_rfl) _; rotate_left 2; (exact Below.refl _ _; rfl); (repeat (go_big_quiet_step (first | fail))); refine wpQuiet_nil ?_; intro z
          go_wp2_with fail
          go_roundw
          case rel => exact ⟨j + 1, by omega, by simp, hBj.trans (z.below.mono hBj.size)⟩
          case measure => simp [intOf]; omega
        · have hks : j = l.length := by omega
          subst hks
          have hjt2 : ¬ (l.length : Int) < l.length := by omega
          go_wp2_with fail
          go_roundw
          case rel => exact ⟨k + 1, by omega, by simp, hBj⟩
          case measure => simp [intOf]; omega
    · have hks : k = A.length := by omega
      subst hks
      have hlt2 : ¬ (A.length : Int) < A.length := by omega
      clear hac hbc hxr hyr hap hbp
      go_wp2_with fail
      go_ret
      exact ⟨rfl, hB⟩

end Go.Proofs.YtaaklejkngpddaaGreat.Pr

namespace Go.Proofs.YtaaklejkngpddaaGreat.Pr
set_option linter.unusedVariables false
set_option linter.unusedSimpArgs false
open Go Go.RowKit

theorem nine0 {W : World} {B : Nat} {v0 v1 v2 v3 v4 v5 v6 v7 v8 : Value} {t : TypeId} (h : W.heap[B]? = some (.cells #[v0, v1, v2, v3, v4, v5, v6, v7, v8] t (0, 0))) :
    W.cell? ⟨B, 0, none⟩ = some v0 ∧ W.cell? ⟨B, 1, none⟩ = some v1 ∧ W.cell? ⟨B, 2, none⟩ = some v2 ∧ W.cell? ⟨B, 3, none⟩ = some v3 ∧ W.cell? ⟨B, 4, none⟩ = some v4 ∧ W.cell? ⟨B, 5, none⟩ = some v5 ∧ W.cell? ⟨B, 6, none⟩ = some v6 ∧ W.cell? ⟨B, 7, none⟩ = some v7 ∧ W.cell? ⟨B, 8, none⟩ = some v8 :=
  ⟨(cell_of_row W B 0 _ t (0, 0) h).trans rfl, (cell_of_row W B 1 _ t (0, 0) h).trans rfl, (cell_of_row W B 2 _ t (0, 0) h).trans rfl, (cell_of_row W B 3 _ t (0, 0) h).trans rfl, (cell_of_row W B 4 _ t (0, 0) h).trans rfl, (cell_of_row W B 5 _ t (0, 0) h).trans rfl, (cell_of_row W B 6 _ t (0, 0) h).trans rfl, (cell_of_row W B 7 _ t (0, 0) h).trans rfl, (cell_of_row W B 8 _ t (0, 0) h).trans rfl⟩

theorem eqE_comm (x y : Ex) : eqE x y = eqE y x := by
  have h1 : ∀ a b : Int, (a == b) = (b == a) := fun a b => by rw [Bool.eq_iff_iff, beq_iff_eq, beq_iff_eq]; exact ⟨Eq.symm, Eq.symm⟩
  have h2 : ∀ a b : List UInt8, (a == b) = (b == a) := fun a b => by rw [Bool.eq_iff_iff, beq_iff_eq, beq_iff_eq]; exact ⟨Eq.symm, Eq.symm⟩
  unfold eqE eqA
  rw [h1 x.op, h2 x.x.v.toList, h1 x.x.a, h1 x.x.b, h2 x.y.v.toList, h1 x.y.a, h1 x.y.b]

set_option maxRecDepth 100000 in
set_option maxHeartbeats 8000000 in
theorem rexprs_any (P : List Bl) (pv : Value) (w : World) (h : Pg w pv P) (h12 : P.length ≤ 12) (hl12 : ∀ b ∈ P, b.l.length ≤ 12) :
    Calls Tryz.prog 37 #[.agg #[pv]] w fun e w' => ∃ o, e = .returned o ∧ w'.ownsRow w.heap.size 48 7 o (exprsOf P).length ((exprsOf P).flatMap Ex.cs) ∧ Below w.heap.size w w' := by
  obtain ⟨i0, hi, hz0, hz1, hz2⟩ := info_parts ex_info
  obtain ⟨bb, off, p, cap, rfl, hp, hc⟩ := Pg.open h
  clear h
  go_enter Tryz.func37, Tryz.ntmps37
  go_wp2_with fail
  go_loopw [3, 16] (fun o i wr => ∃ k : Nat, k ≤ P.length ∧ i = .int .i64 k ∧ wr.ownsRow w.heap.size 48 7 o (exprsOf (P.take k)).length ((exprsOf (P.take k)).flatMap Ex.cs) ∧ Below w.heap.size w wr) (fun _ i _ => P.length - (intOf i).toNat)
  case atStart => exact ⟨0, Nat.zero_le _, rfl, World.ownsRow_nil _ _ _ _, (Below.refl _ _).alloc (Nat.le_refl _) _⟩
  case round =>
    obtain ⟨k, hk, rfl, hX, hB⟩ := hrel
    have hw := hB.size
    obtain ⟨op, oc, rfl⟩ : ∃ p c, _ = Value.slice p (exprsOf (P.take k)).length c := own_len hX
    by_cases hlt : k < P.length
    · obtain rfl := hp (by omega)
      have hlt2 : (k : Int) < P.length := by omega
      have hcw : ∀ r u, ((P[k]'hlt).cs)[r]? = some u → wr.cell? ⟨bb, off + k * 8 + r, none⟩ = some u := fun r u hu => by
        rw [Nat.add_assoc]
        have h7 := (hc k hlt).1 r u hu
        exact (hB.cell (p := ⟨bb, off + (k * 8 + r), none⟩) (World.block_lt_of_cell? _ _ h7)).trans h7
      have hsl := (hc k hlt).2
      have hlen := hl12 _ (List.getElem_mem hlt)
      have hHn : Hid (exprsOf (P.take (k + 1)) = stX (exprsOf (P.take k)) (P[k]'hlt).l) := exprs_next P k hlt
      have hxl := exprs_len hl12 k (by omega)
      clear hc
      generalize P[k]'hlt = B at hcw hsl hlen hHn
      generalize exprsOf (P.take k) = L0 at hX hHn hxl
      obtain ⟨lb, loff, lp, lcap, hlv, hlp, hlc⟩ := hsl.open St.cs_len
      have c0 : wr.cell? ⟨bb, off + k * 8, none⟩ = some (.string B.n) := hcw 0 _ rfl
      have hbw := World.block_lt_of_cell? _ _ c0
      have c1 := hcw 1 _ rfl
      have c2 := hcw 2 _ rfl
      have c3 := hcw 3 _ rfl
      have c4 := hcw 4 _ rfl
      have c5 := hcw 5 _ rfl
      have c6 := hcw 6 _ rfl
      have c7 := hcw 7 _ rfl
      clear hcw
      rw [hlv] at c1
      go_wp2_with fail
      obtain ⟨W1, hW1⟩ : ∃ W1, W1 = wr.alloc (.cells #[.string B.n, .slice lp B.l.length lcap, .int .i64 B.t.k, .string B.t.x.v, .int .i64 B.t.x.a, .int .i64 B.t.x.b, .string B.t.t, .string B.t.e] 55) := ⟨_, rfl⟩
      have hX1 : W1.ownsRow w.heap.size 48 7 (.slice op L0.length oc) L0.length (L0.flatMap Ex.cs) := by rw [hW1]; exact hX.alloc _
      have hB1 : Below w.heap.size w W1 := by rw [hW1]; exact hB.alloc hw _
      rw [← hW1]
      clear hW1 c0 c1 c2 c3 c4 c5 c6 c7 hX hbw hlv
      go_loopw [3, 23] (fun o i wr => ∃ j : Nat, j ≤ B.l.length ∧ i = .int .i64 j ∧ wr.ownsRow w.heap.size 48 7 o (stX L0 (B.l.take j)).length ((stX L0 (B.l.take j)).flatMap Ex.cs) ∧ Below w.heap.size w wr) (fun _ i _ => B.l.length - (intOf i).toNat)
      case atStart => exact ⟨0, Nat.zero_le _, rfl, hX1, hB1⟩
      case round =>
        obtain ⟨j, hj, rfl, hXj, hBj⟩ := hrel
        clear hX1 hB1
        have hwj := hBj.size
        obtain ⟨op, oc, rfl⟩ : ∃ p c, _ = Value.slice p (stX L0 (B.l.take j)).length c := own_len hXj
        by_cases hjt : j < B.l.length
        · obtain rfl := hlp (by omega)
          have hjt2 : (j : Int) < B.l.length := by omega
          have hcj : ∀ r u, ((B.l[j]'hjt).cs)[r]? = some u → wr.cell? ⟨lb, loff + j * 9 + r, none⟩ = some u := fun r u hu => by
            rw [Nat.add_assoc]
            exact (hBj.cell (p := ⟨lb, loff + (j * 9 + r), none⟩) (World.block_lt_of_cell? _ _ (hlc j hjt r u hu))).trans (hlc j hjt r u hu)
          have hH2 : Hid (stX L0 (B.l.take (j + 1)) = addX (stX L0 (B.l.take j)) (B.l[j]'hjt)) := stX_next L0 B.l j hjt
          have hll := stX_len L0 (B.l.take j)
          have hl3 : (B.l.take j).length ≤ 12 := by rw [List.length_take]; omega
          clear hlc
          generalize (B.l[j]'hjt) = s at hcj hH2
          generalize stX L0 (B.l.take j) = L1 at hXj hH2 hll
          have e0 : wr.cell? ⟨lb, loff + j * 9, none⟩ = some (.int .i64 s.k) := hcj 0 _ rfl
          have hbq := World.block_lt_of_cell? _ _ e0
          have e1 := hcj 1 _ rfl
          have e2 := hcj 2 _ rfl
          have e3 := hcj 3 _ rfl
          have e4 := hcj 4 _ rfl
          have e5 := hcj 5 _ rfl
          have e6 := hcj 6 _ rfl
          have e7 := hcj 7 _ rfl
          have e8 := hcj 8 _ rfl
          clear hcj
          obtain ⟨sk, sv, ⟨sop, ⟨s1, sa1, sb1⟩, ⟨s2, sa2, sb2⟩⟩⟩ := s
          have hat := fun W : World => ratoms_any sop s1 sa1 sb1 s2 sa2 sb2 W
          have hal : (atomsOf ⟨sop, ⟨s1, sa1, sb1⟩, ⟨s2, sa2, sb2⟩⟩).length ≤ 1000 := by
            unfold atomsOf
            split
            · simp
            · split <;> simp
          have hadd : Hid (addX L1 ⟨sk, sv, ⟨sop, ⟨s1, sa1, sb1⟩, ⟨s2, sa2, sb2⟩⟩⟩ = if sk = 1 ∧ sop ≠ 0 ∧ (atomsOf ⟨sop, ⟨s1, sa1, sb1⟩, ⟨s2, sa2, sb2⟩⟩).all noV = false ∧ L1.any (eqE ⟨sop, ⟨s1, sa1, sb1⟩, ⟨s2, sa2, sb2⟩⟩) = false then L1 ++ [⟨sop, ⟨s1, sa1, sb1⟩, ⟨s2, sa2, sb2⟩⟩] else L1) := rfl
          generalize atomsOf ⟨sop, ⟨s1, sa1, sb1⟩, ⟨s2, sa2, sb2⟩⟩ = A at hat hadd hal
          have e0 : wr.cell? ⟨lb, loff + j * 9, none⟩ = some (.int .i64 sk) := e0
          have e1 : wr.cell? ⟨lb, loff + j * 9 + 1, none⟩ = some (.string sv) := e1
          have e2 : wr.cell? ⟨lb, loff + j * 9 + 2, none⟩ = some (.int .i64 sop) := e2
          have e3 : wr.cell? ⟨lb, loff + j * 9 + 3, none⟩ = some (.string s1) := e3
          have e4 : wr.cell? ⟨lb, loff + j * 9 + 4, none⟩ = some (.int .i64 sa1) := e4
          have e5 : wr.cell? ⟨lb, loff + j * 9 + 5, none⟩ = some (.int .i64 sb1) := e5
          have e6 : wr.cell? ⟨lb, loff + j * 9 + 6, none⟩ = some (.string s2) := e6
          have e7 : wr.cell? ⟨lb, loff + j * 9 + 7, none⟩ = some (.int .i64 sa2) := e7
          have e8 : wr.cell? ⟨lb, loff + j * 9 + 8, none⟩ = some (.int .i64 sb2) := e8
          have hbs := heap_alloc_new wr (.cells #[.int .i64 sk, .string sv, .int .i64 sop, .string s1, .int .i64 sa1, .int .i64 sb1, .string s2, .int .i64 sa2, .int .i64 sb2] 50)
          have hV : Below wr.heap.size wr (wr.alloc (.cells #[.int .i64 sk, .string sv, .int .i64 sop, .string s1, .int .i64 sa1, .int .i64 sb1, .string s2, .int .i64 sa2, .int .i64 sb2] 50)) := (Below.refl _ _).alloc (Nat.le_refl _) _
          go_wp2_with ((go_at_call 59; refine' Calls.aftS _ _ (hat _) _; rotate_left 2; (exact Below.refl _ _; rfl); intro av x1 ho1; have hle := After.le x1; (try simp at hle)); obtain ⟨ab, aoff, ap, ac, rfl, hap, hac⟩ := ho1.open At.cs_len)
          obtain ⟨V1, hV1⟩ : ∃ V1, V1 = x1.val := ⟨_, rfl⟩
          have hx1 := hV.trans (x1.below.mono hV.size)
          have hbs1 := (x1.below.block _ (lt_of_obj hbs)).trans hbs
          rw [← hV1] at hac hx1 hbs1
          rw [← hV1]
          clear hV1 ho1 hle hbs hV e0 e1 e2 e3 e4 e5 e6 e7 e8 hbq
          go_loopw [8, 31] (fun hv i wq => ∃ m : Nat, m ≤ A.length ∧ i = .int .i64 m ∧ hv = .bool (!((A.take m).all noV)) ∧ Below V1.heap.size V1 wq) (fun _ i _ => A.length - (intOf i).toNat)
          case atStart => exact ⟨0, Nat.zero_le _, rfl, rfl, Below.refl _ _⟩
          case round =>
            obtain ⟨m, hm, rfl, rfl, hBm⟩ := hrel
            have hszm := hBm.size
            by_cases hmt : m < A.length
            · obtain rfl := hap (by omega)
              have hmt2 : (m : Int) < A.length := by omega
              have hcm : ∀ r u, ((A[m]'hmt).cs)[r]? = some u → wr.cell? ⟨ab, aoff + m * 3 + r, none⟩ = some u := fun r u hu => by
                rw [Nat.add_assoc]
                exact (hBm.cell (p := ⟨ab, aoff + (m * 3 + r), none⟩) (World.block_lt_of_cell? _ _ (hac m hmt r u hu))).trans (hac m hmt r u hu)
              have hnx : Hid ((A.take (m + 1)).all noV = ((A.take m).all noV && noV (A[m]'hmt))) := by
                show _ = _
                rw [List.take_succ_eq_append_getElem hmt, List.all_append]
                simp
              clear hac
              generalize A[m]'hmt = a at hcm hnx
              generalize (A.take m).all noV = q at hnx ⊢
              have g0 : wr.cell? ⟨ab, aoff + m * 3, none⟩ = some (.string a.v) := hcm 0 _ rfl
              have gl := World.block_lt_of_cell? _ _ g0
              have g1 : wr.cell? ⟨ab, aoff + m * 3 + 1, none⟩ = some (.int .i64 a.a) := hcm 1 _ rfl
              have g2 : wr.cell? ⟨ab, aoff + m * 3 + 2, none⟩ = some (.int .i64 a.b) := hcm 2 _ rfl
              clear hcm
              cases q
              · go_wp2_with fail
                go_roundw
                case rel => exact ⟨m + 1, by omega, by simp, by rw [show (A.take (m + 1)).all noV = _ from hnx]; rfl, hBm.alloc hszm _⟩
                case measure => simp [intOf]; omega
              · cases hem : (a.v.toList == [])
                · have hem2 : noV a = false := hem
                  have hem3 : ¬ a.v.toList = [] := by simpa using hem
                  go_wp2_with fail
                  go_roundw
                  case rel => exact ⟨m + 1, by omega, by simp, by rw [show (A.take (m + 1)).all noV = _ from hnx, hem2]; first | rfl | simp [hem3] | simp [hem], hBm.alloc hszm _⟩
                  case measure => simp [intOf]; omega
                · have hem2 : noV a = true := hem
                  have hem3 : a.v.toList = [] := by simpa using hem
                  go_wp2_with fail
                  go_roundw
                  case rel => exact ⟨m + 1, by omega, by simp, by rw [show (A.take (m + 1)).all noV = _ from hnx, hem2]; first | rfl | simp [hem3] | simp [hem], hBm.alloc hszm _⟩
                  case measure => simp [intOf]; omega
            · have hms : m = A.length := by omega
              subst hms
              have hmt2 : ¬ (A.length : Int) < A.length := by omega
              clear hac hap
              rw [show (A.take A.length).all noV = A.all noV by rw [List.take_length]]
              generalize hnvv : A.all noV = nv at hadd ⊢
              have hXV := own_below hXj (hx1.trans (hBm.mono hx1.size))
              have hbs2 := (hBm.block _ (lt_of_obj hbs1)).trans hbs1
              have hBV : Below w.heap.size w wr := hBj.trans ((hx1.trans (hBm.mono hx1.size)).mono hwj)
              generalize wr = V2 at hXV hbs2 hBV ⊢
              clear hXj hBj hx1 hbs1 hBm hszm
              go_wp2_with fail
              go_loopw [8, 44] (fun hv i wq => ∃ m : Nat, m ≤ L1.length ∧ i = .int .i64 m ∧ hv = .bool ((!nv) && !((L1.take m).any (eqE ⟨sop, ⟨s1, sa1, sb1⟩, ⟨s2, sa2, sb2⟩⟩))) ∧ Below V2.heap.size V2 wq) (fun _ i _ => L1.length - (intOf i).toNat)
              case atStart => exact ⟨0, Nat.zero_le _, rfl, by simp, Below.refl _ _⟩
              case round =>
                obtain ⟨m, hm, rfl, rfl, hBm⟩ := hrel
                have hszm := hBm.size
                obtain ⟨k0, k1, k2, k3, k4, k5, k6, k7, k8⟩ := nine0 ((hBm.block _ (lt_of_obj hbs2)).trans hbs2)
                have kl := World.block_lt_of_cell? _ _ k0
                by_cases hmt : m < L1.length
                · have hmt2 : (m : Int) < L1.length := by omega
                  obtain ⟨xb, xoff, xp, xcap, hxv, hxp, hxc⟩ := (Sl.of_own (own_below hXV hBm) : Sl wr (.slice op L1.length oc) Ex.cs L1).open (k := 7) (fun _ => rfl)
                  injection hxv with hxv1 _ hxv3
                  subst hxv1 hxv3
                  obtain rfl := hxp (by omega)
                  have hcm : ∀ r u, ((L1[m]'hmt).cs)[r]? = some u → wr.cell? ⟨xb, xoff + m * 7 + r, none⟩ = some u := fun r u hu => by
                    rw [Nat.add_assoc]
                    exact hxc m hmt r u hu
                  have hnx : Hid ((L1.take (m + 1)).any (eqE ⟨sop, ⟨s1, sa1, sb1⟩, ⟨s2, sa2, sb2⟩⟩) = ((L1.take m).any (eqE ⟨sop, ⟨s1, sa1, sb1⟩, ⟨s2, sa2, sb2⟩⟩) || eqE ⟨sop, ⟨s1, sa1, sb1⟩, ⟨s2, sa2, sb2⟩⟩ (L1[m]'hmt))) := by
                    show _ = _
                    rw [List.take_succ_eq_append_getElem hmt, List.any_append]
                    simp
                  clear hxc hxp
                  generalize L1[m]'hmt = y at hcm hnx
                  generalize (L1.take m).any (eqE ⟨sop, ⟨s1, sa1, sb1⟩, ⟨s2, sa2, sb2⟩⟩) = q at hnx ⊢
                  obtain ⟨yop, ⟨y1, ya1, yb1⟩, ⟨y2, ya2, yb2⟩⟩ := y
                  have d0 : wr.cell? ⟨xb, xoff + m * 7, none⟩ = some (.int .i64 yop) := hcm 0 _ rfl
                  have dl := World.block_lt_of_cell? _ _ d0
                  have d1 : wr.cell? ⟨xb, xoff + m * 7 + 1, none⟩ = some (.string y1) := hcm 1 _ rfl
                  have d2 : wr.cell? ⟨xb, xoff + m * 7 + 2, none⟩ = some (.int .i64 ya1) := hcm 2 _ rfl
                  have d3 : wr.cell? ⟨xb, xoff + m * 7 + 3, none⟩ = some (.int .i64 yb1) := hcm 3 _ rfl
                  have d4 : wr.cell? ⟨xb, xoff + m * 7 + 4, none⟩ = some (.string y2) := hcm 4 _ rfl
                  have d5 : wr.cell? ⟨xb, xoff + m * 7 + 5, none⟩ = some (.int .i64 ya2) := hcm 5 _ rfl
                  have d6 : wr.cell? ⟨xb, xoff + m * 7 + 6, none⟩ = some (.int .i64 yb2) := hcm 6 _ rfl
                  clear hcm
                  cases heq : eqE ⟨yop, ⟨y1, ya1, yb1⟩, ⟨y2, ya2, yb2⟩⟩ ⟨sop, ⟨s1, sa1, sb1⟩, ⟨s2, sa2, sb2⟩⟩
                  · have heq2 : eqE ⟨sop, ⟨s1, sa1, sb1⟩, ⟨s2, sa2, sb2⟩⟩ ⟨yop, ⟨y1, ya1, yb1⟩, ⟨y2, ya2, yb2⟩⟩ = false := by rw [eqE_comm]; exact heq
                    go_wp2_with fail
                    go_roundw
                    case rel => exact ⟨m + 1, by omega, by simp, by rw [show (L1.take (m + 1)).any (eqE ⟨sop, ⟨s1, sa1, sb1⟩, ⟨s2, sa2, sb2⟩⟩) = _ from hnx, heq2]; simp, hBm.alloc hszm _⟩
                    case measure => simp [intOf]; omega
                  · have heq2 : eqE ⟨sop, ⟨s1, sa1, sb1⟩, ⟨s2, sa2, sb2⟩⟩ ⟨yop, ⟨y1, ya1, yb1⟩, ⟨y2, ya2, yb2⟩⟩ = true := by rw [eqE_comm]; exact heq
                    go_wp2_with fail
                    go_roundw
                    case rel => exact ⟨m + 1, by omega, by simp, by rw [show (L1.take (m + 1)).any (eqE ⟨sop, ⟨s1, sa1, sb1⟩, ⟨s2, sa2, sb2⟩⟩) = _ from hnx, heq2]; simp, hBm.alloc hszm _⟩
                    case measure => simp [intOf]; omega
                · have hms : m = L1.length := by omega
                  subst hms
                  have hmt2 : ¬ (L1.length : Int) < L1.length := by omega
                  rw [show (L1.take L1.length).any (eqE ⟨sop, ⟨s1, sa1, sb1⟩, ⟨s2, sa2, sb2⟩⟩) = L1.any (eqE ⟨sop, ⟨s1, sa1, sb1⟩, ⟨s2, sa2, sb2⟩⟩) by rw [List.take_length]]
                  generalize hanv : L1.any (eqE ⟨sop, ⟨s1, sa1, sb1⟩, ⟨s2, sa2, sb2⟩⟩) = an at hadd ⊢
                  by_cases h1 : sk = 1
                  · subst h1
                    by_cases h2 : sop = 0
                    · subst h2
                      cases nv <;> cases an
                      all_goals (
                        have hnn : Hid (stX L0 (B.l.take (j + 1)) = L1) := by
                          show _ = _
                          rw [show stX L0 (B.l.take (j + 1)) = _ from hH2, show addX L1 _ = _ from hadd, if_neg]
                          rintro ⟨g1, g2, g3, g4⟩
                          exact g2 rfl
                        clear hadd hH2
                        go_wp2_with fail
                        go_roundw
                        case rel => exact ⟨j + 1, by omega, by simp, by rw [show stX L0 (B.l.take (j + 1)) = L1 from hnn]; exact own_below hXV hBm, hBV.trans (hBm.mono hBV.size)⟩
                        case measure => simp [intOf]; omega
                      )
                    · cases nv
                      · cases an
                        · have hyy : Hid (stX L0 (B.l.take (j + 1)) = L1 ++ [⟨sop, ⟨s1, sa1, sb1⟩, ⟨s2, sa2, sb2⟩⟩]) := by
                            show _ = _
                            rw [show stX L0 (B.l.take (j + 1)) = _ from hH2, show addX L1 _ = _ from hadd, if_pos ⟨rfl, h2, rfl, rfl⟩]
                          clear hadd hH2
                          have hr3 := own_below hXV hBm
                          have hB3 := hBV.trans (hBm.mono hBV.size)
                          go_wp2_with (at_builtin; refine wpList_append_own _ rfl _ _ 69 rfl w.heap.size 48 i0 (.agg #[.int .i64 0, .string ⟨#[]⟩, .int .i64 0, .int .i64 0, .string ⟨#[]⟩, .int .i64 0, .int .i64 0]) 7 72 Tryz.underlying69 hi hz0 hz1 hz2 rfl (by decide) _ L1.length (L1.flatMap Ex.cs) rfl (hr3.alloc _) _ 1 1 [.int .i64 sop, .string s1, .int .i64 sa1, .int .i64 sb1, .string s2, .int .i64 sa2, .int .i64 sb2] rfl rfl (news_at rfl) (by intro u hu; simp at hu; rcases hu with rfl | rfl | rfl | rfl | rfl | rfl | rfl <;> rfl) (by unfold maxLen; omega) (by omega) (by have := hB3.size; simp; omega) ?_; intro v6 W6 ho6 hg6 hv6)
                          go_roundw
                          case rel => exact ⟨j + 1, by omega, by simp, by rw [show stX L0 (B.l.take (j + 1)) = _ from hyy, List.flatMap_append, List.length_append]; exact ho6, Below.grown (w := _) (hB3.alloc hB3.size _) hg6 (by have := hB3.size; simp; omega) (fun q hq => (hr3.lt q hq).1)⟩
                          case measure => simp [intOf]; omega
                        ·
                          have hnn : Hid (stX L0 (B.l.take (j + 1)) = L1) := by
                            show _ = _
                            rw [show stX L0 (B.l.take (j + 1)) = _ from hH2, show addX L1 _ = _ from hadd, if_neg]
                            rintro ⟨g1, g2, g3, g4⟩
                            exact (by cases g4)
                          clear hadd hH2
                          go_wp2_with fail
                          go_roundw
                          case rel => exact ⟨j + 1, by omega, by simp, by rw [show stX L0 (B.l.take (j + 1)) = L1 from hnn]; exact own_below hXV hBm, hBV.trans (hBm.mono hBV.size)⟩
                          case measure => simp [intOf]; omega
                      · cases an
                        all_goals (
                          have hnn : Hid (stX L0 (B.l.take (j + 1)) = L1) := by
                            show _ = _
                            rw [show stX L0 (B.l.take (j + 1)) = _ from hH2, show addX L1 _ = _ from hadd, if_neg]
                            rintro ⟨g1, g2, g3, g4⟩
                            exact (by cases g3)
                          clear hadd hH2
                          go_wp2_with fail
                          go_roundw
                          case rel => exact ⟨j + 1, by omega, by simp, by rw [show stX L0 (B.l.take (j + 1)) = L1 from hnn]; exact own_below hXV hBm, hBV.trans (hBm.mono hBV.size)⟩
                          case measure => simp [intOf]; omega
                        )
                  · have h1b : (sk == 1) = false := by simp [h1]
                    cases nv <;> cases an
                    all_goals (
                      have hnn : Hid (stX L0 (B.l.take (j + 1)) = L1) := by
                        show _ = _
                        rw [show stX L0 (B.l.take (j + 1)) = _ from hH2, show addX L1 _ = _ from hadd, if_neg]
                        rintro ⟨g1, g2, g3, g4⟩
                        exact h1 g1
                      clear hadd hH2
                      go_wp2_with fail
                      go_roundw
                      case rel => exact ⟨j + 1, by omega, by simp, by rw [show stX L0 (B.l.take (j + 1)) = L1 from hnn]; exact own_below hXV hBm, hBV.trans (hBm.mono hBV.size)⟩
                      case measure => simp [intOf]; omega
                    )
        · have hks : j = B.l.length := by omega
          subst hks
          have hjt2 : ¬ (B.l.length : Int) < B.l.length := by omega
          go_wp2_with fail
          go_roundw
          case rel => exact ⟨k + 1, by omega, by simp, by rw [show exprsOf (P.take (k + 1)) = _ from hHn]; have h9 := hXj; simp only [List.take_length] at h9 ⊢; exact h9, hBj⟩
          case measure => simp [intOf]; omega
    · have hks : k = P.length := by omega
      subst hks
      have hlt2 : ¬ (P.length : Int) < P.length := by omega
      go_wp2_with fail
      refine bodyPost_ret (v := .slice op (exprsOf (P.take P.length)).length oc) (by simp only [results, Tryz.results37]; go_simp) rfl ⟨_, rfl, ?_, hB⟩
      rw [List.take_length] at hX ⊢
      exact hX

end Go.Proofs.YtaaklejkngpddaaGreat.Pr

namespace Go.Proofs.YtaaklejkngpddaaGreat.Pr
set_option linter.unusedVariables false
set_option linter.unusedSimpArgs false
open Go Go.RowKit

/-- A statement, as the page takes it. -/
def pageB (s : St) (x : Ex) (b : Bool) : Bool := if (s.k != 3 && hasX x s.v) = true then false else if (s.k == 1 && eqE s.e x) = true then true else b
theorem pageB_know {s : St} (h : emptyB s.v = (s.k == 3)) (x : Ex) (b : Bool) : pageB s x b = knowB s x b := by
  unfold pageB knowB
  rw [h]
  cases h1 : (s.k == 3)
  · have h2 : (s.k != 3) = true := by rw [bne, h1]; rfl
    rw [h2]
    cases hasX x s.v
    · cases h3 : (s.k == 1 && eqE s.e x) <;> simp
    · simp
  · have h2 : (s.k != 3) = false := by rw [bne, h1]; rfl
    rw [h2]
    cases h3 : (s.k == 1 && eqE s.e x) <;> simp
theorem bool_one {L : List Bool} : ∀ u ∈ L.flatMap ecB, u.oneCell' = true := by
  intro u hu
  simp only [List.mem_flatMap] at hu
  obtain ⟨x, _, hx⟩ := hu
  simp only [ecB, List.mem_singleton] at hx
  subst hx
  rfl
theorem own_setB2 {w : World} {base n : Nat} {L : List Bool} {cap g : Nat} (h : w.ownsRow base 4 1 (.slice (some ⟨g, 0, none⟩) n cap) n (L.flatMap ecB)) (hl : L.length = n) (k : Nat) (x : Bool) :
    (w.setCell ⟨g, k, none⟩ (.bool x)).ownsRow base 4 1 (.slice (some ⟨g, 0, none⟩) n cap) n ((L.set k x).flatMap ecB) := by
  subst hl
  exact own_setB h k x
theorem set_getD (N : List Bool) (j : Nat) (hj : j < N.length) : N.set j (N.getD j false) = N := by
  have h9 : N.getD j false = N[j]'hj := by simp [List.getD, List.getElem?_eq_getElem hj]
  rw [h9]
  exact List.set_getElem_self hj

theorem wpList_copyB {ops : Array Oper} {rest : List Oper} {o : Oper} {a : Act} {Q : Exit → Act → World → Prop} (hg : o.guard = none) (s x : Operand) (ho : o.op = .call { callee := .builtin .append, args := #[s, x], argTypes := #[71, 71] })
    (W : World) (L : List Bool) (v : Value) (hs : a.eval s = .slice (some ⟨W.heap.size, 0, none⟩) 0 0) (hx : a.eval x = v) (h : Sl W v ecB L) (hz : NilOk v) (hl : L.length ≤ 1000000)
    (hK : ∀ v' w', w'.ownsRow W.heap.size 4 1 v' L.length (L.flatMap ecB) → Below W.heap.size W w' → wpList Tryz.prog ops Q rest (a.put o.dst v') w') : wpList Tryz.prog ops Q (o :: rest) a (W.alloc (.cells #[] 4)) := by
  obtain ⟨i0, hi, hz0, hz1, hz2⟩ := info_parts b_info
  obtain ⟨b, off, p, cap, rfl, hp, hc⟩ := h
  cases p with
  | none =>
    have h0 : L.length = 0 := by
      rcases Nat.eq_zero_or_pos L.length with h | h
      · exact h
      · have := hp h; cases this
    have hL : L = [] := List.eq_nil_of_length_eq_zero h0
    subst hL
    obtain rfl := hz _ _ rfl
    exact wpList_append_own_none hg s x 71 ho W.heap.size 4 i0 1 Tryz.underlying71 hi _ 0 [] hs (own_empty W 4 1) hx (hK _ _ (own_empty W 4 1) ((Below.refl _ _).alloc (Nat.le_refl _) _))
  | some ad =>
    have hnews : ∀ j u, (L.flatMap ecB)[j]? = some u → (W.alloc (.cells #[] 4)).cell? (ad.add j) = some u := fun j u hu => by
      have h0 : 0 < L.length := by
        rcases Nat.eq_zero_or_pos L.length with h | h
        · have : L = [] := List.eq_nil_of_length_eq_zero h
          subst this
          simp at hu
        · exact h
      have ha := hp h0
      cases ha
      rw [Go.WideShapes.add_plain]
      have := hc j u hu
      exact (World.cell?_alloc_lt _ _ _ (World.block_lt_of_cell? _ _ this)).trans this
    have hlen : (L.flatMap ecB).length = L.length * 1 := flat_length ecB_len L
    refine wpList_append_own _ hg s x 71 ho W.heap.size 4 i0 (.bool false) 1 1 Tryz.underlying71 hi hz0 hz1 hz2 rfl (by decide) _ 0 [] hs (own_empty W 4 1) _ L.length cap (L.flatMap ecB) hx hlen hnews bool_one (by unfold maxLen; omega) (by omega) (by simp) ?_
    intro v2 w1 hown9 hgrow _
    rw [Nat.zero_add, List.nil_append] at hown9
    exact hK _ _ hown9 (Below.grown (w := _) ((Below.refl _ _).alloc (Nat.le_refl _) _) hgrow (by simp) (fun q hq => by cases hq; exact Nat.le_refl _))

set_option maxRecDepth 100000 in
set_option maxHeartbeats 8000000 in
theorem after_any (E : List Ex) (hEl : E.length ≤ 1000) (l : List St) (hll : l.length ≤ 1000) (hpr : ∀ s ∈ l, emptyB s.v = (s.k == 3)) (now : List Bool) (hnl : now.length = E.length) (base : Nat) (ev nv lv : Value) (w : World) (hE : Sl w ev Ex.cs E) (hN : w.ownsRow base 4 1 nv now.length (now.flatMap ecB)) (hL : Sl w lv St.cs l) :
    Calls Tryz.prog 38 #[ev, nv, lv] w fun e w' => ∃ o, e = .returned o ∧ w'.ownsRow w.heap.size 4 1 o now.length ((doneK E l l.length now).flatMap ecB) ∧ Below w.heap.size w w' := by
  obtain ⟨i0, hi, hz0, hz1, hz2⟩ := info_parts b_info
  obtain ⟨eb, eoff, ep, ecap, rfl, hep, hec⟩ := hE.open (k := 7) (fun _ => rfl)
  obtain ⟨lb, loff, lp, lcap, rfl, hlp, hlc⟩ := hL.open St.cs_len
  have hNs := Sl.of_own hN
  have hNz := NilOk.own hN
  have hHn : Hid (now.length = E.length) := hnl
  have hnl2 : now.length ≤ 1000 := by omega
  obtain ⟨np, nc, rfl⟩ := own_len hN
  clear hE hL hN hnl
  · go_enter Tryz.func38, Tryz.ntmps38
    go_wp2_with (at_builtin; refine wpList_copyB rfl (.tmp 12) (.tmp 13) rfl w now (.slice np now.length nc) rfl rfl hNs hNz (by omega) ?_; intro v2 w1 hown9 hB2)
    obtain ⟨gp, gc, rfl⟩ := own_len hown9
    clear hNs hNz
    go_wp2_with fail
    go_loopw [17] (fun i wr => ∃ k : Nat, k ≤ l.length ∧ i = .int .i64 k ∧ wr.ownsRow w.heap.size 4 1 (.slice gp now.length gc) now.length ((doneK E l k now).flatMap ecB) ∧ Below w.heap.size w wr) (fun i _ => l.length - (intOf i).toNat)
    case atStart => exact ⟨0, Nat.zero_le _, rfl, hown9, hB2⟩
    case round =>
      obtain ⟨k, hk, rfl, hR, hB⟩ := hrel
      clear hown9 hB2
      have hw := hB.size
      by_cases hlt : k < l.length
      · obtain rfl := hlp (by omega)
        have hlt2 : (k : Int) < l.length := by omega
        have hcs : ∀ r u, ((l[k]'hlt).cs)[r]? = some u → wr.cell? ⟨lb, loff + k * 9 + r, none⟩ = some u := fun r u hu => by
          rw [Nat.add_assoc]
          exact nextC hB (hlc k hlt r u hu)
        have hps := hpr _ (List.getElem_mem hlt)
        have hHd : Hid (doneK E l (k + 1) now = knowK E (l[k]'hlt) E.length (doneK E l k now)) := by
          show _ = _
          simp only [doneK, List.getElem?_eq_getElem hlt]
        have hDl : Hid ((doneK E l k now).length = now.length) := doneK_len E l k now
        generalize l[k]'hlt = s at hcs hps hHd
        obtain ⟨sk, sv, ⟨sop, ⟨s1, sa1, sb1⟩, ⟨s2, sa2, sb2⟩⟩⟩ := s
        have hps : emptyB sv = (sk == 3) := hps
        generalize doneK E l k now = D at hR hHd hDl
        have e0 : wr.cell? ⟨lb, loff + k * 9, none⟩ = some (.int .i64 sk) := hcs 0 _ rfl
        have hbq := World.block_lt_of_cell? _ _ e0
        have e1 : wr.cell? ⟨lb, loff + k * 9 + 1, none⟩ = some (.string sv) := hcs 1 _ rfl
        have e2 : wr.cell? ⟨lb, loff + k * 9 + 2, none⟩ = some (.int .i64 sop) := hcs 2 _ rfl
        have e3 : wr.cell? ⟨lb, loff + k * 9 + 3, none⟩ = some (.string s1) := hcs 3 _ rfl
        have e4 : wr.cell? ⟨lb, loff + k * 9 + 4, none⟩ = some (.int .i64 sa1) := hcs 4 _ rfl
        have e5 : wr.cell? ⟨lb, loff + k * 9 + 5, none⟩ = some (.int .i64 sb1) := hcs 5 _ rfl
        have e6 : wr.cell? ⟨lb, loff + k * 9 + 6, none⟩ = some (.string s2) := hcs 6 _ rfl
        have e7 : wr.cell? ⟨lb, loff + k * 9 + 7, none⟩ = some (.int .i64 sa2) := hcs 7 _ rfl
        have e8 : wr.cell? ⟨lb, loff + k * 9 + 8, none⟩ = some (.int .i64 sb2) := hcs 8 _ rfl
        clear hcs
        go_wp2_with fail
        clear e0 e1 e2 e3 e4 e5 e6 e7 e8 hbq
        obtain ⟨V1, hV1⟩ : ∃ V1, V1 = wr.alloc (.cells #[.int .i64 sk, .string sv, .int .i64 sop, .string s1, .int .i64 sa1, .int .i64 sb1, .string s2, .int .i64 sa2, .int .i64 sb2] 50) := ⟨_, rfl⟩
        obtain ⟨sbx, hsbx⟩ : ∃ sbx, Hid (wr.heap.size = sbx) := ⟨_, rfl⟩
        have hbx : V1.heap[wr.heap.size]? = some (.cells #[.int .i64 sk, .string sv, .int .i64 sop, .string s1, .int .i64 sa1, .int .i64 sb1, .string s2, .int .i64 sa2, .int .i64 sb2] 50 (0, 0)) := by rw [hV1]; exact heap_alloc_new _ _
        have hR1 : V1.ownsRow w.heap.size 4 1 (.slice gp now.length gc) now.length (D.flatMap ecB) := by rw [hV1]; exact hR.alloc _
        have hBV : Below w.heap.size w V1 := by rw [hV1]; exact hB.alloc hw _
        rw [← hV1]
        clear hV1 hsbx
        go_loopw [23] (fun i wq => ∃ j : Nat, j ≤ E.length ∧ i = .int .i64 j ∧ wq.ownsRow w.heap.size 4 1 (.slice gp now.length gc) now.length ((knowK E ⟨sk, sv, ⟨sop, ⟨s1, sa1, sb1⟩, ⟨s2, sa2, sb2⟩⟩⟩ j D).flatMap ecB) ∧ Below w.heap.size w wq ∧ wq.heap[wr.heap.size]? = some (.cells #[.int .i64 sk, .string sv, .int .i64 sop, .string s1, .int .i64 sa1, .int .i64 sb1, .string s2, .int .i64 sa2, .int .i64 sb2] 50 (0, 0))) (fun i _ => E.length - (intOf i).toNat)
        case atStart => exact ⟨0, Nat.zero_le _, rfl, hR1, hBV, hbx⟩
        case round =>
          obtain ⟨j, hj, rfl, hRj, hBj, hbj⟩ := hrel
          clear hR1 hBV hbx
          have hwj := hBj.size
          by_cases hjt : j < E.length
          · obtain rfl := hep (by omega)
            have hjt2 : (j : Int) < E.length := by omega
            have hjn2 : (j : Int) < now.length := by have : now.length = E.length := hHn; omega
            have hjn : j < now.length := by omega
            have hcx : ∀ r u, ((E[j]'hjt).cs)[r]? = some u → wr.cell? ⟨eb, eoff + j * 7 + r, none⟩ = some u := fun r u hu => by
              rw [Nat.add_assoc]
              exact nextC hBj (hec j hjt r u hu)
            have hHs : Hid (knowK E ⟨sk, sv, ⟨sop, ⟨s1, sa1, sb1⟩, ⟨s2, sa2, sb2⟩⟩⟩ (j + 1) D = (knowK E ⟨sk, sv, ⟨sop, ⟨s1, sa1, sb1⟩, ⟨s2, sa2, sb2⟩⟩⟩ j D).set j (knowB ⟨sk, sv, ⟨sop, ⟨s1, sa1, sb1⟩, ⟨s2, sa2, sb2⟩⟩⟩ (E[j]'hjt) ((knowK E ⟨sk, sv, ⟨sop, ⟨s1, sa1, sb1⟩, ⟨s2, sa2, sb2⟩⟩⟩ j D).getD j false))) := by
              show _ = _
              simp only [knowK, List.getElem?_eq_getElem hjt]
            have hN1l : (knowK E ⟨sk, sv, ⟨sop, ⟨s1, sa1, sb1⟩, ⟨s2, sa2, sb2⟩⟩⟩ j D).length = now.length := (knowK_len E ⟨sk, sv, ⟨sop, ⟨s1, sa1, sb1⟩, ⟨s2, sa2, sb2⟩⟩⟩ j D).trans hDl
            generalize E[j]'hjt = x at hcx hHs
            generalize knowK E ⟨sk, sv, ⟨sop, ⟨s1, sa1, sb1⟩, ⟨s2, sa2, sb2⟩⟩⟩ j D = N1 at hRj hHs hN1l
            obtain ⟨xop, ⟨x1, xa1, xb1⟩, ⟨x2, xa2, xb2⟩⟩ := x
            have d0 : wr.cell? ⟨eb, eoff + j * 7, none⟩ = some (.int .i64 xop) := hcx 0 _ rfl
            have dl := World.block_lt_of_cell? _ _ d0
            have d1 : wr.cell? ⟨eb, eoff + j * 7 + 1, none⟩ = some (.string x1) := hcx 1 _ rfl
            have d2 : wr.cell? ⟨eb, eoff + j * 7 + 2, none⟩ = some (.int .i64 xa1) := hcx 2 _ rfl
            have d3 : wr.cell? ⟨eb, eoff + j * 7 + 3, none⟩ = some (.int .i64 xb1) := hcx 3 _ rfl
            have d4 : wr.cell? ⟨eb, eoff + j * 7 + 4, none⟩ = some (.string x2) := hcx 4 _ rfl
            have d5 : wr.cell? ⟨eb, eoff + j * 7 + 5, none⟩ = some (.int .i64 xa2) := hcx 5 _ rfl
            have d6 : wr.cell? ⟨eb, eoff + j * 7 + 6, none⟩ = some (.int .i64 xb2) := hcx 6 _ rfl
            clear hcx
            obtain ⟨g, gc', hgv, hg1, hg2⟩ := own_some hRj (by omega)
            injection hgv with hgv1 _ hgv3
            subst hgv1 hgv3
            have hgne : g ≠ _ := fun he => own_ne hRj hbj (by decide) (congrArg some he)
            have hjN : j < N1.length := by omega
            have q0 := hRj.frozenAt j
            have dd := (hRj.cellAt j (by omega)).trans (ecB_get N1 j hjN)
            have gl := (hRj.lt g rfl).2
            obtain ⟨k0, k1, k2, k3, k4, k5, k6, k7, k8⟩ := nine hbj
            have kl := World.block_lt_of_cell? _ _ k0
            have hVa : Below wr.heap.size wr (wr.alloc (.cells #[.int .i64 xop, .string x1, .int .i64 xa1, .int .i64 xb1, .string x2, .int .i64 xa2, .int .i64 xb2] 48)) := (Below.refl _ _).alloc (Nat.le_refl _) _
            have hRb := own_below hRj hVa
            have hBb := hBj.trans (hVa.mono hwj)
            have hbb := blk_next hVa hbj
            have hask : ∀ W, Calls Tryz.prog 60 #[.agg #[.int .i64 xop, .string x1, .int .i64 xa1, .int .i64 xb1, .string x2, .int .i64 xa2, .int .i64 xb2], .string sv] W fun e' w' => e' = .returned (.bool (hasX ⟨xop, ⟨x1, xa1, xb1⟩, ⟨x2, xa2, xb2⟩⟩ sv)) ∧ Below W.heap.size W w' := fun W => asks_any ⟨xop, ⟨x1, xa1, xb1⟩, ⟨x2, xa2, xb2⟩⟩ sv W
            have hN1H : Hid (N1.length = now.length) := hN1l
            have hN1le : N1.length ≤ now.length := by omega
            have hN1ge : now.length ≤ N1.length := by omega
            clear hN1l
            by_cases h1 : sk = 1
            · subst h1
              have hk3 : ((1 : Int) != 3) = true := rfl
              cases heq : eqE ⟨sop, ⟨s1, sa1, sb1⟩, ⟨s2, sa2, sb2⟩⟩ ⟨xop, ⟨x1, xa1, xb1⟩, ⟨x2, xa2, xb2⟩⟩
              ·
                cases hz : hasX ⟨xop, ⟨x1, xa1, xb1⟩, ⟨x2, xa2, xb2⟩⟩ sv
                · rw [hz] at hask
                  have hst : Hid (knowK E ⟨1, sv, ⟨sop, ⟨s1, sa1, sb1⟩, ⟨s2, sa2, sb2⟩⟩⟩ (j + 1) D = N1) := by
                    show _ = _
                    rw [show knowK E ⟨1, sv, ⟨sop, ⟨s1, sa1, sb1⟩, ⟨s2, sa2, sb2⟩⟩⟩ (j + 1) D = _ from hHs, ← pageB_know hps]
                    have hpb : pageB ⟨1, sv, ⟨sop, ⟨s1, sa1, sb1⟩, ⟨s2, sa2, sb2⟩⟩⟩ ⟨xop, ⟨x1, xa1, xb1⟩, ⟨x2, xa2, xb2⟩⟩ (N1.getD j false) = N1.getD j false := by
                      unfold pageB
                      simp [heq, hz]
                    rw [hpb]
                    exact set_getD N1 j (by omega)
                  go_wp2_with ((go_at_call 60; refine' Calls.aft _ _ (hask _) _; rotate_left 2; (exact Below.refl _ _; rfl); intro x5; have hle := After.le x5; (try simp at hle)); have hR5 := own_below hRb x5.below; have q5 := hR5.frozenAt j; have d5 := (hR5.cellAt j (by omega)).trans (ecB_get _ j (by first | (rw [List.length_set]; omega) | omega)); have g5 := (hR5.lt g rfl).2)
                  go_roundw
                  case rel => exact ⟨j + 1, by omega, by simp, by rw [show knowK E ⟨1, sv, ⟨sop, ⟨s1, sa1, sb1⟩, ⟨s2, sa2, sb2⟩⟩⟩ (j + 1) D = _ from hst]; exact hR5, hBb.trans (x5.below.mono hBb.size), blk_next x5.below hbb⟩
                  case measure => simp [intOf]; omega
                · rw [hz] at hask
                  have hst : Hid (knowK E ⟨1, sv, ⟨sop, ⟨s1, sa1, sb1⟩, ⟨s2, sa2, sb2⟩⟩⟩ (j + 1) D = N1.set j false) := by
                    show _ = _
                    rw [show knowK E ⟨1, sv, ⟨sop, ⟨s1, sa1, sb1⟩, ⟨s2, sa2, sb2⟩⟩⟩ (j + 1) D = _ from hHs, ← pageB_know hps]
                    have hpb : pageB ⟨1, sv, ⟨sop, ⟨s1, sa1, sb1⟩, ⟨s2, sa2, sb2⟩⟩⟩ ⟨xop, ⟨x1, xa1, xb1⟩, ⟨x2, xa2, xb2⟩⟩ (N1.getD j false) = false := by
                      unfold pageB
                      simp [heq, hz, hk3]
                    rw [hpb]
                  go_wp2_with ((go_at_call 60; refine' Calls.aft _ _ (hask _) _; rotate_left 2; (exact Below.refl _ _; rfl); intro x5; have hle := After.le x5; (try simp at hle)); have hR5 := own_below hRb x5.below; have q5 := hR5.frozenAt j; have d5 := (hR5.cellAt j (by omega)).trans (ecB_get _ j (by first | (rw [List.length_set]; omega) | omega)); have g5 := (hR5.lt g rfl).2)
                  have hB5 := hBb.trans (x5.below.mono hBb.size)
                  go_roundw
                  case rel => exact ⟨j + 1, by omega, by simp, by rw [show knowK E ⟨1, sv, ⟨sop, ⟨s1, sa1, sb1⟩, ⟨s2, sa2, sb2⟩⟩⟩ (j + 1) D = _ from hst]; exact own_setB2 hR5 (by first | (rw [List.length_set]; omega) | omega) j false, hB5.setCell (p := ⟨g, j, none⟩) hg1 _, (heap_setCell_other _ _ _ _ (Ne.symm hgne)).trans (blk_next x5.below hbb)⟩
                  case measure => simp [intOf]; omega
              · have hgw1 : ¬ wr.heap.size = g := by omega
                have hgw2 : ¬ g = wr.heap.size := by omega
                have hgw3 := Ne.symm hgne
                have hRs0 := own_setB2 hRj (by omega) j true
                have hVs : Below (wr.setCell ⟨g, j, none⟩ (.bool true)).heap.size (wr.setCell ⟨g, j, none⟩ (.bool true)) ((wr.setCell ⟨g, j, none⟩ (.bool true)).alloc (.cells #[.int .i64 xop, .string x1, .int .i64 xa1, .int .i64 xb1, .string x2, .int .i64 xa2, .int .i64 xb2] 48)) := (Below.refl _ _).alloc (Nat.le_refl _) _
                have hRs := own_below hRs0 hVs
                have hBs : Below w.heap.size w ((wr.setCell ⟨g, j, none⟩ (.bool true)).alloc (.cells #[.int .i64 xop, .string x1, .int .i64 xa1, .int .i64 xb1, .string x2, .int .i64 xa2, .int .i64 xb2] 48)) := (hBj.setCell (p := ⟨g, j, none⟩) hg1 (.bool true)).alloc (by simp [World.setCell]; omega) _
                have hbs := blk_next hVs ((heap_setCell_other _ _ _ _ (Ne.symm hgne)).trans hbj)
                clear hBb hbb
                have hBb := hBs
                have hbb := hbs
                cases hz : hasX ⟨xop, ⟨x1, xa1, xb1⟩, ⟨x2, xa2, xb2⟩⟩ sv
                · rw [hz] at hask
                  have hst : Hid (knowK E ⟨1, sv, ⟨sop, ⟨s1, sa1, sb1⟩, ⟨s2, sa2, sb2⟩⟩⟩ (j + 1) D = N1.set j true) := by
                    show _ = _
                    rw [show knowK E ⟨1, sv, ⟨sop, ⟨s1, sa1, sb1⟩, ⟨s2, sa2, sb2⟩⟩⟩ (j + 1) D = _ from hHs, ← pageB_know hps]
                    have hpb : pageB ⟨1, sv, ⟨sop, ⟨s1, sa1, sb1⟩, ⟨s2, sa2, sb2⟩⟩⟩ ⟨xop, ⟨x1, xa1, xb1⟩, ⟨x2, xa2, xb2⟩⟩ (N1.getD j false) = true := by
                      unfold pageB
                      simp [heq, hz]
                    rw [hpb]
                  go_wp2_with ((go_at_call 60; refine' Calls.aft _ _ (hask _) _; rotate_left 2; (exact Below.refl _ _; rfl); intro x5; have hle := After.le x5; (try simp at hle)); have hR5 := own_below hRs x5.below; have q5 := hR5.frozenAt j; have d5 := (hR5.cellAt j (by omega)).trans (ecB_get (N1.set j true) j (by rw [List.length_set]; exact hjN)); have g5 := (hR5.lt g rfl).2)
                  go_roundw
                  case rel => exact ⟨j + 1, by omega, by simp, by rw [show knowK E ⟨1, sv, ⟨sop, ⟨s1, sa1, sb1⟩, ⟨s2, sa2, sb2⟩⟩⟩ (j + 1) D = _ from hst]; exact hR5, hBb.trans (x5.below.mono hBb.size), blk_next x5.below hbb⟩
                  case measure => simp [intOf]; omega
                · rw [hz] at hask
                  have hst : Hid (knowK E ⟨1, sv, ⟨sop, ⟨s1, sa1, sb1⟩, ⟨s2, sa2, sb2⟩⟩⟩ (j + 1) D = (N1.set j true).set j false) := by
                    show _ = _
                    rw [show knowK E ⟨1, sv, ⟨sop, ⟨s1, sa1, sb1⟩, ⟨s2, sa2, sb2⟩⟩⟩ (j + 1) D = _ from hHs, ← pageB_know hps]
                    have hpb : pageB ⟨1, sv, ⟨sop, ⟨s1, sa1, sb1⟩, ⟨s2, sa2, sb2⟩⟩⟩ ⟨xop, ⟨x1, xa1, xb1⟩, ⟨x2, xa2, xb2⟩⟩ (N1.getD j false) = false := by
                      unfold pageB
                      simp [heq, hz, hk3]
                    rw [hpb]
                    rw [List.set_set]
                  go_wp2_with ((go_at_call 60; refine' Calls.aft _ _ (hask _) _; rotate_left 2; (exact Below.refl _ _; rfl); intro x5; have hle := After.le x5; (try simp at hle)); have hR5 := own_below hRs x5.below; have q5 := hR5.frozenAt j; have d5 := (hR5.cellAt j (by omega)).trans (ecB_get (N1.set j true) j (by rw [List.length_set]; exact hjN)); have g5 := (hR5.lt g rfl).2)
                  have hB5 := hBb.trans (x5.below.mono hBb.size)
                  go_roundw
                  case rel => exact ⟨j + 1, by omega, by simp, by rw [show knowK E ⟨1, sv, ⟨sop, ⟨s1, sa1, sb1⟩, ⟨s2, sa2, sb2⟩⟩⟩ (j + 1) D = _ from hst]; exact own_setB2 hR5 (by first | (rw [List.length_set]; omega) | omega) j false, hB5.setCell (p := ⟨g, j, none⟩) hg1 _, (heap_setCell_other _ _ _ _ (Ne.symm hgne)).trans (blk_next x5.below hbb)⟩
                  case measure => simp [intOf]; omega
            · by_cases h3 : sk = 3
              · subst h3
                have hst : Hid (knowK E ⟨3, sv, ⟨sop, ⟨s1, sa1, sb1⟩, ⟨s2, sa2, sb2⟩⟩⟩ (j + 1) D = N1) := by
                  show _ = _
                  rw [show knowK E ⟨3, sv, ⟨sop, ⟨s1, sa1, sb1⟩, ⟨s2, sa2, sb2⟩⟩⟩ (j + 1) D = _ from hHs, ← pageB_know hps]
                  have hpb : pageB ⟨3, sv, ⟨sop, ⟨s1, sa1, sb1⟩, ⟨s2, sa2, sb2⟩⟩⟩ ⟨xop, ⟨x1, xa1, xb1⟩, ⟨x2, xa2, xb2⟩⟩ (N1.getD j false) = N1.getD j false := by
                    unfold pageB
                    simp [h1]
                  rw [hpb]
                  exact set_getD N1 j (by omega)
                go_wp2_with fail
                go_roundw
                case rel => exact ⟨j + 1, by omega, by simp, by rw [show knowK E ⟨3, sv, ⟨sop, ⟨s1, sa1, sb1⟩, ⟨s2, sa2, sb2⟩⟩⟩ (j + 1) D = _ from hst]; exact hRb, hBb, hbb⟩
                case measure => simp [intOf]; omega
              · have hk1 : (sk == 1) = false := by simp [h1]
                have hk3 : (sk != 3) = true := by simp [h3]
                cases hz : hasX ⟨xop, ⟨x1, xa1, xb1⟩, ⟨x2, xa2, xb2⟩⟩ sv
                · rw [hz] at hask
                  have hst : Hid (knowK E ⟨sk, sv, ⟨sop, ⟨s1, sa1, sb1⟩, ⟨s2, sa2, sb2⟩⟩⟩ (j + 1) D = N1) := by
                    show _ = _
                    rw [show knowK E ⟨sk, sv, ⟨sop, ⟨s1, sa1, sb1⟩, ⟨s2, sa2, sb2⟩⟩⟩ (j + 1) D = _ from hHs, ← pageB_know hps]
                    have hpb : pageB ⟨sk, sv, ⟨sop, ⟨s1, sa1, sb1⟩, ⟨s2, sa2, sb2⟩⟩⟩ ⟨xop, ⟨x1, xa1, xb1⟩, ⟨x2, xa2, xb2⟩⟩ (N1.getD j false) = N1.getD j false := by
                      unfold pageB
                      simp [h1, h3, hz]
                    rw [hpb]
                    exact set_getD N1 j (by omega)
                  go_wp2_with ((go_at_call 60; refine' Calls.aft _ _ (hask _) _; rotate_left 2; (exact Below.refl _ _; rfl); intro x5; have hle := After.le x5; (try simp at hle)); have hR5 := own_below hRb x5.below; have q5 := hR5.frozenAt j; have d5 := (hR5.cellAt j (by omega)).trans (ecB_get _ j (by first | (rw [List.length_set]; omega) | omega)); have g5 := (hR5.lt g rfl).2)
                  go_roundw
                  case rel => exact ⟨j + 1, by omega, by simp, by rw [show knowK E ⟨sk, sv, ⟨sop, ⟨s1, sa1, sb1⟩, ⟨s2, sa2, sb2⟩⟩⟩ (j + 1) D = _ from hst]; exact hR5, hBb.trans (x5.below.mono hBb.size), blk_next x5.below hbb⟩
                  case measure => simp [intOf]; omega
                · rw [hz] at hask
                  have hst : Hid (knowK E ⟨sk, sv, ⟨sop, ⟨s1, sa1, sb1⟩, ⟨s2, sa2, sb2⟩⟩⟩ (j + 1) D = N1.set j false) := by
                    show _ = _
                    rw [show knowK E ⟨sk, sv, ⟨sop, ⟨s1, sa1, sb1⟩, ⟨s2, sa2, sb2⟩⟩⟩ (j + 1) D = _ from hHs, ← pageB_know hps]
                    have hpb : pageB ⟨sk, sv, ⟨sop, ⟨s1, sa1, sb1⟩, ⟨s2, sa2, sb2⟩⟩⟩ ⟨xop, ⟨x1, xa1, xb1⟩, ⟨x2, xa2, xb2⟩⟩ (N1.getD j false) = false := by
                      unfold pageB
                      simp [h1, h3, hz, hk3]
                    rw [hpb]
                  go_wp2_with ((go_at_call 60; refine' Calls.aft _ _ (hask _) _; rotate_left 2; (exact Below.refl _ _; rfl); intro x5; have hle := After.le x5; (try simp at hle)); have hR5 := own_below hRb x5.below; have q5 := hR5.frozenAt j; have d5 := (hR5.cellAt j (by omega)).trans (ecB_get _ j (by first | (rw [List.length_set]; omega) | omega)); have g5 := (hR5.lt g rfl).2)
                  have hB5 := hBb.trans (x5.below.mono hBb.size)
                  go_roundw
                  case rel => exact ⟨j + 1, by omega, by simp, by rw [show knowK E ⟨sk, sv, ⟨sop, ⟨s1, sa1, sb1⟩, ⟨s2, sa2, sb2⟩⟩⟩ (j + 1) D = _ from hst]; exact own_setB2 hR5 (by first | (rw [List.length_set]; omega) | omega) j false, hB5.setCell (p := ⟨g, j, none⟩) hg1 _, (heap_setCell_other _ _ _ _ (Ne.symm hgne)).trans (blk_next x5.below hbb)⟩
                  case measure => simp [intOf]; omega
          · have hjs : j = E.length := by omega
            subst hjs
            have hjt2 : ¬ (E.length : Int) < E.length := by omega
            go_wp2_with fail
            go_roundw
            case rel => exact ⟨k + 1, by omega, by simp, by rw [show doneK E l (k + 1) now = _ from hHd]; exact hRj, hBj⟩
            case measure => simp [intOf]; omega
      · have hks : k = l.length := by omega
        subst hks
        have hlt2 : ¬ (l.length : Int) < l.length := by omega
        go_wp2_with fail
        refine bodyPost_ret (v := .slice gp now.length gc) (by simp only [results, Tryz.results38]; go_simp) rfl ⟨_, rfl, hR, hB⟩

end Go.Proofs.YtaaklejkngpddaaGreat.Pr

namespace Go.Proofs.YtaaklejkngpddaaGreat.Pr
set_option linter.unusedVariables false
set_option linter.unusedSimpArgs false
open Go Go.RowKit

/-- What stands while the page goes through the visits. -/
structure RK (w : World) (pv sv : Value) (E : List Ex) (X : List Lv) (now : List Bool) (wr : World) (ov nv : Value) : Prop where
  pb : wr.heap[w.heap.size]? = some (.cells #[pv] 24 (0, 0))
  ex : wr.ownsRow w.heap.size 48 7 sv E.length (E.flatMap Ex.cs)
  oo : wr.ownsRow w.heap.size 56 1 ov X.length (X.flatMap Lv.cs)
  no : wr.ownsRow w.heap.size 4 1 nv now.length (now.flatMap ecB)
  xr : ∀ x ∈ X, wr.ownsRow w.heap.size 3 1 x.v x.l.length (x.l.flatMap ecI)
  be : Below w.heap.size w wr
theorem RK.below {w : World} {pv sv : Value} {E : List Ex} {X : List Lv} {now : List Bool} {wr q : World} {ov nv : Value} (h : RK w pv sv E X now wr ov nv) (hq : Below wr.heap.size wr q) : RK w pv sv E X now q ov nv :=
  ⟨blk_next hq h.pb, own_below h.ex hq, own_below h.oo hq, own_below h.no hq, fun x hx => own_below (h.xr x hx) hq, nextB hq h.be⟩
theorem RK.visit {w : World} {pv sv : Value} {E : List Ex} {X : List Lv} {now : List Bool} {l : List Int} {W W6 : World} {ov nv v v' : Value} (h : RK w pv sv E X now W ov nv) (hv : W.ownsRow w.heap.size 3 1 v l.length (l.flatMap ecI))
    (hg : W.grownBy W6 ov.ownBlock) (ho : W6.ownsRow w.heap.size 56 1 v' (X.length + 1) (X.flatMap Lv.cs ++ [v])) : RK w pv sv E (X ++ [⟨l, v⟩]) now W6 v' nv := by
  refine ⟨(hg.block _ (lt_of_some h.pb) (fun he => own_ne h.oo h.pb (by decide) he.symm)).trans h.pb, h.ex.kept hg (ownTy h.ex h.oo (by decide)), ?_, h.no.kept hg (ownTy h.no h.oo (by decide)), fun x hx => ?_, Below.grown (w := _) h.be hg h.be.size (fun q hq => (h.oo.lt q hq).1)⟩
  · rw [flat_snocL, List.length_append]
    exact ho
  · rcases List.mem_append.1 hx with hx | hx
    · exact (h.xr x hx).kept hg (ownTy (h.xr x hx) h.oo (by decide))
    · obtain rfl := List.mem_singleton.1 hx
      exact hv.kept hg (ownTy hv h.oo (by decide))

/-- A proper program's statements: those that tell have no variable. -/
def Tells (P : List Bl) : Prop := ∀ b ∈ P, ∀ s ∈ b.l, emptyB s.v = (s.k == 3)

set_option maxRecDepth 100000 in
set_option maxHeartbeats 8000000 in
theorem rknown_any (P : List Bl) (hpr : Tells P) (L : List Ps) (hOk : ∀ t ∈ L, 0 ≤ t.b ∧ t.b < P.length) (hLl : L.length ≤ 5000) (Xs : List Sv) (hXs : Xs.map Sv.p = L) (hsh : ∀ x ∈ Xs, (∃ p n c, x.ev = .slice p n c) ∧ ∃ p n c, x.ov = .slice p n c) (pv vv : Value) (w : World) (hP : Pg w pv P) (h12 : P.length ≤ 12) (hl12 : ∀ b ∈ P, b.l.length ≤ 12) (hV : Sl w vv Sv.cs Xs) :
    Calls Tryz.prog 13 #[.agg #[pv], vv] w fun e w' => ∃ o, e = .returned o ∧ (∃ X : List Lv, X.map Lv.l = (knownW P (exprsOf P) L (List.replicate (exprsOf P).length false) L.length).1 ∧ Sl w' o Lv.cs X ∧ ∀ x ∈ X, Sl w' x.v ecI x.l) ∧ Below w.heap.size w w' := by
  obtain ⟨i0, hi, hz0, hz1, hz2⟩ := info_parts ii_info
  obtain ⟨j0, hj, hy0, hy1, hy2⟩ := info_parts i_info
  obtain ⟨q0, hq, hu0, hu1, hu2⟩ := info_parts b_info
  have hXl : Xs.length = L.length := by rw [← hXs, List.length_map]
  have hXs2 : Hid (Xs.map Sv.p = L) := hXs
  obtain ⟨bb, off, p, cap, rfl, hpp, hpc⟩ := Pg.open hP
  obtain ⟨vb, voff, vp, vcap, rfl, hvp, hvc⟩ := hV.open Sv.cs_len
  rw [hXl] at hvp ⊢
  have hXl2 : Hid (Xs.length = L.length) := hXl
  have hB1 : Below w.heap.size w (w.alloc (.cells #[.slice p P.length cap] 24)) := (Below.refl _ _).alloc (Nat.le_refl _) _
  have hex := rexprs_any P _ _ (hP.below hB1) h12 hl12
  have hel : (exprsOf P).length ≤ 1000 := by have := exprs_len hl12 P.length (Nat.le_refl _); rw [List.take_length] at this; omega
  have hpb0 := heap_alloc_new w (.cells #[.slice p P.length cap] 24)
  generalize exprsOf P = E at hex hel ⊢
  have hkl := knownW_len P E L (List.replicate E.length false)
  clear hP hV hXs hXl
  go_enter Tryz.func13, Tryz.ntmps13
  go_wp2_with (first | (go_at_call 37; refine hex.mono ?_; rintro e W1 ⟨sv, rfl, hsv, hBs⟩; obtain ⟨svp, svc, rfl⟩ : ∃ p c, sv = .slice p E.length c := own_len hsv; have hBw := hB1.trans (hBs.mono hB1.size)) | (at_make; refine wpList_make_full _ rfl _ _ 71 rfl W1.heap.size 4 q0 (.bool false) 1 Tryz.underlying71 hq hu0 hu1 .i64 .i64 _ _ E.length rfl rfl rfl rfl (by rw [hu2]; omega) (by unfold maxLen; omega) (Nat.le_refl _) ?_; intro w3 hown hgrow; rw [zerosB] at hown; have h23 : Below W1.heap.size W1 w3 := Below.grown (w := _) (Below.refl _ _) hgrow (Nat.le_refl _) (fun q hq => by cases hq)))
  have hR0 : RK w (.slice p P.length cap) (.slice svp E.length svc) E [] (List.replicate E.length false) w3 (.slice none 0 0) (.slice (some ⟨W1.heap.size, 0, none⟩) E.length E.length) := by
    have h1 := hBs.size
    simp only [World.size_alloc] at h1
    refine ⟨blk_next h23 (blk_next hBs hpb0), own_below (own_base hsv (by simp)) h23, World.ownsRow_nil _ _ _ _, ?_, (fun x hx => by simp at hx), nextB h23 hBw⟩
    rw [List.length_replicate]
    exact own_base hown (by omega)
  clear hown hgrow h23 hsv hBs hpb0 hex hB1 hBw
  go_loopw [6, 7, 20] (fun nv o i wr => ∃ (m : Nat) (X : List Lv), m ≤ L.length ∧ i = .int .i64 m ∧ X.map Lv.l = (knownW P E L (List.replicate E.length false) m).1 ∧ X.length = m ∧ RK w (.slice p P.length cap) (.slice svp E.length svc) E X (knownW P E L (List.replicate E.length false) m).2 wr o nv) (fun _ _ i _ => L.length - (intOf i).toNat)
  case atStart => exact ⟨0, [], Nat.zero_le _, rfl, rfl, rfl, hR0⟩
  case round =>
    obtain ⟨m, X, hm, rfl, hXm, hXn, hR⟩ := hrel
    clear hR0
    have hB := hR.be
    have hw := hB.size
    obtain ⟨op, oc, rfl⟩ := own_len hR.oo
    obtain ⟨np, nc, hnv⟩ := own_len hR.no
    have hk2 := hkl m
    have hXnH : Hid (X.length = m) := hXn
    have hXb : X.length ≤ 5000 := by omega
    clear hXn
    by_cases hlt : m < L.length
    · obtain rfl := hvp (by omega)
      have hlt2 : (m : Int) < L.length := by omega
      have hmx : m < Xs.length := by have : Xs.length = L.length := hXl2; omega
      have hLp : L[m]'hlt = (Xs[m]'hmx).p := by
        have h9 : Xs.map Sv.p = L := hXs2
        have h8 : L[m]? = some (Xs[m]'hmx).p := by rw [← h9, List.getElem?_map, List.getElem?_eq_getElem hmx]; rfl
        rw [List.getElem?_eq_getElem hlt] at h8
        exact Option.some.inj h8
      have hok := hOk _ (List.getElem_mem hlt)
      have hlw1 : knownW P E L (List.replicate E.length false) (m + 1) = ((knownW P E L (List.replicate E.length false) m).1 ++ [idxT (knownW P E L (List.replicate E.length false) m).2 (knownW P E L (List.replicate E.length false) m).2.length], doneK E (P.getD (L[m]'hlt).b.toNat default).l (P.getD (L[m]'hlt).b.toNat default).l.length (knownW P E L (List.replicate E.length false) m).2) := by
        simp only [knownW, List.getElem?_eq_getElem hlt]
      have hcv : ∀ r u, ((Xs[m]'hmx).cs)[r]? = some u → wr.cell? ⟨vb, voff + m * 4 + r, none⟩ = some u := fun r u hu => by
        rw [Nat.add_assoc]
        exact nextC hB (hvc m hmx r u hu)
      have hsx := hsh _ (List.getElem_mem hmx)
      clear hvc hvp
      rw [hLp] at hlw1 hok
      clear hLp
      generalize knownW P E L (List.replicate E.length false) m = A at hXm hR hlw1 hk2 hnv
      obtain ⟨A1, A2⟩ := A
      generalize Xs[m]'hmx = xs at hlw1 hok hcv hsx
      obtain ⟨⟨cb, cr⟩, ev, oo⟩ := xs
      obtain ⟨⟨ep, en, ec, rfl⟩, qp, qn, qc, rfl⟩ : (∃ p n c, ev = .slice p n c) ∧ ∃ p n c, oo = .slice p n c := hsx
      have g1 : 0 ≤ cb := hok.1
      have g2 : cb < P.length := hok.2
      obtain ⟨kb, rfl⟩ : ∃ k : Nat, cb = k := ⟨cb.toNat, (Int.toNat_of_nonneg g1).symm⟩
      have hkb : kb < P.length := by omega
      have hgd : P.getD ((kb : Nat) : Int).toNat default = P[kb]'hkb := by rw [Int.toNat_natCast]; simp [List.getD, List.getElem?_eq_getElem hkb]
      have hlw1 : knownW P E L (List.replicate E.length false) (m + 1) = (A1 ++ [idxT A2 A2.length], doneK E (P.getD ((kb : Nat) : Int).toNat default).l (P.getD ((kb : Nat) : Int).toNat default).l.length A2) := hlw1
      rw [hgd] at hlw1
      have hHw : Hid (knownW P E L (List.replicate E.length false) (m + 1) = (A1 ++ [idxT A2 A2.length], doneK E (P[kb]'hkb).l (P[kb]'hkb).l.length A2)) := hlw1
      have hA2 : A2.length = E.length := by have h9 : A2.length = _ := hk2; rw [List.length_replicate] at h9; exact h9
      have hA2H : Hid (A2.length = E.length) := hA2
      subst hnv
      have hA2l : A2.length ≤ 1000 := by omega
      clear hlw1 hgd hk2 hA2 g1 hok
      have d0 : wr.cell? ⟨vb, voff + m * 4, none⟩ = some (.int .i64 kb) := hcv 0 _ rfl
      have dl := World.block_lt_of_cell? _ _ d0
      have d1 : wr.cell? ⟨vb, voff + m * 4 + 1, none⟩ = some (.slice ep en ec) := hcv 1 _ rfl
      have d2 : wr.cell? ⟨vb, voff + m * 4 + 2, none⟩ = some (.int .i64 cr.i) := hcv 2 _ rfl
      have d3 : wr.cell? ⟨vb, voff + m * 4 + 3, none⟩ = some (.slice qp qn qc) := hcv 3 _ rfl
      clear hcv
      go_wp2_with fail
      obtain ⟨V2, hV2⟩ : ∃ V2, V2 = wr.alloc (.cells #[.int .i64 kb, .slice ep en ec, .int .i64 cr.i, .slice qp qn qc] 38) := ⟨_, rfl⟩
      have hwv : Below wr.heap.size wr V2 := by rw [hV2]; exact (Below.refl _ _).alloc (Nat.le_refl _) _
      have hR2 := hR.below hwv
      have e9 : V2.heap[wr.heap.size]? = some (.cells #[.int .i64 kb, .slice ep en ec, .int .i64 cr.i, .slice qp qn qc] 38 (0, 0)) := by rw [hV2]; exact heap_alloc_new _ _
      have hV2s := hR2.be.size
      have hkb2 : (kb : Int) < P.length := by omega
      have hsl := (hpc kb hkb).2
      have hcb : ∀ r u, ((P[kb]'hkb).cs)[r]? = some u → w.cell? ⟨bb, off + kb * 8 + r, none⟩ = some u := fun r u hu => by
        rw [Nat.add_assoc]
        exact (hpc kb hkb).1 r u hu
      have hprB := hpr _ (List.getElem_mem hkb)
      have hllB := hl12 _ (List.getElem_mem hkb)
      obtain rfl := hpp (by omega)
      generalize P[kb]'hkb = B at hHw hsl hcb hprB hllB
      obtain ⟨lp, lc, hlv⟩ : ∃ p c, B.lv = .slice p B.l.length c := sl_len hsl
      have b1 : w.cell? ⟨bb, off + kb * 8 + 1, none⟩ = some (.slice lp B.l.length lc) := by rw [← hlv]; exact hcb 1 _ rfl
      rw [hlv] at hsl
      rw [← hV2]
      clear hV2 d0 d1 d2 d3 dl hcb hR hlv
      go_loopw [10, 26] (fun o i wq => ∃ k : Nat, k ≤ A2.length ∧ i = .int .i64 k ∧ wq.ownsRow V2.heap.size 3 1 o (idxT A2 k).length ((idxT A2 k).flatMap ecI) ∧ Below V2.heap.size V2 wq) (fun _ i _ => A2.length - (intOf i).toNat)
      case atStart => exact ⟨0, Nat.zero_le _, rfl, World.ownsRow_nil _ _ _ _, Below.refl _ _⟩
      case round =>
        obtain ⟨k, hk, rfl, hown, hBk⟩ := hrel
        have hszk := hBk.size
        have hd := hR2.below hBk
        obtain ⟨tp, tc, rfl⟩ : ∃ p c, _ = Value.slice p (idxT A2 k).length c := own_len hown
        by_cases hkt : k < A2.length
        · have hkt2 : (k : Int) < A2.length := by omega
          obtain ⟨g, gc, hgv, hg1, hg2⟩ := own_some hd.no (by omega)
          injection hgv with hgv1 _ hgv3
          subst hgv1 hgv3
          have dd := (hd.no.cellAt k (by omega)).trans (ecB_get A2 k hkt)
          have hil := idxT_len A2 k
          cases hv : A2[k]'hkt
          · have hH : Hid (idxT A2 (k + 1) = idxT A2 k) := by
              show (if A2[k]? = some true then _ else _) = _
              rw [if_neg (by rw [List.getElem?_eq_getElem hkt, hv]; simp)]
            rw [hv] at dd
            go_wp2_with fail
            go_roundw
            case rel => exact ⟨k + 1, by omega, by simp, by rw [show idxT A2 (k + 1) = _ from hH]; exact hown, hBk⟩
            case measure => simp [intOf]; omega
          · have hH : Hid (idxT A2 (k + 1) = idxT A2 k ++ [(k : Int)]) := by
              show (if A2[k]? = some true then _ else _) = _
              rw [if_pos (by rw [List.getElem?_eq_getElem hkt, hv])]
            rw [hv] at dd
            generalize idxT A2 k = T at hown hH hil
            go_wp2_with (at_builtin; refine wpList_append_own _ rfl _ _ 56 rfl V2.heap.size 3 j0 (.int .i64 0) 1 8 Tryz.underlying56 hj hy0 hy1 hy2 rfl (by decide) _ T.length (T.flatMap ecI) rfl (hown.alloc _) _ 1 1 [.int .i64 (k : Int)] rfl rfl (news_at rfl) (by intro u hu; simp at hu; subst hu; rfl) (by unfold maxLen; omega) (by omega) (by simp; omega) ?_; intro v2 w1 hown' hgrow _)
            have hlt1 := hown.lt
            have hB2 : Below V2.heap.size V2 w1 := Below.grown (w := _) (hBk.alloc hszk _) hgrow (by simp; omega) (fun q hq => (hlt1 q hq).1)
            go_wp2_with fail
            go_roundw
            case rel => exact ⟨k + 1, by omega, by simp, by rw [show idxT A2 (k + 1) = _ from hH, List.flatMap_append, List.length_append]; exact hown', hB2⟩
            case measure => simp [intOf]; omega
        · have hks : k = A2.length := by omega
          subst hks
          have hkt2 : ¬ (A2.length : Int) < A2.length := by omega
          generalize hT0 : idxT A2 A2.length = T at hown ⊢
          have hT : Hid (idxT A2 A2.length = T) := hT0
          clear hT0
          have hq := hd.below ((Below.refl wr.heap.size wr).alloc (Nat.le_refl _) (.cells #[.slice tp T.length tc] 56))
          have e10 := blk_next ((Below.refl wr.heap.size wr).alloc (Nat.le_refl _) (.cells #[.slice tp T.length tc] 56)) (blk_next hBk e9)
          go_wp2_with (first | (at_builtin; refine wpList_append_own _ rfl _ _ 28 rfl w.heap.size 56 i0 (.slice none 0 0) 1 24 Tryz.underlying28 hi hz0 hz1 hz2 rfl (by decide) _ X.length (X.flatMap Lv.cs) rfl hq.oo _ 1 1 [.slice tp T.length tc] rfl rfl (news_at rfl) (by intro u hu; simp at hu; subst hu; rfl) (by unfold maxLen; omega) (by omega) (by have := hq.be.size; omega) ?_; intro v6 W6 ho6 hg6 hv6; have hRv := hq.visit (own_base (hown.alloc _) hV2s) hg6 ho6; have y0 := cell_of_one hRv.pb; have yl := lt_of_some hRv.pb; obtain ⟨f0, f1, f2, f3, _, fl⟩ := four ((hg6.block _ (lt_of_some e10) (fun he => own_ne hq.oo e10 (by decide) he.symm)).trans e10); have b1' := nextC hRv.be b1; have bl' := World.block_lt_of_cell? _ _ b1') | (go_at_call 38; refine (after_any E hel B.l (by omega) hprB A2 hA2H w.heap.size _ _ _ _ (Sl.of_own hRv.ex) hRv.no (hsl.below hRv.be)).mono ?_; rintro e W9 ⟨o9, rfl, ho9, hB9⟩))
          go_roundw
          case rel => exact ⟨m + 1, X ++ [⟨T, .slice tp T.length tc⟩], by omega, by simp, by rw [show knownW P E L (List.replicate E.length false) (m + 1) = _ from hHw, show idxT A2 A2.length = T from hT]; simp [hXm], by rw [List.length_append, show X.length = m from hXnH]; rfl, by
            rw [show knownW P E L (List.replicate E.length false) (m + 1) = _ from hHw]
            have h9 := hRv.below hB9
            exact ⟨h9.pb, h9.ex, h9.oo, by rw [doneK_len]; exact own_base ho9 hRv.be.size, h9.xr, h9.be⟩⟩
          case measure => simp [intOf]; omega
    · have hks : m = L.length := by omega
      subst hks
      have hlt2 : ¬ (L.length : Int) < L.length := by omega
      clear hvc hvp
      go_wp2_with fail
      refine bodyPost_ret (v := .slice op X.length oc) (by simp only [results, Tryz.results13]; go_simp) rfl ⟨_, rfl, ?_, hB⟩
      exact ⟨X, hXm, Sl.of_own hR.oo, fun x hx => Sl.of_own (hR.xr x hx)⟩

end Go.Proofs.YtaaklejkngpddaaGreat.Pr
