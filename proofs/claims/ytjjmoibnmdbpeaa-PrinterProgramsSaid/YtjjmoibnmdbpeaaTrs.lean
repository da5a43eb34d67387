/- WALK of tables.Sites (as in Tabj, for seats that lack the page's sites). -/
import Derived.Test.YtjjmoibnmdbpeaaTabg
import Derived.Test.YtjjmoibnmdbpeaaTabd
namespace Go.Proofs.Ytjjmoibnmdbpeaa.Pr
set_option linter.unusedVariables false
set_option linter.unusedSimpArgs false
open Go Go.RowKit

theorem flat_snocS (X : List Si) (s : Si) : (X ++ [s]).flatMap Si.cs = X.flatMap Si.cs ++ s.cs := by rw [List.flatMap_append]; simp
theorem own_snocT {t : TypeId} {w : World} {base : Nat} {v : Value} {X : List Si} {s : Si} {cs : List Value} (hcs : cs = s.cs) (h : w.ownsRow base t 3 v (X.length + 1) (X.flatMap Si.cs ++ cs)) : w.ownsRow base t 3 v (X ++ [s]).length ((X ++ [s]).flatMap Si.cs) := by
  rw [flat_snocS, List.length_append, ← hcs]
  exact h
theorem s3_info : (Try.prog.info? 66).map (fun i => (i.zero, i.size, i.bytes)) = some (some (.agg #[.int .i64 0, .int .i64 0, .string ⟨#[]⟩]), 3, 32) := by kernel_rfl

set_option maxRecDepth 100000 in
set_option maxHeartbeats 2000000 in
theorem tsites_any (P : List Bl) (pv : Value) (w : World) (h : Pg w pv P) (h12 : P.length ≤ 12) (hl12 : ∀ b ∈ P, b.l.length ≤ 12) :
    Calls Try.prog 23 #[.agg #[pv]] w fun e w' => ∃ o, e = .returned o ∧ Sl w' o Si.cs (sitesOf P) ∧ Below w.heap.size w w' := by
  obtain ⟨i0, hi, hz0, hz1, hz2⟩ := info_parts s3_info
  have h1 : Pg (w.alloc (.cells #[pv] 57)) pv P := h.below ((Below.refl _ _).alloc (Nat.le_refl _) _)
  have hv := vars_any P pv _ h1 h12 hl12
  obtain ⟨b, off, p, cap, rfl, hp, hc⟩ := Pg.open h
  have hvl : (vars P).length ≤ 444 := by have := blVars_len hl12 P.length; show (blVars P P.length).length ≤ _; omega
  have hbl := blSites_len hl12
  obtain ⟨R, hR⟩ : ∃ R, Hid ((vars P).map (fun v => (⟨-1, 0, v⟩ : Si)) ++ blSites P P.length = R) := ⟨_, rfl⟩
  rw [show sitesOf P = R from hR]
  generalize vars P = V at hv hvl hR
  go_enter Try.func23, Try.ntmps23
  go_wp2_with ((go_at_call 42; refine' Calls.aftS _ _ (hv) _; rotate_left 2; (first | (with_reducible exact After.below _; rfl) | (with_reducible exact below_drew (After.below _); rfl) | (with_reducible exact below_set (After.below _) _ _; (go_simp; rfl)) | (with_reducible exact below_set (below_set (After.below _) _ _) _ _; (go_simp; rfl)) | (with_reducible exact below_set (below_set (below_set (After.below _) _ _) _ _) _ _; (go_simp; rfl)) | (with_reducible exact below_set (below_set (below_set (below_set (After.below _) _ _) _ _) _ _) _ _; (go_simp; rfl)) | (exact Below.refl _ _; rfl)); intro v x1 ho; have hle := After.le x1; (try simp at hle)); obtain ⟨vb, voff, vp, vcap, rfl, hvp, hvc⟩ := Sl.strs ho)
  obtain ⟨W1, hW1⟩ : ∃ W1, W1 = x1.val := ⟨_, rfl⟩
  have hb1 : Below (w.heap.size + 1) (w.alloc (.cells #[.slice p P.length cap] 57)) W1 := by rw [hW1]; simpa using x1.below
  have hB0 : Below w.heap.size w W1 := ((Below.refl _ _).alloc (Nat.le_refl _) _).trans (hb1.mono (by omega))
  have hw1 := hb1.size
  simp at hw1
  rw [← hW1] at hvc ho hle ⊢
  clear hW1
  have hbox : W1.cell? ⟨w.heap.size, 0, none⟩ = some (.slice p P.length cap) := (hb1.cell (p := ⟨w.heap.size, 0, none⟩) (by simp)).trans (by simp)
  clear hb1 ho hle
  go_loopw [3, 13] (fun o i wr => ∃ k : Nat, k ≤ V.length ∧ i = .int .i64 k ∧ wr.ownsRow W1.heap.size 66 3 o ((V.map (fun v => (⟨-1, 0, v⟩ : Si))).take k).length (((V.map (fun v => (⟨-1, 0, v⟩ : Si))).take k).flatMap Si.cs) ∧ Below W1.heap.size W1 wr) (fun _ i _ => V.length - (intOf i).toNat)
  case atStart => exact ⟨0, Nat.zero_le _, rfl, World.ownsRow_nil _ _ _ _, Below.refl _ _⟩
  case round =>
    obtain ⟨k, hk, rfl, hown, hB⟩ := hrel
    have hw := hB.size
    by_cases hlt : k < V.length
    · obtain rfl := hvp (by omega)
      have hlt2 : (k : Int) < V.length := by omega
      have c0 := hvc k hlt
      have hg := World.block_lt_of_cell? _ _ c0
      have c2 := (hB.cell (p := ⟨vb, voff + k, none⟩) hg).trans c0
      have hgw := World.block_lt_of_cell? _ _ c2
      have hz : Hid ((V.map (fun v => (⟨-1, 0, v⟩ : Si))).take (k + 1) = (V.map (fun v => (⟨-1, 0, v⟩ : Si))).take k ++ [⟨-1, 0, V[k]'hlt⟩]) := by
        show _ = _
        rw [List.take_succ_eq_append_getElem (by simpa using hlt)]
        simp
      have hlen : ((V.map (fun v => (⟨-1, 0, v⟩ : Si))).take k).length ≤ k := by simp; omega
      clear hc hvc c0
      generalize V[k]'hlt = y at c2 hz
      generalize (V.map (fun v => (⟨-1, 0, v⟩ : Si))).take k = X at hown hz hlen
      go_wp2_with (at_builtin; refine wpList_append_own _ rfl _ _ 60 rfl W1.heap.size 66 i0 (.agg #[.int .i64 0, .int .i64 0, .string ⟨#[]⟩]) 3 32 Try.underlying60 hi hz0 hz1 hz2 rfl (by decide) _ X.length (X.flatMap Si.cs) rfl (hown.alloc _) _ 1 1 [.int .i64 (-1), .int .i64 0, .string y] rfl rfl (news_at rfl) (by intro u hu; simp at hu; rcases hu with rfl | rfl | rfl <;> rfl) (by unfold maxLen; omega) (by omega) (by simp; omega) ?_; intro v2 w1 hown' hgrow _)
      have hlt1 := hown.lt
      have hB2 : Below W1.heap.size W1 w1 := Below.grown (w := _) (hB.alloc hw _) hgrow (by simp; omega) (fun q hq => (hlt1 q hq).1)
      go_wp2_with fail
      go_roundw
      case rel => exact ⟨k + 1, by omega, by simp, by rw [hz]; exact own_snocT rfl hown', hB2⟩
      case measure => simp [intOf]; omega
    · have hks : k = V.length := by omega
      subst hks
      have hlt2 : ¬ (V.length : Int) < V.length := by omega
      rw [show (V.map (fun v => (⟨-1, 0, v⟩ : Si))).take V.length = V.map (fun v => (⟨-1, 0, v⟩ : Si)) from List.take_of_length_le (by simp)] at hown
      have hboxr := (hB.cell (p := ⟨w.heap.size, 0, none⟩) (by show w.heap.size < W1.heap.size; omega)).trans hbox
      have hown := own_base (base' := w.heap.size + 1) hown (by omega)
      have hgbx := World.block_lt_of_cell? _ _ hboxr
      have hB3 : Below w.heap.size w wr := hB0.trans (hB.mono (by omega))
      have hw3 : w.heap.size + 1 ≤ wr.heap.size := by omega
      have hXl : (V.map (fun v => (⟨-1, 0, v⟩ : Si))).length ≤ 444 := by simpa using hvl
      generalize V.map (fun v => (⟨-1, 0, v⟩ : Si)) = X0 at hown hR hXl
      clear hvc hB hbox hB0 hw
      go_wp2_with fail
      clear hboxr
      go_loopw [3, 26] (fun o i wr => ∃ k : Nat, k ≤ P.length ∧ i = .int .i64 k ∧ wr.ownsRow (w.heap.size + 1) 66 3 o (X0 ++ blSites P k).length ((X0 ++ blSites P k).flatMap Si.cs) ∧ Below w.heap.size w wr ∧ w.heap.size + 1 ≤ wr.heap.size) (fun _ i _ => P.length - (intOf i).toNat)
      case atStart => exact ⟨0, Nat.zero_le _, rfl, by simpa [blSites] using hown, hB3, hw3⟩
      case round =>
        obtain ⟨k, hk, rfl, hown, hB, hw⟩ := hrel
        by_cases hlt : k < P.length
        · obtain rfl := hp (by omega)
          have hlt2 : (k : Int) < P.length := by omega
          have hcw : ∀ r u, ((P[k]'hlt).cs)[r]? = some u → w.cell? ⟨b, off + (k * 8 + r), none⟩ = some u := (hc k hlt).1
          have hsl := (hc k hlt).2
          have hlen := hl12 _ (List.getElem_mem hlt)
          have hz : blSites P (k + 1) = blSites P k ++ stSites k (P[k]'hlt).l (P[k]'hlt).l.length := by simp only [blSites, List.getElem?_eq_getElem hlt]
          have hH : Hid (blSites P (k + 1) = blSites P k ++ stSites k (P[k]'hlt).l (P[k]'hlt).l.length) := hz
          have hYl := hbl k
          clear hz hc hbl
          generalize P[k]'hlt = B at hcw hsl hlen hH
          generalize blSites P k = Y0 at hown hH hYl
          have hcr : ∀ r u, B.cs[r]? = some u → wr.cell? ⟨b, off + k * 8 + r, none⟩ = some u := fun r u hu => by
            rw [Nat.add_assoc]
            exact (hB.cell (p := ⟨b, off + (k * 8 + r), none⟩) (World.block_lt_of_cell? _ _ (hcw r u hu))).trans (hcw r u hu)
          obtain ⟨lb, loff, lp, lcap, hlv, hlp, hlc⟩ := hsl.open St.cs_len
          have c0 : wr.cell? ⟨b, off + k * 8, none⟩ = some (.string B.n) := hcr 0 _ rfl
          have hbw := World.block_lt_of_cell? _ _ c0
          have c1 := hcr 1 _ rfl
          have c2 := hcr 2 _ rfl
          have c3 := hcr 3 _ rfl
          have c4 := hcr 4 _ rfl
          have c5 := hcr 5 _ rfl
          have c6 := hcr 6 _ rfl
          have c7 := hcr 7 _ rfl
          clear hcr hcw
          rw [hlv] at c1
          go_wp2_with fail
          have hB1 : Below w.heap.size w (wr.alloc (Obj.cells #[Value.string B.n, Value.slice lp B.l.length lcap, Value.int IntKind.i64 B.t.k, Value.string B.t.x.v, Value.int IntKind.i64 B.t.x.a, Value.int IntKind.i64 B.t.x.b, Value.string B.t.t, Value.string B.t.e] 91)) := hB.alloc (by omega) _
          clear c0 c1 c2 c3 c4 c5 c6 c7
          go_loopw [3, 34] (fun o i wr => ∃ j : Nat, j ≤ B.l.length ∧ i = .int .i64 j ∧ wr.ownsRow (w.heap.size + 1) 66 3 o ((X0 ++ Y0) ++ stSites k B.l j).length (((X0 ++ Y0) ++ stSites k B.l j).flatMap Si.cs) ∧ Below w.heap.size w wr ∧ w.heap.size + 1 ≤ wr.heap.size) (fun _ i _ => B.l.length - (intOf i).toNat)
          case atStart => exact ⟨0, Nat.zero_le _, rfl, by simpa [stSites] using hown.alloc _, hB1, by simp; omega⟩
          case round =>
            obtain ⟨j, hj, rfl, hownj, hBj, hwj⟩ := hrel
            by_cases hjt : j < B.l.length
            · obtain rfl := hlp (by omega)
              have hjt2 : (j : Int) < B.l.length := by omega
              have hz : (X0 ++ Y0) ++ stSites k B.l (j + 1) = ((X0 ++ Y0) ++ stSites k B.l j) ++ siteOf k j (B.l[j]'hjt) := by
                simp only [stSites, List.getElem?_eq_getElem hjt, List.append_assoc]
              have hH2 : Hid ((X0 ++ Y0) ++ stSites k B.l (j + 1) = ((X0 ++ Y0) ++ stSites k B.l j) ++ siteOf k j (B.l[j]'hjt)) := hz
              have hlcj := hlc j hjt
              have hXl2 : ((X0 ++ Y0) ++ stSites k B.l j).length ≤ 1000 := by
                have := stSites_len k B.l j
                simp only [List.length_append]; omega
              clear hz
              generalize (B.l[j]'hjt) = s at hlcj hH2
              generalize (X0 ++ Y0) ++ stSites k B.l j = X at hownj hH2 hXl2
              have hcj : ∀ r u, s.cs[r]? = some u → wr.cell? ⟨lb, loff + j * 9 + r, none⟩ = some u := fun r u hu => by
                rw [Nat.add_assoc]
                exact (hBj.cell (p := ⟨lb, loff + (j * 9 + r), none⟩) (World.block_lt_of_cell? _ _ (hlcj r u hu))).trans (hlcj r u hu)
              have e0 : wr.cell? ⟨lb, loff + j * 9, none⟩ = some (.int .i64 s.k) := hcj 0 _ rfl
              have hbq := World.block_lt_of_cell? _ _ e0
              have e1 := hcj 1 _ rfl
              have e2 := hcj 2 _ rfl
              have e3 := hcj 3 _ rfl
              have e4 := hcj 4 _ rfl
              have e5 := hcj 5 _ rfl
              have e6 := hcj 6 _ rfl
              have e7 := hcj 7 _ rfl
              have e8 := hcj 8 _ rfl
              clear hcj hlcj hlc
              have hlt1 := hownj.lt
              by_cases hs : s.k = 1 ∨ s.k = 2
              · have hS : Hid ((X0 ++ Y0) ++ stSites k B.l (j + 1) = X ++ [⟨k, j, s.v⟩]) := by
                  show _ = _
                  rw [hH2, siteOf, if_pos hs]
                clear hH2
                rcases hs with hs | hs
                · have g1 : (s.k == 1) = true := by simp [hs]
                  clear hs
                  go_wp2_with (at_builtin; refine wpList_append_own _ rfl _ _ 60 rfl (w.heap.size + 1) 66 i0 (.agg #[.int .i64 0, .int .i64 0, .string ⟨#[]⟩]) 3 32 Try.underlying60 hi hz0 hz1 hz2 rfl (by decide) _ X.length (X.flatMap Si.cs) rfl ((hownj.alloc _).alloc _) _ 1 1 [.int .i64 k, .int .i64 j, .string s.v] rfl rfl (news_at (by simp)) (by intro u hu; simp at hu; rcases hu with rfl | rfl | rfl <;> rfl) (by unfold maxLen; omega) (by omega) (by simp; omega) ?_; intro v2 w1 hown' hgrow _)
                  have hB2 : Below w.heap.size w w1 := Below.grown (w := _) ((hBj.alloc (by omega) _).alloc (by simp; omega) _) hgrow (by simp; omega) (fun q hq => by have := (hlt1 q hq).1; omega)
                  have hw2 := hgrow.size
                  simp at hw2
                  go_wp2_with fail
                  go_roundw
                  case rel => exact ⟨j + 1, by omega, by simp, by rw [hS]; exact own_snocT rfl hown', hB2, by omega⟩
                  case measure => simp [intOf]; omega
                · have g1 : (s.k == 1) = false := by simp [hs]
                  have g2 : (s.k == 2) = true := by simp [hs]
                  clear hs
                  go_wp2_with (at_builtin; refine wpList_append_own _ rfl _ _ 60 rfl (w.heap.size + 1) 66 i0 (.agg #[.int .i64 0, .int .i64 0, .string ⟨#[]⟩]) 3 32 Try.underlying60 hi hz0 hz1 hz2 rfl (by decide) _ X.length (X.flatMap Si.cs) rfl ((hownj.alloc _).alloc _) _ 1 1 [.int .i64 k, .int .i64 j, .string s.v] rfl rfl (news_at (by simp)) (by intro u hu; simp at hu; rcases hu with rfl | rfl | rfl <;> rfl) (by unfold maxLen; omega) (by omega) (by simp; omega) ?_; intro v2 w1 hown' hgrow _)
                  have hB2 : Below w.heap.size w w1 := Below.grown (w := _) ((hBj.alloc (by omega) _).alloc (by simp; omega) _) hgrow (by simp; omega) (fun q hq => by have := (hlt1 q hq).1; omega)
                  have hw2 := hgrow.size
                  simp at hw2
                  go_wp2_with fail
                  go_roundw
                  case rel => exact ⟨j + 1, by omega, by simp, by rw [hS]; exact own_snocT rfl hown', hB2, by omega⟩
                  case measure => simp [intOf]; omega
              · have hS : Hid ((X0 ++ Y0) ++ stSites k B.l (j + 1) = X) := by
                  show _ = _
                  rw [hH2, siteOf, if_neg hs, List.append_nil]
                clear hH2
                have g1 : (s.k == 1) = false := by simp; omega
                have g2 : (s.k == 2) = false := by simp; omega
                clear hs
                go_wp2_with fail
                go_roundw
                case rel => exact ⟨j + 1, by omega, by simp, by rw [hS]; exact hownj.alloc _, hBj.alloc (by omega) _, by simp; omega⟩
                case measure => simp [intOf]; omega
            · have hks : j = B.l.length := by omega
              subst hks
              have hjt2 : ¬ (B.l.length : Int) < B.l.length := by omega
              have hH' : Hid (X0 ++ blSites P (k + 1) = (X0 ++ Y0) ++ stSites k B.l B.l.length) := by
                show _ = _
                rw [hH, List.append_assoc]
              clear hH hlc
              go_wp2_with fail
              go_roundw
              case rel => exact ⟨k + 1, by omega, by simp, by rw [hH']; exact hownj, hBj, hwj⟩
              case measure => simp [intOf]; omega
        · have hks : k = P.length := by omega
          subst hks
          have hlt2 : ¬ (P.length : Int) < P.length := by omega
          rw [hR] at hown
          clear hc
          go_wp2_with fail
          refine bodyPost_ret (v := u3) (by simp only [results, Try.results23]; go_simp) rfl ⟨_, rfl, Sl.of_own hown, hB⟩


end Go.Proofs.Ytjjmoibnmdbpeaa.Pr
