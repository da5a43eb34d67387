/- WALK of tables.Sites (as in Tabj, for seats that lack the page's sites). Trips: lists of ints; what closures keep; the state of trips.Last. WALK of the first closure of trips.Last: the present list is told. WALK of the second closure of trips.Last: the site of a statement gets to be its variable's. WALK of trips.walk with the closures of trips.Last. WALKS of trips.walk at a fault, trips.Last. -/
import Derived.Test.YtaaklejkngpddaaTabg
import Derived.Test.YtaaklejkngpddaaTabd
import Derived.Test.YtaaklejkngpddaaExg
import Derived.Test.YtaaklejkngpddaaExk

namespace Go.Proofs.Ytaaklejkngpddaa.Pr
set_option linter.unusedVariables false
set_option linter.unusedSimpArgs false
open Go Go.RowKit

theorem flat_snocS (X : List Si) (s : Si) : (X ++ [s]).flatMap Si.cs = X.flatMap Si.cs ++ s.cs := by rw [List.flatMap_append]; simp
theorem own_snocT {t : TypeId} {w : World} {base : Nat} {v : Value} {X : List Si} {s : Si} {cs : List Value} (hcs : cs = s.cs) (h : w.ownsRow base t 3 v (X.length + 1) (X.flatMap Si.cs ++ cs)) : w.ownsRow base t 3 v (X ++ [s]).length ((X ++ [s]).flatMap Si.cs) := by
  rw [flat_snocS, List.length_append, ← hcs]
  exact h
theorem s3_info : (Try.prog.info? 88).map (fun i => (i.zero, i.size, i.bytes)) = some (some (.agg #[.int .i64 0, .int .i64 0, .string ⟨#[]⟩]), 3, 32) := by kernel_rfl

set_option maxRecDepth 100000 in
set_option maxHeartbeats 2000000 in
theorem tsites_any (P : List Bl) (pv : Value) (w : World) (h : Pg w pv P) (h12 : P.length ≤ 12) (hl12 : ∀ b ∈ P, b.l.length ≤ 12) :
    Calls Try.prog 37 #[.agg #[pv]] w fun e w' => ∃ o, e = .returned o ∧ Sl w' o Si.cs (sitesOf P) ∧ Below w.heap.size w w' := by
  obtain ⟨i0, hi, hz0, hz1, hz2⟩ := info_parts s3_info
  have h1 : Pg (w.alloc (.cells #[pv] 24)) pv P := h.below ((Below.refl _ _).alloc (Nat.le_refl _) _)
  have hv := vars_any P pv _ h1 h12 hl12
  obtain ⟨b, off, p, cap, rfl, hp, hc⟩ := Pg.open h
  have hvl : (vars P).length ≤ 444 := by have := blVars_len hl12 P.length; show (blVars P P.length).length ≤ _; omega
  have hbl := blSites_len hl12
  obtain ⟨R, hR⟩ : ∃ R, Hid ((vars P).map (fun v => (⟨-1, 0, v⟩ : Si)) ++ blSites P P.length = R) := ⟨_, rfl⟩
  rw [show sitesOf P = R from hR]
  generalize vars P = V at hv hvl hR
  go_enter Try.func37, Try.ntmps37
  go_wp2_with ((go_at_call 46; refine' Calls.aftS _ _ (hv) _; rotate_left 2; (first | (with_reducible exact After.below _; rfl) | (with_reducible exact below_drew (After.below _); rfl) | (with_reducible exact below_set (After.below _) _ _; (go_simp; rfl)) | (with_reducible exact below_set (below_set (After.below _) _ _) _ _; (go_simp; rfl)) | (with_reducible exact below_set (below_set (below_set (After.below _) _ _) _ _) _ _; (go_simp; rfl)) | (with_reducible exact below_set (below_set (below_set (below_set (After.below _) _ _) _ _) _ _) _ _; (go_simp; rfl)) | (exact Below.refl _ _; rfl)); intro v x1 ho; have hle := After.le x1; (try simp at hle)); obtain ⟨vb, voff, vp, vcap, rfl, hvp, hvc⟩ := Sl.strs ho)
  obtain ⟨W1, hW1⟩ : ∃ W1, W1 = x1.val := ⟨_, rfl⟩
  have hb1 : Below (w.heap.size + 1) (w.alloc (.cells #[.slice p P.length cap] 24)) W1 := by rw [hW1]; simpa using x1.below
  have hB0 : Below w.heap.size w W1 := ((Below.refl _ _).alloc (Nat.le_refl _) _).trans (hb1.mono (by omega))
  have hw1 := hb1.size
  simp at hw1
  rw [← hW1] at hvc ho hle ⊢
  clear hW1
  have hbox : W1.cell? ⟨w.heap.size, 0, none⟩ = some (.slice p P.length cap) := (hb1.cell (p := ⟨w.heap.size, 0, none⟩) (by simp)).trans (by simp)
  clear hb1 ho hle
  go_loopw [3, 13] (fun o i wr => ∃ k : Nat, k ≤ V.length ∧ i = .int .i64 k ∧ wr.ownsRow W1.heap.size 88 3 o ((V.map (fun v => (⟨-1, 0, v⟩ : Si))).take k).length (((V.map (fun v => (⟨-1, 0, v⟩ : Si))).take k).flatMap Si.cs) ∧ Below W1.heap.size W1 wr) (fun _ i _ => V.length - (intOf i).toNat)
  case atStart => exact ⟨0, Nat.zero_le _, rfl, World.ownsRow_nil _ _ _ _, Below.refl _ _⟩
  case round =>
    obtain ⟨k, hk, rfl, hown, hB⟩ := hrel
    have hw := hB.size
    by_cases hlt : k < V.length
    · obtain rfl := hvp (by omega)
      have hlt2 : (k : Int) < V.length := by omega
      have c0 := hvc k hlt
      have hg := World.block_lt_of_cell? _ _ c0
      have c2 := (hB.cell (p := ⟨vb, voff + k, none⟩) hg).trans c0
      have hgw := World.block_lt_of_cell? _ _ c2
      have hz : Hid ((V.map (fun v => (⟨-1, 0, v⟩ : Si))).take (k + 1) = (V.map (fun v => (⟨-1, 0, v⟩ : Si))).take k ++ [⟨-1, 0, V[k]'hlt⟩]) := by
        show _ = _
        rw [List.take_succ_eq_append_getElem (by simpa using hlt)]
        simp
      have hlen : ((V.map (fun v => (⟨-1, 0, v⟩ : Si))).take k).length ≤ k := by simp; omega
      clear hc hvc c0
      generalize V[k]'hlt = y at c2 hz
      generalize (V.map (fun v => (⟨-1, 0, v⟩ : Si))).take k = X at hown hz hlen
      go_wp2_with (at_builtin; refine wpList_append_own _ rfl _ _ 85 rfl W1.heap.size 88 i0 (.agg #[.int .i64 0, .int .i64 0, .string ⟨#[]⟩]) 3 32 Try.underlying85 hi hz0 hz1 hz2 rfl (by decide) _ X.length (X.flatMap Si.cs) rfl (hown.alloc _) _ 1 1 [.int .i64 (-1), .int .i64 0, .string y] rfl rfl (news_at rfl) (by intro u hu; simp at hu; rcases hu with rfl | rfl | rfl <;> rfl) (by unfold maxLen; omega) (by omega) (by simp; omega) ?_; intro v2 w1 hown' hgrow _)
      have hlt1 := hown.lt
      have hB2 : Below W1.heap.size W1 w1 := Below.grown (w := _) (hB.alloc hw _) hgrow (by simp; omega) (fun q hq => (hlt1 q hq).1)
      go_wp2_with fail
      go_roundw
      case rel => exact ⟨k + 1, by omega, by simp, by rw [hz]; exact own_snocT rfl hown', hB2⟩
      case measure => simp [intOf]; omega
    · have hks : k = V.length := by omega
      subst hks
      have hlt2 : ¬ (V.length : Int) < V.length := by omega
      rw [show (V.map (fun v => (⟨-1, 0, v⟩ : Si))).take V.length = V.map (fun v => (⟨-1, 0, v⟩ : Si)) from List.take_of_length_le (by simp)] at hown
      have hboxr := (hB.cell (p := ⟨w.heap.size, 0, none⟩) (by show w.heap.size < W1.heap.size; omega)).trans hbox
      have hown := own_base (base' := w.heap.size + 1) hown (by omega)
      have hgbx := World.block_lt_of_cell? _ _ hboxr
      have hB3 : Below w.heap.size w wr := hB0.trans (hB.mono (by omega))
      have hw3 : w.heap.size + 1 ≤ wr.heap.size := by omega
      have hXl : (V.map (fun v => (⟨-1, 0, v⟩ : Si))).length ≤ 444 := by simpa using hvl
      generalize V.map (fun v => (⟨-1, 0, v⟩ : Si)) = X0 at hown hR hXl
      clear hvc hB hbox hB0 hw
      go_wp2_with fail
      clear hboxr
      go_loopw [3, 26] (fun o i wr => ∃ k : Nat, k ≤ P.length ∧ i = .int .i64 k ∧ wr.ownsRow (w.heap.size + 1) 88 3 o (X0 ++ blSites P k).length ((X0 ++ blSites P k).flatMap Si.cs) ∧ Below w.heap.size w wr ∧ w.heap.size + 1 ≤ wr.heap.size) (fun _ i _ => P.length - (intOf i).toNat)
      case atStart => exact ⟨0, Nat.zero_le _, rfl, by simpa [blSites] using hown, hB3, hw3⟩
      case round =>
        obtain ⟨k, hk, rfl, hown, hB, hw⟩ := hrel
        by_cases hlt : k < P.length
        · obtain rfl := hp (by omega)
          have hlt2 : (k : Int) < P.length := by omega
          have hcw : ∀ r u, ((P[k]'hlt).cs)[r]? = some u → w.cell? ⟨b, off + (k * 8 + r), none⟩ = some u := (hc k hlt).1
          have hsl := (hc k hlt).2
          have hlen := hl12 _ (List.getElem_mem hlt)
          have hz : blSites P (k + 1) = blSites P k ++ stSites k (P[k]'hlt).l (P[k]'hlt).l.length := by simp only [blSites, List.getElem?_eq_getElem hlt]
          have hH : Hid (blSites P (k + 1) = blSites P k ++ stSites k (P[k]'hlt).l (P[k]'hlt).l.length) := hz
          have hYl := hbl k
          clear hz hc hbl
          generalize P[k]'hlt = B at hcw hsl hlen hH
          generalize blSites P k = Y0 at hown hH hYl
          have hcr : ∀ r u, B.cs[r]? = some u → wr.cell? ⟨b, off + k * 8 + r, none⟩ = some u := fun r u hu => by
            rw [Nat.add_assoc]
            exact (hB.cell (p := ⟨b, off + (k * 8 + r), none⟩) (World.block_lt_of_cell? _ _ (hcw r u hu))).trans (hcw r u hu)
          obtain ⟨lb, loff, lp, lcap, hlv, hlp, hlc⟩ := hsl.open St.cs_len
          have c0 : wr.cell? ⟨b, off + k * 8, none⟩ = some (.string B.n) := hcr 0 _ rfl
          have hbw := World.block_lt_of_cell? _ _ c0
          have c1 := hcr 1 _ rfl
          have c2 := hcr 2 _ rfl
          have c3 := hcr 3 _ rfl
          have c4 := hcr 4 _ rfl
          have c5 := hcr 5 _ rfl
          have c6 := hcr 6 _ rfl
          have c7 := hcr 7 _ rfl
          clear hcr hcw
          rw [hlv] at c1
          go_wp2_with fail
          have hB1 : Below w.heap.size w (wr.alloc (Obj.cells #[Value.string B.n, Value.slice lp B.l.length lcap, Value.int IntKind.i64 B.t.k, Value.string B.t.x.v, Value.int IntKind.i64 B.t.x.a, Value.int IntKind.i64 B.t.x.b, Value.string B.t.t, Value.string B.t.e] 95)) := hB.alloc (by omega) _
          clear c0 c1 c2 c3 c4 c5 c6 c7
          go_loopw [3, 34] (fun o i wr => ∃ j : Nat, j ≤ B.l.length ∧ i = .int .i64 j ∧ wr.ownsRow (w.heap.size + 1) 88 3 o ((X0 ++ Y0) ++ stSites k B.l j).length (((X0 ++ Y0) ++ stSites k B.l j).flatMap Si.cs) ∧ Below w.heap.size w wr ∧ w.heap.size + 1 ≤ wr.heap.size) (fun _ i _ => B.l.length - (intOf i).toNat)
          case atStart => exact ⟨0, Nat.zero_le _, rfl, by simpa [stSites] using hown.alloc _, hB1, by simp; omega⟩
          case round =>
            obtain ⟨j, hj, rfl, hownj, hBj, hwj⟩ := hrel
            by_cases hjt : j < B.l.length
            · obtain rfl := hlp (by omega)
              have hjt2 : (j : Int) < B.l.length := by omega
              have hz : (X0 ++ Y0) ++ stSites k B.l (j + 1) = ((X0 ++ Y0) ++ stSites k B.l j) ++ siteOf k j (B.l[j]'hjt) := by
                simp only [stSites, List.getElem?_eq_getElem hjt, List.append_assoc]
              have hH2 : Hid ((X0 ++ Y0) ++ stSites k B.l (j + 1) = ((X0 ++ Y0) ++ stSites k B.l j) ++ siteOf k j (B.l[j]'hjt)) := hz
              have hlcj := hlc j hjt
              have hXl2 : ((X0 ++ Y0) ++ stSites k B.l j).length ≤ 1000 := by
                have := stSites_len k B.l j
                simp only [List.length_append]; omega
              clear hz
              generalize (B.l[j]'hjt) = s at hlcj hH2
              generalize (X0 ++ Y0) ++ stSites k B.l j = X at hownj hH2 hXl2
              have hcj : ∀ r u, s.cs[r]? = some u → wr.cell? ⟨lb, loff + j * 9 + r, none⟩ = some u := fun r u hu => by
                rw [Nat.add_assoc]
                exact (hBj.cell (p := ⟨lb, loff + (j * 9 + r), none⟩) (World.block_lt_of_cell? _ _ (hlcj r u hu))).trans (hlcj r u hu)
              have e0 : wr.cell? ⟨lb, loff + j * 9, none⟩ = some (.int .i64 s.k) := hcj 0 _ rfl
              have hbq := World.block_lt_of_cell? _ _ e0
              have e1 := hcj 1 _ rfl
              have e2 := hcj 2 _ rfl
              have e3 := hcj 3 _ rfl
              have e4 := hcj 4 _ rfl
              have e5 := hcj 5 _ rfl
              have e6 := hcj 6 _ rfl
              have e7 := hcj 7 _ rfl
              have e8 := hcj 8 _ rfl
              clear hcj hlcj hlc
              have hlt1 := hownj.lt
              by_cases hs : s.k = 1 ∨ s.k = 2
              · have hS : Hid ((X0 ++ Y0) ++ stSites k B.l (j + 1) = X ++ [⟨k, j, s.v⟩]) := by
                  show _ = _
                  rw [hH2, siteOf, if_pos hs]
                clear hH2
                rcases hs with hs | hs
                · have g1 : (s.k == 1) = true := by simp [hs]
                  clear hs
                  go_wp2_with (at_builtin; refine wpList_append_own _ rfl _ _ 85 rfl (w.heap.size + 1) 88 i0 (.agg #[.int .i64 0, .int .i64 0, .string ⟨#[]⟩]) 3 32 Try.underlying85 hi hz0 hz1 hz2 rfl (by decide) _ X.length (X.flatMap Si.cs) rfl ((hownj.alloc _).alloc _) _ 1 1 [.int .i64 k, .int .i64 j, .string s.v] rfl rfl (news_at (by simp)) (by intro u hu; simp at hu; rcases hu with rfl | rfl | rfl <;> rfl) (by unfold maxLen; omega) (by omega) (by simp; omega) ?_; intro v2 w1 hown' hgrow _)
                  have hB2 : Below w.heap.size w w1 := Below.grown (w := _) ((hBj.alloc (by omega) _).alloc (by simp; omega) _) hgrow (by simp; omega) (fun q hq => by have := (hlt1 q hq).1; omega)
                  have hw2 := hgrow.size
                  simp at hw2
                  go_wp2_with fail
                  go_roundw
                  case rel => exact ⟨j + 1, by omega, by simp, by rw [hS]; exact own_snocT rfl hown', hB2, by omega⟩
                  case measure => simp [intOf]; omega
                · have g1 : (s.k == 1) = false := by simp [hs]
                  have g2 : (s.k == 2) = true := by simp [hs]
                  clear hs
                  go_wp2_with (at_builtin; refine wpList_append_own _ rfl _ _ 85 rfl (w.heap.size + 1) 88 i0 (.agg #[.int .i64 0, .int .i64 0, .string ⟨#[]⟩]) 3 32 Try.underlying85 hi hz0 hz1 hz2 rfl (by decide) _ X.length (X.flatMap Si.cs) rfl ((hownj.alloc _).alloc _) _ 1 1 [.int .i64 k, .int .i64 j, .string s.v] rfl rfl (news_at (by simp)) (by intro u hu; simp at hu; rcases hu with rfl | rfl | rfl <;> rfl) (by unfold maxLen; omega) (by omega) (by simp; omega) ?_; intro v2 w1 hown' hgrow _)
                  have hB2 : Below w.heap.size w w1 := Below.grown (w := _) ((hBj.alloc (by omega) _).alloc (by simp; omega) _) hgrow (by simp; omega) (fun q hq => by have := (hlt1 q hq).1; omega)
                  have hw2 := hgrow.size
                  simp at hw2
                  go_wp2_with fail
                  go_roundw
                  case rel => exact ⟨j + 1, by omega, by simp, by rw [hS]; exact own_snocT rfl hown', hB2, by omega⟩
                  case measure => simp [intOf]; omega
              · have hS : Hid ((X0 ++ Y0) ++ stSites k B.l (j + 1) = X) := by
                  show _ = _
                  rw [hH2, siteOf, if_neg hs, List.append_nil]
                clear hH2
                have g1 : (s.k == 1) = false := by simp; omega
                have g2 : (s.k == 2) = false := by simp; omega
                clear hs
                go_wp2_with fail
                go_roundw
                case rel => exact ⟨j + 1, by omega, by simp, by rw [hS]; exact hownj.alloc _, hBj.alloc (by omega) _, by simp; omega⟩
                case measure => simp [intOf]; omega
            · have hks : j = B.l.length := by omega
              subst hks
              have hjt2 : ¬ (B.l.length : Int) < B.l.length := by omega
              have hH' : Hid (X0 ++ blSites P (k + 1) = (X0 ++ Y0) ++ stSites k B.l B.l.length) := by
                show _ = _
                rw [hH, List.append_assoc]
              clear hH hlc
              go_wp2_with fail
              go_roundw
              case rel => exact ⟨k + 1, by omega, by simp, by rw [hH']; exact hownj, hBj, hwj⟩
              case measure => simp [intOf]; omega
        · have hks : k = P.length := by omega
          subst hks
          have hlt2 : ¬ (P.length : Int) < P.length := by omega
          rw [hR] at hown
          clear hc
          go_wp2_with fail
          refine bodyPost_ret (v := u3) (by simp only [results, Try.results37]; go_simp) rfl ⟨_, rfl, Sl.of_own hown, hB⟩


end Go.Proofs.Ytaaklejkngpddaa.Pr

namespace Go.Proofs.Ytaaklejkngpddaa.Pr
set_option linter.unusedVariables false
set_option linter.unusedSimpArgs false
open Go Go.RowKit

def ecI (x : Int) : List Value := [.int .i64 x]
def ecV (v : Value) : List Value := [v]
theorem ecI_len (x : Int) : (ecI x).length = 1 := rfl

theorem i_info : (Try.prog.info? 3).map (fun i => (i.zero, i.size, i.bytes)) = some (some (.int .i64 0), 1, 8) := by kernel_rfl
theorem ii_info : (Try.prog.info? 76).map (fun i => (i.zero, i.size, i.bytes)) = some (some (.slice none 0 0), 1, 24) := by kernel_rfl
theorem int_one {L : List Int} : ∀ u ∈ L.flatMap ecI, u.oneCell' = true := by
  intro u hu
  simp only [List.mem_flatMap] at hu
  obtain ⟨x, _, hx⟩ := hu
  simp only [ecI, List.mem_singleton] at hx
  subst hx
  rfl

/-- What a call leaves alone that writes lists of ints of its own alone. -/
structure KeepT (base : Nat) (w w' : World) : Prop where
  os : w'.os = w.os
  tape : w'.tape = w.tape
  output : w'.output = w.output
  size : w.heap.size ≤ w'.heap.size
  block : ∀ k, k < w.heap.size → (k < base ∨ ∃ cs t f, w.heap[k]? = some (.cells cs t f) ∧ t ≠ 3 ∧ t ≠ 76 ∧ t ≠ 80) → w'.heap[k]? = w.heap[k]?

theorem KeepT.refl (base : Nat) (w : World) : KeepT base w w := ⟨rfl, rfl, rfl, Nat.le_refl _, fun _ _ _ => rfl⟩
theorem KeepT.trans {base : Nat} {a b c : World} (h : KeepT base a b) (k : KeepT base b c) : KeepT base a c :=
  ⟨k.os.trans h.os, k.tape.trans h.tape, k.output.trans h.output, Nat.le_trans h.size k.size, fun j hj hc => (k.block j (Nat.lt_of_lt_of_le hj h.size) (by
    rcases hc with hc | ⟨cs, t, f, h1, h2⟩
    · exact .inl hc
    · exact .inr ⟨cs, t, f, (h.block j hj (.inr ⟨cs, t, f, h1, h2⟩)).trans h1, h2⟩)).trans (h.block j hj hc)⟩
theorem KeepT.below {base : Nat} {w w' : World} (h : KeepT base w w') (hb : base ≤ w.heap.size) : Below base w w' :=
  ⟨h.os, h.tape, h.output, h.size, fun k hk => h.block k (by omega) (.inl hk)⟩
theorem KeepT.of_below {base : Nat} {w w' : World} (h : Below w.heap.size w w') : KeepT base w w' :=
  ⟨h.os, h.tape, h.output, h.size, fun k hk _ => h.block k hk⟩
theorem KeepT.blk {base : Nat} {w w' : World} {k : Nat} {cs : Array Value} {t : TypeId} {f : Nat × Nat} (h : KeepT base w w') (hk : w.heap[k]? = some (.cells cs t f)) (h1 : t ≠ 3) (h2 : t ≠ 76) (h3 : t ≠ 80) : w'.heap[k]? = some (.cells cs t f) :=
  (h.block k (lt_of_some hk) (.inr ⟨cs, t, f, hk, h1, h2, h3⟩)).trans hk
/-- A row of ints or of lists, of its own, has grown. -/
theorem KeepT.grown {base size n : Nat} {t : TypeId} {w w' : World} {v : Value} {xs : List Value} (h : w.grownBy w' v.ownBlock) (hown : w.ownsRow base t size v n xs) (ht : t = 3 ∨ t = 76) : KeepT base w w' :=
  ⟨h.os, h.tape, h.output, h.size, fun k hk hc => h.block k hk fun he => by
    rcases hown.2 with ⟨rfl, _⟩ | ⟨g, cap, cur, rfl, hbg, hg, _⟩
    · cases he
    · cases he
      rcases hc with hc | ⟨cs, t', f, h1, h2, h3, h4⟩
      · have hc' : g < base := hc
        omega
      · rw [hg] at h1
        cases h1
        rcases ht with ht | ht
        · exact h2 ht
        · exact h3 ht⟩
/-- A cell of such a block is stored into. -/
theorem KeepT.stored {base B j : Nat} {w : World} {u : Value} {cs : Array Value} {t : TypeId} {f : Nat × Nat} (hB : w.heap[B]? = some (.cells cs t f)) (ht : t = 3 ∨ t = 76 ∨ t = 80) (hb : base ≤ B) : KeepT base w (w.setCell ⟨B, j, none⟩ u) :=
  ⟨rfl, rfl, rfl, by simp [World.setCell], fun k hk hc => Below.heap_setCell _ _ _ _ fun he => by
    have he' : B = k := he.symm
    subst he'
    rcases hc with hc | ⟨cs2, t2, f2, h1, h2, h3, h4⟩
    · omega
    · rw [hB] at h1
      cases h1
      rcases ht with ht | ht | ht
      · exact h2 ht
      · exact h3 ht
      · exact h4 ht⟩

set_option maxRecDepth 100000 in
set_option maxHeartbeats 1000000 in
theorem cloneI_any (L : List Int) (hl : L.length ≤ 1000000) (v : Value) (w : World) (h : Sl w v ecI L) :
    Calls Try.prog 64 #[v] w fun e w' => ∃ o, e = .returned o ∧ w'.ownsRow w.heap.size 3 1 o L.length (L.flatMap ecI) ∧ Below w.heap.size w w' := by
  obtain ⟨i0, hi, hz0, hz1, hz2⟩ := info_parts i_info
  have q22 : ∀ (w : World) (a : Option Addr) (n c n' c' : Nat), (binOp .eql 76 (.slice a n c) (.slice none n' c')).run Try.prog w = .ok (.bool a.isNone) w := fun w a n c n' c' => Lib.run_eql_slice_nil w _ _ a n c n' c' Try.underlying76
  obtain ⟨b, off, p, cap, rfl, hp, hc⟩ := h
  cases p with
  | none =>
    have h0 : L.length = 0 := by
      rcases Nat.eq_zero_or_pos L.length with h | h
      · exact h
      · have := hp h; cases this
    have hL : L = [] := List.eq_nil_of_length_eq_zero h0
    subst hL
    clear hp hc
    go_enter Try.func64, Try.ntmps64
    go_wp2_with fail
    refine bodyPost_ret (v := .slice none 0 0) (by simp only [results, Try.results64]; go_simp) rfl ⟨_, rfl, World.ownsRow_nil _ _ _ _, Below.refl _ _⟩
  | some a =>
    have hnews : ∀ j u, (L.flatMap ecI)[j]? = some u → (w.alloc (.cells #[] 3)).cell? (a.add j) = some u := fun j u hu => by
      have h0 : 0 < L.length := by
        rcases Nat.eq_zero_or_pos L.length with h | h
        · have : L = [] := List.eq_nil_of_length_eq_zero h
          subst this
          simp at hu
        · exact h
      have ha := hp h0
      cases ha
      rw [Go.WideShapes.add_plain]
      have := hc j u hu
      exact (World.cell?_alloc_lt _ _ _ (World.block_lt_of_cell? _ _ this)).trans this
    have hlen : (L.flatMap ecI).length = L.length * 1 := flat_length ecI_len L
    have hn := And.intro True.intro (And.intro hnews hlen)
    clear hp hc hnews hlen
    go_enter Try.func64, Try.ntmps64
    go_wp2_with (at_builtin; refine wpList_append_own _ rfl _ _ 76 rfl w.heap.size 3 i0 (.int .i64 0) 1 8 Try.underlying76 hi hz0 hz1 hz2 rfl (by decide) _ 0 [] rfl (own_empty w 3 1) _ L.length cap (L.flatMap ecI) rfl hn.2.2 hn.2.1 int_one (by unfold maxLen; omega) (by omega) (by simp) ?_; intro v2 w1 hown' hgrow _)
    have hB2 : Below w.heap.size w w1 := Below.grown (w := _) ((Below.refl _ _).alloc (Nat.le_refl _) _) hgrow (by simp) (fun q hq => by cases hq; exact Nat.le_refl _)
    rw [Nat.zero_add, List.nil_append] at hown'
    go_wp2_with fail
    refine bodyPost_ret (v := v2) (by simp only [results, Try.results64]; go_simp) rfl ⟨_, rfl, hown', hB2⟩

/-- A list that has been told, and where it lies. -/
structure Lv where
  l : List Int
  v : Value
def Lv.cs (x : Lv) : List Value := [x.v]
theorem Lv.cs_len (x : Lv) : x.cs.length = 1 := rfl

/-- What stands while lists are told: the lists so far, at ov in block bo; the present one, at nv in block bn. -/
structure LS (base bo bn : Nat) (X : List Lv) (now : List Int) (W : World) (ov nv : Value) : Prop where
  ob : W.heap[bo]? = some (.cells #[ov] 80 (0, 0))
  nb : W.heap[bn]? = some (.cells #[nv] 76 (0, 0))
  no : W.ownsRow base 3 1 nv now.length (now.flatMap ecI)
  oo : W.ownsRow base 76 1 ov X.length (X.flatMap Lv.cs)
  xr : ∀ x ∈ X, W.ownsRow base 3 1 x.v x.l.length (x.l.flatMap ecI) ∧ (x.v.ownBlock = none ∨ x.v.ownBlock ≠ nv.ownBlock)
  on : ov.ownBlock ≠ some bn
  ho : base ≤ bo
  hn : base ≤ bn

theorem LS.below {base bo bn : Nat} {X : List Lv} {now : List Int} {W q : World} {ov nv : Value} (h : LS base bo bn X now W ov nv) (hq : Below W.heap.size W q) : LS base bo bn X now q ov nv :=
  ⟨blk_next hq h.ob, blk_next hq h.nb, own_below h.no hq, own_below h.oo hq, fun x hx => ⟨own_below (h.xr x hx).1 hq, (h.xr x hx).2⟩, h.on, h.ho, h.hn⟩

end Go.Proofs.Ytaaklejkngpddaa.Pr

namespace Go.Proofs.Ytaaklejkngpddaa.Pr
set_option linter.unusedVariables false
set_option linter.unusedSimpArgs false
open Go Go.RowKit

theorem own_ne {w : World} {base B s n : Nat} {t t2 : TypeId} {v : Value} {xs : List Value} {cs : Array Value} {f : Nat × Nat} (hown : w.ownsRow base t s v n xs) (hB : w.heap[B]? = some (.cells cs t2 f)) (ht : t ≠ t2) : v.ownBlock ≠ some B := by
  intro he
  rcases hown.2 with ⟨rfl, _⟩ | ⟨g, cap, cur, rfl, hbg, hg, _⟩
  · cases he
  · cases he
    rw [hg] at hB
    cases hB
    exact ht rfl

theorem flat_snocL (X : List Lv) (x : Lv) : (X ++ [x]).flatMap Lv.cs = X.flatMap Lv.cs ++ x.cs := by simp

theorem LS.visit {base bo bn : Nat} {X : List Lv} {now : List Int} {W W6 : World} {ov nv v v' : Value} (h : LS base bo bn X now W ov nv) (hv : W.ownsRow base 3 1 v now.length (now.flatMap ecI)) (hvn : v.ownBlock = none ∨ v.ownBlock ≠ nv.ownBlock)
    (hg : W.grownBy W6 ov.ownBlock) (ho : W6.ownsRow base 76 1 v' (X.length + 1) (X.flatMap Lv.cs ++ [v])) (hv' : v'.ownBlock = ov.ownBlock ∨ v'.ownBlock = some W.heap.size) :
    LS base bo bn (X ++ [⟨now, v⟩]) now (W6.setCell ⟨bo, 0, none⟩ v') v' nv ∧ KeepT base W (W6.setCell ⟨bo, 0, none⟩ v') := by
  have hbb : bn ≠ bo := fun he => by
    have h1 := h.nb
    rw [he, h.ob] at h1
    cases h1
  have g1 : W6.heap[bo]? = some (.cells #[ov] 80 (0, 0)) := (hg.block _ (lt_of_some h.ob) (fun he => own_ne h.oo h.ob (by decide) he.symm)).trans h.ob
  have g2 : W6.heap[bn]? = some (.cells #[nv] 76 (0, 0)) := (hg.block _ (lt_of_some h.nb) (fun he => h.on he.symm)).trans h.nb
  have hs : ∀ (u : Value) (l : List Int), W.ownsRow base 3 1 u l.length (l.flatMap ecI) → (W6.setCell ⟨bo, 0, none⟩ v').ownsRow base 3 1 u l.length (l.flatMap ecI) := fun u l hu => by
    have h1 := hu.kept hg (ownTy hu h.oo (by decide))
    exact ownsRow_setCell_other h1 (own_ne h1 g1 (by decide)) _
  refine ⟨⟨heap_setCell_same _ bo 0 _ _ v' g1, (heap_setCell_other _ _ _ _ hbb).trans g2, hs _ _ h.no, ?_, ?_, ?_, h.ho, h.hn⟩, ?_⟩
  · rw [flat_snocL, List.length_append]
    exact ownsRow_setCell_other ho (own_ne ho g1 (by decide)) _
  · intro x hx
    rcases List.mem_append.1 hx with hx | hx
    · exact ⟨hs _ _ (h.xr x hx).1, (h.xr x hx).2⟩
    · obtain rfl := List.mem_singleton.1 hx
      exact ⟨hs _ _ hv, hvn⟩
  · intro he
    rcases hv' with hv' | hv'
    · exact h.on (hv'.symm.trans he)
    · rw [hv'] at he
      have h3 := lt_of_some h.nb
      have h4 : W.heap.size = bn := by injection he
      omega
  · exact (KeepT.grown hg h.oo (.inr rfl)).trans (KeepT.stored g1 (.inr (.inr rfl)) h.ho)

set_option maxRecDepth 100000 in
set_option maxHeartbeats 2000000 in
theorem come_any (base bo bn : Nat) (X : List Lv) (now : List Int) (W : World) (ov nv : Value) (h : LS base bo bn X now W ov nv) (hl : now.length ≤ 1000000) (hX : X.length ≤ 100000) (hb : base ≤ W.heap.size) :
    Calls Try.prog 63 #[.pointer (some ⟨bo, 0, none⟩), .pointer (some ⟨bn, 0, none⟩)] W fun e W' => e = .returned (.tuple #[]) ∧ (∃ (ov' v : Value), LS base bo bn (X ++ [⟨now, v⟩]) now W' ov' nv) ∧ KeepT base W W' := by
  obtain ⟨i0, hi, hz0, hz1, hz2⟩ := info_parts ii_info
  obtain ⟨np, nc, rfl⟩ := own_len h.no
  obtain ⟨op, oc, rfl⟩ := own_len h.oo
  go_enter Try.func63, Try.ntmps63
  have hd := h.below ((Below.refl W.heap.size W).drew)
  have p0 := cell_of_one hd.ob
  have p1 := cell_of_one hd.nb
  have l0 := lt_of_some hd.ob
  have l1 := lt_of_some hd.nb
  have hcl := cloneI_any now hl (.slice np now.length nc) W.drew (Sl.of_own hd.no)
  go_wp2_with fail
  first | (go_region_law (first | (refine step_callO rfl 64 #[.slice np now.length nc] ?hop3 hcl ?_; (case hop3 => (go_simp; done)); intro v1 q1 hv1 hq1; obtain ⟨vp, vc, rfl⟩ := own_len hv1; have hq := (hd.below hq1).below ((Below.refl q1.heap.size q1).alloc (Nat.le_refl _) (.cells #[.slice vp now.length vc] 76)); have g0 := nextC hq1 p0; have gl := World.block_lt_of_cell? _ _ g0) | (refine step_append_tells rfl (.tmp 2) (.tmp 5) 80 rfl base 76 i0 (.slice none 0 0) 1 24 Try.underlying80 hi hz0 hz1 hz2 rfl (by decide) _ X.length (X.flatMap Lv.cs) rfl hq.oo _ 1 1 [.slice vp now.length vc] rfl rfl (news_at rfl) (by intro u hu; simp at hu; subst hu; rfl) (by unfold maxLen; omega) (by omega) (by have := hq1.size; have : W.drew.heap.size = W.heap.size := rfl; simp; omega) (by decide) ?_; intro v6 W6 ho6 hg6 hv6; obtain ⟨wp6, wc6, rfl⟩ := own_len ho6; have hb6 := (hg6.block bo (lt_of_some hq.ob) (fun he => own_ne hq.oo hq.ob (by decide) he.symm)).trans hq.ob; have t0 := cell_of_one hb6; have tf := frozen_of_row W6 bo 0 _ _ hb6; have tl := lt_of_some hb6))) | fail
  all_goals (
    have hkd : W.drew.heap.size = W.heap.size := rfl
    have hnv : (Value.slice vp now.length vc).ownBlock = none ∨ (Value.slice vp now.length vc).ownBlock ≠ (Value.slice np now.length nc).ownBlock := by
      cases e1 : (Value.slice vp now.length vc).ownBlock with
      | none => exact .inl rfl
      | some k =>
        refine .inr fun he => ?_
        have h1 := (hv1.lt _ e1).1
        have h2 := (hd.no.lt _ he.symm).2
        omega
    obtain ⟨hL, hK⟩ := hq.visit (own_base (own_below hv1 ((Below.refl q1.heap.size q1).alloc (Nat.le_refl _) (.cells #[.slice vp now.length vc] 76))) (by omega)) hnv hg6 ho6 hv6
    have hK2 := ((KeepT.of_below (base := base) ((Below.refl W.heap.size W).drew)).trans (KeepT.of_below hq1)).trans ((KeepT.of_below ((Below.refl q1.heap.size q1).alloc (Nat.le_refl _) _)).trans hK)
    clear hd hcl hq1 hv1 hq ho6 hg6 hb6 hK
    go_wp2_with fail
    go_end0
    exact ⟨rfl, ⟨_, _, hL⟩, hK2⟩)

end Go.Proofs.Ytaaklejkngpddaa.Pr

namespace Go.Proofs.Ytaaklejkngpddaa.Pr
set_option linter.unusedVariables false
set_option linter.unusedSimpArgs false
open Go Go.RowKit

def putI (P : List Bl) (S : List Si) (x : Si) : Nat → List Int → List Int
  | 0, n => n
  | j + 1, n => if S[j]? = some x then (putI P S x j n).set (max (idx (vars P) x.v) 0).toNat (j : Int) else putI P S x j n
theorem putI_len (P : List Bl) (S : List Si) (x : Si) : ∀ (j : Nat) (n : List Int), (putI P S x j n).length = n.length
  | 0, n => rfl
  | j + 1, n => by
    have ih := putI_len P S x j n
    unfold putI
    split
    · rw [List.length_set]; exact ih
    · exact ih

theorem ecI_get (L : List Int) (k : Nat) (hk : k < L.length) : (L.flatMap ecI)[k]? = some (.int .i64 (L[k]'hk)) := by
  have : ∀ (L : List Int), L.flatMap ecI = L.map (Value.int .i64) := fun L => by induction L with | nil => rfl | cons a L ih => simp [ecI, List.flatMap_cons, ih]
  rw [this, List.getElem?_map, List.getElem?_eq_getElem hk]
  rfl

theorem own_setI {w : World} {base : Nat} {L : List Int} {cap g : Nat} (h : w.ownsRow base 3 1 (.slice (some ⟨g, 0, none⟩) L.length cap) L.length (L.flatMap ecI)) (k : Nat) (x : Int) (hk : k < L.length) :
    (w.setCell ⟨g, k, none⟩ (.int .i64 x)).ownsRow base 3 1 (.slice (some ⟨g, 0, none⟩) L.length cap) L.length ((L.set k x).flatMap ecI) := by
  have e : (L.set k x).flatMap ecI = (L.flatMap ecI).set k (.int .i64 x) := by
    have : ∀ (L : List Int), L.flatMap ecI = L.map (Value.int .i64) := fun L => by induction L with | nil => rfl | cons a L ih => simp [ecI, List.flatMap_cons, ih]
    rw [this, this, List.map_set]
  rw [e]
  exact (h.stored k _).1

theorem LS.put {base bo bn g c : Nat} {X : List Lv} {now : List Int} {W : World} {ov : Value} (h : LS base bo bn X now W ov (.slice (some ⟨g, 0, none⟩) now.length c)) (M : Nat) (hM : M < now.length) (x : Int) :
    LS base bo bn X (now.set M x) (W.setCell ⟨g, M, none⟩ (.int .i64 x)) ov (.slice (some ⟨g, 0, none⟩) now.length c) ∧ KeepT base W (W.setCell ⟨g, M, none⟩ (.int .i64 x)) := by
  have hb := (h.no.lt g rfl).1
  have hgt : ∃ cs f, W.heap[g]? = some (.cells cs 3 f) := by
    rcases h.no.2 with ⟨he, _⟩ | ⟨g', cap, cur, he, hbg, hg, _⟩
    · cases he
    · cases he
      exact ⟨_, _, hg⟩
  obtain ⟨cs, f, hg⟩ := hgt
  have h1 : bo ≠ g := fun he => by
    have := h.ob
    rw [he, hg] at this
    cases this
  have h2 : bn ≠ g := fun he => by
    have := h.nb
    rw [he, hg] at this
    cases this
  refine ⟨⟨(heap_setCell_other _ _ _ _ h1).trans h.ob, (heap_setCell_other _ _ _ _ h2).trans h.nb, ?_, ?_, ?_, h.on, h.ho, h.hn⟩, KeepT.stored hg (.inl rfl) hb⟩
  · rw [List.length_set]
    exact own_setI h.no M x hM
  · exact ownsRow_setCell_other h.oo (own_ne h.oo hg (by decide)) _
  · intro y hy
    refine ⟨ownsRow_setCell_other (h.xr y hy).1 (fun he => ?_) _, (h.xr y hy).2⟩
    rcases (h.xr y hy).2 with h3 | h3
    · rw [h3] at he; cases he
    · exact h3 he

set_option maxRecDepth 100000 in
set_option maxHeartbeats 4000000 in
theorem do9_any (P : List Bl) (S : List Si) (hS : S.length ≤ 1000) (bs bp bo bn : Nat) (s : St) (b k : Int) (X : List Lv) (now : List Int) (W0 W : World) (ov nv sv pv : Value) (hP : Pg W0 pv P) (h12 : P.length ≤ 12) (hl12 : ∀ b ∈ P, b.l.length ≤ 12) (hs : Sl W0 sv Si.cs S)
    (hsb : W0.heap[bs]? = some (.cells #[sv] 85 (0, 0))) (hpb : W0.heap[bp]? = some (.cells #[pv] 24 (0, 0))) (hlow : Below W0.heap.size W0 W) (h : LS W0.heap.size bo bn X now W ov nv)
    (hv : (⟨b, k, s.v⟩ : Si) ∈ S → (max (idx (vars P) s.v) 0).toNat < now.length) :
    Calls Try.prog 65 #[.int .i64 b, .int .i64 k, .agg #[.int .i64 s.k, .string s.v, .int .i64 s.e.op, .string s.e.x.v, .int .i64 s.e.x.a, .int .i64 s.e.x.b, .string s.e.y.v, .int .i64 s.e.y.a, .int .i64 s.e.y.b], .pointer (some ⟨bs, 0, none⟩), .pointer (some ⟨bp, 0, none⟩), .pointer (some ⟨bn, 0, none⟩)] W fun e W' => e = .returned (.tuple #[]) ∧ LS W0.heap.size bo bn X (putI P S ⟨b, k, s.v⟩ S.length now) W' ov nv ∧ KeepT W0.heap.size W W' := by
  obtain ⟨p, cap, rfl⟩ : ∃ p cap, pv = .slice p P.length cap := sl_len hP.1
  obtain ⟨sbb, soff, sp, scap, rfl, hsp, hsc⟩ := hs.open Si.cs_len
  have hvr := fun (V : World) (hB : Below W0.heap.size W0 V) => tvar_any P s.v _ V (hP.below hB) h12 hl12
  have hle := hlow.size
  obtain ⟨M, hM⟩ : ∃ M : Nat, max (idx (vars P) s.v) 0 = (M : Int) := ⟨(max (idx (vars P) s.v) 0).toNat, by omega⟩
  obtain ⟨st, hst⟩ : ∃ st, W.heap.size = st := ⟨_, rfl⟩
  have hMt : (max (idx (vars P) s.v) 0).toNat = M := by omega
  rw [hMt] at hv
  have hHt : Hid ((max (idx (vars P) s.v) 0).toNat = M) := hMt
  unfold placeV at hvr
  rw [hM] at hvr
  have hLa := h.below ((Below.refl W.heap.size W).alloc (Nat.le_refl _) (.cells #[.int .i64 s.k, .string s.v, .int .i64 s.e.op, .string s.e.x.v, .int .i64 s.e.x.a, .int .i64 s.e.x.b, .string s.e.y.v, .int .i64 s.e.y.a, .int .i64 s.e.y.b] 90))
  have hKa : KeepT W0.heap.size W (W.alloc (.cells #[.int .i64 s.k, .string s.v, .int .i64 s.e.op, .string s.e.x.v, .int .i64 s.e.x.a, .int .i64 s.e.x.b, .string s.e.y.v, .int .i64 s.e.y.a, .int .i64 s.e.y.b] 90)) := KeepT.of_below ((Below.refl W.heap.size W).alloc (Nat.le_refl _) _)
  have hst9 := heap_alloc_new W (.cells #[.int .i64 s.k, .string s.v, .int .i64 s.e.op, .string s.e.x.v, .int .i64 s.e.x.a, .int .i64 s.e.x.b, .string s.e.y.v, .int .i64 s.e.y.a, .int .i64 s.e.y.b] 90)
  have c5 := cell_of_one (blk_next hlow hsb)
  have l5 := lt_of_some (blk_next hlow hsb)
  generalize idx (vars P) s.v = r at hM hMt hvr
  clear hM hMt hP hst
  go_enter Try.func65, Try.ntmps65
  go_wp2_with fail
  go_loopw [15] (fun i wr => ∃ j : Nat, j ≤ S.length ∧ i = .int .i64 j ∧ LS W0.heap.size bo bn X (putI P S ⟨b, k, s.v⟩ j now) wr ov nv ∧ KeepT W0.heap.size (W.alloc (.cells #[.int .i64 s.k, .string s.v, .int .i64 s.e.op, .string s.e.x.v, .int .i64 s.e.x.a, .int .i64 s.e.x.b, .string s.e.y.v, .int .i64 s.e.y.a, .int .i64 s.e.y.b] 90)) wr) (fun i _ => S.length - (intOf i).toNat)
  case atStart => exact ⟨0, Nat.zero_le _, rfl, hLa, KeepT.refl _ _⟩
  case round =>
    obtain ⟨j, hj, rfl, hL, hK⟩ := hrel
    clear hLa c5 l5
    have hK0 := hKa.trans hK
    have hBr : Below W0.heap.size W0 wr := hlow.trans (hK0.below hle)
    have hsz := hK0.size
    have e9 := hK.blk hst9 (by decide) (by decide) (by decide)
    have e1 : wr.cell? ⟨W.heap.size, 1, none⟩ = some (.string s.v) := (nine e9).2.1
    have el := lt_of_some e9
    by_cases hlt : j < S.length
    · obtain rfl := hsp (by omega)
      have hlt2 : (j : Int) < S.length := by omega
      have hcr : ∀ r u, ((S[j]'hlt).cs)[r]? = some u → wr.cell? ⟨sbb, soff + j * 3 + r, none⟩ = some u := fun r u hu => by
        rw [Nat.add_assoc]
        exact nextC hBr (hsc j hlt r u hu)
      have hhit : S[j]'hlt = ⟨b, k, s.v⟩ → putI P S ⟨b, k, s.v⟩ (j + 1) now = (putI P S ⟨b, k, s.v⟩ j now).set M (j : Int) ∧ M < now.length := fun he => by
        refine ⟨?_, hv (he ▸ List.getElem_mem hlt)⟩
        have h9 : (max (idx (vars P) s.v) 0).toNat = M := hHt
        show (if S[j]? = some ⟨b, k, s.v⟩ then (putI P S ⟨b, k, s.v⟩ j now).set (max (idx (vars P) s.v) 0).toNat (j : Int) else _) = _
        rw [if_pos (by rw [List.getElem?_eq_getElem hlt, he]), h9]
      have hmiss : S[j]'hlt ≠ ⟨b, k, s.v⟩ → putI P S ⟨b, k, s.v⟩ (j + 1) now = putI P S ⟨b, k, s.v⟩ j now := fun he => by
        show (if S[j]? = some ⟨b, k, s.v⟩ then _ else _) = _
        rw [if_neg (by rw [List.getElem?_eq_getElem hlt]; simpa using he)]
      have hpl := putI_len P S ⟨b, k, s.v⟩ j now
      clear hsc hv hHt hsp
      generalize S[j]'hlt = y at hcr hhit hmiss
      generalize putI P S ⟨b, k, s.v⟩ j now = N1 at hL hhit hmiss hpl
      obtain ⟨yb, yk, yv⟩ := y
      have d0 : wr.cell? ⟨sbb, soff + j * 3, none⟩ = some (.int .i64 yb) := hcr 0 _ rfl
      have d1 : wr.cell? ⟨sbb, soff + j * 3 + 1, none⟩ = some (.int .i64 yk) := hcr 1 _ rfl
      have d2 : wr.cell? ⟨sbb, soff + j * 3 + 2, none⟩ = some (.string yv) := hcr 2 _ rfl
      have dl := World.block_lt_of_cell? _ _ d0
      have p0 := cell_of_one (blk_next hBr hpb)
      have pl := lt_of_some (blk_next hBr hpb)
      clear hcr
      have hBa : Below W0.heap.size W0 (wr.alloc (.cells #[.int .i64 yb, .int .i64 yk, .string yv] 88)) := hBr.alloc (by omega) _
      have hLs := hL.below ((Below.refl wr.heap.size wr).alloc (Nat.le_refl _) (.cells #[.int .i64 yb, .int .i64 yk, .string yv] 88))
      have hKs : KeepT W0.heap.size wr (wr.alloc (.cells #[.int .i64 yb, .int .i64 yk, .string yv] 88)) := KeepT.of_below ((Below.refl wr.heap.size wr).alloc (Nat.le_refl _) _)
      have hpl2 : Hid (N1.length = now.length) := hpl
      by_cases he : (⟨yb, yk, yv⟩ : Si) = ⟨b, k, s.v⟩
      · obtain ⟨hn2, hMl⟩ := hhit he
        have hMl2 : M < N1.length := by omega
        have hH2 : Hid (putI P S ⟨b, k, s.v⟩ (j + 1) now = N1.set M (j : Int)) := hn2
        clear hhit hmiss hpl hn2
        injection he with e3 e4 e5
        subst e3 e4 e5
        obtain ⟨g, gc, rfl, hg1, hg2⟩ := own_some hL.no (by omega)
        have hMl3 : (M : Int) < N1.length := by omega
        go_wp2_with ((go_at_call 44; refine' Calls.aft _ _ (hvr _ hBa) _; rotate_left 2; (exact Below.refl _ _; rfl); intro x1; have hle := After.le x1; (try simp at hle)); have hL1 := hLs.below x1.below; have n0 := cell_of_one hL1.nb; have nl := lt_of_some hL1.nb; have q0 := hL1.no.frozenAt M; have dd := (hL1.no.cellAt M (by omega)).trans (ecI_get N1 M hMl2); have gl := (hL1.no.lt g rfl).2)
        obtain ⟨hLp, hKp⟩ := hL1.put M hMl2 (j : Int)
        refine ⟨⟨j + 1, by omega, by simp, ?_, hK.trans (hKs.trans ((KeepT.of_below x1.below).trans hKp))⟩, by simp [intOf]; omega⟩
        rw [hH2]
        exact hLp
      · have hH2 : Hid (putI P S ⟨b, k, s.v⟩ (j + 1) now = N1) := hmiss he
        clear hhit hmiss hpl
        have hfin : ∀ x : After (wr.alloc (.cells #[.int .i64 yb, .int .i64 yk, .string yv] 88)), LS W0.heap.size bo bn X (putI P S ⟨b, k, s.v⟩ (j + 1) now) x.val ov nv ∧ KeepT W0.heap.size (W.alloc (.cells #[.int .i64 s.k, .string s.v, .int .i64 s.e.op, .string s.e.x.v, .int .i64 s.e.x.a, .int .i64 s.e.x.b, .string s.e.y.v, .int .i64 s.e.y.a, .int .i64 s.e.y.b] 90)) x.val := fun x => by
          rw [show putI P S ⟨b, k, s.v⟩ (j + 1) now = N1 from hH2]
          exact ⟨hLs.below x.below, hK.trans (hKs.trans (KeepT.of_below x.below))⟩
        by_cases h1 : yb = b
        · subst h1
          by_cases h2 : yk = k
          · subst h2
            have h3 : ¬ yv.toList = s.v.toList := fun h => he (by rw [toList_inj h])
            go_wp2_with (go_at_call 44; refine' Calls.aft _ _ (hvr _ hBa) _; rotate_left 2; (exact Below.refl _ _; rfl); intro x1; have hle := After.le x1; (try simp at hle))
            exact ⟨⟨j + 1, by omega, by simp, hfin x1⟩, by simp [intOf]; omega⟩
          · go_wp2_with (go_at_call 44; refine' Calls.aft _ _ (hvr _ hBa) _; rotate_left 2; (exact Below.refl _ _; rfl); intro x1; have hle := After.le x1; (try simp at hle))
            exact ⟨⟨j + 1, by omega, by simp, hfin x1⟩, by simp [intOf]; omega⟩
        · go_wp2_with (go_at_call 44; refine' Calls.aft _ _ (hvr _ hBa) _; rotate_left 2; (exact Below.refl _ _; rfl); intro x1; have hle := After.le x1; (try simp at hle))
          exact ⟨⟨j + 1, by omega, by simp, hfin x1⟩, by simp [intOf]; omega⟩
    · have hks : j = S.length := by omega
      subst hks
      have hlt2 : ¬ (S.length : Int) < S.length := by omega
      clear hsc hv hHt hsp
      go_wp2_with fail
      go_end0
      exact ⟨rfl, hL, hK0⟩

end Go.Proofs.Ytaaklejkngpddaa.Pr

namespace Go.Proofs.Ytaaklejkngpddaa.Pr
set_option linter.unusedVariables false
set_option linter.unusedSimpArgs false
open Go Go.RowKit

def doneN (P : List Bl) (S : List Si) (b : Int) (l : List St) : Nat → List Int → List Int
  | 0, n => n
  | k + 1, n => match l[k]? with
    | some s => putI P S ⟨b, (k : Int), s.v⟩ S.length (doneN P S b l k n)
    | none => doneN P S b l k n
theorem doneN_len (P : List Bl) (S : List Si) (b : Int) (l : List St) : ∀ (k : Nat) (n : List Int), (doneN P S b l k n).length = n.length
  | 0, n => rfl
  | k + 1, n => by
    have ih := doneN_len P S b l k n
    unfold doneN
    split
    · rw [putI_len]; exact ih
    · exact ih
/-- Behind so many visits: the lists that have been told, and the present one. -/
def lastW (P : List Bl) (S : List Si) (L : List Ps) (n0 : List Int) : Nat → List (List Int) × List Int
  | 0 => ([], n0)
  | m + 1 => match L[m]? with
    | some p => ((lastW P S L n0 m).1 ++ [(lastW P S L n0 m).2], doneN P S p.b (P.getD p.b.toNat default).l (P.getD p.b.toNat default).l.length (lastW P S L n0 m).2)
    | none => lastW P S L n0 m
theorem lastW_len (P : List Bl) (S : List Si) (L : List Ps) (n0 : List Int) : ∀ m, (lastW P S L n0 m).2.length = n0.length
  | 0 => rfl
  | m + 1 => by
    have ih := lastW_len P S L n0 m
    unfold lastW
    split
    · rw [doneN_len]; exact ih
    · exact ih

theorem stSites_in {i : Nat} {l : List St} {x : Si} : ∀ {n : Nat}, x ∈ stSites i l n → ∃ s ∈ l, s.k = 1 ∨ s.k = 2
  | 0, h => by simp [stSites] at h
  | n + 1, h => by
    simp only [stSites, List.mem_append] at h
    rcases h with h | h
    · exact stSites_in h
    · split at h
      · rename_i s hs
        unfold siteOf at h
        split at h
        · rename_i hk
          exact ⟨s, List.mem_iff_getElem?.2 ⟨n, hs⟩, hk⟩
        · simp at h
      · simp at h
theorem blSites_in {P : List Bl} {x : Si} : ∀ {n : Nat}, x ∈ blSites P n → ∃ b ∈ P, ∃ s ∈ b.l, s.k = 1 ∨ s.k = 2
  | 0, h => by simp [blSites] at h
  | n + 1, h => by
    simp only [blSites, List.mem_append] at h
    rcases h with h | h
    · exact blSites_in h
    · split at h
      · rename_i b hb
        obtain ⟨s, hs, hk⟩ := stSites_in h
        exact ⟨b, List.mem_iff_getElem?.2 ⟨n, hb⟩, s, hs, hk⟩
      · simp at h
/-- A site's variable has a place. -/
theorem site_place {P : List Bl} (hc : checkOf P = 0) {x : Si} (h : x ∈ sitesOf P) : (max (idx (vars P) x.v) 0).toNat < (vars P).length := by
  have hr := idx_range x.v (vars P)
  have h0 : 0 < (vars P).length := by
    unfold sitesOf at h
    rcases List.mem_append.1 h with h | h
    · obtain ⟨v, hv, _⟩ := List.mem_map.1 h
      exact List.length_pos_of_mem hv
    · obtain ⟨b, hb, s, hs, hk⟩ := blSites_in h
      have h1 := (proper_stmt hc hb hs).2 (by omega)
      omega
  omega

theorem KeepT.own {base b s n : Nat} {t : TypeId} {w w' : World} {v : Value} {xs : List Value} (h : KeepT base w w') (ho : w.ownsRow b t s v n xs) (h1 : t ≠ 3) (h2 : t ≠ 76) (h3 : t ≠ 80) : w'.ownsRow b t s v n xs := by
  rcases ho with ⟨q, h4 | ⟨g, cap, cur, rfl, hbg, hg, rest⟩⟩
  · exact ⟨q, .inl h4⟩
  · exact ⟨q, .inr ⟨g, cap, cur, rfl, hbg, h.blk hg h1 h2 h3, rest⟩⟩

set_option maxRecDepth 100000 in
set_option maxHeartbeats 4000000 in
theorem walkL_any (P : List Bl) (I : List Nu) (hc0 : checkOf P = 0) (hS : (sitesOf P).length ≤ 1000) (most : Int) (bs bp bo bn : Nat) (now : List Int) (hnl : now.length = (vars P).length) (W0 W : World) (ov nv sv pv iv : Value) (hP : Pg W0 pv P) (h12 : P.length ≤ 12) (hl12 : ∀ b ∈ P, b.l.length ≤ 12) (hI : Sl W0 iv Nu.cs I) (hs : Sl W0 sv Si.cs (sitesOf P))
    (hsb : W0.heap[bs]? = some (.cells #[sv] 85 (0, 0))) (hpb : W0.heap[bp]? = some (.cells #[pv] 24 (0, 0))) (hlow : Below W0.heap.size W0 W) (h : LS W0.heap.size bo bn [] now W ov nv) :
    Calls Try.prog 60 #[.agg #[pv], iv, .int .i64 most, .func (.func 63) #[] #[.pointer (some ⟨bo, 0, none⟩), .pointer (some ⟨bn, 0, none⟩)], .func (.func 65) #[] #[.pointer (some ⟨bs, 0, none⟩), .pointer (some ⟨bp, 0, none⟩), .pointer (some ⟨bn, 0, none⟩)]] W fun e W' => e = .returned (.int .i64 0) ∧
      (∃ (X : List Lv) (ov' : Value) (n' : List Int), X.map Lv.l = (lastW P (sitesOf P) (fromS P I (capN most) (beginS P) true).1 now (fromS P I (capN most) (beginS P) true).1.length).1 ∧ LS W0.heap.size bo bn X n' W' ov' nv) ∧ KeepT W0.heap.size W W' := by
  have hvl := (proper_vars hc0).1
  have hsp := fun x (hx : x ∈ sitesOf P) => site_place hc0 hx
  have hall := fun (V : World) (hB : Below W0.heap.size W0 V) => allF_ok P I hc0 most pv iv V (hP.below hB) h12 hl12 (hI.below hB)
  have hOk := (fromS_ok (I := I) hc0 hl12 (capN most) (beginS P) true ⟨Int.le_refl 0, by have := (proper_vars hc0).2; show (0 : Int) < P.length; omega, by simp [beginS], Int.le_refl 0⟩).2.2
  have hLl := (fromS_len P I (capN most) (beginS P) true).1
  have hcn : capN most ≤ 4096 := by unfold capN; omega
  generalize fromS P I (capN most) (beginS P) true = T at hall hOk hLl
  obtain ⟨L, sa, ga⟩ := T
  generalize hgg : (!ga) = gg at hall
  clear hgg
  have hall : ∀ (V : World) (hB : Below W0.heap.size W0 V), Calls Try.prog 21 #[.agg #[pv], iv, .int .i64 most] V fun e w' => ∃ x : Value × Value, e = .returned ((fun x : Value × Value => Value.tuple #[.agg #[x.1, x.2, .bool gg], .int .i64 0]) x) ∧ (fun (x : Value × Value) W2 => FOut W2 V.heap.size L sa.r.o x.1 x.2) x w' ∧ Below V.heap.size V w' := fun V hB =>
    (hall V hB).mono fun e w' ⟨vv, ov, he, hr, hb⟩ => ⟨(vv, ov), he, hr, hb⟩
  have hOk : ∀ t ∈ L, OkS P t := fun t ht => (hOk t ht).1
  have hLl : L.length ≤ 4096 := Nat.le_trans hLl hcn
  show Calls Try.prog _ _ _ (fun e W' => e = .returned (.int .i64 0) ∧ (∃ (X : List Lv) (ov' : Value) (n' : List Int), X.map Lv.l = (lastW P (sitesOf P) L now L.length).1 ∧ LS W0.heap.size bo bn X n' W' ov' nv) ∧ KeepT W0.heap.size W W')
  have hlw := lastW_len P (sitesOf P) L now
  have hH := And.intro True.intro (And.intro hP hs)
  obtain ⟨bb, off, p, cap, rfl, hpp, hpc⟩ := Pg.open hP
  obtain ⟨ip, ic, rfl⟩ : ∃ p c, iv = .slice p I.length c := sl_len hI
  have hzle := hlow.size
  have hBp : Below W0.heap.size W0 (W.alloc (.cells #[.slice p P.length cap] 24)) := hlow.alloc hzle _
  have hHn : Hid (now.length = (vars P).length) := hnl
  generalize sa.r.o = Oa at hall
  clear hP hI hs hcn hnl
  go_enter Try.func60, Try.ntmps60
  go_wp2_with ((go_at_call 21; refine' Calls.aftS _ _ (hall _ hBp) _; rotate_left 2; (exact Below.refl _ _; rfl); intro v1 x1 ho1; have hle := After.le x1; (try simp at hle)); obtain ⟨va, oa⟩ := v1; have ho1 : FOut x1.val _ L Oa va oa := ho1; obtain ⟨⟨ap, ac, rfl⟩, aop, aoc, rfl⟩ := ho1.len)
  obtain ⟨V1, hV1⟩ : ∃ V1, V1 = x1.val.alloc (.cells #[.slice ap L.length ac, .slice aop Oa.length aoc, .bool gg] 53) := ⟨_, rfl⟩
  have hxv : Below x1.val.heap.size x1.val V1 := by rw [hV1]; exact (Below.refl _ _).alloc (Nat.le_refl _) _
  have hWv : Below W.heap.size W V1 := nextB hxv (((Below.refl W.heap.size W).alloc (Nat.le_refl _) (.cells #[.slice p P.length cap] 24)).trans (x1.below.mono (by simp)))
  have hfo := ho1.below hxv
  have e5 : V1.heap[W.heap.size]? = some (.cells #[.slice p P.length cap] 24 (0, 0)) := blk_next hxv (blk_next x1.below (heap_alloc_new _ _))
  rw [← hV1]
  clear hV1 hxv ho1 hall hBp
  have hL0 := h.below hWv
  have hKv : KeepT W0.heap.size W V1 := KeepT.of_below hWv
  obtain ⟨⟨Xs, hXm, hXo, hXr⟩, _⟩ := hfo
  have hXl : Xs.length = L.length := by rw [← hXm, List.length_map]
  have hXm2 : Hid (Xs.map Sv.p = L) := hXm
  have hXl2 : Hid (Xs.length = L.length) := hXl
  clear hXm h hWv
  rw [show V1.ownsRow _ 47 4 (.slice ap L.length ac) Xs.length (Xs.flatMap Sv.cs) = V1.ownsRow _ 47 4 (.slice ap L.length ac) L.length (Xs.flatMap Sv.cs) by rw [hXl]] at hXo
  clear hXl
  have hsr : W0.heap.size ≤ V1.heap.size := Nat.le_trans hzle hKv.size
  go_loopw [30] (fun i wr => ∃ (m : Nat) (X : List Lv) (ov' : Value), m ≤ L.length ∧ i = .int .i64 m ∧ X.map Lv.l = (lastW P (sitesOf P) L now m).1 ∧ X.length = m ∧ LS W0.heap.size bo bn X (lastW P (sitesOf P) L now m).2 wr ov' nv ∧ KeepT W0.heap.size V1 wr) (fun i _ => L.length - (intOf i).toNat)
  case atStart => exact ⟨0, [], ov, Nat.zero_le _, rfl, rfl, rfl, hL0, KeepT.refl _ _⟩
  case round =>
    obtain ⟨m, X, ov1, hm, rfl, hXm, hXlen, hLm, hKm⟩ := hrel
    clear hL0
    have hsz := hKm.size
    have hB0 : Below W0.heap.size W0 wr := hlow.trans ((hKv.trans hKm).below hzle)
    by_cases hlt : m < L.length
    · have hlt2 : (m : Int) < L.length := by omega
      have hxo := hKm.own hXo (by decide) (by decide) (by decide)
      have hmx : m < Xs.length := by have : Xs.length = L.length := hXl2; omega
      obtain ⟨rb, roff, rp, rcap, hrv, hrp, hrc⟩ := (Sl.of_own (L := Xs) (by have : Xs.length = L.length := hXl2; rw [this]; exact hxo) : Sl wr (.slice ap L.length ac) Sv.cs Xs).open Sv.cs_len
      injection hrv with hrv1 hrv2 hrv3
      subst hrv1 hrv3
      obtain rfl := hrp (by omega)
      have hLp : L[m]'hlt = (Xs[m]'hmx).p := by
        have h9 : Xs.map Sv.p = L := hXm2
        have h8 : L[m]? = some (Xs[m]'hmx).p := by rw [← h9, List.getElem?_map, List.getElem?_eq_getElem hmx]; rfl
        rw [List.getElem?_eq_getElem hlt] at h8
        exact Option.some.inj h8
      have hok := hOk _ (List.getElem_mem hlt)
      have hlw1 : lastW P (sitesOf P) L now (m + 1) = ((lastW P (sitesOf P) L now m).1 ++ [(lastW P (sitesOf P) L now m).2], doneN P (sitesOf P) (L[m]'hlt).b (P.getD (L[m]'hlt).b.toNat default).l (P.getD (L[m]'hlt).b.toNat default).l.length (lastW P (sitesOf P) L now m).2) := by
        simp only [lastW, List.getElem?_eq_getElem hlt]
      have hcv : ∀ r u, ((Xs[m]'hmx).cs)[r]? = some u → wr.cell? ⟨rb, roff + m * 4 + r, none⟩ = some u := fun r u hu => by
        rw [Nat.add_assoc]
        exact hrc m hmx r u hu
      have hRn := hXr _ (List.getElem_mem hmx)
      have hnl2 := hlw m
      clear hrc hxo hrp hrv2
      rw [hLp] at hlw1 hok
      clear hLp
      generalize lastW P (sitesOf P) L now m = A at hXm hLm hlw1 hnl2
      obtain ⟨A1, A2⟩ := A
      generalize Xs[m]'hmx = xs at hlw1 hok hcv hRn
      obtain ⟨⟨cb, cr⟩, ev, oo⟩ := xs
      obtain ⟨g1, g2, g3, g4⟩ := hok
      have g1 : 0 ≤ cb := g1
      have g2 : cb < P.length := g2
      obtain ⟨kb, rfl⟩ : ∃ k : Nat, cb = k := ⟨cb.toNat, (Int.toNat_of_nonneg g1).symm⟩
      have hkb : kb < P.length := by omega
      have hRn : Rn _ _ ev oo cr := hRn
      obtain ⟨ep, ec, rfl⟩ := own_len hRn.e
      obtain ⟨qp, qc, rfl⟩ := own_len hRn.o
      clear hRn g1 g3 g4
      have hgd : P.getD ((kb : Nat) : Int).toNat default = P[kb]'hkb := by rw [Int.toNat_natCast]; simp [List.getD, List.getElem?_eq_getElem hkb]
      have hlw1 : lastW P (sitesOf P) L now (m + 1) = (A1 ++ [A2], doneN P (sitesOf P) (kb : Int) (P.getD ((kb : Nat) : Int).toNat default).l (P.getD ((kb : Nat) : Int).toNat default).l.length A2) := hlw1
      rw [hgd] at hlw1
      have hHw : Hid (lastW P (sitesOf P) L now (m + 1) = (A1 ++ [A2], doneN P (sitesOf P) (kb : Int) (P[kb]'hkb).l (P[kb]'hkb).l.length A2)) := hlw1
      clear hlw1 hgd
      have d0 : wr.cell? ⟨rb, roff + m * 4, none⟩ = some (.int .i64 kb) := hcv 0 _ rfl
      have dl := World.block_lt_of_cell? _ _ d0
      have d1 : wr.cell? ⟨rb, roff + m * 4 + 1, none⟩ = some (.slice ep cr.e.length ec) := hcv 1 _ rfl
      have d2 : wr.cell? ⟨rb, roff + m * 4 + 2, none⟩ = some (.int .i64 cr.i) := hcv 2 _ rfl
      have d3 : wr.cell? ⟨rb, roff + m * 4 + 3, none⟩ = some (.slice qp cr.o.length qc) := hcv 3 _ rfl
      clear hcv
      have hcb : ∀ r u, ((P[kb]'hkb).cs)[r]? = some u → W0.cell? ⟨bb, off + kb * 8 + r, none⟩ = some u := fun r u hu => by
        rw [Nat.add_assoc]
        exact (hpc kb hkb).1 r u hu
      obtain rfl := hpp (by omega)
      have hstm := (hpc kb hkb).2
      have hll := hl12 _ (List.getElem_mem hkb)
      have hnl3 : A2.length ≤ 1000000 := by have : A2.length = now.length := hnl2; have : now.length = (vars P).length := hHn; omega
      have hnl4 : Hid (A2.length = (vars P).length) := by have h1 : A2.length = now.length := hnl2; have h2 : now.length = (vars P).length := hHn; exact h1.trans h2
      clear hnl2
      generalize P[kb]'hkb = B at hHw hcb hstm hll
      obtain ⟨lb, loff, lp, lcap, hlv, hlp, hlc⟩ := hstm.open St.cs_len
      have b1 : W0.cell? ⟨bb, off + kb * 8 + 1, none⟩ = some (.slice lp B.l.length lcap) := by rw [← hlv]; exact hcb 1 _ rfl
      clear hcb hstm hlv
      obtain ⟨V2, hV2⟩ : ∃ V2, V2 = wr.alloc (.cells #[.int .i64 kb, .slice ep cr.e.length ec, .int .i64 cr.i, .slice qp cr.o.length qc] 47) := ⟨_, rfl⟩
      have hwv : Below wr.heap.size wr V2 := by rw [hV2]; exact (Below.refl _ _).alloc (Nat.le_refl _) _
      have hco := come_any W0.heap.size bo bn X A2 V2 ov1 nv (hLm.below hwv) hnl3 (by omega) (by have := hwv.size; omega)
      have e14 : V2.heap[wr.heap.size]? = some (.cells #[.int .i64 kb, .slice ep cr.e.length ec, .int .i64 cr.i, .slice qp cr.o.length qc] 47 (0, 0)) := by rw [hV2]; exact heap_alloc_new _ _
      rw [hV2] at hco e14 hwv
      go_wp2_with (go_at_call 63; refine hco.mono ?_; rintro e W2 ⟨rfl, ⟨ov2, v2, hL2⟩, hK2⟩; have hK3 := (hKm.trans (KeepT.of_below hwv)).trans hK2; have hB2 : Below W0.heap.size W0 W2 := hlow.trans ((hKv.trans hK3).below hzle); have f5 := cell_of_one (hK3.blk e5 (by decide) (by decide) (by decide)); have l5 := World.block_lt_of_cell? _ _ f5; obtain ⟨h14, _, _, _, _, l14⟩ := four (hK2.blk e14 (by decide) (by decide) (by decide)); have b1' := nextC hB2 b1; have bl' := World.block_lt_of_cell? _ _ b1')
      have hnl5 : A2.length = (vars P).length := hnl4
      have hvd : ∀ k : Nat, (doneN P (sitesOf P) (kb : Int) B.l k A2).length = (vars P).length := fun k => (doneN_len P (sitesOf P) (kb : Int) B.l k A2).trans hnl5
      clear hnl5
      go_loopw [44] (fun i wq => ∃ k : Nat, k ≤ B.l.length ∧ i = .int .i64 k ∧ LS W0.heap.size bo bn (X ++ [⟨A2, v2⟩]) (doneN P (sitesOf P) (kb : Int) B.l k A2) wq ov2 nv ∧ KeepT W0.heap.size W2 wq) (fun i _ => B.l.length - (intOf i).toNat)
      case atStart => exact ⟨0, Nat.zero_le _, rfl, hL2, KeepT.refl _ _⟩
      case round =>
        obtain ⟨k, hk, rfl, hLk, hKk⟩ := hrel
        have hBk : Below W0.heap.size W0 wr := hlow.trans ((hKv.trans (hK3.trans hKk)).below hzle)
        have hszk := hBk.size
        by_cases hlk : k < B.l.length
        · obtain rfl := hlp (by omega)
          have hlk2 : (k : Int) < B.l.length := by omega
          have hcs : ∀ r u, ((B.l[k]'hlk).cs)[r]? = some u → wr.cell? ⟨lb, loff + k * 9 + r, none⟩ = some u := fun r u hu => by
            rw [Nat.add_assoc]
            exact nextC hBk (hlc k hlk r u hu)
          have hdn : doneN P (sitesOf P) (kb : Int) B.l (k + 1) A2 = putI P (sitesOf P) ⟨(kb : Int), (k : Int), (B.l[k]'hlk).v⟩ (sitesOf P).length (doneN P (sitesOf P) (kb : Int) B.l k A2) := by
            simp only [doneN, List.getElem?_eq_getElem hlk]
          have hln := hvd k
          generalize B.l[k]'hlk = s at hcs hdn
          have hHd : Hid (doneN P (sitesOf P) (kb : Int) B.l (k + 1) A2 = putI P (sitesOf P) ⟨(kb : Int), (k : Int), s.v⟩ (sitesOf P).length (doneN P (sitesOf P) (kb : Int) B.l k A2)) := hdn
          clear hdn
          generalize doneN P (sitesOf P) (kb : Int) B.l k A2 = N1 at hLk hHd hln
          have e0 : wr.cell? ⟨lb, loff + k * 9, none⟩ = some (.int .i64 s.k) := hcs 0 _ rfl
          have hbq := World.block_lt_of_cell? _ _ e0
          have e1 := hcs 1 _ rfl
          have e2 := hcs 2 _ rfl
          have e3 := hcs 3 _ rfl
          have e4 := hcs 4 _ rfl
          have e5' := hcs 5 _ rfl
          have e6 := hcs 6 _ rfl
          have e7 := hcs 7 _ rfl
          have e8 := hcs 8 _ rfl
          obtain ⟨k14, _, _, _, _, q14⟩ := four (hKk.blk (hK2.blk e14 (by decide) (by decide) (by decide)) (by decide) (by decide) (by decide))
          clear hcs
          obtain ⟨V4, hV4⟩ : ∃ V4, V4 = wr.alloc (.cells #[.int .i64 s.k, .string s.v, .int .i64 s.e.op, .string s.e.x.v, .int .i64 s.e.x.a, .int .i64 s.e.x.b, .string s.e.y.v, .int .i64 s.e.y.a, .int .i64 s.e.y.b] 90) := ⟨_, rfl⟩
          have hB4 : Below wr.heap.size wr V4 := by rw [hV4]; exact (Below.refl _ _).alloc (Nat.le_refl _) _
          have hdo := do9_any P (sitesOf P) hS bs bp bo bn s (kb : Int) (k : Int) (X ++ [⟨A2, v2⟩]) N1 W0 V4 ov2 nv sv (.slice (some ⟨bb, off, none⟩) P.length cap) hH.2.1 h12 hl12 hH.2.2 hsb hpb (hBk.trans (hB4.mono hszk)) (hLk.below hB4) (fun hx => by rw [hln]; exact hsp _ hx)
          rw [hV4] at hdo hB4
          clear hln
          go_wp2_with (go_at_call 65; refine hdo.mono ?_; rintro e W5 ⟨rfl, hL5, hK5⟩)
          go_roundw
          case rel => exact ⟨k + 1, by omega, by simp, by rw [show doneN P (sitesOf P) (kb : Int) B.l (k + 1) A2 = _ from hHd]; exact hL5, hKk.trans ((KeepT.of_below hB4).trans hK5)⟩
          case measure => simp [intOf]; omega
        · have hks : k = B.l.length := by omega
          subst hks
          have hlk2 : ¬ (B.l.length : Int) < B.l.length := by omega
          go_wp2_with fail
          go_roundw
          case rel => exact ⟨m + 1, X ++ [⟨A2, v2⟩], ov2, by omega, by simp, by rw [show lastW P (sitesOf P) L now (m + 1) = _ from hHw]; simp [hXm], by simp [hXlen], by rw [show lastW P (sitesOf P) L now (m + 1) = _ from hHw]; exact hLk, hK3.trans hKk⟩
          case measure => simp [intOf]; omega
    · have hks : m = L.length := by omega
      subst hks
      have hlt2 : ¬ (L.length : Int) < L.length := by omega
      go_wp2_with fail
      refine bodyPost_ret (v := .int .i64 0) (by simp only [results, Try.results60]; go_simp) rfl ?_
      refine ⟨rfl, ?_, hKv.trans hKm⟩
      exact ⟨X, hXm, ov1, (lastW P (sitesOf P) L now L.length).2, hLm⟩

end Go.Proofs.Ytaaklejkngpddaa.Pr

namespace Go.Proofs.Ytaaklejkngpddaa.Pr
set_option linter.unusedVariables false
set_option linter.unusedSimpArgs false
open Go Go.RowKit

theorem trsites_len {P : List Bl} (h12 : P.length ≤ 12) (hl12 : ∀ b ∈ P, b.l.length ≤ 12) : (sitesOf P).length ≤ 1000 := by
  have h1 : ∀ (i : Nat) (l : List St) (n : Nat), (stSites i l n).length ≤ n := fun i l n => by
    induction n with
    | zero => simp [stSites]
    | succ n ih =>
      simp only [stSites, List.length_append]
      split
      · unfold siteOf
        split <;> simp <;> omega
      · simp; omega
  have h2 : ∀ n, (blSites P n).length ≤ 12 * n := fun n => by
    induction n with
    | zero => simp [blSites]
    | succ n ih =>
      simp only [blSites, List.length_append]
      split
      · rename_i b hb
        have := h1 n b.l b.l.length
        have := hl12 b (List.mem_iff_getElem?.2 ⟨n, hb⟩)
        omega
      · simp; omega
  have h3 := blVars_len hl12 P.length
  have h4 := h2 P.length
  have h5 : (vars P).length ≤ 400 ∨ True := .inr trivial
  unfold sitesOf
  rw [List.length_append, List.length_map]
  have h6 : (vars P).length = (blVars P P.length).length := rfl
  omega

set_option maxRecDepth 100000 in
set_option maxHeartbeats 4000000 in
theorem walkL_bad (P : List Bl) (I : List Nu) (hc0 : checkOf P ≠ 0) (most : Int) (c1 c2 : Value) (W : World) (pv iv : Value) (hP : Pg W pv P) (h12 : P.length ≤ 12) (hl12 : ∀ b ∈ P, b.l.length ≤ 12) (hI : Sl W iv Nu.cs I) :
    Calls Try.prog 60 #[.agg #[pv], iv, .int .i64 most, c1, c2] W fun e W' => e = .returned (.int .i64 (checkOf P)) ∧ Below W.heap.size W W' := by
  have hall := fun (V : World) (hB : Below W.heap.size W V) => allF_bad P I hc0 most pv iv V (hP.below hB) h12 hl12 (hI.below hB)
  obtain ⟨p, cap, rfl⟩ : ∃ p c, pv = .slice p P.length c := sl_len hP.1
  obtain ⟨ip, ic, rfl⟩ : ∃ p c, iv = .slice p I.length c := sl_len hI
  have hBp : Below W.heap.size W (W.alloc (.cells #[.slice p P.length cap] 24)) := (Below.refl _ _).alloc (Nat.le_refl _) _
  generalize checkOf P = K at hc0 hall ⊢
  have hKb : (K == 0) = false := by simp [hc0]
  clear hP hI
  go_enter Try.func60, Try.ntmps60
  go_wp2_with (go_at_call 21; refine' Calls.aft _ _ (hall _ hBp) _; rotate_left 2; (exact Below.refl _ _; rfl); intro x1; have hle := After.le x1; (try simp at hle))
  go_ret
  refine ⟨rfl, ?_⟩
  (repeat (first | exact Below.refl _ _ | apply Below.drew | refine Below.alloc ?_ ?_ _ | refine Below.setCell ?_ ?_ _ | refine Below.trans ?_ (Below.mono (After.below _) ?_))); (all_goals (first | (simp; done) | (simp; omega) | omega))

/-- Each place up to k has its own number. -/
def nowK (n k : Nat) : List Int := (List.range n).map fun i => if i < k then (i : Int) else 0
theorem own_len' {w : World} {base : Nat} {e : TypeId} {size n : Nat} {v : Value} {xs : List Value} (h : w.ownsRow base e size v n xs) : ∃ p n c, v = .slice p n c := by
  obtain ⟨p, c, h⟩ := own_len h
  exact ⟨p, n, c, h⟩
theorem nowK_len (n k : Nat) : (nowK n k).length = n := by simp [nowK]
theorem nowK_set {n k : Nat} (hk : k < n) : nowK n (k + 1) = (nowK n k).set k (k : Int) := by
  refine List.ext_getElem (by rw [List.length_set, nowK_len, nowK_len]) fun i h1 h2 => ?_
  rw [nowK_len] at h1
  rw [List.getElem_set]
  simp only [nowK, List.getElem_map, List.getElem_range]
  by_cases he : k = i
  · subst he
    simp
  · rw [if_neg he]
    by_cases h3 : i < k
    · rw [if_pos (by omega), if_pos h3]
    · rw [if_neg (by omega), if_neg h3]
theorem nowK_zero (n : Nat) : (nowK n 0).flatMap ecI = List.replicate n (.int .i64 0) := by
  have : nowK n 0 = List.replicate n 0 := by
    refine List.ext_getElem (by simp [nowK]) fun i h1 h2 => ?_
    simp [nowK]
  rw [this]
  induction n with
  | zero => rfl
  | succ n ih =>
    have h2 : nowK n 0 = List.replicate n 0 := by
      refine List.ext_getElem (by simp [nowK]) fun i h1 h2 => ?_
      simp [nowK]
    rw [List.replicate_succ, List.flatMap_cons, ih h2, List.replicate_succ]
    rfl

theorem zerosI (n : Nat) : (madeCells (Value.int .i64 0).cells (n * 1)).toList = (nowK n 0).flatMap ecI := by
  rw [nowK_zero]
  show (madeCells #[Value.int .i64 0] (n * 1)).toList = _
  rw [toList_madeCells_one, Nat.mul_one]

structure LW (W0 : World) (bn : Nat) (n k : Nat) (wr : World) (nv : Value) : Prop where
  nb : wr.heap[bn]? = some (.cells #[nv] 76 (0, 0))
  no : wr.ownsRow W0.heap.size 3 1 nv n ((nowK n k).flatMap ecI)
  be : Below W0.heap.size W0 wr
  hn : W0.heap.size ≤ bn

theorem LW.put {W0 wr : World} {bn n k g c : Nat} (h : LW W0 bn n k wr (.slice (some ⟨g, 0, none⟩) n c)) (hk : k < n) : LW W0 bn n (k + 1) (wr.setCell ⟨g, k, none⟩ (.int .i64 (k : Int))) (.slice (some ⟨g, 0, none⟩) n c) := by
  have hb := (h.no.lt g rfl).1
  have h2 : bn ≠ g := fun he => own_ne h.no h.nb (by decide) (by rw [he]; rfl)
  refine ⟨(heap_setCell_other _ _ _ _ h2).trans h.nb, ?_, h.be.setCell (p := ⟨g, k, none⟩) hb _, h.hn⟩
  have h3 : wr.ownsRow W0.heap.size 3 1 (.slice (some ⟨g, 0, none⟩) (nowK n k).length c) (nowK n k).length ((nowK n k).flatMap ecI) := by rw [nowK_len]; exact h.no
  have h4 := own_setI h3 k (k : Int) (by rw [nowK_len]; exact hk)
  rw [nowK_len, ← nowK_set hk] at h4
  exact h4
theorem LW.ls {W0 wr : World} {bn n : Nat} {nv : Value} (h : LW W0 bn n n wr nv) : LS W0.heap.size wr.heap.size bn [] (nowK n n) (wr.alloc (.cells #[.slice none 0 0] 80)) (.slice none 0 0) nv :=
  ⟨heap_alloc_new _ _, (heap_alloc_old _ _ (lt_of_some h.nb)).trans h.nb, by rw [nowK_len]; exact h.no.alloc _, World.ownsRow_nil _ _ _ _, (fun x hx => by simp at hx), (fun he => by cases he), h.be.size, h.hn⟩

set_option maxRecDepth 100000 in
set_option maxHeartbeats 4000000 in
theorem last_with (P : List Bl) (most : Int) (pv iv : Value) (W : World) (hP : Pg W pv P) (h12 : P.length ≤ 12) (hl12 : ∀ b ∈ P, b.l.length ≤ 12) (K : Int) (R : Value → World → Prop) (il : Nat)
    (hiv : ∃ p c, iv = .slice p il c)
    (hwalk : ∀ (W0 V : World) (bs bp bo bn : Nat) (sv nv : Value), Below W.heap.size W W0 → Sl W0 sv Si.cs (sitesOf P) → W0.heap[bs]? = some (.cells #[sv] 85 (0, 0)) → W0.heap[bp]? = some (.cells #[pv] 24 (0, 0)) → Below W0.heap.size W0 V →
      LS W0.heap.size bo bn [] (nowK (vars P).length (vars P).length) V (.slice none 0 0) nv → Calls Try.prog 60 #[.agg #[pv], iv, .int .i64 most, .func (.func 63) #[] #[.pointer (some ⟨bo, 0, none⟩), .pointer (some ⟨bn, 0, none⟩)], .func (.func 65) #[] #[.pointer (some ⟨bs, 0, none⟩), .pointer (some ⟨bp, 0, none⟩), .pointer (some ⟨bn, 0, none⟩)]] V fun e W' => e = .returned (.int .i64 K) ∧
        (∃ ov', W'.heap[bo]? = some (.cells #[ov'] 80 (0, 0)) ∧ R ov' W' ∧ (∃ p n c, ov' = .slice p n c)) ∧ Below W.heap.size W W') :
    Calls Try.prog 35 #[.agg #[pv], iv, .int .i64 most] W fun e W' => ∃ ov, e = .returned (.tuple #[ov, .int .i64 K]) ∧ R ov W' ∧ Below W.heap.size W W' := by
  obtain ⟨i0, hi, hz0, hz1, hz2⟩ := info_parts i_info
  obtain ⟨p, cap, rfl⟩ : ∃ p c, pv = .slice p P.length c := sl_len hP.1
  obtain ⟨ip, ic, rfl⟩ := hiv
  have hln : (vars P).length ≤ 1000000 := by have := blVars_len hl12 P.length; show (blVars P P.length).length ≤ _; omega
  have hmf : ∀ (fn : Fn) (first cap : Array Value) (w : World), (Instr.makeFunc fn first cap).run Try.prog w = .ok (.func fn first cap) w := fun _ _ _ _ => rfl
  have hB1 : Below W.heap.size W (W.alloc (.cells #[.slice p P.length cap] 24)) := (Below.refl _ _).alloc (Nat.le_refl _) _
  have hsi := tsites_any P _ _ (hP.below hB1) h12 hl12
  have hva := fun (V : World) (hB : Below W.heap.size W V) => vars_any P _ V (hP.below hB) h12 hl12
  have hpb0 := heap_alloc_new W (.cells #[.slice p P.length cap] 24)
  clear hP
  go_enter Try.func35, Try.ntmps35
  go_wp2_with (first | (go_at_call 37; refine hsi.mono ?_; rintro e W1 ⟨sv, rfl, hsv, hBs⟩; obtain ⟨svp, svc, rfl⟩ : ∃ p c, sv = .slice p (sitesOf P).length c := sl_len hsv; have y0 := nextC hBs (cell_of_one hpb0); have yl := World.block_lt_of_cell? _ _ y0; have hBw := hB1.trans (hBs.mono hB1.size); have hBv := hBw.alloc hBw.size (.cells #[.slice svp (sitesOf P).length svc] 85)) | (go_at_call 46; refine (hva _ hBv).mono ?_; rintro e W2 ⟨v1, rfl, hv1, hB2⟩; obtain ⟨vp, vc, rfl⟩ : ∃ p c, v1 = .slice p (vars P).length c := sl_len hv1) | (at_make; refine wpList_make_full _ rfl _ _ 76 rfl W2.heap.size 3 i0 (.int .i64 0) 1 Try.underlying76 hi hz0 hz1 .i64 .i64 _ _ (vars P).length rfl rfl rfl rfl (by rw [hz2]; omega) (by unfold maxLen; omega) (Nat.le_refl _) ?_; intro w3 hown hgrow; rw [zerosI] at hown))
  obtain ⟨W0, hW0⟩ : ∃ W0, W0 = W1.alloc (.cells #[.slice svp (sitesOf P).length svc] 85) := ⟨_, rfl⟩
  have hbs : W0.heap[W1.heap.size]? = some (.cells #[.slice svp (sitesOf P).length svc] 85 (0, 0)) := by rw [hW0]; exact heap_alloc_new _ _
  have h10 : Below W1.heap.size W1 W0 := by rw [hW0]; exact (Below.refl _ _).alloc (Nat.le_refl _) _
  rw [← hW0] at hBv hB2
  have hbp : W0.heap[W.heap.size]? = some (.cells #[.slice p P.length cap] 24 (0, 0)) := blk_next h10 (blk_next hBs hpb0)
  have hsv0 := hsv.below h10
  have h23 : Below W2.heap.size W2 w3 := Below.grown (w := _) (Below.refl _ _) hgrow (Nat.le_refl _) (fun q hq => by cases hq)
  have hB3 : Below W0.heap.size W0 w3 := nextB h23 hB2
  have h02 := hB2.size
  have h03 := hB3.size
  obtain ⟨V0, hV0⟩ : ∃ V0, V0 = w3.alloc (.cells #[.slice (some ⟨W2.heap.size, 0, none⟩) (vars P).length (vars P).length] 76) := ⟨_, rfl⟩
  obtain ⟨bn, hbn⟩ : ∃ bn, bn = w3.heap.size := ⟨_, rfl⟩
  have hL0 : LW W0 bn (vars P).length 0 V0 (.slice (some ⟨W2.heap.size, 0, none⟩) (vars P).length (vars P).length) := by
    rw [hV0, hbn]
    exact ⟨heap_alloc_new _ _, (own_base hown h02).alloc _, hB3.alloc h03 _, h03⟩
  rw [← hV0, ← hbn]
  clear hV0 hbn hW0 hown hgrow h23 hB3 hB2 hsv hsi hva hpb0 y0 yl hv1 h10 hBs hB1 hBw
  go_loopw [21] (fun i wr => ∃ k : Nat, k ≤ (vars P).length ∧ i = .int .i64 k ∧ LW W0 bn (vars P).length k wr (.slice (some ⟨W2.heap.size, 0, none⟩) (vars P).length (vars P).length)) (fun i _ => (vars P).length - (intOf i).toNat)
  case atStart => exact ⟨0, Nat.zero_le _, rfl, hL0⟩
  case round =>
    obtain ⟨k, hk, rfl, hL⟩ := hrel
    clear hL0
    have n0 := cell_of_one hL.nb
    have nl := lt_of_some hL.nb
    by_cases hlt : k < (vars P).length
    · have hlt2 : (k : Int) < (vars P).length := by omega
      have q0 := hL.no.frozenAt k
      have dd := (hL.no.cellAt k (by omega)).trans (ecI_get (nowK (vars P).length k) k (by rw [nowK_len]; exact hlt))
      have gl := (hL.no.lt _ rfl).2
      go_wp2_with fail
      go_roundw
      case rel => exact ⟨k + 1, by omega, by simp, hL.put hlt⟩
      case measure => simp [intOf]; omega
    · have hks : k = (vars P).length := by omega
      have hlt2 : ¬ (k : Int) < (vars P).length := by omega
      have hLS := LW.ls (hks ▸ hL : LW W0 bn (vars P).length (vars P).length wr _)
      have y1 := nextC hL.be (cell_of_one hbp)
      have yl := World.block_lt_of_cell? _ _ y1
      have hbe := hL.be.alloc hL.be.size (.cells #[.slice none 0 0] 80)
      have hw := hwalk W0 _ _ _ _ bn _ _ hBv hsv0 hbs hbp hbe hLS
      clear hwalk hLS hbe
      go_wp2_with (go_at_call 60; refine hw.mono ?_; rintro e W9 ⟨rfl, ⟨ov', hb9, hR, ⟨op, on, oc, rfl⟩⟩, hB9⟩; have z0 := cell_of_one hb9; have zl := World.block_lt_of_cell? _ _ z0)
      refine bodyPost_ret (v := .tuple #[.slice op on oc, .int .i64 K]) (by simp only [results, Try.results35]; go_simp) rfl ⟨_, rfl, hR, hB9⟩

theorem last_ok (P : List Bl) (I : List Nu) (hc0 : checkOf P = 0) (most : Int) (pv iv : Value) (W : World) (hP : Pg W pv P) (h12 : P.length ≤ 12) (hl12 : ∀ b ∈ P, b.l.length ≤ 12) (hI : Sl W iv Nu.cs I) :
    Calls Try.prog 35 #[.agg #[pv], iv, .int .i64 most] W fun e W' => ∃ ov, e = .returned (.tuple #[ov, .int .i64 0]) ∧
      (∃ X : List Lv, X.map Lv.l = (lastW P (sitesOf P) (fromS P I (capN most) (beginS P) true).1 (nowK (vars P).length (vars P).length) (fromS P I (capN most) (beginS P) true).1.length).1 ∧ Sl W' ov Lv.cs X ∧ ∀ x ∈ X, Sl W' x.v ecI x.l) ∧ Below W.heap.size W W' := by
  refine last_with P most pv iv W hP h12 hl12 0 (fun ov W' => ∃ X : List Lv, X.map Lv.l = (lastW P (sitesOf P) (fromS P I (capN most) (beginS P) true).1 (nowK (vars P).length (vars P).length) (fromS P I (capN most) (beginS P) true).1.length).1 ∧ Sl W' ov Lv.cs X ∧ ∀ x ∈ X, Sl W' x.v ecI x.l) I.length (sl_len hI) ?_
  intro W0 V bs bp bo bn sv nv h1 h2 h3 h4 h5 h6
  refine (walkL_any P I hc0 (trsites_len h12 hl12) most bs bp bo bn _ (nowK_len _ _) W0 V _ nv sv pv iv (hP.below h1) h12 hl12 (hI.below h1) h2 h3 h4 h5 h6).mono ?_
  rintro e W' ⟨rfl, ⟨X, ov', n', hX, hL⟩, hK⟩
  exact ⟨rfl, ⟨ov', hL.ob, ⟨X, hX, Sl.of_own hL.oo, fun x hx => Sl.of_own (hL.xr x hx).1⟩, own_len' hL.oo⟩, h1.trans ((h5.trans (hK.below h5.size)).mono h1.size)⟩

theorem last_bad (P : List Bl) (I : List Nu) (hc0 : checkOf P ≠ 0) (most : Int) (pv iv : Value) (W : World) (hP : Pg W pv P) (h12 : P.length ≤ 12) (hl12 : ∀ b ∈ P, b.l.length ≤ 12) (hI : Sl W iv Nu.cs I) :
    Calls Try.prog 35 #[.agg #[pv], iv, .int .i64 most] W fun e W' => ∃ ov, e = .returned (.tuple #[ov, .int .i64 (checkOf P)]) ∧ ov = .slice none 0 0 ∧ Below W.heap.size W W' := by
  refine last_with P most pv iv W hP h12 hl12 (checkOf P) (fun ov W' => ov = .slice none 0 0) I.length (sl_len hI) ?_
  intro W0 V bs bp bo bn sv nv h1 h2 h3 h4 h5 h6
  have h15 := h1.trans (h5.mono h1.size)
  refine (walkL_bad P I hc0 most _ _ V pv iv (hP.below h15) h12 hl12 (hI.below h15)).mono ?_
  rintro e W' ⟨rfl, hB⟩
  exact ⟨rfl, ⟨_, (h6.below hB).ob, rfl, ⟨_, _, _, rfl⟩⟩, h15.trans (hB.mono h15.size)⟩

end Go.Proofs.Ytaaklejkngpddaa.Pr
