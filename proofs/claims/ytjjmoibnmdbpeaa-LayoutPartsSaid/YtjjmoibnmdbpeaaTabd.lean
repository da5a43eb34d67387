/- WALK of soughref04.Vars. -/
import Derived.Test.YtjjmoibnmdbpeaaTabc
import Derived.Deep.RegionLaw
namespace Go.Proofs.Ytjjmoibnmdbpeaa.Pr
set_option linter.unusedVariables false
set_option linter.unusedSimpArgs false
open Go Go.RowKit

theorem Pg.open {w : World} {v : Value} {P : List Bl} (h : Pg w v P) :
    ∃ (b off : Nat) (p : Option Addr) (cap : Nat), v = .slice p P.length cap ∧ (0 < P.length → p = some ⟨b, off, none⟩) ∧
      ∀ (i : Nat) (hi : i < P.length), (∀ (r : Nat) (u : Value), ((P[i]'hi).cs)[r]? = some u → w.cell? ⟨b, off + (i * 8 + r), none⟩ = some u) ∧ Sl w (P[i]'hi).lv St.cs (P[i]'hi).l := by
  obtain ⟨b, off, p, cap, hv, hp, hc⟩ := h.1.open Bl.cs_len
  exact ⟨b, off, p, cap, hv, hp, fun i hi => ⟨hc i hi, h.2 _ (List.getElem_mem hi)⟩⟩

/-- A call whose answer is told by what it is good for, as one step of a region that draws its order. -/
theorem step_callS {P : Program} {ops : Array Oper} {o : Oper} {a : Act} {w : World} {K : Act → World → Prop} {Q : Exit → Act → World → Prop} {E : Prop} (hgd : o.guard = none) (f : FuncId) (vs : Array Value) (S : Value → World → Prop)
    (hop : (execOp a.eval o).run P w = .ok (.enter f vs) w)
    (h : Calls P f vs w fun e w' => ∃ v, e = .returned v ∧ S v w' ∧ Below w.heap.size w w') (hk : ∀ v w', S v w' → Below w.heap.size w w' → K (a.put o.dst v) w') :
    if Region.wanted o (yielded ops a.tmps) = true then Oper.wp P o a w K Q else E := by
  have hw : Region.wanted o (yielded ops a.tmps) = true := by simp [Region.wanted, hgd]
  rw [if_pos hw]
  unfold Oper.wp
  rw [hop, Oper.upon_enter]
  exact h.mono fun e w' ⟨v, he, hs, hb⟩ => by subst he; exact hk v w' hs hb

/-- put, of a list that is read; what it hands back is read. -/
theorem rputS (T : List ByteArray) (s : ByteArray) (hr : Rise T) (hl : T.length ≤ 100000) (v : Value) (w : World) (h : Sl w v encS T) :
    Calls Try.prog 96 #[v, .string s] w fun e w' => ∃ o, e = .returned o ∧ Sl w' o encS (putS T s) ∧ Below w.heap.size w w' :=
  (rput_any T s hr hl v w h).mono fun e w' ⟨o, he, ho, hb⟩ => ⟨o, he, Sl.of_own ho, hb⟩

set_option maxRecDepth 100000 in
set_option maxHeartbeats 1000000 in
theorem rvars_wide (P : List Bl) (pv : Value) (w : World) (h : Pg w pv P) (h12 : P.length ≤ 128) (hl12 : ∀ b ∈ P, b.l.length ≤ 512) (hln : ∀ k, k ≤ P.length → (blVars P k).length ≤ 20000) :
    Calls Try.prog 59 #[.agg #[pv]] w fun e w' => ∃ o, e = .returned o ∧ Sl w' o encS (vars P) ∧ Below w.heap.size w w' := by
  obtain ⟨b, off, p, cap, rfl, hp, hc⟩ := Pg.open h
  have hrs := blVars_rise P
  go_enter Try.func59, Try.ntmps59
  go_wp2_with fail
  go_loopw [3, 11] (fun o i wr => ∃ k : Nat, k ≤ P.length ∧ i = .int .i64 k ∧ Sl wr o encS (blVars P k) ∧ Below w.heap.size w wr) (fun _ i _ => P.length - (intOf i).toNat)
  case atStart => exact ⟨0, Nat.zero_le _, rfl, Sl.nil, (Below.refl _ _).alloc (Nat.le_refl _) _⟩
  case round =>
    obtain ⟨k, hk, rfl, hS, hB⟩ := hrel
    have hw := hB.size
    by_cases hlt : k < P.length
    · obtain rfl := hp (by omega)
      have hlt2 : (k : Int) < P.length := by omega
      have hcw : ∀ r u, ((P[k]'hlt).cs)[r]? = some u → w.cell? ⟨b, off + (k * 8 + r), none⟩ = some u := (hc k hlt).1
      have hsl := (hc k hlt).2
      have hlen := hl12 _ (List.getElem_mem hlt)
      have hz : blVars P (k + 1) = putS (stVars (P[k]'hlt).l (blVars P k) (P[k]'hlt).l.length) (P[k]'hlt).t.x.v := by simp only [blVars, List.getElem?_eq_getElem hlt]
      have hH : Hid (blVars P (k + 1) = putS (stVars (P[k]'hlt).l (blVars P k) (P[k]'hlt).l.length) (P[k]'hlt).t.x.v) := hz
      have hr0 := hrs k
      have hl0 := hln k hk
      clear hz hc hrs hln
      generalize P[k]'hlt = B at hcw hsl hlen hH
      generalize blVars P k = T0 at hS hH hr0 hl0
      have hcr : ∀ r u, B.cs[r]? = some u → wr.cell? ⟨b, off + k * 8 + r, none⟩ = some u := fun r u hu => by
        rw [Nat.add_assoc]
        exact (hB.cell (p := ⟨b, off + (k * 8 + r), none⟩) (World.block_lt_of_cell? _ _ (hcw r u hu))).trans (hcw r u hu)
      obtain ⟨lb, loff, lp, lcap, hlv, hlp, hlc⟩ := (hsl.below hB).open St.cs_len
      have c0 : wr.cell? ⟨b, off + k * 8, none⟩ = some (.string B.n) := hcr 0 _ rfl
      have hbw := World.block_lt_of_cell? _ _ c0
      have c1 := hcr 1 _ rfl
      have c2 := hcr 2 _ rfl
      have c3 := hcr 3 _ rfl
      have c4 := hcr 4 _ rfl
      have c5 := hcr 5 _ rfl
      have c6 := hcr 6 _ rfl
      have c7 := hcr 7 _ rfl
      clear hcr hcw
      rw [hlv] at c1
      go_wp2_with fail
      have hB1 : Below w.heap.size w (wr.alloc (Obj.cells #[Value.string B.n, Value.slice lp B.l.length lcap, Value.int IntKind.i64 B.t.k, Value.string B.t.x.v, Value.int IntKind.i64 B.t.x.a, Value.int IntKind.i64 B.t.x.b, Value.string B.t.t, Value.string B.t.e] 91)) := hB.alloc hw _
      obtain ⟨W1, hW1⟩ : ∃ W1, W1 = (wr.alloc (Obj.cells #[Value.string B.n, Value.slice lp B.l.length lcap, Value.int IntKind.i64 B.t.k, Value.string B.t.x.v, Value.int IntKind.i64 B.t.x.a, Value.int IntKind.i64 B.t.x.b, Value.string B.t.t, Value.string B.t.e] 91)) := ⟨_, rfl⟩
      rw [← hW1]
      have d3 : W1.cell? ⟨wr.heap.size, 3, none⟩ = some (.string B.t.x.v) := by rw [hW1]; simp
      have hlc1 : ∀ (i : Nat) (hi : i < B.l.length) (r : Nat) (u : Value), ((B.l[i]'hi).cs)[r]? = some u → W1.cell? ⟨lb, loff + i * 9 + r, none⟩ = some u := fun i hi r u hu => by
        have h1 := hlc i hi r u hu
        rw [hW1, Nat.add_assoc]
        exact (World.cell?_alloc_lt _ _ _ (World.block_lt_of_cell? _ _ h1)).trans h1
      have hS1 : Sl W1 u3 encS T0 := by rw [hW1]; exact hS.below ((Below.refl _ _).alloc (Nat.le_refl _) _)
      rw [← hW1] at hB1
      have hdw := World.block_lt_of_cell? _ _ d3
      clear hW1 hlc
      have hsr := stVars_rise (l := B.l) hr0
      have hsn := stVars_len B.l T0
      go_loopw [3, 18] (fun o i wr => ∃ j : Nat, j ≤ B.l.length ∧ i = .int .i64 j ∧ Sl wr o encS (stVars B.l T0 j) ∧ Below W1.heap.size W1 wr) (fun _ i _ => B.l.length - (intOf i).toNat)
      case atStart => exact ⟨0, Nat.zero_le _, rfl, hS1, Below.refl _ _⟩
      case round =>
        obtain ⟨j, hj, rfl, hSj, hBj⟩ := hrel
        have hwj := hBj.size
        by_cases hjt : j < B.l.length
        · obtain rfl := hlp (by omega)
          have hjt2 : (j : Int) < B.l.length := by omega
          have hz : stVars B.l T0 (j + 1) = putS (putS (putS (stVars B.l T0 j) (B.l[j]'hjt).v) (B.l[j]'hjt).e.x.v) (B.l[j]'hjt).e.y.v := by simp only [stVars, List.getElem?_eq_getElem hjt]
          have hH2 : Hid (stVars B.l T0 (j + 1) = putS (putS (putS (stVars B.l T0 j) (B.l[j]'hjt).v) (B.l[j]'hjt).e.x.v) (B.l[j]'hjt).e.y.v) := hz
          have hlcj := hlc1 j hjt
          have hrj := hsr j
          have hlj := hsn j
          clear hz
          generalize (B.l[j]'hjt) = s at hlcj hH2
          generalize stVars B.l T0 j = T1 at hSj hH2 hrj hlj
          have hcj : ∀ r u, s.cs[r]? = some u → wr.cell? ⟨lb, loff + j * 9 + r, none⟩ = some u := fun r u hu => (hBj.cell (p := ⟨lb, loff + j * 9 + r, none⟩) (World.block_lt_of_cell? _ _ (hlcj r u hu))).trans (hlcj r u hu)
          have e0 : wr.cell? ⟨lb, loff + j * 9, none⟩ = some (.int .i64 s.k) := hcj 0 _ rfl
          have hbq := World.block_lt_of_cell? _ _ e0
          have e1 := hcj 1 _ rfl
          have e2 := hcj 2 _ rfl
          have e3 := hcj 3 _ rfl
          have e4 := hcj 4 _ rfl
          have e5 := hcj 5 _ rfl
          have e6 := hcj 6 _ rfl
          have e7 := hcj 7 _ rfl
          have e8 := hcj 8 _ rfl
          clear hcj hlcj hlc1 hsr hsn
          go_wp2_with fail
          obtain ⟨W2, hW2⟩ : ∃ W2, W2 = (wr.alloc (Obj.cells #[Value.int IntKind.i64 s.k, Value.string s.v, Value.int IntKind.i64 s.e.op, Value.string s.e.x.v, Value.int IntKind.i64 s.e.x.a, Value.int IntKind.i64 s.e.x.b, Value.string s.e.y.v, Value.int IntKind.i64 s.e.y.a, Value.int IntKind.i64 s.e.y.b] 86)) := ⟨_, rfl⟩
          rw [← hW2]
          have f1 : W2.drew.cell? ⟨wr.heap.size, 1, none⟩ = some (.string s.v) := by rw [hW2]; simp
          have f3 : W2.drew.cell? ⟨wr.heap.size, 3, none⟩ = some (.string s.e.x.v) := by rw [hW2]; simp
          have f6 : W2.drew.cell? ⟨wr.heap.size, 6, none⟩ = some (.string s.e.y.v) := by rw [hW2]; simp
          have hB2 : Below W1.heap.size W1 W2.drew := by rw [hW2]; exact (hBj.alloc hwj _).drew
          have hS2 : Sl W2.drew u3 encS T1 := hSj.below (by rw [hW2]; exact ((Below.refl _ _).alloc (Nat.le_refl _) _).drew)
          have hfb := World.block_lt_of_cell? _ _ f1
          have r1 := putS_rise hrj s.v
          have r2 := putS_rise r1 s.e.x.v
          have l1 := putS_len T1 s.v
          have l2 := putS_len (putS T1 s.v) s.e.x.v
          clear hW2 e0 e1 e2 e3 e4 e5 e6 e7 e8
          go_region_law (first
            | (refine step_callS rfl 96 #[u3, .string s.v] (fun v w' => Sl w' v encS (putS T1 s.v)) ?hop1 (rputS T1 s.v hrj (by omega) _ _ hS2) ?_; (case hop1 => (go_simp; done)); intro v1 q1 hv1 hq1; have g3 := (hq1.cell (p := ⟨wr.heap.size, 3, none⟩) hfb).trans f3; have g6 := (hq1.cell (p := ⟨wr.heap.size, 6, none⟩) hfb).trans f6; have hgb := World.block_lt_of_cell? _ _ g3)
            | (refine step_callS rfl 96 #[v1, .string s.e.x.v] (fun v w' => Sl w' v encS (putS (putS T1 s.v) s.e.x.v)) ?hop2 (rputS (putS T1 s.v) s.e.x.v r1 (by omega) _ _ hv1) ?_; (case hop2 => (go_simp; done)); intro v2 q2 hv2 hq2; have g7 := (hq2.cell (p := ⟨wr.heap.size, 6, none⟩) hgb).trans g6; have hhb := World.block_lt_of_cell? _ _ g7)
            | (refine step_callS rfl 96 #[v2, .string s.e.y.v] (fun v w' => Sl w' v encS (putS (putS (putS T1 s.v) s.e.x.v) s.e.y.v)) ?hop3 (rputS (putS (putS T1 s.v) s.e.x.v) s.e.y.v r2 (by omega) _ _ hv2) ?_; (case hop3 => (go_simp; done)); intro v3 q3 hv3 hq3))
          all_goals (
            have hB3 : Below W1.heap.size W1 q3 := hB2.trans (Below.mono (hq1.trans (Below.mono (hq2.trans (Below.mono hq3 hq2.size)) hq1.size)) hB2.size)
            clear hq1 hq2 hq3 g3 g6 g7
            go_wp2_with fail
            go_roundw
            case rel => exact ⟨j + 1, by omega, by simp, by rw [hH2]; exact hv3, hB3⟩
            case measure => simp [intOf]; omega)
        · have hks : j = B.l.length := by omega
          have hjt2 : ¬ (j : Int) < B.l.length := by omega
          subst hks
          have hrj := hsr B.l.length
          have hlj := hsn B.l.length
          have g3 := (hBj.cell (p := ⟨_, 3, none⟩) hdw).trans d3
          have hgb := World.block_lt_of_cell? _ _ g3
          clear hlc1 hsr hsn
          generalize stVars B.l T0 B.l.length = T1 at hSj hH hrj hlj
          go_wp2_with (go_at_call 96; refine (rputS T1 B.t.x.v hrj (by omega) _ _ hSj).mono ?_; rintro e q1 ⟨v1, rfl, hv1, hq1⟩)
          go_roundw
          case rel => exact ⟨k + 1, by omega, by simp, by rw [hH]; exact hv1, hB1.trans (Below.mono (hBj.trans (Below.mono hq1 hwj)) hB1.size)⟩
          case measure => simp [intOf]; omega
    · have hks : k = P.length := by omega
      subst hks
      have hlt2 : ¬ (P.length : Int) < P.length := by omega
      clear hc
      go_wp2_with fail
      refine bodyPost_ret (v := u3) (by simp only [results, Try.results59]; go_simp) rfl ⟨_, rfl, hS, hB⟩

theorem rvars_any (P : List Bl) (pv : Value) (w : World) (h : Pg w pv P) (h12 : P.length ≤ 12) (hl12 : ∀ b ∈ P, b.l.length ≤ 12) :
    Calls Try.prog 59 #[.agg #[pv]] w fun e w' => ∃ o, e = .returned o ∧ Sl w' o encS (vars P) ∧ Below w.heap.size w w' :=
  rvars_wide P pv w h (by omega) (fun b hb => by have := hl12 b hb; omega) (fun k hk => by have := blVars_len hl12 k; omega)

end Go.Proofs.Ytjjmoibnmdbpeaa.Pr
