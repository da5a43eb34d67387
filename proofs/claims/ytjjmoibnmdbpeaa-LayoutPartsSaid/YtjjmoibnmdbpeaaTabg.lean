/- WALK of proper.Vars. -/
import Derived.Test.YtjjmoibnmdbpeaaTabf
import Derived.Test.YtjjmoibnmdbpeaaTabd
namespace Go.Proofs.Ytjjmoibnmdbpeaa.Pr
set_option linter.unusedVariables false
set_option linter.unusedSimpArgs false
open Go Go.RowKit

/-- The variable's block and the row in it. -/
structure Box (base B : Nat) (T : List ByteArray) (w : World) (v : Value) : Prop where
  var : w.heap[B]? = some (.cells #[v] 92 (0, 0))
  own : w.ownsRow base 9 1 v T.length (T.flatMap encS)

theorem Box.below {base B : Nat} {T : List ByteArray} {w w' : World} {v : Value} (h : Box base B T w v) (hB : Below w.heap.size w w') : Box base B T w' v :=
  ⟨(hB.block B (lt_of_block h.var)).trans h.var, own_below h.own hB⟩

/-- The closure, at texts in a block that has just been made. -/
theorem putb_any (T S : List ByteArray) (hr : Rise T) (hl : T.length + S.length ≤ 50000) (base B : Nat) (v : Value) (w : World) (hV : Box base B T w v) (hb : base ≤ B) (n : Nat) (hn : n = S.length) (sb : Nat) (hsb : sb = w.heap.size) (C : Array Value) (hC : C = (S.map Value.string).toArray) :
    Calls Try.prog 81 #[.slice (some ⟨sb, 0, none⟩) n n, .pointer (some ⟨B, 0, none⟩)] (w.alloc (.cells C 9)) fun e w' => ∃ v', e = .returned (.tuple #[]) ∧ Box base B (S.foldl putS T) w' v' ∧ Keep base (w.alloc (.cells C 9)) w' := by
  subst hn hsb hC
  have hlt := lt_of_block hV.var
  refine (putc_any T S hr hl base B w.heap.size v _ ⟨by rw [heap_alloc_old w _ hlt]; exact hV.var, hV.own.alloc _, heap_alloc_new w _, fun he => ?_⟩ hb).mono fun e w' ⟨v', he, h1, h2⟩ => ⟨v', he, ⟨h1.var, h1.own⟩, h2⟩
  have := (hV.own.lt _ he).2
  omega

theorem Keep.cell {base : Nat} {w w' : World} (h : Keep base w w') {k : Nat} {cs : Array Value} {t : TypeId} (hc : w.heap[k]? = some (.cells cs t (0, 0))) (h1 : t ≠ 9) (h2 : t ≠ 92) : w'.heap[k]? = some (.cells cs t (0, 0)) :=
  (h.block k (lt_of_block hc) (.inr ⟨cs, t, (0, 0), hc, h1, h2⟩)).trans hc

set_option maxRecDepth 100000 in
set_option maxHeartbeats 1000000 in
theorem vars_wide (P : List Bl) (pv : Value) (w : World) (h : Pg w pv P) (h12 : P.length ≤ 128) (hl12 : ∀ b ∈ P, b.l.length ≤ 512) (hln : ∀ k, k ≤ P.length → (blVars P k).length ≤ 20000) :
    Calls Try.prog 42 #[.agg #[pv]] w fun e w' => ∃ o, e = .returned o ∧ Sl w' o encS (vars P) ∧ Below w.heap.size w w' := by
  obtain ⟨b, off, p, cap, rfl, hp, hc⟩ := Pg.open h
  have hrs := blVars_rise P
  have hmf : ∀ (fn : Fn) (first cap : Array Value) (w : World), (Instr.makeFunc fn first cap).run Try.prog w = .ok (.func fn first cap) w := fun _ _ _ _ => rfl
  go_enter Try.func42, Try.ntmps42
  go_wp2_with fail
  go_loopw [13] (fun i wr => ∃ (k : Nat) (v : Value), k ≤ P.length ∧ i = .int .i64 k ∧ Box w.heap.size (w.heap.size + 1) (blVars P k) wr v ∧ Below w.heap.size w wr) (fun i _ => P.length - (intOf i).toNat)
  case atStart =>
    exact ⟨0, .slice none 0 0, Nat.zero_le _, rfl, ⟨by rw [show w.heap.size + 1 = (w.alloc (Obj.cells #[Value.slice p P.length cap] 57)).heap.size by simp]; exact heap_alloc_new _ _, World.ownsRow_nil _ _ _ _⟩, ((Below.refl _ _).alloc (Nat.le_refl _) _).alloc (by simp) _⟩
  case round =>
    obtain ⟨k, v0, hk, rfl, hX, hB⟩ := hrel
    have hw := hB.size
    have hXv := cell_of_one hX.var
    have hXl := lt_of_block hX.var
    by_cases hlt : k < P.length
    · obtain rfl := hp (by omega)
      have hlt2 : (k : Int) < P.length := by omega
      have hcw : ∀ r u, ((P[k]'hlt).cs)[r]? = some u → w.cell? ⟨b, off + (k * 8 + r), none⟩ = some u := (hc k hlt).1
      have hsl := (hc k hlt).2
      have hlen := hl12 _ (List.getElem_mem hlt)
      have hz : blVars P (k + 1) = putS (stVars (P[k]'hlt).l (blVars P k) (P[k]'hlt).l.length) (P[k]'hlt).t.x.v := by simp only [blVars, List.getElem?_eq_getElem hlt]
      have hH : Hid (blVars P (k + 1) = putS (stVars (P[k]'hlt).l (blVars P k) (P[k]'hlt).l.length) (P[k]'hlt).t.x.v) := hz
      have hr0 := hrs k
      have hl0 := hln k hk
      clear hz hc hrs hln
      generalize P[k]'hlt = B at hcw hsl hlen hH
      generalize blVars P k = T0 at hX hH hr0 hl0
      have hcr : ∀ r u, B.cs[r]? = some u → wr.cell? ⟨b, off + k * 8 + r, none⟩ = some u := fun r u hu => by
        rw [Nat.add_assoc]
        exact (hB.cell (p := ⟨b, off + (k * 8 + r), none⟩) (World.block_lt_of_cell? _ _ (hcw r u hu))).trans (hcw r u hu)
      obtain ⟨lb, loff, lp, lcap, hlv, hlp, hlc⟩ := hsl.open St.cs_len
      have c0 : wr.cell? ⟨b, off + k * 8, none⟩ = some (.string B.n) := hcr 0 _ rfl
      have hbw := World.block_lt_of_cell? _ _ c0
      have c1 := hcr 1 _ rfl
      have c2 := hcr 2 _ rfl
      have c3 := hcr 3 _ rfl
      have c4 := hcr 4 _ rfl
      have c5 := hcr 5 _ rfl
      have c6 := hcr 6 _ rfl
      have c7 := hcr 7 _ rfl
      clear hcr hcw
      rw [hlv] at c1
      go_wp2_with fail
      have hB1 : Below w.heap.size w (wr.alloc (Obj.cells #[Value.string B.n, Value.slice lp B.l.length lcap, Value.int IntKind.i64 B.t.k, Value.string B.t.x.v, Value.int IntKind.i64 B.t.x.a, Value.int IntKind.i64 B.t.x.b, Value.string B.t.t, Value.string B.t.e] 91)) := hB.alloc hw _
      obtain ⟨W1, hW1⟩ : ∃ W1, W1 = (wr.alloc (Obj.cells #[Value.string B.n, Value.slice lp B.l.length lcap, Value.int IntKind.i64 B.t.k, Value.string B.t.x.v, Value.int IntKind.i64 B.t.x.a, Value.int IntKind.i64 B.t.x.b, Value.string B.t.t, Value.string B.t.e] 91)) := ⟨_, rfl⟩
      rw [← hW1]
      have d3 := heap_alloc_new wr (Obj.cells #[Value.string B.n, Value.slice lp B.l.length lcap, Value.int IntKind.i64 B.t.k, Value.string B.t.x.v, Value.int IntKind.i64 B.t.x.a, Value.int IntKind.i64 B.t.x.b, Value.string B.t.t, Value.string B.t.e] 91)
      rw [← hW1] at hB1 d3
      have hX1 : Box w.heap.size (w.heap.size + 1) T0 W1 v0 := hX.below (by rw [hW1]; exact (Below.refl _ _).alloc (Nat.le_refl _) _)
      have hw1 := hB1.size
      clear hW1 c0 c1 c2 c3 c4 c5 c6 c7 hXv
      have hsr := stVars_rise (l := B.l) hr0
      have hsn := stVars_len B.l T0
      go_loopw [20] (fun i wr => ∃ (j : Nat) (v : Value), j ≤ B.l.length ∧ i = .int .i64 j ∧ Box w.heap.size (w.heap.size + 1) (stVars B.l T0 j) wr v ∧ Keep w.heap.size W1 wr) (fun i _ => B.l.length - (intOf i).toNat)
      case atStart => exact ⟨0, _, Nat.zero_le _, rfl, hX1, Keep.refl _ _⟩
      case round =>
        obtain ⟨j, vj, hj, rfl, hXj, hKj⟩ := hrel
        have hBj := hB1.trans (hKj.below hw1)
        have hwj := hBj.size
        by_cases hjt : j < B.l.length
        · obtain rfl := hlp (by omega)
          have hjt2 : (j : Int) < B.l.length := by omega
          have hz : stVars B.l T0 (j + 1) = putS (putS (putS (stVars B.l T0 j) (B.l[j]'hjt).v) (B.l[j]'hjt).e.x.v) (B.l[j]'hjt).e.y.v := by simp only [stVars, List.getElem?_eq_getElem hjt]
          have hH2 : Hid (stVars B.l T0 (j + 1) = putS (putS (putS (stVars B.l T0 j) (B.l[j]'hjt).v) (B.l[j]'hjt).e.x.v) (B.l[j]'hjt).e.y.v) := hz
          have hlcj := hlc j hjt
          have hrj := hsr j
          have hlj := hsn j
          clear hz
          generalize (B.l[j]'hjt) = s at hlcj hH2
          generalize stVars B.l T0 j = T1 at hXj hH2 hrj hlj
          have hcj : ∀ r u, s.cs[r]? = some u → wr.cell? ⟨lb, loff + j * 9 + r, none⟩ = some u := fun r u hu => by
            rw [Nat.add_assoc]
            exact (hBj.cell (p := ⟨lb, loff + (j * 9 + r), none⟩) (World.block_lt_of_cell? _ _ (hlcj r u hu))).trans (hlcj r u hu)
          have e0 : wr.cell? ⟨lb, loff + j * 9, none⟩ = some (.int .i64 s.k) := hcj 0 _ rfl
          have hbq := World.block_lt_of_cell? _ _ e0
          have e1 := hcj 1 _ rfl
          have e2 := hcj 2 _ rfl
          have e3 := hcj 3 _ rfl
          have e4 := hcj 4 _ rfl
          have e5 := hcj 5 _ rfl
          have e6 := hcj 6 _ rfl
          have e7 := hcj 7 _ rfl
          have e8 := hcj 8 _ rfl
          have hXlj := lt_of_block hXj.var
          clear hcj hlcj hlc hsr hsn
          go_wp2_with (go_at_call 81; refine (putb_any T1 [s.v, s.e.x.v, s.e.y.v] hrj (by simp; omega) w.heap.size (w.heap.size + 1) vj _ (hXj.below ((Below.refl _ _).alloc (Nat.le_refl _) _)) (by omega) 3 rfl _ (by simp) _ rfl).mono ?_; rintro e q1 ⟨v1, rfl, hv1, hq1⟩)
          go_roundw
          case rel => exact ⟨j + 1, v1, by omega, by simp, by rw [hH2]; exact hv1, hKj.trans ((Keep.of_below (((Below.refl _ _).alloc (Nat.le_refl _) _).alloc (by simp) _)).trans hq1)⟩
          case measure => simp [intOf]; omega
        · have hks : j = B.l.length := by omega
          have hjt2 : ¬ (j : Int) < B.l.length := by omega
          subst hks
          have hrj := hsr B.l.length
          have hlj := hsn B.l.length
          have g3 := hKj.cell d3 (by decide) (by decide)
          have g3' := (cell_of_row wr _ 3 _ _ (0, 0) g3).trans (rfl : _ = some (Value.string B.t.x.v))
          have hgb := World.block_lt_of_cell? _ _ g3'
          have hXlj := lt_of_block hXj.var
          clear hlc hsr hsn g3
          generalize stVars B.l T0 B.l.length = T1 at hXj hH hrj hlj
          go_wp2_with (go_at_call 81; refine (putb_any T1 [B.t.x.v] hrj (by simp; omega) w.heap.size (w.heap.size + 1) vj wr hXj (by omega) 1 rfl _ rfl _ rfl).mono ?_; rintro e q1 ⟨v1, rfl, hv1, hq1⟩)
          go_roundw
          case rel => exact ⟨k + 1, v1, by omega, by simp, by rw [hH]; exact hv1, hBj.trans (((Keep.of_below ((Below.refl _ _).alloc (Nat.le_refl _) _)).trans hq1).below hwj)⟩
          case measure => simp [intOf]; omega
    · have hks : k = P.length := by omega
      subst hks
      have hlt2 : ¬ (P.length : Int) < P.length := by omega
      clear hc
      go_wp2_with fail
      refine bodyPost_ret (v := v0) (by simp only [results, Try.results42]; go_simp) rfl ⟨_, rfl, Sl.of_own hX.own, hB⟩

theorem vars_any (P : List Bl) (pv : Value) (w : World) (h : Pg w pv P) (h12 : P.length ≤ 12) (hl12 : ∀ b ∈ P, b.l.length ≤ 12) :
    Calls Try.prog 42 #[.agg #[pv]] w fun e w' => ∃ o, e = .returned o ∧ Sl w' o encS (vars P) ∧ Below w.heap.size w w' :=
  vars_wide P pv w h (by omega) (fun b hb => by have := hl12 b hb; omega) (fun k hk => by have := blVars_len hl12 k; omega)

end Go.Proofs.Ytjjmoibnmdbpeaa.Pr
