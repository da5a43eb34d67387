/- WALK of proper.Vars' closure. WALK of proper.Vars' closure: texts put into a row that the caller owns. WALK of proper.Vars. -/
import Derived.Test.YtmnplnhblniimaaMH
import Derived.Test.YtmnplnhblniimaaLays
import Derived.LoopTactic

namespace Go.Proofs.Ytmnplnhblniimaa.Pr
set_option linter.unusedVariables false
set_option linter.unusedSimpArgs false
open Go Go.RowKit

/-- What a call leaves alone that writes rows of texts of its own alone. -/
structure Keep (base : Nat) (w w' : World) : Prop where
  os : w'.os = w.os
  tape : w'.tape = w.tape
  output : w'.output = w.output
  size : w.heap.size ≤ w'.heap.size
  block : ∀ k, k < w.heap.size → (k < base ∨ ∃ cs t f, w.heap[k]? = some (.cells cs t f) ∧ t ≠ 9 ∧ t ≠ 65) → w'.heap[k]? = w.heap[k]?

theorem Keep.refl (base : Nat) (w : World) : Keep base w w := ⟨rfl, rfl, rfl, Nat.le_refl _, fun _ _ _ => rfl⟩
theorem Keep.trans {base : Nat} {a b c : World} (h : Keep base a b) (k : Keep base b c) : Keep base a c :=
  ⟨k.os.trans h.os, k.tape.trans h.tape, k.output.trans h.output, Nat.le_trans h.size k.size, fun j hj hc => (k.block j (Nat.lt_of_lt_of_le hj h.size) (by
    rcases hc with hc | ⟨cs, t, f, h1, h2⟩
    · exact .inl hc
    · exact .inr ⟨cs, t, f, (h.block j hj (.inr ⟨cs, t, f, h1, h2⟩)).trans h1, h2⟩)).trans (h.block j hj hc)⟩
theorem Keep.below {base : Nat} {w w' : World} (h : Keep base w w') (hb : base ≤ w.heap.size) : Below base w w' :=
  ⟨h.os, h.tape, h.output, h.size, fun k hk => h.block k (by omega) (.inl hk)⟩
theorem Keep.of_below {base : Nat} {w w' : World} (h : Below w.heap.size w w') : Keep base w w' :=
  ⟨h.os, h.tape, h.output, h.size, fun k hk _ => h.block k hk⟩
theorem Keep.grown {base : Nat} {w w' : World} {v : Value} {n : Nat} {xs : List Value} (h : w.grownBy w' v.ownBlock) (hown : w.ownsRow base 9 1 v n xs) : Keep base w w' :=
  ⟨h.os, h.tape, h.output, h.size, fun k hk hc => h.block k hk fun he => by
    rcases hown.2 with ⟨rfl, _⟩ | ⟨g, cap, cur, rfl, hbg, hg, _⟩
    · cases he
    · cases he
      rcases hc with hc | ⟨cs, t, f, h1, h2, h3⟩
      · have hc' : g < base := hc
        omega
      · rw [hg] at h1; cases h1; exact h2 rfl⟩
theorem Keep.stored {base B : Nat} {w : World} {v u : Value} (hB : w.heap[B]? = some (.cells #[v] 65 (0, 0))) (hb : base ≤ B) : Keep base w (w.setCell ⟨B, 0, none⟩ u) :=
  ⟨rfl, rfl, rfl, by simp [World.setCell], fun k hk hc => Below.heap_setCell _ _ _ _ fun he => by
    have he' : B = k := he.symm
    subst he'
    rcases hc with hc | ⟨cs, t, f, h1, h2, h3⟩
    · omega
    · rw [hB] at h1; cases h1; exact h3 rfl⟩
theorem own_not {w : World} {base B : Nat} {v u : Value} {n : Nat} {xs : List Value} (hown : w.ownsRow base 9 1 v n xs) (hB : w.heap[B]? = some (.cells #[u] 65 (0, 0))) : v.ownBlock ≠ some B := by
  intro he
  rcases hown.2 with ⟨rfl, _⟩ | ⟨g, cap, cur, rfl, hbg, hg, _⟩
  · cases he
  · cases he
    rw [hg] at hB
    cases hB

theorem bin_any (T : List ByteArray) (hr : Rise T) (hl : T.length ≤ 100000) (x : ByteArray) (v : Value) (w : World) (h : Sl w v encS T) :
    Calls Try.prog 69 #[v, .string x] w fun e w' => e = .returned (.tuple #[.int .i64 (posS T x), .bool (decide (T[posS T x]? = some x))]) ∧ ∃ q, w' = w.drewN q := by
  obtain ⟨b, off, p, cap, rfl, hp, hc⟩ := Sl.strs h
  by_cases h0 : T.length = 0
  · have hT : T = [] := List.eq_nil_of_length_eq_zero h0
    subst hT
    exact (Any2.slices_BinarySearch_string_empty Try.laysBin p cap x w).mono fun e w' ⟨he, hw⟩ => ⟨by rw [he]; simp [posS], 0, hw⟩
  · obtain rfl := hp (by omega)
    refine (Any2.slices_BinarySearch_string Try.laysBin b off T.length cap (fun t => (T[t]?).getD x) x w (by omega) (fun j hj => by rw [hc j hj]; simp [List.getElem?_eq_getElem hj])).mono fun e w' ⟨he, hw⟩ => ⟨?_, hw⟩
    rw [he, bs_pos hr x]
    have hle := posS_le T x
    congr 4
    by_cases hlt : posS T x < T.length
    · simp [List.getElem?_eq_getElem hlt, hlt]
    · simp [List.getElem?_eq_none (by omega : T.length ≤ posS T x), hlt]

theorem ins_any (T T2 : List ByteArray) (x : ByteArray) (h2 : T2 = T.take (posS T x) ++ x :: T.drop (posS T x)) (hl : T.length ≤ 100000) (base : Nat) (v : Value) (vb : Nat) (w : World) (hown : w.ownsRow base 9 1 v T.length (T.flatMap encS)) (hvb : v.ownBlock ≠ some vb)
    (hv : w.heap[vb]? = some (.cells #[.string x] 9 (0, 0))) (hb : base ≤ w.heap.size) :
    Calls Try.prog 70 #[v, .int .i64 (posS T x), .slice (some ⟨vb, 0, none⟩) 1 1] w fun e w' => ∃ v', e = .returned v' ∧ w'.ownsRow base 9 1 v' T2.length (T2.flatMap encS) ∧ w.grownBy w' v.ownBlock ∧ (v'.ownBlock = v.ownBlock ∨ v'.ownBlock = some w.heap.size) := by
  have hfm : ∀ L : List ByteArray, L.flatMap encS = L.map Value.string := fun L => by
    induction L with
    | nil => rfl
    | cons a L ih => rw [List.flatMap_cons, ih]; rfl
  have hle := posS_le T x
  refine (insert_own Try.laysIns base T.length (posS T x) v (T.flatMap encS) x vb 9 w hown (fun u hu => by
    rw [hfm] at hu; obtain ⟨a, _, rfl⟩ := List.mem_map.1 hu; rfl) hle hvb hv hb (by omega)).mono ?_
  rintro e w' ⟨v', he, ho, hg⟩
  refine ⟨v', he, ?_, hg⟩
  have e1 : (T.take (posS T x) ++ x :: T.drop (posS T x)).length = T.length + 1 := by simp; omega
  have e2 : (T.take (posS T x) ++ x :: T.drop (posS T x)).flatMap encS = (T.flatMap encS).take (posS T x) ++ .string x :: (T.flatMap encS).drop (posS T x) := by
    rw [hfm, hfm, List.map_append, List.map_cons, List.map_take, List.map_drop]
  rw [h2, e1, e2]
  exact ho

end Go.Proofs.Ytmnplnhblniimaa.Pr

namespace Go.Proofs.Ytmnplnhblniimaa.Pr
set_option linter.unusedVariables false
set_option linter.unusedSimpArgs false
open Go Go.RowKit

/-- Where the closure stands: its variable's block, the row in it, and the texts that are handed to it. -/
structure Var (base B sb : Nat) (S : Array Value) (T : List ByteArray) (w : World) (v : Value) : Prop where
  var : w.heap[B]? = some (.cells #[v] 65 (0, 0))
  own : w.ownsRow base 9 1 v T.length (T.flatMap encS)
  src : w.heap[sb]? = some (.cells S 9 (0, 0))
  ne : v.ownBlock ≠ some sb

theorem Var.drewN {base B sb q : Nat} {S : Array Value} {T : List ByteArray} {w : World} {v : Value} (h : Var base B sb S T w v) : Var base B sb S T (w.drewN q) v := ⟨h.var, h.own, h.src, h.ne⟩

theorem Var.put {base B sb : Nat} {S : Array Value} {T T' : List ByteArray} {w w1 : World} {v v' : Value} {O : Obj} (h : Var base B sb S T w v) (hb : base ≤ B)
    (ho : w1.ownsRow base 9 1 v' T'.length (T'.flatMap encS)) (hg : (w.alloc O).grownBy w1 v.ownBlock) (hv : v'.ownBlock = v.ownBlock ∨ v'.ownBlock = some (w.alloc O).heap.size) :
    Var base B sb S T' (w1.setCell ⟨B, 0, none⟩ v') v' ∧ Keep base w (w1.setCell ⟨B, 0, none⟩ v') ∧ w1.cell? ⟨B, 0, none⟩ = some v ∧ w1.frozen? ⟨B, 0, none⟩ = false ∧ B < w1.heap.size := by
  have hBl := lt_of_block h.var
  have hsl := lt_of_block h.src
  have hnB := own_not h.own h.var
  have hsz : (w.alloc O).heap.size = w.heap.size + 1 := by simp
  have hB1 : w1.heap[B]? = some (.cells #[v] 65 (0, 0)) := by
    rw [hg.block B (by omega) (fun he => hnB he.symm), heap_alloc_old w O hBl]
    exact h.var
  have hs1 : w1.heap[sb]? = some (.cells S 9 (0, 0)) := by
    rw [hg.block sb (by omega) (fun he => h.ne he.symm), heap_alloc_old w O hsl]
    exact h.src
  have hnB1 := own_not ho hB1
  have hsB : sb ≠ B := fun he => by
    subst he
    rw [hs1] at hB1
    cases hB1
  have hK : Keep base w w1 := (Keep.of_below (base := base) ((Below.refl w.heap.size w).alloc (Nat.le_refl _) O)).trans (Keep.grown hg (h.own.alloc O))
  refine ⟨⟨one_setCell hB1, ownsRow_setCell_other ho hnB1 _, ?_, ?_⟩, hK.trans (Keep.stored hB1 hb), cell_of_one hB1, free_of_one hB1, lt_of_block hB1⟩
  · rw [Below.heap_setCell _ _ _ _ hsB]
    exact hs1
  · rcases hv with hv | hv
    · rw [hv]; exact h.ne
    · rw [hv]; intro he; cases he; omega

set_option maxRecDepth 100000 in
set_option maxHeartbeats 1000000 in
theorem putc_any (T S : List ByteArray) (hr : Rise T) (hl : T.length + S.length ≤ 50000) (base B sb : Nat) (v : Value) (w : World) (hV : Var base B sb (S.map Value.string).toArray T w v) (hb : base ≤ B) :
    Calls Try.prog 68 #[.slice (some ⟨sb, 0, none⟩) S.length S.length, .pointer (some ⟨B, 0, none⟩)] w fun e w' => ∃ v', e = .returned (.tuple #[]) ∧ Var base B sb (S.map Value.string).toArray (S.foldl putS T) w' v' ∧ Keep base w w' := by
  go_enter Try.func68, Try.ntmps68
  go_wp2_with fail
  go_loopw [9] (fun i wr => ∃ (k : Nat) (v' : Value), k ≤ S.length ∧ i = .int .i64 k ∧ Var base B sb (S.map Value.string).toArray ((S.take k).foldl putS T) wr v' ∧ Keep base w wr ∧ Rise ((S.take k).foldl putS T) ∧ ((S.take k).foldl putS T).length ≤ T.length + k) (fun i _ => S.length - (intOf i).toNat)
  case atStart => exact ⟨0, v, Nat.zero_le _, rfl, hV, Keep.refl _ _, hr, Nat.le_refl _⟩
  case round =>
    obtain ⟨k, v1, hk, rfl, hV1, hK, hr1, hl1⟩ := hrel
    by_cases hlt : k < S.length
    · have hlt2 : (k : Int) < S.length := by omega
      have hz : Hid ((S.take (k + 1)).foldl putS T = putS ((S.take k).foldl putS T) (S[k]'hlt)) := by
        show _ = _
        rw [List.take_succ_eq_append_getElem hlt, List.foldl_append]; rfl
      have c0 : wr.cell? ⟨sb, k, none⟩ = some (.string (S[k]'hlt)) := by
        rw [cell_of_row wr sb k _ 9 (0, 0) hV1.src]; simp [hlt]
      have cB := cell_of_one hV1.var
      have hgb := World.block_lt_of_cell? _ _ c0
      have hgB := lt_of_block hV1.var
      generalize S[k]'hlt = x at hz c0
      generalize (S.take k).foldl putS T = T1 at hz hV1 hr1 hl1
      have hbin := bin_any T1 hr1 (by omega) x v1
      have hSl : Sl wr v1 encS T1 := Sl.of_own hV1.own
      cases he : (x.toList == [])
      · have hx0 : x.size ≠ 0 := fun h0 => by have := (emptyB_iff x).2 h0; unfold emptyB at this; rw [he] at this; cases this
        cases hd : decide (T1[posS T1 x]? = some x)
        · have hne : (x.toList != []) = true := by rw [bne, he]; rfl
          have hput : Hid (putS T1 x = T1.take (posS T1 x) ++ x :: T1.drop (posS T1 x)) := by
            show _ = _
            unfold putS
            rw [if_neg hx0, if_neg (of_decide_eq_false hd)]
          have hrise := putS_rise hr1 x
          have hlen := putS_len T1 x
          rw [hd] at hbin
          generalize putS T1 x = T2 at hz hput hrise hlen
          go_wp2_with (first | (go_at_call 69; refine (hbin _ hSl).mono ?_; rintro e w2 ⟨rfl, q, rfl⟩) | (go_at_call 70; refine (ins_any T1 T2 x hput (by omega) base v1 (wr.drewN q).heap.size _ (hV1.drewN.own.alloc _) (fun hh => by have := (hV1.own.lt _ hh).2; simp at this) (heap_alloc_new (wr.drewN q) _) (by have := hV1.own; simp; omega)).mono ?_; rintro e w3 ⟨v2, rfl, ho2, hg2, hn2⟩; obtain ⟨p2, c2, rfl⟩ := own_len ho2; have hA := Var.put hV1.drewN hb ho2 hg2 hn2; have cB2 := hA.2.2.1; have fB2 := hA.2.2.2.1; have hB2 := hA.2.2.2.2))
          go_roundw
          case rel => exact ⟨k + 1, _, by omega, by simp, by rw [hz]; exact hA.1, hK.trans ((show Keep base wr (wr.drewN q) from ⟨rfl, rfl, rfl, Nat.le_refl _, fun _ _ _ => rfl⟩).trans hA.2.1), by rw [hz]; exact hrise, by rw [hz]; omega⟩
          case measure => simp [intOf]; omega
        · have hput : Hid (putS T1 x = T1) := by
            show _ = _
            unfold putS
            rw [if_neg hx0, if_pos (of_decide_eq_true hd)]
          rw [hd] at hbin
          go_wp2_with (go_at_call 69; refine (hbin _ hSl).mono ?_; rintro e w2 ⟨rfl, q, rfl⟩)
          go_roundw
          case rel => exact ⟨k + 1, _, by omega, by simp, by rw [hz, hput]; exact hV1.drewN, hK.trans ⟨rfl, rfl, rfl, Nat.le_refl _, fun _ _ _ => rfl⟩, by rw [hz, hput]; exact hr1, by rw [hz, hput]; omega⟩
          case measure => simp [intOf]; omega
      · have hput : Hid (putS T1 x = T1) := by
          show _ = _
          unfold putS
          rw [if_pos ((emptyB_iff x).1 he)]
        have hne : (x.toList != []) = false := by rw [bne, he]; rfl
        generalize decide (T1[posS T1 x]? = some x) = d at hbin
        go_wp2_with (go_at_call 69; refine (hbin _ hSl).mono ?_; rintro e w2 ⟨rfl, q, rfl⟩)
        all_goals (
          go_roundw
          case rel => exact ⟨k + 1, _, by omega, by simp, by rw [hz, hput]; exact hV1.drewN, hK.trans ⟨rfl, rfl, rfl, Nat.le_refl _, fun _ _ _ => rfl⟩, by rw [hz, hput]; exact hr1, by rw [hz, hput]; omega⟩
          case measure => simp [intOf]; omega)
    · have hks : k = S.length := by omega
      have hlt2 : ¬ (k : Int) < S.length := by omega
      subst hks
      rw [List.take_length] at hV1
      go_wp2_with fail
      go_end0
      exact ⟨rfl, ⟨_, hV1⟩, hK⟩

end Go.Proofs.Ytmnplnhblniimaa.Pr

namespace Go.Proofs.Ytmnplnhblniimaa.Pr
set_option linter.unusedVariables false
set_option linter.unusedSimpArgs false
open Go Go.RowKit

/-- The variable's block and the row in it. -/
structure Box (base B : Nat) (T : List ByteArray) (w : World) (v : Value) : Prop where
  var : w.heap[B]? = some (.cells #[v] 65 (0, 0))
  own : w.ownsRow base 9 1 v T.length (T.flatMap encS)

theorem Box.below {base B : Nat} {T : List ByteArray} {w w' : World} {v : Value} (h : Box base B T w v) (hB : Below w.heap.size w w') : Box base B T w' v :=
  ⟨(hB.block B (lt_of_block h.var)).trans h.var, own_below h.own hB⟩

/-- The closure, at texts in a block that has just been made. -/
theorem putb_any (T S : List ByteArray) (hr : Rise T) (hl : T.length + S.length ≤ 50000) (base B : Nat) (v : Value) (w : World) (hV : Box base B T w v) (hb : base ≤ B) (n : Nat) (hn : n = S.length) (sb : Nat) (hsb : sb = w.heap.size) (C : Array Value) (hC : C = (S.map Value.string).toArray) :
    Calls Try.prog 68 #[.slice (some ⟨sb, 0, none⟩) n n, .pointer (some ⟨B, 0, none⟩)] (w.alloc (.cells C 9)) fun e w' => ∃ v', e = .returned (.tuple #[]) ∧ Box base B (S.foldl putS T) w' v' ∧ Keep base (w.alloc (.cells C 9)) w' := by
  subst hn hsb hC
  have hlt := lt_of_block hV.var
  refine (putc_any T S hr hl base B w.heap.size v _ ⟨by rw [heap_alloc_old w _ hlt]; exact hV.var, hV.own.alloc _, heap_alloc_new w _, fun he => ?_⟩ hb).mono fun e w' ⟨v', he, h1, h2⟩ => ⟨v', he, ⟨h1.var, h1.own⟩, h2⟩
  have := (hV.own.lt _ he).2
  omega

theorem Keep.cell {base : Nat} {w w' : World} (h : Keep base w w') {k : Nat} {cs : Array Value} {t : TypeId} (hc : w.heap[k]? = some (.cells cs t (0, 0))) (h1 : t ≠ 9) (h2 : t ≠ 65) : w'.heap[k]? = some (.cells cs t (0, 0)) :=
  (h.block k (lt_of_block hc) (.inr ⟨cs, t, (0, 0), hc, h1, h2⟩)).trans hc

set_option maxRecDepth 100000 in
set_option maxHeartbeats 1000000 in
theorem vars_wide (P : List Bl) (pv : Value) (w : World) (h : Pg w pv P) (h12 : P.length ≤ 128) (hl12 : ∀ b ∈ P, b.l.length ≤ 512) (hln : ∀ k, k ≤ P.length → (blVars P k).length ≤ 20000) :
    Calls Try.prog 36 #[.agg #[pv]] w fun e w' => ∃ o, e = .returned o ∧ Sl w' o encS (vars P) ∧ Below w.heap.size w w' := by
  obtain ⟨b, off, p, cap, rfl, hp, hc⟩ := Pg.open h
  have hrs := blVars_rise P
  have hmf : ∀ (fn : Fn) (first cap : Array Value) (w : World), (Instr.makeFunc fn first cap).run Try.prog w = .ok (.func fn first cap) w := fun _ _ _ _ => rfl
  go_enter Try.func36, Try.ntmps36
  go_wp2_with fail
  go_loopw [13] (fun i wr => ∃ (k : Nat) (v : Value), k ≤ P.length ∧ i = .int .i64 k ∧ Box w.heap.size (w.heap.size + 1) (blVars P k) wr v ∧ Below w.heap.size w wr) (fun i _ => P.length - (intOf i).toNat)
  case atStart =>
    exact ⟨0, .slice none 0 0, Nat.zero_le _, rfl, ⟨by rw [show w.heap.size + 1 = (w.alloc (Obj.cells #[Value.slice p P.length cap] 25)).heap.size by simp]; exact heap_alloc_new _ _, World.ownsRow_nil _ _ _ _⟩, ((Below.refl _ _).alloc (Nat.le_refl _) _).alloc (by simp) _⟩
  case round =>
    obtain ⟨k, v0, hk, rfl, hX, hB⟩ := hrel
    have hw := hB.size
    have hXv := cell_of_one hX.var
    have hXl := lt_of_block hX.var
    by_cases hlt : k < P.length
    · obtain rfl := hp (by omega)
      have hlt2 : (k : Int) < P.length := by omega
      have hcw : ∀ r u, ((P[k]'hlt).cs)[r]? = some u → w.cell? ⟨b, off + (k * 8 + r), none⟩ = some u := (hc k hlt).1
      have hsl := (hc k hlt).2
      have hlen := hl12 _ (List.getElem_mem hlt)
      have hz : blVars P (k + 1) = putS (stVars (P[k]'hlt).l (blVars P k) (P[k]'hlt).l.length) (P[k]'hlt).t.x.v := by simp only [blVars, List.getElem?_eq_getElem hlt]
      have hH : Hid (blVars P (k + 1) = putS (stVars (P[k]'hlt).l (blVars P k) (P[k]'hlt).l.length) (P[k]'hlt).t.x.v) := hz
      have hr0 := hrs k
      have hl0 := hln k hk
      clear hz hc hrs hln
      generalize P[k]'hlt = B at hcw hsl hlen hH
      generalize blVars P k = T0 at hX hH hr0 hl0
      have hcr : ∀ r u, B.cs[r]? = some u → wr.cell? ⟨b, off + k * 8 + r, none⟩ = some u := fun r u hu => by
        rw [Nat.add_assoc]
        exact (hB.cell (p := ⟨b, off + (k * 8 + r), none⟩) (World.block_lt_of_cell? _ _ (hcw r u hu))).trans (hcw r u hu)
      obtain ⟨lb, loff, lp, lcap, hlv, hlp, hlc⟩ := hsl.open St.cs_len
      have c0 : wr.cell? ⟨b, off + k * 8, none⟩ = some (.string B.n) := hcr 0 _ rfl
      have hbw := World.block_lt_of_cell? _ _ c0
      have c1 := hcr 1 _ rfl
      have c2 := hcr 2 _ rfl
      have c3 := hcr 3 _ rfl
      have c4 := hcr 4 _ rfl
      have c5 := hcr 5 _ rfl
      have c6 := hcr 6 _ rfl
      have c7 := hcr 7 _ rfl
      clear hcr hcw
      rw [hlv] at c1
      go_wp2_with fail
      have hB1 : Below w.heap.size w (wr.alloc (Obj.cells #[Value.string B.n, Value.slice lp B.l.length lcap, Value.int IntKind.i64 B.t.k, Value.string B.t.x.v, Value.int IntKind.i64 B.t.x.a, Value.int IntKind.i64 B.t.x.b, Value.string B.t.t, Value.string B.t.e] 61)) := hB.alloc hw _
      obtain ⟨W1, hW1⟩ : ∃ W1, W1 = (wr.alloc (Obj.cells #[Value.string B.n, Value.slice lp B.l.length lcap, Value.int IntKind.i64 B.t.k, Value.string B.t.x.v, Value.int IntKind.i64 B.t.x.a, Value.int IntKind.i64 B.t.x.b, Value.string B.t.t, Value.string B.t.e] 61)) := ⟨_, rfl⟩
      rw [← hW1]
      have d3 := heap_alloc_new wr (Obj.cells #[Value.string B.n, Value.slice lp B.l.length lcap, Value.int IntKind.i64 B.t.k, Value.string B.t.x.v, Value.int IntKind.i64 B.t.x.a, Value.int IntKind.i64 B.t.x.b, Value.string B.t.t, Value.string B.t.e] 61)
      rw [← hW1] at hB1 d3
      have hX1 : Box w.heap.size (w.heap.size + 1) T0 W1 v0 := hX.below (by rw [hW1]; exact (Below.refl _ _).alloc (Nat.le_refl _) _)
      have hw1 := hB1.size
      clear hW1 c0 c1 c2 c3 c4 c5 c6 c7 hXv
      have hsr := stVars_rise (l := B.l) hr0
      have hsn := stVars_len B.l T0
      go_loopw [20] (fun i wr => ∃ (j : Nat) (v : Value), j ≤ B.l.length ∧ i = .int .i64 j ∧ Box w.heap.size (w.heap.size + 1) (stVars B.l T0 j) wr v ∧ Keep w.heap.size W1 wr) (fun i _ => B.l.length - (intOf i).toNat)
      case atStart => exact ⟨0, _, Nat.zero_le _, rfl, hX1, Keep.refl _ _⟩
      case round =>
        obtain ⟨j, vj, hj, rfl, hXj, hKj⟩ := hrel
        have hBj := hB1.trans (hKj.below hw1)
        have hwj := hBj.size
        by_cases hjt : j < B.l.length
        · obtain rfl := hlp (by omega)
          have hjt2 : (j : Int) < B.l.length := by omega
          have hz : stVars B.l T0 (j + 1) = putS (putS (putS (stVars B.l T0 j) (B.l[j]'hjt).v) (B.l[j]'hjt).e.x.v) (B.l[j]'hjt).e.y.v := by simp only [stVars, List.getElem?_eq_getElem hjt]
          have hH2 : Hid (stVars B.l T0 (j + 1) = putS (putS (putS (stVars B.l T0 j) (B.l[j]'hjt).v) (B.l[j]'hjt).e.x.v) (B.l[j]'hjt).e.y.v) := hz
          have hlcj := hlc j hjt
          have hrj := hsr j
          have hlj := hsn j
          clear hz
          generalize (B.l[j]'hjt) = s at hlcj hH2
          generalize stVars B.l T0 j = T1 at hXj hH2 hrj hlj
          have hcj : ∀ r u, s.cs[r]? = some u → wr.cell? ⟨lb, loff + j * 9 + r, none⟩ = some u := fun r u hu => by
            rw [Nat.add_assoc]
            exact (hBj.cell (p := ⟨lb, loff + (j * 9 + r), none⟩) (World.block_lt_of_cell? _ _ (hlcj r u hu))).trans (hlcj r u hu)
          have e0 : wr.cell? ⟨lb, loff + j * 9, none⟩ = some (.int .i64 s.k) := hcj 0 _ rfl
          have hbq := World.block_lt_of_cell? _ _ e0
          have e1 := hcj 1 _ rfl
          have e2 := hcj 2 _ rfl
          have e3 := hcj 3 _ rfl
          have e4 := hcj 4 _ rfl
          have e5 := hcj 5 _ rfl
          have e6 := hcj 6 _ rfl
          have e7 := hcj 7 _ rfl
          have e8 := hcj 8 _ rfl
          have hXlj := lt_of_block hXj.var
          clear hcj hlcj hlc hsr hsn
          go_wp2_with (go_at_call 68; refine (putb_any T1 [s.v, s.e.x.v, s.e.y.v] hrj (by simp; omega) w.heap.size (w.heap.size + 1) vj _ (hXj.below ((Below.refl _ _).alloc (Nat.le_refl _) _)) (by omega) 3 rfl _ (by simp) _ rfl).mono ?_; rintro e q1 ⟨v1, rfl, hv1, hq1⟩)
          go_roundw
          case rel => exact ⟨j + 1, v1, by omega, by simp, by rw [hH2]; exact hv1, hKj.trans ((Keep.of_below (((Below.refl _ _).alloc (Nat.le_refl _) _).alloc (by simp) _)).trans hq1)⟩
          case measure => simp [intOf]; omega
        · have hks : j = B.l.length := by omega
          have hjt2 : ¬ (j : Int) < B.l.length := by omega
          subst hks
          have hrj := hsr B.l.length
          have hlj := hsn B.l.length
          have g3 := hKj.cell d3 (by decide) (by decide)
          have g3' := (cell_of_row wr _ 3 _ _ (0, 0) g3).trans (rfl : _ = some (Value.string B.t.x.v))
          have hgb := World.block_lt_of_cell? _ _ g3'
          have hXlj := lt_of_block hXj.var
          clear hlc hsr hsn g3
          generalize stVars B.l T0 B.l.length = T1 at hXj hH hrj hlj
          go_wp2_with (go_at_call 68; refine (putb_any T1 [B.t.x.v] hrj (by simp; omega) w.heap.size (w.heap.size + 1) vj wr hXj (by omega) 1 rfl _ rfl _ rfl).mono ?_; rintro e q1 ⟨v1, rfl, hv1, hq1⟩)
          go_roundw
          case rel => exact ⟨k + 1, v1, by omega, by simp, by rw [hH]; exact hv1, hBj.trans (((Keep.of_below ((Below.refl _ _).alloc (Nat.le_refl _) _)).trans hq1).below hwj)⟩
          case measure => simp [intOf]; omega
    · have hks : k = P.length := by omega
      subst hks
      have hlt2 : ¬ (P.length : Int) < P.length := by omega
      clear hc
      go_wp2_with fail
      refine bodyPost_ret (v := v0) (by simp only [results, Try.results36]; go_simp) rfl ⟨_, rfl, Sl.of_own hX.own, hB⟩

theorem vars_any (P : List Bl) (pv : Value) (w : World) (h : Pg w pv P) (h12 : P.length ≤ 12) (hl12 : ∀ b ∈ P, b.l.length ≤ 12) :
    Calls Try.prog 36 #[.agg #[pv]] w fun e w' => ∃ o, e = .returned o ∧ Sl w' o encS (vars P) ∧ Below w.heap.size w w' :=
  vars_wide P pv w h (by omega) (fun b hb => by have := hl12 b hb; omega) (fun k hk => by have := blVars_len hl12 k; omega)

end Go.Proofs.Ytmnplnhblniimaa.Pr
