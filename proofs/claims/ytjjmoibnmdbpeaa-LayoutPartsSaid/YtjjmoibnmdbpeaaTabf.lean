/- WALK of proper.Vars' closure: texts put into a row that the caller owns. -/
import Derived.Test.YtjjmoibnmdbpeaaTabe
import Derived.LoopTactic
namespace Go.Proofs.Ytjjmoibnmdbpeaa.Pr
set_option linter.unusedVariables false
set_option linter.unusedSimpArgs false
open Go Go.RowKit

/-- Where the closure stands: its variable's block, the row in it, and the texts that are handed to it. -/
structure Var (base B sb : Nat) (S : Array Value) (T : List ByteArray) (w : World) (v : Value) : Prop where
  var : w.heap[B]? = some (.cells #[v] 92 (0, 0))
  own : w.ownsRow base 9 1 v T.length (T.flatMap encS)
  src : w.heap[sb]? = some (.cells S 9 (0, 0))
  ne : v.ownBlock ≠ some sb

theorem Var.drewN {base B sb q : Nat} {S : Array Value} {T : List ByteArray} {w : World} {v : Value} (h : Var base B sb S T w v) : Var base B sb S T (w.drewN q) v := ⟨h.var, h.own, h.src, h.ne⟩

theorem Var.put {base B sb : Nat} {S : Array Value} {T T' : List ByteArray} {w w1 : World} {v v' : Value} {O : Obj} (h : Var base B sb S T w v) (hb : base ≤ B)
    (ho : w1.ownsRow base 9 1 v' T'.length (T'.flatMap encS)) (hg : (w.alloc O).grownBy w1 v.ownBlock) (hv : v'.ownBlock = v.ownBlock ∨ v'.ownBlock = some (w.alloc O).heap.size) :
    Var base B sb S T' (w1.setCell ⟨B, 0, none⟩ v') v' ∧ Keep base w (w1.setCell ⟨B, 0, none⟩ v') ∧ w1.cell? ⟨B, 0, none⟩ = some v ∧ w1.frozen? ⟨B, 0, none⟩ = false ∧ B < w1.heap.size := by
  have hBl := lt_of_block h.var
  have hsl := lt_of_block h.src
  have hnB := own_not h.own h.var
  have hsz : (w.alloc O).heap.size = w.heap.size + 1 := by simp
  have hB1 : w1.heap[B]? = some (.cells #[v] 92 (0, 0)) := by
    rw [hg.block B (by omega) (fun he => hnB he.symm), heap_alloc_old w O hBl]
    exact h.var
  have hs1 : w1.heap[sb]? = some (.cells S 9 (0, 0)) := by
    rw [hg.block sb (by omega) (fun he => h.ne he.symm), heap_alloc_old w O hsl]
    exact h.src
  have hnB1 := own_not ho hB1
  have hsB : sb ≠ B := fun he => by
    subst he
    rw [hs1] at hB1
    cases hB1
  have hK : Keep base w w1 := (Keep.of_below (base := base) ((Below.refl w.heap.size w).alloc (Nat.le_refl _) O)).trans (Keep.grown hg (h.own.alloc O))
  refine ⟨⟨one_setCell hB1, ownsRow_setCell_other ho hnB1 _, ?_, ?_⟩, hK.trans (Keep.stored hB1 hb), cell_of_one hB1, free_of_one hB1, lt_of_block hB1⟩
  · rw [Below.heap_setCell _ _ _ _ hsB]
    exact hs1
  · rcases hv with hv | hv
    · rw [hv]; exact h.ne
    · rw [hv]; intro he; cases he; omega

set_option maxRecDepth 100000 in
set_option maxHeartbeats 1000000 in
theorem putc_any (T S : List ByteArray) (hr : Rise T) (hl : T.length + S.length ≤ 50000) (base B sb : Nat) (v : Value) (w : World) (hV : Var base B sb (S.map Value.string).toArray T w v) (hb : base ≤ B) :
    Calls Try.prog 81 #[.slice (some ⟨sb, 0, none⟩) S.length S.length, .pointer (some ⟨B, 0, none⟩)] w fun e w' => ∃ v', e = .returned (.tuple #[]) ∧ Var base B sb (S.map Value.string).toArray (S.foldl putS T) w' v' ∧ Keep base w w' := by
  go_enter Try.func81, Try.ntmps81
  go_wp2_with fail
  go_loopw [9] (fun i wr => ∃ (k : Nat) (v' : Value), k ≤ S.length ∧ i = .int .i64 k ∧ Var base B sb (S.map Value.string).toArray ((S.take k).foldl putS T) wr v' ∧ Keep base w wr ∧ Rise ((S.take k).foldl putS T) ∧ ((S.take k).foldl putS T).length ≤ T.length + k) (fun i _ => S.length - (intOf i).toNat)
  case atStart => exact ⟨0, v, Nat.zero_le _, rfl, hV, Keep.refl _ _, hr, Nat.le_refl _⟩
  case round =>
    obtain ⟨k, v1, hk, rfl, hV1, hK, hr1, hl1⟩ := hrel
    by_cases hlt : k < S.length
    · have hlt2 : (k : Int) < S.length := by omega
      have hz : Hid ((S.take (k + 1)).foldl putS T = putS ((S.take k).foldl putS T) (S[k]'hlt)) := by
        show _ = _
        rw [List.take_succ_eq_append_getElem hlt, List.foldl_append]; rfl
      have c0 : wr.cell? ⟨sb, k, none⟩ = some (.string (S[k]'hlt)) := by
        rw [cell_of_row wr sb k _ 9 (0, 0) hV1.src]; simp [hlt]
      have cB := cell_of_one hV1.var
      have hgb := World.block_lt_of_cell? _ _ c0
      have hgB := lt_of_block hV1.var
      generalize S[k]'hlt = x at hz c0
      generalize (S.take k).foldl putS T = T1 at hz hV1 hr1 hl1
      have hbin := bin_any T1 hr1 (by omega) x v1
      have hSl : Sl wr v1 encS T1 := Sl.of_own hV1.own
      cases he : (x.toList == [])
      · have hx0 : x.size ≠ 0 := fun h0 => by have := (emptyB_iff x).2 h0; unfold emptyB at this; rw [he] at this; cases this
        cases hd : decide (T1[posS T1 x]? = some x)
        · have hne : (x.toList != []) = true := by rw [bne, he]; rfl
          have hput : Hid (putS T1 x = T1.take (posS T1 x) ++ x :: T1.drop (posS T1 x)) := by
            show _ = _
            unfold putS
            rw [if_neg hx0, if_neg (of_decide_eq_false hd)]
          have hrise := putS_rise hr1 x
          have hlen := putS_len T1 x
          rw [hd] at hbin
          generalize putS T1 x = T2 at hz hput hrise hlen
          go_wp2_with (first | (go_at_call 82; refine (hbin _ hSl).mono ?_; rintro e w2 ⟨rfl, q, rfl⟩) | (go_at_call 83; refine (ins_any T1 T2 x hput (by omega) base v1 (wr.drewN q).heap.size _ (hV1.drewN.own.alloc _) (fun hh => by have := (hV1.own.lt _ hh).2; simp at this) (heap_alloc_new (wr.drewN q) _) (by have := hV1.own; simp; omega)).mono ?_; rintro e w3 ⟨v2, rfl, ho2, hg2, hn2⟩; obtain ⟨p2, c2, rfl⟩ := own_len ho2; have hA := Var.put hV1.drewN hb ho2 hg2 hn2; have cB2 := hA.2.2.1; have fB2 := hA.2.2.2.1; have hB2 := hA.2.2.2.2))
          go_roundw
          case rel => exact ⟨k + 1, _, by omega, by simp, by rw [hz]; exact hA.1, hK.trans ((show Keep base wr (wr.drewN q) from ⟨rfl, rfl, rfl, Nat.le_refl _, fun _ _ _ => rfl⟩).trans hA.2.1), by rw [hz]; exact hrise, by rw [hz]; omega⟩
          case measure => simp [intOf]; omega
        · have hput : Hid (putS T1 x = T1) := by
            show _ = _
            unfold putS
            rw [if_neg hx0, if_pos (of_decide_eq_true hd)]
          rw [hd] at hbin
          go_wp2_with (go_at_call 82; refine (hbin _ hSl).mono ?_; rintro e w2 ⟨rfl, q, rfl⟩)
          go_roundw
          case rel => exact ⟨k + 1, _, by omega, by simp, by rw [hz, hput]; exact hV1.drewN, hK.trans ⟨rfl, rfl, rfl, Nat.le_refl _, fun _ _ _ => rfl⟩, by rw [hz, hput]; exact hr1, by rw [hz, hput]; omega⟩
          case measure => simp [intOf]; omega
      · have hput : Hid (putS T1 x = T1) := by
          show _ = _
          unfold putS
          rw [if_pos ((emptyB_iff x).1 he)]
        have hne : (x.toList != []) = false := by rw [bne, he]; rfl
        generalize decide (T1[posS T1 x]? = some x) = d at hbin
        go_wp2_with (go_at_call 82; refine (hbin _ hSl).mono ?_; rintro e w2 ⟨rfl, q, rfl⟩)
        all_goals (
          go_roundw
          case rel => exact ⟨k + 1, _, by omega, by simp, by rw [hz, hput]; exact hV1.drewN, hK.trans ⟨rfl, rfl, rfl, Nat.le_refl _, fun _ _ _ => rfl⟩, by rw [hz, hput]; exact hr1, by rw [hz, hput]; omega⟩
          case measure => simp [intOf]; omega)
    · have hks : k = S.length := by omega
      have hlt2 : ¬ (k : Int) < S.length := by omega
      subst hks
      rw [List.take_length] at hV1
      go_wp2_with fail
      go_end0
      exact ⟨rfl, ⟨_, hV1⟩, hK⟩

end Go.Proofs.Ytjjmoibnmdbpeaa.Pr
