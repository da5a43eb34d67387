/- WALKS: soughref10.Of, wordset.Full, soughref12.Full. -/
import Derived.Test.YtjjopjpchgajcaaDoorWordsc
namespace Go.Proofs.YtjjopjpchgajcaaDoor.Ws
set_option linter.unusedVariables false
set_option linter.unusedSimpArgs false
open Go Go.RowKit

def encI (x : Int) : List Value := [.int .i64 x]

/-- The numbers of a list below a bound. -/
def inB (M : List Int) (c : Nat) (m : Nat) : Bool := M.contains (m : Int) && decide (m < c)

theorem Sl.ints {w : World} {v : Value} {M : List Int} (h : Sl w v encI M) :
    ∃ (b off : Nat) (p : Option Addr) (cap : Nat), v = .slice p M.length cap ∧ (0 < M.length → p = some ⟨b, off, none⟩) ∧
      ∀ (i : Nat) (hi : i < M.length), w.cell? ⟨b, off + i, none⟩ = some (.int .i64 (M[i]'hi)) := by
  obtain ⟨b, off, p, cap, hv, hp, hc⟩ := h.open (k := 1) (fun _ => rfl)
  exact ⟨b, off, p, cap, hv, hp, fun i hi => by simpa using hc i hi 0 _ rfl⟩

theorem zeros_words (n : Nat) : (madeCells (Value.int .u64 0).cells (n * 1)).toList = (wordsOf (fun _ => false) n).flatMap encW := by
  show (madeCells #[Value.int .u64 0] (n * 1)).toList = _
  rw [toList_madeCells_one, flat_words, Nat.mul_one]
  apply List.ext_getElem
  · simp [wordsOf]
  · intro j h1 h2
    have : ofB (fun _ => false) 64 = 0 := by
      apply Nat.eq_of_testBit_eq; intro i; rw [testBit_ofB]; simp
    simp [wordsOf, this]

set_option maxRecDepth 100000 in
theorem rof_any (n : Int) (M : List Int) (hM : M.length ≤ 1000000) (v : Value) (w : World) (h : Sl w v encI M) :
    Calls Tryd.prog 12 #[.int .i64 n, v] w fun e w' => ∃ v', e = .returned v' ∧ w'.ownsRow w.heap.size 39 1 v' (sizeN n) ((wordsOf (inB M (cutN n)) (sizeN n)).flatMap encW) ∧ Below w.heap.size w w' := by
  obtain ⟨i0, hi, hz0, hz1, hz2⟩ := info_parts w_info
  obtain ⟨b, off, p, cap, rfl, hp, hc⟩ := Sl.ints h
  have hs := sizeN_le n
  have hcut := cutN_le n
  go_enter Tryd.func12, Tryd.ntmps12
  go_wp2_with (first | (go_at_call 9; refine Calls.same (rsize_any _ _) ?_) | (at_make; refine wpList_make_full _ rfl _ _ 23 rfl w.heap.size 39 i0 (.int .u64 0) 1 Tryd.underlying23 hi hz0 hz1 .i64 .i64 _ _ (sizeN n) rfl rfl rfl rfl (by rw [hz2]; omega) (by unfold maxLen; omega) (Nat.le_refl _) ?_; intro w1 hown hgrow; rw [zeros_words] at hown))
  have hB : Below w.heap.size w w1 := Below.grown (Below.refl _ _) hgrow (Nat.le_refl _) (fun k e => by cases e)
  go_wp2_with fail
  go_loopw [5, 13] (fun o i wr => ∃ k : Nat, k ≤ M.length ∧ i = .int .i64 k ∧ wr.ownsRow w.heap.size 39 1 o (sizeN n) ((wordsOf (inB (M.take k) (cutN n)) (sizeN n)).flatMap encW) ∧ Below w.heap.size w wr) (fun _ i _ => M.length - (intOf i).toNat)
  case atStart =>
    refine ⟨0, Nat.zero_le _, rfl, ?_, hB⟩
    rw [show wordsOf (inB (M.take 0) (cutN n)) (sizeN n) = wordsOf (fun _ => false) (sizeN n) from wordsOf_congr fun m _ => by simp [inB]]
    exact hown
  case round =>
    obtain ⟨k, hk, rfl, hown, hB⟩ := hrel
    by_cases hlt : k < M.length
    · have hpp := hp (by omega)
      subst hpp
      have c0 := hc k hlt
      have hg := World.block_lt_of_cell? _ _ c0
      have c1 := (hB.cell (p := ⟨b, off + k, none⟩) hg).trans c0
      have hgw := World.block_lt_of_cell? _ _ c1
      have hgo : ∀ m, inB (M.take (k + 1)) (cutN n) m = (inB (M.take k) (cutN n) m || (decide ((m : Int) = M[k]'hlt) && decide (m < cutN n))) := fun m => by
        unfold inB
        rw [List.take_succ_eq_append_getElem hlt, List.contains_append, Bool.and_or_distrib_right]
        simp [List.contains_cons, eq_comm, Bool.beq_eq_decide_eq]
      have hw := hB.size
      clear hc c0
      generalize M[k] = x at c1 hgo
      by_cases h0 : 0 ≤ x
      · by_cases h1 : x < cutN n
        · obtain ⟨m, rfl⟩ := Int.eq_ofNat_of_zero_le h0
          have hm : m < 64 * sizeN n := by unfold sizeN; omega
          have hwl : (wordsOf (inB (M.take k) (cutN n)) (sizeN n)).length = sizeN n := wordsOf_length _ _
          have hwith := fun v w h => with_any (wordsOf (inB (M.take k) (cutN n)) (sizeN n)) (wordsOf_ok _ _) (by omega) m (by omega) v w h
          rw [wordsOf_set hm, show wordsOf (fun j => inB (M.take k) (cutN n) j || decide (j = m)) (sizeN n) = wordsOf (inB (M.take (k + 1)) (cutN n)) (sizeN n) from wordsOf_congr fun j _ => by
            rw [hgo]; congr 1
            by_cases e : j = m
            · subst e; simp; omega
            · have : ¬ (j : Int) = m := by omega
              simp [e, this], hwl] at hwith
          have hS : Sl wr u5 encW (wordsOf (inB (M.take k) (cutN n)) (sizeN n)) := Sl.of_own (by rw [hwl]; exact hown)
          go_wp2_with (first | (go_at_call 14; refine Calls.same (width_any _ _) ?_) | (go_at_call 29; refine' Calls.aftS _ _ (hwith _ _ hS) _; rotate_left 2; (first | (with_reducible exact After.below _; rfl) | (with_reducible exact below_drew (After.below _); rfl) | (with_reducible exact below_set (After.below _) _ _; (go_simp; rfl)) | (with_reducible exact below_set (below_set (After.below _) _ _) _ _; (go_simp; rfl)) | (with_reducible exact below_set (below_set (below_set (After.below _) _ _) _ _) _ _; (go_simp; rfl)) | (with_reducible exact below_set (below_set (below_set (below_set (After.below _) _ _) _ _) _ _) _ _; (go_simp; rfl)) | (exact Below.refl _ _; rfl)); intro v2 x2 ho; have hle := After.le x2; (try simp at hle)))
          go_roundw
          case rel =>
            have hz := x2.le
            exact ⟨k + 1, by omega, by simp, own_base ho hw, hB.trans (Below.mono x2.below hw)⟩
          case measure => simp [intOf]; omega
        · have heq : wordsOf (inB (M.take (k + 1)) (cutN n)) (sizeN n) = wordsOf (inB (M.take k) (cutN n)) (sizeN n) := wordsOf_congr fun j _ => by
            rw [hgo]
            by_cases e : (j : Int) = x
            · have : ¬ j < cutN n := by omega
              simp [this]
            · simp [e]
          clear hgo
          go_wp2_with (first | (go_at_call 14; refine Calls.same (width_any _ _) ?_))
          go_roundw
          case rel => exact ⟨k + 1, by omega, by simp, by rw [heq]; exact hown, hB⟩
          case measure => simp [intOf]; omega
      · have heq : wordsOf (inB (M.take (k + 1)) (cutN n)) (sizeN n) = wordsOf (inB (M.take k) (cutN n)) (sizeN n) := wordsOf_congr fun j _ => by
          rw [hgo]
          have : ¬ (j : Int) = x := by omega
          simp [this]
        clear hgo
        go_wp2_with (first | (go_at_call 14; refine Calls.same (width_any _ _) ?_))
        go_roundw
        case rel => exact ⟨k + 1, by omega, by simp, by rw [heq]; exact hown, hB⟩
        case measure => simp [intOf]; omega
    · have hks : k = M.length := by omega
      subst hks
      rw [List.take_length] at hown
      go_wp2_with fail
      refine bodyPost_ret (v := u5) (by simp only [results, Tryd.results12]; go_simp) rfl ⟨_, rfl, hown, hB⟩

/-- All numbers below a width. -/
def fullW (n : Int) : List Nat := wordsOf (fun m => decide (m < cutN n)) (sizeN n)

set_option maxRecDepth 100000 in
theorem full_any (n : Int) (w : World) :
    Calls Tryd.prog 7 #[.int .i64 n] w fun e w' => ∃ v', e = .returned v' ∧ w'.ownsRow w.heap.size 39 1 v' (sizeN n) ((fullW n).flatMap encW) ∧ Below w.heap.size w w' := by
  obtain ⟨i0, hi, hz0, hz1, hz2⟩ := info_parts w_info
  have hs := sizeN_le n
  have hcut := cutN_le n
  go_enter Tryd.func7, Tryd.ntmps7
  go_wp2_with (first | (go_at_call 8; refine Calls.same (size_any _ _) ?_) | (go_at_call 28; refine Calls.same (cut_any _ _) ?_) | (at_make; refine wpList_make_full _ rfl _ _ 23 rfl w.heap.size 39 i0 (.int .u64 0) 1 Tryd.underlying23 hi hz0 hz1 .i64 .i64 _ _ (sizeN n) rfl rfl rfl rfl (by rw [hz2]; omega) (by unfold maxLen; omega) (Nat.le_refl _) ?_; intro w1 hown hgrow; rw [zeros_words] at hown))
  have hB : Below w.heap.size w w1 := Below.grown (Below.refl _ _) hgrow (Nat.le_refl _) (fun k e => by cases e)
  go_loopw [10] (fun i wr => ∃ k : Nat, k ≤ cutN n ∧ i = .int .i64 k ∧ wr.ownsRow w.heap.size 39 1 (.slice (some ⟨w.heap.size, 0, none⟩) (sizeN n) (sizeN n)) (sizeN n) ((wordsOf (fun m => decide (m < k)) (sizeN n)).flatMap encW) ∧ Below w.heap.size w wr) (fun i _ => cutN n - (intOf i).toNat)
  case atStart =>
    refine ⟨0, Nat.zero_le _, rfl, ?_, hB⟩
    rw [show wordsOf (fun m => decide (m < 0)) (sizeN n) = wordsOf (fun _ => false) (sizeN n) from wordsOf_congr fun m _ => by simp]
    exact hown
  case round =>
    obtain ⟨k, hk, rfl, hown, hB⟩ := hrel
    by_cases hlt : k < cutN n
    · have hm : k < 64 * sizeN n := by unfold sizeN; omega
      have hwl : (wordsOf (fun m => decide (m < k)) (sizeN n)).length = sizeN n := wordsOf_length _ _
      have hi : k / 64 < (wordsOf (fun m => decide (m < k)) (sizeN n)).length := by rw [hwl]; omega
      have c0 := hown.cellAt (k / 64) (by omega)
      have f0 := hown.frozenAt (k / 64)
      have hx := wordsOf_ok (fun m => decide (m < k)) (sizeN n) _ (List.getElem_mem hi)
      rw [flat_words, List.getElem?_map, List.getElem?_eq_getElem hi, Option.map_some] at c0
      have hst := wordsOf_set (p := fun m => decide (m < k)) hm
      rw [List.getElem?_eq_getElem hi, Option.getD_some] at hst
      generalize (wordsOf (fun m => decide (m < k)) (sizeN n))[k / 64]'hi = x at c0 hx hst
      have h2 := (hown.stored (k / 64) (.int .u64 ((x ||| 2 ^ (k % 64) : Nat)))).1
      rw [set_words, hst, show wordsOf (fun j => decide (j < k) || decide (j = k)) (sizeN n) = wordsOf (fun j => decide (j < k + 1)) (sizeN n) from wordsOf_congr fun j _ => by
        rw [← Bool.decide_or]; congr 1; simp; omega] at h2
      have hor := shl_or x k hx
      have hlt2 : (k : Int) / 64 < sizeN n := by omega
      have hB2 := hB.setCell (p := ⟨w.heap.size, k / 64, none⟩) (Nat.le_refl _) (.int .u64 ((x ||| 2 ^ (k % 64) : Nat)))
      clear hst hown hB
      go_wp2_with fail
      go_region
      go_wp2_with fail
      trace_state
      go_roundw
      case rel => exact ⟨k + 1, by omega, by simp, h2.drew, hB2.drew⟩
      case measure => simp [intOf]; omega
    · have hks : k = cutN n := by omega
      subst hks
      go_wp2_with fail
      refine bodyPost_ret (v := .slice (some ⟨w.heap.size, 0, none⟩) (sizeN n) (sizeN n)) (by simp only [results, Tryd.results7]; go_simp) rfl ⟨_, rfl, hown, hB⟩

end Go.Proofs.YtjjopjpchgajcaaDoor.Ws
