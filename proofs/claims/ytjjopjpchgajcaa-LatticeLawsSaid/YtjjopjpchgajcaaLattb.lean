/- WALKS of package lattice and its reference: few, Full, Bottom, Top of the reference. -/
import Derived.Test.YtjjopjpchgajcaaLatt
namespace Go.Proofs.Ytjjopjpchgajcaa.Ws
set_option linter.unusedVariables false
set_option linter.unusedSimpArgs false
open Go Go.RowKit

/-- The words of the least and of the greatest value. -/
def botW (what width : Int) : List Nat := if isL what width = true ∧ what = 2 then fullW width else List.replicate (wordsN what width) 0
def topW (what width : Int) : List Nat := if isL what width = true ∧ what = 1 then fullW width else List.replicate (wordsN what width) (if what = 3 then 1 else 0)

theorem zeros_rep (n : Nat) : (madeCells (Value.int .u64 0).cells (n * 1)).toList = (List.replicate n 0).flatMap encW := by
  show (madeCells #[Value.int .u64 0] (n * 1)).toList = _
  rw [toList_madeCells_one, flat_words, Nat.mul_one]
  simp

theorem i_info : (Try.prog.info? 3).map (fun i => (i.zero, i.size, i.bytes)) = some (some (.int .i64 0), 1, 8) := by kernel_rfl

theorem flat_ints (M : List Int) : M.flatMap encI = M.map fun y : Int => Value.int .i64 y := by
  induction M with
  | nil => rfl
  | cons y M ih => simp only [List.flatMap_cons, ih, encI]; rfl

def upto (k : Nat) : List Int := (List.range k).map fun i : Nat => (i : Int)
theorem upto_succ (k : Nat) : upto (k + 1) = upto k ++ [(k : Int)] := by simp [upto, List.range_succ]
theorem upto_length (k : Nat) : (upto k).length = k := by simp [upto]

set_option maxRecDepth 100000 in
theorem rfull_any (n : Int) (h0 : 0 ≤ n) (h1 : n ≤ 1024) (w : World) :
    Calls Try.prog 78 #[.int .i64 n] w fun e w' => ∃ v', e = .returned v' ∧ w'.ownsRow w.heap.size 29 1 v' (sizeN n) ((fullW n).flatMap encW) ∧ Below w.heap.size w w' := by
  obtain ⟨i0, hi, hz0, hz1, hz2⟩ := info_parts i_info
  obtain ⟨m, rfl⟩ := Int.eq_ofNat_of_zero_le h0
  have hm : m ≤ 1024 := by omega
  have hful : wordsOf (inB (upto m) (cutN m)) (sizeN m) = fullW m := by
    unfold fullW
    refine wordsOf_congr fun j _ => ?_
    unfold inB
    have hc : cutN (m : Int) = m := by unfold cutN; split <;> (try split) <;> omega
    rw [hc]
    by_cases hj : j < m
    · have : (upto m).contains (j : Int) = true := by
        rw [List.contains_iff_mem]
        exact List.mem_map.2 ⟨j, List.mem_range.2 hj, rfl⟩
      rw [this]; simp [hj]
    · simp [hj]
  go_enter Try.func78, Try.ntmps78
  go_wp2_with fail
  go_loopw [3, 4] (fun o i wr => ∃ k : Nat, k ≤ m ∧ i = .int .i64 k ∧ wr.ownsRow w.heap.size 3 1 o k ((upto k).flatMap encI) ∧ Below w.heap.size w wr) (fun _ i _ => m - (intOf i).toNat)
  case atStart => exact ⟨0, Nat.zero_le _, rfl, World.ownsRow_nil _ _ _ _, Below.refl _ _⟩
  case round =>
    obtain ⟨k, hk, rfl, hown, hB⟩ := hrel
    have hw := hB.size
    by_cases hlt : k < m
    · have hlt2 : (k : Int) < m := by omega
      go_wp2_with ((at_builtin; refine wpList_append_own _ rfl _ _ 84 rfl w.heap.size 3 i0 (.int .i64 0) 1 8 Try.underlying84 hi hz0 hz1 hz2 rfl (by decide) _ k ((upto k).flatMap encI) rfl (hown.alloc _) _ 1 1 [.int .i64 (k : Int)] rfl rfl (news_at rfl) (by intro u hu; simp at hu; subst hu; rfl) (by unfold maxLen; omega) (by omega) (by simp; omega) ?_; intro v2 w1 hown' hgrow _))
      have hlt1 := hown.lt
      have hB2 : Below w.heap.size w w1 := Below.grown (w := _) (hB.alloc hw _) hgrow (by simp; omega) (fun q hq => (hlt1 q hq).1)
      go_wp2_with fail
      go_roundw
      case rel => exact ⟨k + 1, by omega, by simp, by rw [upto_succ, List.flatMap_append]; exact hown', hB2⟩
      case measure => simp [intOf]; omega
    · have hks : k = m := by omega
      subst hks
      have hlt2 : ¬ (k : Int) < k := by omega
      have hS : Sl wr u3 encI (upto k) := Sl.of_own (by rw [upto_length]; exact hown)
      have hof := rof_any k (upto k) (by rw [upto_length]; omega) u3 wr hS
      rw [hful] at hof
      go_wp2_with ((go_at_call 90; refine' Calls.aftS _ _ (hof) _; rotate_left 2; (first | (with_reducible exact After.below _; rfl) | (with_reducible exact below_drew (After.below _); rfl) | (with_reducible exact below_set (After.below _) _ _; (go_simp; rfl)) | (with_reducible exact below_set (below_set (After.below _) _ _) _ _; (go_simp; rfl)) | (with_reducible exact below_set (below_set (below_set (After.below _) _ _) _ _) _ _; (go_simp; rfl)) | (with_reducible exact below_set (below_set (below_set (below_set (After.below _) _ _) _ _) _ _) _ _; (go_simp; rfl)) | (exact Below.refl _ _; rfl)); intro v1 x1 ho; have hle := After.le x1; (try simp at hle)))
      refine bodyPost_ret (v := v1) (by simp only [results, Try.results78]; go_simp) rfl ⟨_, rfl, own_base ho hw, hB.trans (Below.mono x1.below hw)⟩

theorem sizeN_words {what width : Int} (hL : isL what width = true) (h3 : ¬ what = 3) : wordsN what width = sizeN width := by
  unfold wordsN; rw [hL, if_pos rfl, if_neg h3]
theorem botW_length (what width : Int) : (botW what width).length = wordsN what width := by
  unfold botW
  split
  · rename_i h
    rw [fullW_len, sizeN_words h.1 (by omega)]
  · simp
theorem topW_length (what width : Int) : (topW what width).length = wordsN what width := by
  unfold topW
  split
  · rename_i h
    rw [fullW_len, sizeN_words h.1 (by omega)]
  · simp

theorem rbottom_any (what width : Int) (w : World) :
    Calls Try.prog 52 #[.int .i64 what, .int .i64 width] w fun e w' => ∃ v', e = .returned v' ∧ w'.ownsRow w.heap.size 29 1 v' (botW what width).length ((botW what width).flatMap encW) ∧ Below w.heap.size w w' := by
  obtain ⟨i0, hi, hz0, hz1, hz2⟩ := info_parts w_info
  rw [botW_length]
  have hi0 := ris_any what width
  have hwl := wordsN_le what width
  by_cases hc : isL what width = true ∧ what = 2
  · obtain ⟨h1, h2, h3⟩ := isL_facts hc.1
    have hf := rfull_any width h2 h3
    have hb : botW what width = fullW width := by unfold botW; rw [if_pos hc]
    rw [hb, sizeN_words hc.1 (by omega)]
    rw [hc.1] at hi0
    have f2 : (what == 2) = true := by simp [hc.2]
    clear hc h1 hb
    go_enter Try.func52, Try.ntmps52
    go_wp2_with (first | (go_at_call 63; refine Calls.same (hi0 _) ?_) | (go_at_call 78; refine' Calls.aftS _ _ (hf _) _; rotate_left 2; (first | (with_reducible exact After.below _; rfl) | (with_reducible exact below_drew (After.below _); rfl) | (with_reducible exact below_set (After.below _) _ _; (go_simp; rfl)) | (with_reducible exact below_set (below_set (After.below _) _ _) _ _; (go_simp; rfl)) | (with_reducible exact below_set (below_set (below_set (After.below _) _ _) _ _) _ _; (go_simp; rfl)) | (with_reducible exact below_set (below_set (below_set (below_set (After.below _) _ _) _ _) _ _) _ _; (go_simp; rfl)) | (exact Below.refl _ _; rfl)); intro v1 x1 ho; have hle := After.le x1; (try simp at hle)))
    refine bodyPost_ret (v := v1) (by simp only [results, Try.results52]; go_simp) rfl ⟨_, rfl, ho, x1.below⟩
  · have hb : botW what width = List.replicate (wordsN what width) 0 := by unfold botW; rw [if_neg hc]
    rw [hb]
    have hr := rwords_any what width
    generalize wordsN what width = n at hr hwl ⊢
    cases hl : isL what width
    · rw [hl] at hi0
      clear hc hb
      go_enter Try.func52, Try.ntmps52
      go_wp2_with (first | (go_at_call 63; refine Calls.same (hi0 _) ?_) | (go_at_call 49; refine Calls.same (hr _) ?_) | (at_make; refine wpList_make_full _ rfl _ _ 52 rfl w.heap.size 29 i0 (.int .u64 0) 1 Try.underlying52 hi hz0 hz1 .i64 .i64 _ _ n rfl rfl rfl rfl (by rw [hz2]; omega) (by unfold maxLen; omega) (Nat.le_refl _) ?_; intro w1 hown hgrow; rw [zeros_rep] at hown))
      have hB : Below w.heap.size w w1 := Below.grown (Below.refl _ _) hgrow (Nat.le_refl _) (fun k e => by cases e)
      go_wp2_with fail
      refine bodyPost_ret (v := .slice (some ⟨w.heap.size, 0, none⟩) n n) (by simp only [results, Try.results52]; go_simp) rfl ⟨_, rfl, hown, hB⟩
    · rw [hl] at hi0
      have f2 : (what == 2) = false := by simp; intro h; exact hc ⟨hl, h⟩
      clear hc hb
      go_enter Try.func52, Try.ntmps52
      go_wp2_with (first | (go_at_call 63; refine Calls.same (hi0 _) ?_) | (go_at_call 49; refine Calls.same (hr _) ?_) | (at_make; refine wpList_make_full _ rfl _ _ 52 rfl w.heap.size 29 i0 (.int .u64 0) 1 Try.underlying52 hi hz0 hz1 .i64 .i64 _ _ n rfl rfl rfl rfl (by rw [hz2]; omega) (by unfold maxLen; omega) (Nat.le_refl _) ?_; intro w1 hown hgrow; rw [zeros_rep] at hown))
      have hB : Below w.heap.size w w1 := Below.grown (Below.refl _ _) hgrow (Nat.le_refl _) (fun k e => by cases e)
      go_wp2_with fail
      refine bodyPost_ret (v := .slice (some ⟨w.heap.size, 0, none⟩) n n) (by simp only [results, Try.results52]; go_simp) rfl ⟨_, rfl, hown, hB⟩

theorem bottom_any (what width : Int) (w : World) :
    Calls Try.prog 51 #[.int .i64 what, .int .i64 width] w fun e w' => ∃ v', e = .returned v' ∧ w'.ownsRow w.heap.size 29 1 v' (botW what width).length ((botW what width).flatMap encW) ∧ Below w.heap.size w w' := by
  obtain ⟨i0, hi, hz0, hz1, hz2⟩ := info_parts w_info
  rw [botW_length]
  have hi0 := is_any what width
  have hwl := wordsN_le what width
  by_cases hc : isL what width = true ∧ what = 2
  · have hf := full_any width
    have hb : botW what width = fullW width := by unfold botW; rw [if_pos hc]
    rw [hb, sizeN_words hc.1 (by omega)]
    rw [hc.1] at hi0
    have f2 : (what == 2) = true := by simp [hc.2]
    clear hc hb
    go_enter Try.func51, Try.ntmps51
    go_wp2_with (first | (go_at_call 74; refine Calls.same (hi0 _) ?_) | (go_at_call 77; refine' Calls.aftS _ _ (hf _) _; rotate_left 2; (first | (with_reducible exact After.below _; rfl) | (with_reducible exact below_drew (After.below _); rfl) | (with_reducible exact below_set (After.below _) _ _; (go_simp; rfl)) | (with_reducible exact below_set (below_set (After.below _) _ _) _ _; (go_simp; rfl)) | (with_reducible exact below_set (below_set (below_set (After.below _) _ _) _ _) _ _; (go_simp; rfl)) | (with_reducible exact below_set (below_set (below_set (below_set (After.below _) _ _) _ _) _ _) _ _; (go_simp; rfl)) | (exact Below.refl _ _; rfl)); intro v1 x1 ho; have hle := After.le x1; (try simp at hle)))
    refine bodyPost_ret (v := v1) (by simp only [results, Try.results51]; go_simp) rfl ⟨_, rfl, ho, x1.below⟩
  · have hb : botW what width = List.replicate (wordsN what width) 0 := by unfold botW; rw [if_neg hc]
    rw [hb]
    have hr := words_any what width
    generalize wordsN what width = n at hr hwl ⊢
    cases f2 : (what == 2)
    · clear hc hb
      go_enter Try.func51, Try.ntmps51
      go_wp2_with (first | (go_at_call 74; refine Calls.same (hi0 _) ?_) | (go_at_call 48; refine Calls.same (hr _) ?_) | (at_make; refine wpList_make_full _ rfl _ _ 52 rfl w.heap.size 29 i0 (.int .u64 0) 1 Try.underlying52 hi hz0 hz1 .i64 .i64 _ _ n rfl rfl rfl rfl (by rw [hz2]; omega) (by unfold maxLen; omega) (Nat.le_refl _) ?_; intro w1 hown hgrow; rw [zeros_rep] at hown))
      have hB : Below w.heap.size w w1 := Below.grown (Below.refl _ _) hgrow (Nat.le_refl _) (fun k e => by cases e)
      go_wp2_with fail
      refine bodyPost_ret (v := .slice (some ⟨w.heap.size, 0, none⟩) n n) (by simp only [results, Try.results51]; go_simp) rfl ⟨_, rfl, hown, hB⟩
    · have hl : isL what width = false := by
        cases hq : isL what width with
        | false => rfl
        | true => exact absurd ⟨hq, (beq_iff_eq).1 f2⟩ hc
      rw [hl] at hi0
      clear hc hb
      go_enter Try.func51, Try.ntmps51
      go_wp2_with (first | (go_at_call 74; refine Calls.same (hi0 _) ?_) | (go_at_call 48; refine Calls.same (hr _) ?_) | (at_make; refine wpList_make_full _ rfl _ _ 52 rfl w.heap.size 29 i0 (.int .u64 0) 1 Try.underlying52 hi hz0 hz1 .i64 .i64 _ _ n rfl rfl rfl rfl (by rw [hz2]; omega) (by unfold maxLen; omega) (Nat.le_refl _) ?_; intro w1 hown hgrow; rw [zeros_rep] at hown))
      have hB : Below w.heap.size w w1 := Below.grown (Below.refl _ _) hgrow (Nat.le_refl _) (fun k e => by cases e)
      go_wp2_with fail
      refine bodyPost_ret (v := .slice (some ⟨w.heap.size, 0, none⟩) n n) (by simp only [results, Try.results51]; go_simp) rfl ⟨_, rfl, hown, hB⟩

end Go.Proofs.Ytjjopjpchgajcaa.Ws
