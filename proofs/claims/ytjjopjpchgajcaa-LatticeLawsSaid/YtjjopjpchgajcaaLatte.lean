/- WALKS: math/bits.Mul at one, slices.Repeat of one word; Top. -/
import Derived.Test.YtjjopjpchgajcaaLattd
import Derived.Laws.CopyOwn
namespace Go.Proofs.Ytjjopjpchgajcaa.Ws
set_option linter.unusedVariables false
set_option linter.unusedSimpArgs false
open Go Go.RowKit

theorem mul64_one (n : Nat) (hn : n ≤ 1024) (w : World) : Calls Try.prog 100 #[.int .u64 1, .int .u64 n] w fun e w' => e = .returned (.tuple #[.int .u64 0, .int .u64 n]) ∧ w = w' := by
  have h1 : bits .and .u64 (n : Int) 4294967295 = (n : Int) := by
    rw [u64_and _ _ (by omega) (by omega) (by omega) (by omega)]
    have : (n : Int).toNat &&& (4294967295 : Int).toNat = n % 2 ^ 32 := Nat.and_two_pow_sub_one_eq_mod _ 32
    rw [this]; omega
  have h2 : bits .and .u64 1 4294967295 = 1 := by decide +kernel
  have h3 : bits .and .u64 0 4294967295 = 0 := by decide +kernel
  have h4 : (n : Int) / 4294967296 = 0 := by omega
  have h5 : IntKind.u64.wrap (n : Int) = n := u64_wrap n (by omega)
  go_enter Try.func100, Try.ntmps100
  go_wp2_with fail
  refine bodyPost_ret (v := .tuple #[.int .u64 0, .int .u64 n]) (by simp only [results, Try.results100]; go_simp) rfl ⟨rfl, ?_⟩
  rfl

theorem mul_one_any (n : Nat) (hn : n ≤ 1024) (w : World) : Calls Try.prog 91 #[.int .u64 1, .int .u64 n] w fun e w' => e = .returned (.tuple #[.int .u64 0, .int .u64 n]) ∧ w = w' := by
  have h5 : IntKind.u64.wrap (n : Int) = n := u64_wrap n (by omega)
  have h6 := mul64_one n hn
  go_enter Try.func91, Try.ntmps91
  go_wp2_with ((go_at_call 100; refine Calls.same (h6 _) ?_))
  refine bodyPost_ret (v := .tuple #[.int .u64 0, .int .u64 n]) (by simp only [results, Try.results91]; go_simp) rfl ⟨rfl, ?_⟩
  rfl

/-- k ones, then zeros. -/
def rowL (k n : Nat) : List Value := (List.replicate k 1 ++ List.replicate (n - k) 0).flatMap encW
theorem rowL_length {k n : Nat} (h : k ≤ n) : (rowL k n).length = n := by
  unfold rowL; rw [flat_words]; simp; omega
theorem rowL_one {k n j : Nat} (h : k ≤ n) (hj : j < k) : (rowL k n)[j]? = some (.int .u64 1) := by
  unfold rowL; rw [flat_words, List.getElem?_map, List.getElem?_append_left (by simpa using hj), List.getElem?_replicate, if_pos hj]; rfl
theorem rowL_zero (n : Nat) : rowL 0 n = (List.replicate n 0).flatMap encW := by simp [rowL]
theorem rowL_splice {k m n : Nat} (h : k + m ≤ n) : splice (rowL k n) k (List.replicate m (.int .u64 1)) = rowL (k + m) n := by
  have e : ∀ q : Nat, ((q : Nat) : Int) = q := fun _ => rfl
  apply List.ext_getElem?
  intro j
  unfold splice rowL
  simp only [flat_words, List.map_append, List.map_replicate, List.length_replicate]
  have l1 : ((List.replicate k (Value.int IntKind.u64 ((1 : Nat) : Int)) ++ List.replicate (n - k) (Value.int IntKind.u64 ((0 : Nat) : Int))).take k) = List.replicate k (Value.int IntKind.u64 ((1 : Nat) : Int)) := by
    rw [List.take_append_of_le_length (by simp), List.take_of_length_le (by simp)]
  have l2 : ((List.replicate k (Value.int IntKind.u64 ((1 : Nat) : Int)) ++ List.replicate (n - k) (Value.int IntKind.u64 ((0 : Nat) : Int))).drop (k + m)) = List.replicate (n - (k + m)) (Value.int IntKind.u64 ((0 : Nat) : Int)) := by
    rw [List.drop_append, List.drop_replicate, List.drop_replicate]
    simp
    omega
  rw [l1, l2]
  rw [show List.replicate (k + m) (Value.int IntKind.u64 ((1 : Nat) : Int)) = List.replicate k (Value.int IntKind.u64 ((1 : Nat) : Int)) ++ List.replicate m (Value.int IntKind.u64 ((1 : Nat) : Int)) from List.replicate_append_replicate.symm]
  rw [List.append_assoc]
  rfl

theorem w_size : (Try.prog.info? 29).map (·.size) = some 1 := by kernel_rfl

set_option maxRecDepth 100000 in
theorem repeat_any (n : Nat) (hn : n ≤ 1024) (h0 : 0 < n) (v : Value) (w : World) (h : Sl w v encW [1]) :
    Calls Try.prog 79 #[v, .int .i64 n] w fun e w' => ∃ v', e = .returned v' ∧ w'.ownsRow w.heap.size 29 1 v' n ((List.replicate n 1).flatMap encW) ∧ Below w.heap.size w w' := by
  obtain ⟨i0, hi, hz0, hz1, hz2⟩ := info_parts w_info
  obtain ⟨b, off, p, cap, rfl, hp, hc⟩ := Sl.words h
  have hpp := hp (by simp)
  subst hpp
  have c0 := hc 0 (by simp)
  simp only [List.getElem_cons_zero, Nat.add_zero] at c0
  have hg := World.block_lt_of_cell? _ _ c0
  clear hc
  have h5 : IntKind.u64.wrap (n : Int) = n := u64_wrap n (by omega)
  have h51 : IntKind.u64.wrap 1 = 1 := u64_wrap 1 (by omega)
  have hm := mul_one_any n hn
  go_enter Try.func79, Try.ntmps79
  go_wp2_with (first | (go_at_call 91; refine Calls.same (hm _) ?_) | (at_make; refine wpList_make_full _ rfl _ _ 52 rfl w.heap.size 29 i0 (.int .u64 0) 1 Try.underlying52 hi hz0 hz1 .i64 .i64 _ _ n rfl rfl rfl rfl (by rw [hz2]; omega) (by unfold maxLen; omega) (Nat.le_refl _) ?_; intro w1 hown hgrow; rw [zeros_rep] at hown))
  have hB : Below w.heap.size w w1 := Below.grown (Below.refl _ _) hgrow (Nat.le_refl _) (fun k e => by cases e)
  have hrow : w1.heap[w.heap.size]? = some (.cells (rowL 0 n).toArray 29 (0, 0)) := by
    rcases hown.2 with ⟨h', _⟩ | ⟨g', cap', cur, h', _, hgg, _, _, hcs, htake⟩
    · simp at h'
    · simp only [Value.slice.injEq, Option.some.injEq, Addr.mk.injEq, and_true, true_and] at h'
      obtain ⟨rfl, rfl⟩ := h'
      rw [hgg, rowL_zero, ← htake, List.take_of_length_le (by simp; omega)]
  have c1 := (hB.cell (p := ⟨b, off, none⟩) hg).trans c0
  have hgw := World.block_lt_of_cell? _ _ c1
  clear hown hgrow
  have q1 := And.intro True.intro (show [Value.int .u64 1].length = Nat.min 1 n by simp [Nat.min_def]; omega)
  have q2 := And.intro True.intro (show 0 + [Value.int .u64 1].length ≤ (rowL 0 n).length by rw [rowL_length (by omega)]; simp; omega)
  have q3 := And.intro True.intro (show ∀ v ∈ [Value.int .u64 1], v.oneCell' = true from by intro u hu; simp at hu; subst hu; rfl)
  have q4 := And.intro True.intro (show ∀ j v, [Value.int .u64 1][j]? = some v → w1.cell? ((⟨b, off, none⟩ : Addr).add j) = some v from by
    intro j v hj
    match j, hj with
    | 0, hj => simp at hj; subst hj; simpa [Addr.add] using c1)
  have hR := And.intro True.intro hrow
  clear hrow
  have hcp := run_copy_row (P := Try.prog) w1 52 52 3 29 w.heap.size 0 n n ⟨b, off, none⟩ 1 cap (rowL 0 n).toArray 29 [.int .u64 1] Try.underlying52 w_size hR.2 q1.2 q4.2 (by simpa using q2.2) q3.2
  obtain ⟨w2, hw2⟩ : ∃ w2, w2 = w1.setRow w.heap.size ((rowL 0 n).toArray.toList.take 0 ++ [Value.int .u64 1] ++ (rowL 0 n).toArray.toList.drop (0 + [Value.int .u64 1].length)).toArray := ⟨_, rfl⟩
  rw [← hw2] at hcp
  have hrow2 : w2.heap[w.heap.size]? = some (.cells (rowL 1 n).toArray 29 (0, 0)) := by
    rw [hw2, setRow_heap w1 _ _ _ _ _ hR.2, ← rowL_splice (k := 0) (m := 1) (by omega)]
    simp [splice]
  have hB2 : Below w.heap.size w w2 := by rw [hw2]; exact below_setRow hB (Nat.le_refl _) _
  have hR2 := And.intro hrow2 hB2
  clear hw2 hrow2 hB2 hR q1 q2 q3 q4
  go_wp2_with fail
  go_loopw [8] (fun i wr => ∃ k : Nat, 1 ≤ k ∧ k ≤ n ∧ i = .int .i64 k ∧ wr.heap[w.heap.size]? = some (.cells (rowL k n).toArray 29 (0, 0)) ∧ Below w.heap.size w wr) (fun i _ => n - (intOf i).toNat)
  case atStart => exact ⟨1, Nat.le_refl _, by omega, rfl, hR2.1, hR2.2⟩
  case round =>
    obtain ⟨k, hk1, hk, rfl, hrow, hB⟩ := hrel
    have hR := And.intro hrow hB
    clear hrow hB
    by_cases hlt : k < n
    · have hlt2 : (k : Int) < n := by omega
      have hne : ¬ n = k := by omega
      obtain ⟨m, hm⟩ : ∃ m, m = min k (n - k) := ⟨_, rfl⟩
      have hm1 : 1 ≤ m := by omega
      have hm2 : k + m ≤ n := by omega
      have q1 := And.intro True.intro (show (List.replicate m (Value.int .u64 1)).length = Nat.min k (n - k) by simp [hm, Nat.min_def])
      have q2 := And.intro True.intro (show k + (List.replicate m (Value.int .u64 1)).length ≤ (rowL k n).length by rw [rowL_length (by omega)]; simp; omega)
      have q3 := And.intro True.intro (show ∀ v ∈ List.replicate m (Value.int .u64 1), v.oneCell' = true from by intro u hu; rw [List.eq_of_mem_replicate hu]; rfl)
      have q4 := And.intro True.intro (show ∀ j v, (List.replicate m (Value.int .u64 1))[j]? = some v → wr.drew.cell? ((⟨w.heap.size, 0, none⟩ : Addr).add j) = some v from by
        intro j v hj
        rw [List.getElem?_replicate] at hj
        split at hj
        · cases hj
          rw [Go.WideShapes.add_plain, Nat.zero_add]
          show wr.cell? _ = _
          rw [cell_of_row wr _ _ _ _ _ hR.1]
          have := rowL_one hk (j := j) (by omega)
          simpa using this
        · cases hj)
      clear hm
      have hcp := run_copy_row (P := Try.prog) wr.drew 52 52 3 29 w.heap.size k (n - k) (n - k) ⟨w.heap.size, 0, none⟩ k n (rowL k n).toArray 29 (List.replicate m (Value.int .u64 1)) Try.underlying52 w_size hR.1 q1.2 q4.2 (by simpa using q2.2) q3.2
      obtain ⟨w3, hw3⟩ : ∃ w3, w3 = wr.drew.setRow w.heap.size ((rowL k n).toArray.toList.take k ++ List.replicate m (Value.int .u64 1) ++ (rowL k n).toArray.toList.drop (k + (List.replicate m (Value.int .u64 1)).length)).toArray := ⟨_, rfl⟩
      rw [← hw3, List.length_replicate] at hcp
      have hrow3 : w3.heap[w.heap.size]? = some (.cells (rowL (k + m) n).toArray 29 (0, 0)) := by
        rw [hw3, setRow_heap wr.drew _ _ _ _ _ hR.1, ← rowL_splice (k := k) (m := m) (by omega)]
        simp [splice]
      have hB3 : Below w.heap.size w w3 := by rw [hw3]; exact below_setRow hR.2.drew (Nat.le_refl _) _
      have hR3 := And.intro hrow3 hB3
      have e8 : goInt (m : Nat) = .int .i64 (m : Int) := rfl
      rw [e8] at hcp
      clear hw3 hrow3 hB3 hR q1 q2 q3 q4 e8
      go_wp2_with fail
      go_region
      go_wp2_with fail
      refine ⟨⟨k + m, by omega, hm2, by simp, hR3.1, hR3.2⟩, by simp [intOf]; omega⟩
    · have hks : k = n := by omega
      subst hks
      go_wp2_with fail
      refine bodyPost_ret (v := .slice (some ⟨w.heap.size, 0, none⟩) k k) (by simp only [results, Try.results79]; go_simp) rfl ⟨_, rfl, ⟨by rw [flat_words]; simp, .inr ⟨w.heap.size, k, (rowL k k).toArray, rfl, Nat.le_refl _, hR.1, Nat.le_refl _, by unfold maxLen; omega, by simp [rowL_length], ?_⟩⟩, hR.2⟩
      simp [rowL]
      rw [List.take_of_length_le (by rw [flat_words]; simp)]

set_option maxRecDepth 100000 in
theorem repeat_none (v : Value) (w : World) (h : Sl w v encW [1]) :
    Calls Try.prog 79 #[v, .int .i64 0] w fun e w' => ∃ v', e = .returned v' ∧ w'.ownsRow w.heap.size 29 1 v' 0 [] ∧ Below w.heap.size w w' := by
  obtain ⟨i0, hi, hz0, hz1, hz2⟩ := info_parts w_info
  obtain ⟨b, off, p, cap, rfl, hp, hc⟩ := Sl.words h
  have hpp := hp (by simp)
  subst hpp
  clear hc hp
  have hm := mul_one_any 0 (by omega)
  rw [show ((0 : Nat) : Int) = 0 from rfl] at hm
  have h5 : IntKind.u64.wrap 0 = 0 := u64_wrap 0 (by omega)
  have h51 : IntKind.u64.wrap 1 = 1 := u64_wrap 1 (by omega)
  go_enter Try.func79, Try.ntmps79
  go_wp2_with (first | (go_at_call 91; refine Calls.same (hm _) ?_) | (at_make; refine wpList_make_full _ rfl _ _ 52 rfl w.heap.size 29 i0 (.int .u64 0) 1 Try.underlying52 hi hz0 hz1 .i64 .i64 _ _ 0 rfl rfl rfl rfl (by rw [hz2]; omega) (by unfold maxLen; omega) (Nat.le_refl _) ?_; intro w1 hown hgrow))
  have hB : Below w.heap.size w w1 := Below.grown (Below.refl _ _) hgrow (Nat.le_refl _) (fun k e => by cases e)
  have hcp := run_copy_none (P := Try.prog) w1 52 52 3 29 (some ⟨w.heap.size, 0, none⟩) (some ⟨b, off, none⟩) 0 0 1 cap Try.underlying52 w_size rfl
  have hA := And.intro hown hB
  clear hown hgrow hB
  rw [hcp]
  clear hcp
  go_wp2_with fail
  go_loop [8] (fun i => i = .int .i64 0) (fun _ => 0)
  case atStart => rfl
  case round =>
    subst hrel
    go_wp2_with fail
    refine bodyPost_ret (v := .slice (some ⟨w.heap.size, 0, none⟩) 0 0) (by simp only [results, Try.results79]; go_simp) rfl ⟨_, rfl, by have h9 := hA.1; rw [zeros_rep] at h9; exact h9, hA.2⟩

theorem ltop_any (what width : Int) (w : World) :
    Calls Try.prog 53 #[.int .i64 what, .int .i64 width] w fun e w' => ∃ v', e = .returned v' ∧ w'.ownsRow w.heap.size 29 1 v' (topW what width).length ((topW what width).flatMap encW) ∧ Below w.heap.size w w' := by
  obtain ⟨i0, hi, hz0, hz1, hz2⟩ := info_parts w_info
  rw [topW_length]
  have hi0 := is_any what width
  have hwl := wordsN_le what width
  have hr := words_any what width
  by_cases hz : isL what width = false ∨ what = 2
  · have hb : topW what width = List.replicate (wordsN what width) 0 := by
      unfold topW
      rcases hz with h | h
      · rw [if_neg (by rw [h]; simp)]
        have : wordsN what width = 0 := by unfold wordsN; rw [h]; rfl
        rw [this]; rfl
      · rw [if_neg (by omega), if_neg (by omega)]
    rw [hb]
    generalize wordsN what width = n at hr hwl ⊢
    cases hl : isL what width
    · rw [hl] at hi0
      clear hz hb hl
      go_enter Try.func53, Try.ntmps53
      go_wp2_with (first | (go_at_call 74; refine Calls.same (hi0 _) ?_) | (go_at_call 48; refine Calls.same (hr _) ?_) | (at_make; refine wpList_make_full _ rfl _ _ 52 rfl w.heap.size 29 i0 (.int .u64 0) 1 Try.underlying52 hi hz0 hz1 .i64 .i64 _ _ n rfl rfl rfl rfl (by rw [hz2]; omega) (by unfold maxLen; omega) (Nat.le_refl _) ?_; intro w1 hown hgrow; rw [zeros_rep] at hown))
      have hB : Below w.heap.size w w1 := Below.grown (Below.refl _ _) hgrow (Nat.le_refl _) (fun k e => by cases e)
      go_wp2_with fail
      refine bodyPost_ret (v := .slice (some ⟨w.heap.size, 0, none⟩) n n) (by simp only [results, Try.results53]; go_simp) rfl ⟨_, rfl, hown, hB⟩
    · rw [hl] at hi0
      have f2 : (what == 2) = true := by simp; rcases hz with h | h; rw [hl] at h; cases h; exact h
      clear hz hb hl
      go_enter Try.func53, Try.ntmps53
      go_wp2_with (first | (go_at_call 74; refine Calls.same (hi0 _) ?_) | (go_at_call 48; refine Calls.same (hr _) ?_) | (at_make; refine wpList_make_full _ rfl _ _ 52 rfl w.heap.size 29 i0 (.int .u64 0) 1 Try.underlying52 hi hz0 hz1 .i64 .i64 _ _ n rfl rfl rfl rfl (by rw [hz2]; omega) (by unfold maxLen; omega) (Nat.le_refl _) ?_; intro w1 hown hgrow; rw [zeros_rep] at hown))
      have hB : Below w.heap.size w w1 := Below.grown (Below.refl _ _) hgrow (Nat.le_refl _) (fun k e => by cases e)
      go_wp2_with fail
      refine bodyPost_ret (v := .slice (some ⟨w.heap.size, 0, none⟩) n n) (by simp only [results, Try.results53]; go_simp) rfl ⟨_, rfl, hown, hB⟩
  · have hl : isL what width = true := by
      cases hq : isL what width with
      | true => rfl
      | false => exact absurd (Or.inl hq) hz
    obtain ⟨h1, h2, h3⟩ := isL_facts hl
    rw [hl] at hi0
    by_cases hc : what = 1
    · subst hc
      have hb : topW 1 width = fullW width := by unfold topW; rw [if_pos ⟨hl, rfl⟩]
      rw [hb, sizeN_words hl (by omega)]
      have hf := full_any width
      clear hz hb hl h1
      go_enter Try.func53, Try.ntmps53
      go_wp2_with (first | (go_at_call 74; refine Calls.same (hi0 _) ?_) | (go_at_call 77; refine' Calls.aftS _ _ (hf _) _; rotate_left 2; (first | (with_reducible exact After.below _; rfl) | (with_reducible exact below_drew (After.below _); rfl) | (with_reducible exact below_set (After.below _) _ _; (go_simp; rfl)) | (with_reducible exact below_set (below_set (After.below _) _ _) _ _; (go_simp; rfl)) | (with_reducible exact below_set (below_set (below_set (After.below _) _ _) _ _) _ _; (go_simp; rfl)) | (with_reducible exact below_set (below_set (below_set (below_set (After.below _) _ _) _ _) _ _) _ _; (go_simp; rfl)) | (exact Below.refl _ _; rfl)); intro v1 x1 ho; have hle := After.le x1; (try simp at hle)))
      refine bodyPost_ret (v := v1) (by simp only [results, Try.results53]; go_simp) rfl ⟨_, rfl, ho, x1.below⟩
    · have h3' : what = 3 := by
        rcases h1 with h | h | h
        · exact absurd h hc
        · exact absurd (Or.inr h) hz
        · exact h
      subst h3'
      obtain ⟨n, rfl⟩ := Int.eq_ofNat_of_zero_le h2
      have hw : wordsN 3 (n : Int) = n := by unfold wordsN; rw [hl, if_pos rfl, if_pos rfl]; omega
      have hb : topW 3 (n : Int) = List.replicate n 1 := by unfold topW; rw [if_neg (by omega), hw, if_pos rfl]
      rw [hb, hw]
      have hS : Sl (w.alloc (.cells #[.int .u64 1] 29)) (.slice (some ⟨w.heap.size, 0, none⟩) 1 1) encW [1] :=
        ⟨w.heap.size, 0, _, 1, rfl, fun _ => rfl, fun j u hu => by
          rw [Nat.zero_add, cell_alloc_at rfl]
          simpa [encW] using hu⟩
      clear hz hb hl h1 hw hr
      by_cases hn0 : n = 0
      · subst hn0
        have hrp := repeat_none _ _ hS
        go_enter Try.func53, Try.ntmps53
        go_wp2_with (first | (go_at_call 74; refine Calls.same (hi0 _) ?_) | (go_at_call 79; refine' Calls.aftS _ _ (hrp) _; rotate_left 2; (first | (with_reducible exact After.below _; rfl) | (with_reducible exact below_drew (After.below _); rfl) | (with_reducible exact below_set (After.below _) _ _; (go_simp; rfl)) | (with_reducible exact below_set (below_set (After.below _) _ _) _ _; (go_simp; rfl)) | (with_reducible exact below_set (below_set (below_set (After.below _) _ _) _ _) _ _; (go_simp; rfl)) | (with_reducible exact below_set (below_set (below_set (below_set (After.below _) _ _) _ _) _ _) _ _; (go_simp; rfl)) | (exact Below.refl _ _; rfl)); intro v1 x1 ho; have hle := After.le x1; (try simp at hle)))
        refine bodyPost_ret (v := v1) (by simp only [results, Try.results53]; go_simp) rfl ⟨_, rfl, own_base ho (by simp), ?_⟩
        exact Below.trans (Below.alloc (Below.refl _ _) (Nat.le_refl _) _) (Below.mono x1.below (by simp))
      · have hrp := repeat_any n (by omega) (by omega) _ _ hS
        go_enter Try.func53, Try.ntmps53
        go_wp2_with (first | (go_at_call 74; refine Calls.same (hi0 _) ?_) | (go_at_call 79; refine' Calls.aftS _ _ (hrp) _; rotate_left 2; (first | (with_reducible exact After.below _; rfl) | (with_reducible exact below_drew (After.below _); rfl) | (with_reducible exact below_set (After.below _) _ _; (go_simp; rfl)) | (with_reducible exact below_set (below_set (After.below _) _ _) _ _; (go_simp; rfl)) | (with_reducible exact below_set (below_set (below_set (After.below _) _ _) _ _) _ _; (go_simp; rfl)) | (with_reducible exact below_set (below_set (below_set (below_set (After.below _) _ _) _ _) _ _) _ _; (go_simp; rfl)) | (exact Below.refl _ _; rfl)); intro v1 x1 ho; have hle := After.le x1; (try simp at hle)))
        refine bodyPost_ret (v := v1) (by simp only [results, Try.results53]; go_simp) rfl ⟨_, rfl, own_base ho (by simp), ?_⟩
        exact Below.trans (Below.alloc (Below.refl _ _) (Nat.le_refl _) _) (Below.mono x1.below (by simp))

end Go.Proofs.Ytjjopjpchgajcaa.Ws
