/- WALKS: wordset.both at each of its functions; Within, Fits, both Fits. -/
import Derived.Test.YtjjopjpchgajcaaDoorWordsd
namespace Go.Proofs.YtjjopjpchgajcaaDoor.Ws
set_option linter.unusedVariables false
set_option linter.unusedSimpArgs false
open Go Go.RowKit

/-- Word by word. -/
def zipW (g : Nat → Nat → Nat) (L M : List Nat) : List Nat := (List.range (max L.length M.length)).map fun i => g ((L[i]?).getD 0) ((M[i]?).getD 0)
theorem zipW_length (g : Nat → Nat → Nat) (L M : List Nat) : (zipW g L M).length = max L.length M.length := by simp [zipW]
theorem zipW_get {g : Nat → Nat → Nat} {L M : List Nat} {i : Nat} (h : i < (zipW g L M).length) : (zipW g L M)[i]'h = g ((L[i]?).getD 0) ((M[i]?).getD 0) := by simp [zipW]

def gMinus (x y : Nat) : Nat := x &&& (18446744073709551615 - y)
def gOr (x y : Nat) : Nat := x ||| y
def gAnd (x y : Nat) : Nat := x &&& y

theorem ok_at {L : List Nat} (h : okW L) (i : Nat) : (L[i]?).getD 0 < 18446744073709551616 := by
  by_cases hi : i < L.length
  · rw [List.getElem?_eq_getElem hi, Option.getD_some]; exact h _ (List.getElem_mem hi)
  · rw [List.getElem?_eq_none (by omega)]; simp

theorem minus1_any (x y : Nat) (hx : x < 18446744073709551616) (hy : y < 18446744073709551616) (w : World) :
    Calls Tryd.prog 34 #[.int .u64 x, .int .u64 y] w fun e w' => e = .returned (.int .u64 (gMinus x y : Nat)) ∧ w = w' := by
  have h1 := u64_andNot_nat x y hx hy
  rw [show x &&& (18446744073709551615 - y) = gMinus x y from rfl] at h1
  go_enter Tryd.func34, Tryd.ntmps34
  go_wp2_with fail
  go_ret
  exact ⟨rfl, rfl⟩

theorem union1_any (x y : Nat) (hx : x < 18446744073709551616) (hy : y < 18446744073709551616) (w : World) :
    Calls Tryd.prog 32 #[.int .u64 x, .int .u64 y] w fun e w' => e = .returned (.int .u64 (gOr x y : Nat)) ∧ w = w' := by
  have h1 := u64_or_nat x y hx hy
  rw [show x ||| y = gOr x y from rfl] at h1
  go_enter Tryd.func32, Tryd.ntmps32
  go_wp2_with fail
  go_ret
  exact ⟨rfl, rfl⟩

theorem inter1_any (x y : Nat) (hx : x < 18446744073709551616) (hy : y < 18446744073709551616) (w : World) :
    Calls Tryd.prog 33 #[.int .u64 x, .int .u64 y] w fun e w' => e = .returned (.int .u64 (gAnd x y : Nat)) ∧ w = w' := by
  have h1 := u64_and_nat x y hx hy
  rw [show x &&& y = gAnd x y from rfl] at h1
  go_enter Tryd.func33, Tryd.ntmps33
  go_wp2_with fail
  go_ret
  exact ⟨rfl, rfl⟩

set_option maxRecDepth 100000 in
theorem both_minus (L M : List Nat) (hL : okW L) (hM : okW M) (hl : L.length ≤ 1000000) (hm : M.length ≤ 1000000) (v v' : Value) (w : World) (h : Sl w v encW L) (h' : Sl w v' encW M) :
    Calls Tryd.prog 31 #[v, v', .func (.func 34) #[] #[]] w fun e w' => ∃ o, e = .returned o ∧ w'.ownsRow w.heap.size 39 1 o (zipW gMinus L M).length ((zipW gMinus L M).flatMap encW) ∧ Below w.heap.size w w' := by
  obtain ⟨i0, hi, hz0, hz1, hz2⟩ := info_parts w_info
  obtain ⟨p, cap, hv⟩ : ∃ p cap, v = .slice p L.length cap := by obtain ⟨b, off, p, cap, hv, _⟩ := h; exact ⟨p, cap, hv⟩
  obtain ⟨p', cap', hv'⟩ : ∃ p cap, v' = .slice p M.length cap := by obtain ⟨b, off, p, cap, hv, _⟩ := h'; exact ⟨p, cap, hv⟩
  have hzl := zipW_length gMinus L M
  subst hv hv'
  rcases Nat.lt_or_ge L.length M.length with hlm | hlm
  · have hzn : (zipW gMinus L M).length = M.length := by omega
    rw [hzn]
    have hlm2 : (L.length : Int) < M.length := by omega
    have hZ := And.intro True.intro hzn
    clear hzl hzn
    go_enter Tryd.func31, Tryd.ntmps31
    go_wp2_with fail
    go_loopw [7, 14] (fun o i wr => ∃ k : Nat, k ≤ M.length ∧ i = .int .i64 k ∧ wr.ownsRow w.heap.size 39 1 o k (((zipW gMinus L M).take k).flatMap encW) ∧ Below w.heap.size w wr) (fun _ i _ => M.length - (intOf i).toNat)
    case atStart => exact ⟨0, Nat.zero_le _, rfl, World.ownsRow_nil _ _ _ _, Below.refl _ _⟩
    case round =>
      obtain ⟨k, hk, rfl, hown, hB⟩ := hrel
      by_cases hlt : k < M.length
      · have h1 := word_any L k _ wr (h.below hB)
        have h2 := word_any M k _ wr (h'.below hB)
        have h3 := minus1_any _ _ (ok_at hL k) (ok_at hM k) wr
        have hz : (zipW gMinus L M).take (k + 1) = (zipW gMinus L M).take k ++ [gMinus ((L[k]?).getD 0) ((M[k]?).getD 0)] := by
          rw [List.take_succ_eq_append_getElem (by rw [hZ.2]; exact hlt), zipW_get]
        have hw := hB.size
        generalize (L[k]?).getD 0 = x at h1 h3 hz
        generalize (M[k]?).getD 0 = y at h2 h3 hz
        have hZ2 := And.intro True.intro hz
        clear hz
        go_wp2_with (first | (go_at_call 35; first | (with_reducible refine Calls.same h1 ?_) | (with_reducible refine Calls.same h2 ?_)) | (go_at_call 34; refine Calls.same (h3) ?_) | (at_builtin; refine wpList_append_own _ rfl _ _ 23 rfl w.heap.size 39 i0 (.int .u64 0) 1 8 Tryd.underlying23 hi hz0 hz1 hz2 rfl (by decide) _ k (((zipW gMinus L M).take k).flatMap encW) rfl (hown.alloc _) _ 1 1 [.int .u64 (gMinus x y : Nat)] rfl rfl (news_at rfl) (by intro u hu; simp at hu; subst hu; rfl) (by unfold maxLen; omega) (by omega) (by simp; omega) ?_; intro v2 w1 hown' hgrow _))
        have hlt1 := hown.lt
        have hB2 : Below w.heap.size w w1 := Below.grown (w := _) (hB.alloc hw _) hgrow (by simp; omega) (fun q hq => (hlt1 q hq).1)
        go_wp2_with fail
        go_roundw
        case rel => exact ⟨k + 1, by omega, by simp, by rw [hZ2.2, List.flatMap_append]; exact hown', hB2⟩
        case measure => simp [intOf]; omega
      · have hks : k = M.length := by omega
        rw [hks, List.take_of_length_le (by omega)] at hown
        go_wp2_with fail
        refine bodyPost_ret (v := u7) (by simp only [results, Tryd.results31]; go_simp) rfl ⟨_, rfl, hown, hB⟩
  · have hzn : (zipW gMinus L M).length = L.length := by omega
    rw [hzn]
    have hlm2 : ¬ (L.length : Int) < M.length := by omega
    have hZ := And.intro True.intro hzn
    clear hzl hzn
    go_enter Tryd.func31, Tryd.ntmps31
    go_wp2_with fail
    go_loopw [7, 14] (fun o i wr => ∃ k : Nat, k ≤ L.length ∧ i = .int .i64 k ∧ wr.ownsRow w.heap.size 39 1 o k (((zipW gMinus L M).take k).flatMap encW) ∧ Below w.heap.size w wr) (fun _ i _ => L.length - (intOf i).toNat)
    case atStart => exact ⟨0, Nat.zero_le _, rfl, World.ownsRow_nil _ _ _ _, Below.refl _ _⟩
    case round =>
      obtain ⟨k, hk, rfl, hown, hB⟩ := hrel
      by_cases hlt : k < L.length
      · have h1 := word_any L k _ wr (h.below hB)
        have h2 := word_any M k _ wr (h'.below hB)
        have h3 := minus1_any _ _ (ok_at hL k) (ok_at hM k) wr
        have hz : (zipW gMinus L M).take (k + 1) = (zipW gMinus L M).take k ++ [gMinus ((L[k]?).getD 0) ((M[k]?).getD 0)] := by
          rw [List.take_succ_eq_append_getElem (by rw [hZ.2]; exact hlt), zipW_get]
        have hw := hB.size
        generalize (L[k]?).getD 0 = x at h1 h3 hz
        generalize (M[k]?).getD 0 = y at h2 h3 hz
        have hZ2 := And.intro True.intro hz
        clear hz
        go_wp2_with (first | (go_at_call 35; first | (with_reducible refine Calls.same h1 ?_) | (with_reducible refine Calls.same h2 ?_)) | (go_at_call 34; refine Calls.same (h3) ?_) | (at_builtin; refine wpList_append_own _ rfl _ _ 23 rfl w.heap.size 39 i0 (.int .u64 0) 1 8 Tryd.underlying23 hi hz0 hz1 hz2 rfl (by decide) _ k (((zipW gMinus L M).take k).flatMap encW) rfl (hown.alloc _) _ 1 1 [.int .u64 (gMinus x y : Nat)] rfl rfl (news_at rfl) (by intro u hu; simp at hu; subst hu; rfl) (by unfold maxLen; omega) (by omega) (by simp; omega) ?_; intro v2 w1 hown' hgrow _))
        have hlt1 := hown.lt
        have hB2 : Below w.heap.size w w1 := Below.grown (w := _) (hB.alloc hw _) hgrow (by simp; omega) (fun q hq => (hlt1 q hq).1)
        go_wp2_with fail
        go_roundw
        case rel => exact ⟨k + 1, by omega, by simp, by rw [hZ2.2, List.flatMap_append]; exact hown', hB2⟩
        case measure => simp [intOf]; omega
      · have hks : k = L.length := by omega
        rw [hks, List.take_of_length_le (by omega)] at hown
        go_wp2_with fail
        refine bodyPost_ret (v := u7) (by simp only [results, Tryd.results31]; go_simp) rfl ⟨_, rfl, hown, hB⟩

theorem minus_any (L M : List Nat) (hL : okW L) (hM : okW M) (hl : L.length ≤ 1000000) (hm : M.length ≤ 1000000) (v v' : Value) (w : World) (h : Sl w v encW L) (h' : Sl w v' encW M) :
    Calls Tryd.prog 20 #[v, v'] w fun e w' => ∃ o, e = .returned o ∧ w'.ownsRow w.heap.size 39 1 o (zipW gMinus L M).length ((zipW gMinus L M).flatMap encW) ∧ Below w.heap.size w w' := by
  have hb := both_minus L M hL hM hl hm v v' w h h'
  go_enter Tryd.func20, Tryd.ntmps20
  go_wp2_with ((go_at_call 31; refine' Calls.aftS _ _ (hb) _; rotate_left 2; (first | (with_reducible exact After.below _; rfl) | (with_reducible exact below_drew (After.below _); rfl) | (with_reducible exact below_set (After.below _) _ _; (go_simp; rfl)) | (with_reducible exact below_set (below_set (After.below _) _ _) _ _; (go_simp; rfl)) | (with_reducible exact below_set (below_set (below_set (After.below _) _ _) _ _) _ _; (go_simp; rfl)) | (with_reducible exact below_set (below_set (below_set (below_set (After.below _) _ _) _ _) _ _) _ _; (go_simp; rfl)) | (exact Below.refl _ _; rfl)); intro o x1 ho; have hle := After.le x1; (try simp at hle)))
  refine bodyPost_ret (v := o) (by simp only [results, Tryd.results20]; go_simp) rfl ⟨_, rfl, ho, x1.below⟩

set_option maxRecDepth 100000 in
theorem both_union (L M : List Nat) (hL : okW L) (hM : okW M) (hl : L.length ≤ 1000000) (hm : M.length ≤ 1000000) (v v' : Value) (w : World) (h : Sl w v encW L) (h' : Sl w v' encW M) :
    Calls Tryd.prog 31 #[v, v', .func (.func 32) #[] #[]] w fun e w' => ∃ o, e = .returned o ∧ w'.ownsRow w.heap.size 39 1 o (zipW gOr L M).length ((zipW gOr L M).flatMap encW) ∧ Below w.heap.size w w' := by
  obtain ⟨i0, hi, hz0, hz1, hz2⟩ := info_parts w_info
  obtain ⟨p, cap, hv⟩ : ∃ p cap, v = .slice p L.length cap := by obtain ⟨b, off, p, cap, hv, _⟩ := h; exact ⟨p, cap, hv⟩
  obtain ⟨p', cap', hv'⟩ : ∃ p cap, v' = .slice p M.length cap := by obtain ⟨b, off, p, cap, hv, _⟩ := h'; exact ⟨p, cap, hv⟩
  have hzl := zipW_length gOr L M
  subst hv hv'
  rcases Nat.lt_or_ge L.length M.length with hlm | hlm
  · have hzn : (zipW gOr L M).length = M.length := by omega
    rw [hzn]
    have hlm2 : (L.length : Int) < M.length := by omega
    have hZ := And.intro True.intro hzn
    clear hzl hzn
    go_enter Tryd.func31, Tryd.ntmps31
    go_wp2_with fail
    go_loopw [7, 14] (fun o i wr => ∃ k : Nat, k ≤ M.length ∧ i = .int .i64 k ∧ wr.ownsRow w.heap.size 39 1 o k (((zipW gOr L M).take k).flatMap encW) ∧ Below w.heap.size w wr) (fun _ i _ => M.length - (intOf i).toNat)
    case atStart => exact ⟨0, Nat.zero_le _, rfl, World.ownsRow_nil _ _ _ _, Below.refl _ _⟩
    case round =>
      obtain ⟨k, hk, rfl, hown, hB⟩ := hrel
      by_cases hlt : k < M.length
      · have h1 := word_any L k _ wr (h.below hB)
        have h2 := word_any M k _ wr (h'.below hB)
        have h3 := union1_any _ _ (ok_at hL k) (ok_at hM k) wr
        have hz : (zipW gOr L M).take (k + 1) = (zipW gOr L M).take k ++ [gOr ((L[k]?).getD 0) ((M[k]?).getD 0)] := by
          rw [List.take_succ_eq_append_getElem (by rw [hZ.2]; exact hlt), zipW_get]
        have hw := hB.size
        generalize (L[k]?).getD 0 = x at h1 h3 hz
        generalize (M[k]?).getD 0 = y at h2 h3 hz
        have hZ2 := And.intro True.intro hz
        clear hz
        go_wp2_with (first | (go_at_call 35; first | (with_reducible refine Calls.same h1 ?_) | (with_reducible refine Calls.same h2 ?_)) | (go_at_call 32; refine Calls.same (h3) ?_) | (at_builtin; refine wpList_append_own _ rfl _ _ 23 rfl w.heap.size 39 i0 (.int .u64 0) 1 8 Tryd.underlying23 hi hz0 hz1 hz2 rfl (by decide) _ k (((zipW gOr L M).take k).flatMap encW) rfl (hown.alloc _) _ 1 1 [.int .u64 (gOr x y : Nat)] rfl rfl (news_at rfl) (by intro u hu; simp at hu; subst hu; rfl) (by unfold maxLen; omega) (by omega) (by simp; omega) ?_; intro v2 w1 hown' hgrow _))
        have hlt1 := hown.lt
        have hB2 : Below w.heap.size w w1 := Below.grown (w := _) (hB.alloc hw _) hgrow (by simp; omega) (fun q hq => (hlt1 q hq).1)
        go_wp2_with fail
        go_roundw
        case rel => exact ⟨k + 1, by omega, by simp, by rw [hZ2.2, List.flatMap_append]; exact hown', hB2⟩
        case measure => simp [intOf]; omega
      · have hks : k = M.length := by omega
        rw [hks, List.take_of_length_le (by omega)] at hown
        go_wp2_with fail
        refine bodyPost_ret (v := u7) (by simp only [results, Tryd.results31]; go_simp) rfl ⟨_, rfl, hown, hB⟩
  · have hzn : (zipW gOr L M).length = L.length := by omega
    rw [hzn]
    have hlm2 : ¬ (L.length : Int) < M.length := by omega
    have hZ := And.intro True.intro hzn
    clear hzl hzn
    go_enter Tryd.func31, Tryd.ntmps31
    go_wp2_with fail
    go_loopw [7, 14] (fun o i wr => ∃ k : Nat, k ≤ L.length ∧ i = .int .i64 k ∧ wr.ownsRow w.heap.size 39 1 o k (((zipW gOr L M).take k).flatMap encW) ∧ Below w.heap.size w wr) (fun _ i _ => L.length - (intOf i).toNat)
    case atStart => exact ⟨0, Nat.zero_le _, rfl, World.ownsRow_nil _ _ _ _, Below.refl _ _⟩
    case round =>
      obtain ⟨k, hk, rfl, hown, hB⟩ := hrel
      by_cases hlt : k < L.length
      · have h1 := word_any L k _ wr (h.below hB)
        have h2 := word_any M k _ wr (h'.below hB)
        have h3 := union1_any _ _ (ok_at hL k) (ok_at hM k) wr
        have hz : (zipW gOr L M).take (k + 1) = (zipW gOr L M).take k ++ [gOr ((L[k]?).getD 0) ((M[k]?).getD 0)] := by
          rw [List.take_succ_eq_append_getElem (by rw [hZ.2]; exact hlt), zipW_get]
        have hw := hB.size
        generalize (L[k]?).getD 0 = x at h1 h3 hz
        generalize (M[k]?).getD 0 = y at h2 h3 hz
        have hZ2 := And.intro True.intro hz
        clear hz
        go_wp2_with (first | (go_at_call 35; first | (with_reducible refine Calls.same h1 ?_) | (with_reducible refine Calls.same h2 ?_)) | (go_at_call 32; refine Calls.same (h3) ?_) | (at_builtin; refine wpList_append_own _ rfl _ _ 23 rfl w.heap.size 39 i0 (.int .u64 0) 1 8 Tryd.underlying23 hi hz0 hz1 hz2 rfl (by decide) _ k (((zipW gOr L M).take k).flatMap encW) rfl (hown.alloc _) _ 1 1 [.int .u64 (gOr x y : Nat)] rfl rfl (news_at rfl) (by intro u hu; simp at hu; subst hu; rfl) (by unfold maxLen; omega) (by omega) (by simp; omega) ?_; intro v2 w1 hown' hgrow _))
        have hlt1 := hown.lt
        have hB2 : Below w.heap.size w w1 := Below.grown (w := _) (hB.alloc hw _) hgrow (by simp; omega) (fun q hq => (hlt1 q hq).1)
        go_wp2_with fail
        go_roundw
        case rel => exact ⟨k + 1, by omega, by simp, by rw [hZ2.2, List.flatMap_append]; exact hown', hB2⟩
        case measure => simp [intOf]; omega
      · have hks : k = L.length := by omega
        rw [hks, List.take_of_length_le (by omega)] at hown
        go_wp2_with fail
        refine bodyPost_ret (v := u7) (by simp only [results, Tryd.results31]; go_simp) rfl ⟨_, rfl, hown, hB⟩

theorem union_any (L M : List Nat) (hL : okW L) (hM : okW M) (hl : L.length ≤ 1000000) (hm : M.length ≤ 1000000) (v v' : Value) (w : World) (h : Sl w v encW L) (h' : Sl w v' encW M) :
    Calls Tryd.prog 18 #[v, v'] w fun e w' => ∃ o, e = .returned o ∧ w'.ownsRow w.heap.size 39 1 o (zipW gOr L M).length ((zipW gOr L M).flatMap encW) ∧ Below w.heap.size w w' := by
  have hb := both_union L M hL hM hl hm v v' w h h'
  go_enter Tryd.func18, Tryd.ntmps18
  go_wp2_with ((go_at_call 31; refine' Calls.aftS _ _ (hb) _; rotate_left 2; (first | (with_reducible exact After.below _; rfl) | (with_reducible exact below_drew (After.below _); rfl) | (with_reducible exact below_set (After.below _) _ _; (go_simp; rfl)) | (with_reducible exact below_set (below_set (After.below _) _ _) _ _; (go_simp; rfl)) | (with_reducible exact below_set (below_set (below_set (After.below _) _ _) _ _) _ _; (go_simp; rfl)) | (with_reducible exact below_set (below_set (below_set (below_set (After.below _) _ _) _ _) _ _) _ _; (go_simp; rfl)) | (exact Below.refl _ _; rfl)); intro o x1 ho; have hle := After.le x1; (try simp at hle)))
  refine bodyPost_ret (v := o) (by simp only [results, Tryd.results18]; go_simp) rfl ⟨_, rfl, ho, x1.below⟩

set_option maxRecDepth 100000 in
theorem both_inter (L M : List Nat) (hL : okW L) (hM : okW M) (hl : L.length ≤ 1000000) (hm : M.length ≤ 1000000) (v v' : Value) (w : World) (h : Sl w v encW L) (h' : Sl w v' encW M) :
    Calls Tryd.prog 31 #[v, v', .func (.func 33) #[] #[]] w fun e w' => ∃ o, e = .returned o ∧ w'.ownsRow w.heap.size 39 1 o (zipW gAnd L M).length ((zipW gAnd L M).flatMap encW) ∧ Below w.heap.size w w' := by
  obtain ⟨i0, hi, hz0, hz1, hz2⟩ := info_parts w_info
  obtain ⟨p, cap, hv⟩ : ∃ p cap, v = .slice p L.length cap := by obtain ⟨b, off, p, cap, hv, _⟩ := h; exact ⟨p, cap, hv⟩
  obtain ⟨p', cap', hv'⟩ : ∃ p cap, v' = .slice p M.length cap := by obtain ⟨b, off, p, cap, hv, _⟩ := h'; exact ⟨p, cap, hv⟩
  have hzl := zipW_length gAnd L M
  subst hv hv'
  rcases Nat.lt_or_ge L.length M.length with hlm | hlm
  · have hzn : (zipW gAnd L M).length = M.length := by omega
    rw [hzn]
    have hlm2 : (L.length : Int) < M.length := by omega
    have hZ := And.intro True.intro hzn
    clear hzl hzn
    go_enter Tryd.func31, Tryd.ntmps31
    go_wp2_with fail
    go_loopw [7, 14] (fun o i wr => ∃ k : Nat, k ≤ M.length ∧ i = .int .i64 k ∧ wr.ownsRow w.heap.size 39 1 o k (((zipW gAnd L M).take k).flatMap encW) ∧ Below w.heap.size w wr) (fun _ i _ => M.length - (intOf i).toNat)
    case atStart => exact ⟨0, Nat.zero_le _, rfl, World.ownsRow_nil _ _ _ _, Below.refl _ _⟩
    case round =>
      obtain ⟨k, hk, rfl, hown, hB⟩ := hrel
      by_cases hlt : k < M.length
      · have h1 := word_any L k _ wr (h.below hB)
        have h2 := word_any M k _ wr (h'.below hB)
        have h3 := inter1_any _ _ (ok_at hL k) (ok_at hM k) wr
        have hz : (zipW gAnd L M).take (k + 1) = (zipW gAnd L M).take k ++ [gAnd ((L[k]?).getD 0) ((M[k]?).getD 0)] := by
          rw [List.take_succ_eq_append_getElem (by rw [hZ.2]; exact hlt), zipW_get]
        have hw := hB.size
        generalize (L[k]?).getD 0 = x at h1 h3 hz
        generalize (M[k]?).getD 0 = y at h2 h3 hz
        have hZ2 := And.intro True.intro hz
        clear hz
        go_wp2_with (first | (go_at_call 35; first | (with_reducible refine Calls.same h1 ?_) | (with_reducible refine Calls.same h2 ?_)) | (go_at_call 33; refine Calls.same (h3) ?_) | (at_builtin; refine wpList_append_own _ rfl _ _ 23 rfl w.heap.size 39 i0 (.int .u64 0) 1 8 Tryd.underlying23 hi hz0 hz1 hz2 rfl (by decide) _ k (((zipW gAnd L M).take k).flatMap encW) rfl (hown.alloc _) _ 1 1 [.int .u64 (gAnd x y : Nat)] rfl rfl (news_at rfl) (by intro u hu; simp at hu; subst hu; rfl) (by unfold maxLen; omega) (by omega) (by simp; omega) ?_; intro v2 w1 hown' hgrow _))
        have hlt1 := hown.lt
        have hB2 : Below w.heap.size w w1 := Below.grown (w := _) (hB.alloc hw _) hgrow (by simp; omega) (fun q hq => (hlt1 q hq).1)
        go_wp2_with fail
        go_roundw
        case rel => exact ⟨k + 1, by omega, by simp, by rw [hZ2.2, List.flatMap_append]; exact hown', hB2⟩
        case measure => simp [intOf]; omega
      · have hks : k = M.length := by omega
        rw [hks, List.take_of_length_le (by omega)] at hown
        go_wp2_with fail
        refine bodyPost_ret (v := u7) (by simp only [results, Tryd.results31]; go_simp) rfl ⟨_, rfl, hown, hB⟩
  · have hzn : (zipW gAnd L M).length = L.length := by omega
    rw [hzn]
    have hlm2 : ¬ (L.length : Int) < M.length := by omega
    have hZ := And.intro True.intro hzn
    clear hzl hzn
    go_enter Tryd.func31, Tryd.ntmps31
    go_wp2_with fail
    go_loopw [7, 14] (fun o i wr => ∃ k : Nat, k ≤ L.length ∧ i = .int .i64 k ∧ wr.ownsRow w.heap.size 39 1 o k (((zipW gAnd L M).take k).flatMap encW) ∧ Below w.heap.size w wr) (fun _ i _ => L.length - (intOf i).toNat)
    case atStart => exact ⟨0, Nat.zero_le _, rfl, World.ownsRow_nil _ _ _ _, Below.refl _ _⟩
    case round =>
      obtain ⟨k, hk, rfl, hown, hB⟩ := hrel
      by_cases hlt : k < L.length
      · have h1 := word_any L k _ wr (h.below hB)
        have h2 := word_any M k _ wr (h'.below hB)
        have h3 := inter1_any _ _ (ok_at hL k) (ok_at hM k) wr
        have hz : (zipW gAnd L M).take (k + 1) = (zipW gAnd L M).take k ++ [gAnd ((L[k]?).getD 0) ((M[k]?).getD 0)] := by
          rw [List.take_succ_eq_append_getElem (by rw [hZ.2]; exact hlt), zipW_get]
        have hw := hB.size
        generalize (L[k]?).getD 0 = x at h1 h3 hz
        generalize (M[k]?).getD 0 = y at h2 h3 hz
        have hZ2 := And.intro True.intro hz
        clear hz
        go_wp2_with (first | (go_at_call 35; first | (with_reducible refine Calls.same h1 ?_) | (with_reducible refine Calls.same h2 ?_)) | (go_at_call 33; refine Calls.same (h3) ?_) | (at_builtin; refine wpList_append_own _ rfl _ _ 23 rfl w.heap.size 39 i0 (.int .u64 0) 1 8 Tryd.underlying23 hi hz0 hz1 hz2 rfl (by decide) _ k (((zipW gAnd L M).take k).flatMap encW) rfl (hown.alloc _) _ 1 1 [.int .u64 (gAnd x y : Nat)] rfl rfl (news_at rfl) (by intro u hu; simp at hu; subst hu; rfl) (by unfold maxLen; omega) (by omega) (by simp; omega) ?_; intro v2 w1 hown' hgrow _))
        have hlt1 := hown.lt
        have hB2 : Below w.heap.size w w1 := Below.grown (w := _) (hB.alloc hw _) hgrow (by simp; omega) (fun q hq => (hlt1 q hq).1)
        go_wp2_with fail
        go_roundw
        case rel => exact ⟨k + 1, by omega, by simp, by rw [hZ2.2, List.flatMap_append]; exact hown', hB2⟩
        case measure => simp [intOf]; omega
      · have hks : k = L.length := by omega
        rw [hks, List.take_of_length_le (by omega)] at hown
        go_wp2_with fail
        refine bodyPost_ret (v := u7) (by simp only [results, Tryd.results31]; go_simp) rfl ⟨_, rfl, hown, hB⟩

theorem inter_any (L M : List Nat) (hL : okW L) (hM : okW M) (hl : L.length ≤ 1000000) (hm : M.length ≤ 1000000) (v v' : Value) (w : World) (h : Sl w v encW L) (h' : Sl w v' encW M) :
    Calls Tryd.prog 19 #[v, v'] w fun e w' => ∃ o, e = .returned o ∧ w'.ownsRow w.heap.size 39 1 o (zipW gAnd L M).length ((zipW gAnd L M).flatMap encW) ∧ Below w.heap.size w w' := by
  have hb := both_inter L M hL hM hl hm v v' w h h'
  go_enter Tryd.func19, Tryd.ntmps19
  go_wp2_with ((go_at_call 31; refine' Calls.aftS _ _ (hb) _; rotate_left 2; (first | (with_reducible exact After.below _; rfl) | (with_reducible exact below_drew (After.below _); rfl) | (with_reducible exact below_set (After.below _) _ _; (go_simp; rfl)) | (with_reducible exact below_set (below_set (After.below _) _ _) _ _; (go_simp; rfl)) | (with_reducible exact below_set (below_set (below_set (After.below _) _ _) _ _) _ _; (go_simp; rfl)) | (with_reducible exact below_set (below_set (below_set (below_set (After.below _) _ _) _ _) _ _) _ _; (go_simp; rfl)) | (exact Below.refl _ _; rfl)); intro o x1 ho; have hle := After.le x1; (try simp at hle)))
  refine bodyPost_ret (v := o) (by simp only [results, Tryd.results19]; go_simp) rfl ⟨_, rfl, ho, x1.below⟩

end Go.Proofs.YtjjopjpchgajcaaDoor.Ws
