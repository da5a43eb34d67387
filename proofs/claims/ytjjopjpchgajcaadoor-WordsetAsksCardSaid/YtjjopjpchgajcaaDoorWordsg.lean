/- WALKS of package wordset and its reference that the laws of chapter 10 ask for: Same, Ints, List of the reference; Of, Has, Both. -/
import Derived.Test.YtjjopjpchgajcaaDoorWordsf
namespace Go.Proofs.YtjjopjpchgajcaaDoor.Ws
set_option linter.unusedVariables false
set_option linter.unusedSimpArgs false
open Go Go.RowKit

theorem i_info : (Tryd.prog.info? 3).map (fun i => (i.zero, i.size, i.bytes)) = some (some (.int .i64 0), 1, 8) := by kernel_rfl

theorem flat_ints (M : List Int) : M.flatMap encI = M.map fun y : Int => Value.int .i64 y := by
  induction M with
  | nil => rfl
  | cons y M ih => simp only [List.flatMap_cons, ih, encI]; rfl

/-- Words that are alike: told. -/
theorem rsame2_any (L M : List Nat) (hl : L.length ≤ 1000000) (v v' : Value) (w : World) (h : Sl w v encW L) (h' : Sl w v' encW M) :
    Calls Tryd.prog 10 #[v, v'] w fun e w' => e = .returned (.bool (decide (L = M))) ∧ Below w.heap.size w w' := by
  obtain ⟨b, off, p, cap, rfl, hp, hc⟩ := Sl.words h
  obtain ⟨b', off', p', cap', rfl, hp', hc'⟩ := Sl.words h'
  by_cases hn : L.length = M.length
  · have hN : Hid (L.length = M.length) := hn
    have f1 : ((L.length : Int) != (M.length : Int)) = false := by simp [hn]
    clear hn
    go_enter Tryd.func10, Tryd.ntmps10
    go_wp2_with fail
    go_loopw [13] (fun i wr => ∃ k : Nat, k ≤ L.length ∧ i = .int .i64 k ∧ L.take k = M.take k ∧ Below w.heap.size w wr) (fun i _ => L.length - (intOf i).toNat)
    case atStart => exact ⟨0, Nat.zero_le _, rfl, rfl, Below.refl _ _⟩
    case round =>
      obtain ⟨k, hk, rfl, hsame, hB⟩ := hrel
      have hS : Hid (L.take k = M.take k) := hsame
      clear hsame
      by_cases hlt : k < L.length
      · have hlt' : k < M.length := by have h9 : L.length = M.length := hN; omega
        have hltM : (k : Int) < M.length := by omega
        have hpp := hp (by omega)
        have hpp' := hp' (by omega)
        subst hpp hpp'
        have c0 := hc k hlt
        have c1 := hc' k hlt'
        have hg := World.block_lt_of_cell? _ _ c0
        have hg' := World.block_lt_of_cell? _ _ c1
        have c2 := (hB.cell (p := ⟨b, off + k, none⟩) hg).trans c0
        have c3 := (hB.cell (p := ⟨b', off' + k, none⟩) hg').trans c1
        have hgw := World.block_lt_of_cell? _ _ c2
        have hgw' := World.block_lt_of_cell? _ _ c3
        have hT1 : Hid (L.take (k + 1) = L.take k ++ [L[k]'hlt]) := List.take_succ_eq_append_getElem hlt
        have hT2 : Hid (M.take (k + 1) = M.take k ++ [M[k]'hlt']) := List.take_succ_eq_append_getElem hlt'
        have hne : Hid (¬ (L[k]'hlt) = (M[k]'hlt') → ¬ L = M) := fun h9 h8 => by subst h8; exact h9 rfl
        clear hc hc' c0 c1
        generalize L[k]'hlt = x at c2 hT1 hne
        generalize M[k]'hlt' = y at c3 hT2 hne
        by_cases hxy : x = y
        · have f2 : ((x : Int) != (y : Int)) = false := by simp [hxy]
          have hX : Hid (x = y) := hxy
          clear hxy
          go_wp2_with fail
          refine' region_whole _ _ (by kernel_rfl) (by kernel_rfl) _; rotate_left 2; (first | (with_reducible exact After.below _; rfl) | (with_reducible exact below_drew (After.below _); rfl) | (with_reducible exact below_set (After.below _) _ _; (go_simp; rfl)) | (with_reducible exact below_set (below_set (After.below _) _ _) _ _; (go_simp; rfl)) | (with_reducible exact below_set (below_set (below_set (After.below _) _ _) _ _) _ _; (go_simp; rfl)) | (with_reducible exact below_set (below_set (below_set (below_set (After.below _) _ _) _ _) _ _) _ _; (go_simp; rfl)) | (exact Below.refl _ _; rfl)); (repeat (go_big_quiet_step (first | fail))); refine wpQuiet_nil ?_; intro z
          go_wp2_with fail
          go_roundw
          case rel =>
            have hz := z.le
            refine ⟨k + 1, by omega, by simp, ?_, hB.trans (Below.mono (After.below z) hB.size)⟩
            rw [hT1, hT2, hS, hX]
          case measure => simp [intOf]; omega
        · have f2 : ((x : Int) != (y : Int)) = true := by simp; omega
          have hX : Hid (¬ x = y) := hxy
          clear hxy
          go_wp2_with fail
          refine' region_whole _ _ (by kernel_rfl) (by kernel_rfl) _; rotate_left 2; (first | (with_reducible exact After.below _; rfl) | (with_reducible exact below_drew (After.below _); rfl) | (with_reducible exact below_set (After.below _) _ _; (go_simp; rfl)) | (with_reducible exact below_set (below_set (After.below _) _ _) _ _; (go_simp; rfl)) | (with_reducible exact below_set (below_set (below_set (After.below _) _ _) _ _) _ _; (go_simp; rfl)) | (with_reducible exact below_set (below_set (below_set (below_set (After.below _) _ _) _ _) _ _) _ _; (go_simp; rfl)) | (exact Below.refl _ _; rfl)); (repeat (go_big_quiet_step (first | fail))); refine wpQuiet_nil ?_; intro z
          go_wp2_with fail
          have hz := z.le
          refine bodyPost_ret (v := .bool false) (by simp only [results, Tryd.results10]; go_simp) rfl ⟨?_, hB.trans (Below.mono (After.below z) hB.size)⟩
          have h8 : ¬ L = M := (show ¬ x = y → ¬ L = M from hne) hX
          rw [decide_eq_false h8]
      · have hq : Hid (L = M) := by
          have h9 : L.length = M.length := hN
          have h8 : L.take k = M.take k := hS
          rwa [List.take_of_length_le (by omega), List.take_of_length_le (by omega)] at h8
        clear hc hc'
        go_wp2_with fail
        refine bodyPost_ret (v := .bool true) (by simp only [results, Tryd.results10]; go_simp) rfl ⟨?_, hB⟩
        rw [decide_eq_true (show L = M from hq)]
  · have f1 : ((L.length : Int) != (M.length : Int)) = true := by simp; omega
    have e : decide (L = M) = false := decide_eq_false fun h9 => hn (by rw [h9])
    rw [e]
    clear hn e hc hc'
    go_enter Tryd.func10, Tryd.ntmps10
    go_wp2_with fail
    refine bodyPost_ret (v := .bool false) (by simp only [results, Tryd.results10]; go_simp) rfl ⟨rfl, Below.refl _ _⟩


/-- Numbers that are alike: told. -/
theorem ints_any (L M : List Int) (hl : L.length ≤ 1000000) (v v' : Value) (w : World) (h : Sl w v encI L) (h' : Sl w v' encI M) :
    Calls Tryd.prog 25 #[v, v'] w fun e w' => e = .returned (.bool (decide (L = M))) ∧ Below w.heap.size w w' := by
  obtain ⟨b, off, p, cap, rfl, hp, hc⟩ := Sl.ints h
  obtain ⟨b', off', p', cap', rfl, hp', hc'⟩ := Sl.ints h'
  by_cases hn : L.length = M.length
  · have hN : Hid (L.length = M.length) := hn
    have f1 : ((L.length : Int) != (M.length : Int)) = false := by simp [hn]
    clear hn
    go_enter Tryd.func25, Tryd.ntmps25
    go_wp2_with fail
    go_loopw [13] (fun i wr => ∃ k : Nat, k ≤ L.length ∧ i = .int .i64 k ∧ L.take k = M.take k ∧ Below w.heap.size w wr) (fun i _ => L.length - (intOf i).toNat)
    case atStart => exact ⟨0, Nat.zero_le _, rfl, rfl, Below.refl _ _⟩
    case round =>
      obtain ⟨k, hk, rfl, hsame, hB⟩ := hrel
      have hS : Hid (L.take k = M.take k) := hsame
      clear hsame
      by_cases hlt : k < L.length
      · have hlt' : k < M.length := by have h9 : L.length = M.length := hN; omega
        have hltM : (k : Int) < M.length := by omega
        have hpp := hp (by omega)
        have hpp' := hp' (by omega)
        subst hpp hpp'
        have c0 := hc k hlt
        have c1 := hc' k hlt'
        have hg := World.block_lt_of_cell? _ _ c0
        have hg' := World.block_lt_of_cell? _ _ c1
        have c2 := (hB.cell (p := ⟨b, off + k, none⟩) hg).trans c0
        have c3 := (hB.cell (p := ⟨b', off' + k, none⟩) hg').trans c1
        have hgw := World.block_lt_of_cell? _ _ c2
        have hgw' := World.block_lt_of_cell? _ _ c3
        have hT1 : Hid (L.take (k + 1) = L.take k ++ [L[k]'hlt]) := List.take_succ_eq_append_getElem hlt
        have hT2 : Hid (M.take (k + 1) = M.take k ++ [M[k]'hlt']) := List.take_succ_eq_append_getElem hlt'
        have hne : Hid (¬ (L[k]'hlt) = (M[k]'hlt') → ¬ L = M) := fun h9 h8 => by subst h8; exact h9 rfl
        clear hc hc' c0 c1
        generalize L[k]'hlt = x at c2 hT1 hne
        generalize M[k]'hlt' = y at c3 hT2 hne
        by_cases hxy : x = y
        · have f2 : ((x : Int) != (y : Int)) = false := by simp [hxy]
          have hX : Hid (x = y) := hxy
          clear hxy
          go_wp2_with fail
          refine' region_whole _ _ (by kernel_rfl) (by kernel_rfl) _; rotate_left 2; (first | (with_reducible exact After.below _; rfl) | (with_reducible exact below_drew (After.below _); rfl) | (with_reducible exact below_set (After.below _) _ _; (go_simp; rfl)) | (with_reducible exact below_set (below_set (After.below _) _ _) _ _; (go_simp; rfl)) | (with_reducible exact below_set (below_set (below_set (After.below _) _ _) _ _) _ _; (go_simp; rfl)) | (with_reducible exact below_set (below_set (below_set (below_set (After.below _) _ _) _ _) _ _) _ _; (go_simp; rfl)) | (exact Below.refl _ _; rfl)); (repeat (go_big_quiet_step (first | fail))); refine wpQuiet_nil ?_; intro z
          go_wp2_with fail
          go_roundw
          case rel =>
            have hz := z.le
            refine ⟨k + 1, by omega, by simp, ?_, hB.trans (Below.mono (After.below z) hB.size)⟩
            rw [hT1, hT2, hS, hX]
          case measure => simp [intOf]; omega
        · have f2 : ((x : Int) != (y : Int)) = true := by simp [hxy]
          have hX : Hid (¬ x = y) := hxy
          clear hxy
          go_wp2_with fail
          refine' region_whole _ _ (by kernel_rfl) (by kernel_rfl) _; rotate_left 2; (first | (with_reducible exact After.below _; rfl) | (with_reducible exact below_drew (After.below _); rfl) | (with_reducible exact below_set (After.below _) _ _; (go_simp; rfl)) | (with_reducible exact below_set (below_set (After.below _) _ _) _ _; (go_simp; rfl)) | (with_reducible exact below_set (below_set (below_set (After.below _) _ _) _ _) _ _; (go_simp; rfl)) | (with_reducible exact below_set (below_set (below_set (below_set (After.below _) _ _) _ _) _ _) _ _; (go_simp; rfl)) | (exact Below.refl _ _; rfl)); (repeat (go_big_quiet_step (first | fail))); refine wpQuiet_nil ?_; intro z
          go_wp2_with fail
          have hz := z.le
          refine bodyPost_ret (v := .bool false) (by simp only [results, Tryd.results25]; go_simp) rfl ⟨?_, hB.trans (Below.mono (After.below z) hB.size)⟩
          have h8 : ¬ L = M := (show ¬ x = y → ¬ L = M from hne) hX
          rw [decide_eq_false h8]
      · have hq : Hid (L = M) := by
          have h9 : L.length = M.length := hN
          have h8 : L.take k = M.take k := hS
          rwa [List.take_of_length_le (by omega), List.take_of_length_le (by omega)] at h8
        clear hc hc'
        go_wp2_with fail
        refine bodyPost_ret (v := .bool true) (by simp only [results, Tryd.results25]; go_simp) rfl ⟨?_, hB⟩
        rw [decide_eq_true (show L = M from hq)]
  · have f1 : ((L.length : Int) != (M.length : Int)) = true := by simp; omega
    have e : decide (L = M) = false := decide_eq_false fun h9 => hn (by rw [h9])
    rw [e]
    clear hn e hc hc'
    go_enter Tryd.func25, Tryd.ntmps25
    go_wp2_with fail
    refine bodyPost_ret (v := .bool false) (by simp only [results, Tryd.results25]; go_simp) rfl ⟨rfl, Below.refl _ _⟩


/-- A set's numbers below a bound. -/
def listW (L : List Nat) (k : Nat) : List Int := ((List.range k).filter (has L)).map fun i : Nat => (i : Int)
theorem listW_succ (L : List Nat) (k : Nat) : listW L (k + 1) = if has L k then listW L k ++ [(k : Int)] else listW L k := by
  unfold listW
  rw [List.range_succ, List.filter_append]
  by_cases h : has L k = true
  · simp [h]
  · simp [h]
theorem listW_length (L : List Nat) (k : Nat) : (listW L k).length = cnt (has L) k := by
  induction k with
  | zero => rfl
  | succ k ih =>
    rw [listW_succ]
    simp only [cnt]
    split <;> simp [ih]

set_option maxRecDepth 100000 in
theorem rlist_any (L : List Nat) (hok : okW L) (hl : L.length ≤ 1000000) (v : Value) (w : World) (h : Sl w v encW L) :
    Calls Tryd.prog 22 #[v] w fun e w' => ∃ o, e = .returned o ∧ w'.ownsRow w.heap.size 3 1 o (listW L (64 * L.length)).length ((listW L (64 * L.length)).flatMap encI) ∧ Below w.heap.size w w' := by
  obtain ⟨i0, hi, hz0, hz1, hz2⟩ := info_parts i_info
  obtain ⟨p, cap, hv⟩ : ∃ p cap, v = .slice p L.length cap := by obtain ⟨b, off, p, cap, hv, _⟩ := h; exact ⟨p, cap, hv⟩
  subst hv
  go_enter Tryd.func22, Tryd.ntmps22
  go_wp2_with fail
  go_loopw [3, 4] (fun o i wr => ∃ k : Nat, k ≤ 64 * L.length ∧ i = .int .i64 k ∧ wr.ownsRow w.heap.size 3 1 o (listW L k).length ((listW L k).flatMap encI) ∧ Below w.heap.size w wr) (fun _ i _ => 64 * L.length - (intOf i).toNat)
  case atStart => exact ⟨0, Nat.zero_le _, rfl, World.ownsRow_nil _ _ _ _, Below.refl _ _⟩
  case round =>
    obtain ⟨k, hk, rfl, hown, hB⟩ := hrel
    have hw := hB.size
    by_cases hlt : k < 64 * L.length
    · have hlt2 : (k : Int) < 64 * L.length := by omega
      have hh := rhas_any L hok k (by omega) _ wr (h.below hB)
      have hs := listW_succ L k
      have hcl := listW_length L k
      have hcl2 := cnt_le_self (has L) k
      rw [← hcl] at hcl2
      clear hcl
      cases hb : has L k
      · rw [hb] at hh hs
        have hS : Hid (listW L (k + 1) = listW L k) := hs
        clear hs
        go_wp2_with ((go_at_call 24; refine Calls.same (hh) ?_))
        go_roundw
        case rel => exact ⟨k + 1, by omega, by simp, by rw [hS]; exact hown, hB⟩
        case measure => simp [intOf]; omega
      · rw [hb] at hh hs
        have hS : Hid (listW L (k + 1) = listW L k ++ [(k : Int)]) := hs
        clear hs
        generalize listW L k = X at hown hS hcl2
        go_wp2_with (first | (go_at_call 24; refine Calls.same (hh) ?_) | (at_builtin; refine wpList_append_own _ rfl _ _ 22 rfl w.heap.size 3 i0 (.int .i64 0) 1 8 Tryd.underlying22 hi hz0 hz1 hz2 rfl (by decide) _ X.length (X.flatMap encI) rfl (hown.alloc _) _ 1 1 [.int .i64 (k : Int)] rfl rfl (news_at rfl) (by intro u hu; simp at hu; subst hu; rfl) (by unfold maxLen; omega) (by omega) (by simp; omega) ?_; intro v2 w1 hown' hgrow _))
        have hlt1 := hown.lt
        have hB2 : Below w.heap.size w w1 := Below.grown (w := _) (hB.alloc hw _) hgrow (by simp; omega) (fun q hq => (hlt1 q hq).1)
        go_wp2_with fail
        go_roundw
        case rel => exact ⟨k + 1, by omega, by simp, by rw [hS, List.flatMap_append, List.length_append]; exact hown', hB2⟩
        case measure => simp [intOf]; omega
    · have hks : k = 64 * L.length := by omega
      have hlt2 : ¬ (k : Int) < 64 * L.length := by omega
      rw [hks] at hown
      go_wp2_with fail
      refine bodyPost_ret (v := u3) (by simp only [results, Tryd.results22]; go_simp) rfl ⟨_, rfl, hown, hB⟩


set_option maxRecDepth 100000 in
theorem wof_any (n : Int) (M : List Int) (hM : M.length ≤ 1000000) (v : Value) (w : World) (h : Sl w v encI M) :
    Calls Tryd.prog 11 #[.int .i64 n, v] w fun e w' => ∃ v', e = .returned v' ∧ w'.ownsRow w.heap.size 39 1 v' (sizeN n) ((wordsOf (inB M (cutN n)) (sizeN n)).flatMap encW) ∧ Below w.heap.size w w' := by
  obtain ⟨i0, hi, hz0, hz1, hz2⟩ := info_parts w_info
  obtain ⟨b, off, p, cap, rfl, hp, hc⟩ := Sl.ints h
  have hs := sizeN_le n
  have hcut := cutN_le n
  go_enter Tryd.func11, Tryd.ntmps11
  go_wp2_with (first | (go_at_call 8; refine Calls.same (size_any _ _) ?_) | (at_make; refine wpList_make_full _ rfl _ _ 23 rfl w.heap.size 39 i0 (.int .u64 0) 1 Tryd.underlying23 hi hz0 hz1 .i64 .i64 _ _ (sizeN n) rfl rfl rfl rfl (by rw [hz2]; omega) (by unfold maxLen; omega) (Nat.le_refl _) ?_; intro w1 hown hgrow; rw [zeros_words] at hown))
  have hB : Below w.heap.size w w1 := Below.grown (Below.refl _ _) hgrow (Nat.le_refl _) (fun k e => by cases e)
  go_wp2_with fail
  go_loopw [13] (fun i wr => ∃ k : Nat, k ≤ M.length ∧ i = .int .i64 k ∧ wr.ownsRow w.heap.size 39 1 (.slice (some ⟨w.heap.size, 0, none⟩) (sizeN n) (sizeN n)) (sizeN n) ((wordsOf (inB (M.take k) (cutN n)) (sizeN n)).flatMap encW) ∧ Below w.heap.size w wr) (fun i _ => M.length - (intOf i).toNat)
  case atStart =>
    refine ⟨0, Nat.zero_le _, rfl, ?_, hB⟩
    rw [show wordsOf (inB (M.take 0) (cutN n)) (sizeN n) = wordsOf (fun _ => false) (sizeN n) from wordsOf_congr fun m _ => by simp [inB]]
    exact hown
  case round =>
    obtain ⟨k, hk, rfl, hown, hB⟩ := hrel
    by_cases hlt : k < M.length
    · have hpp := hp (by omega)
      subst hpp
      have c0 := hc k hlt
      have hg := World.block_lt_of_cell? _ _ c0
      have c1 := (hB.cell (p := ⟨b, off + k, none⟩) hg).trans c0
      have hgw := World.block_lt_of_cell? _ _ c1
      have hgo : ∀ m, inB (M.take (k + 1)) (cutN n) m = (inB (M.take k) (cutN n) m || (decide ((m : Int) = M[k]'hlt) && decide (m < cutN n))) := fun m => by
        unfold inB
        rw [List.take_succ_eq_append_getElem hlt, List.contains_append, Bool.and_or_distrib_right]
        simp [List.contains_cons, eq_comm, Bool.beq_eq_decide_eq]
      have hw := hB.size
      clear hc c0
      generalize M[k] = x at c1 hgo
      by_cases h0 : 0 ≤ x
      · by_cases h1 : x < cutN n
        · obtain ⟨m, rfl⟩ := Int.eq_ofNat_of_zero_le h0
          have hm : m < 64 * sizeN n := by unfold sizeN; omega
          have hwl : (wordsOf (inB (M.take k) (cutN n)) (sizeN n)).length = sizeN n := wordsOf_length _ _
          have hi : m / 64 < (wordsOf (inB (M.take k) (cutN n)) (sizeN n)).length := by rw [hwl]; omega
          have c0 := hown.cellAt (m / 64) (by omega)
          have f0 := hown.frozenAt (m / 64)
          have hx := wordsOf_ok (inB (M.take k) (cutN n)) (sizeN n) _ (List.getElem_mem hi)
          rw [flat_words, List.getElem?_map, List.getElem?_eq_getElem hi, Option.map_some] at c0
          have hst := wordsOf_set (p := inB (M.take k) (cutN n)) hm
          rw [List.getElem?_eq_getElem hi, Option.getD_some] at hst
          generalize (wordsOf (inB (M.take k) (cutN n)) (sizeN n))[m / 64]'hi = y at c0 hx hst
          have h2 := (hown.stored (m / 64) (.int .u64 ((y ||| 2 ^ (m % 64) : Nat)))).1
          rw [set_words, hst, show wordsOf (fun j => inB (M.take k) (cutN n) j || decide (j = m)) (sizeN n) = wordsOf (inB (M.take (k + 1)) (cutN n)) (sizeN n) from wordsOf_congr fun j _ => by
            rw [hgo]; congr 1
            by_cases e : j = m
            · subst e; simp; omega
            · have : ¬ (j : Int) = m := by omega
              simp [e, this]] at h2
          have hor := shl_or y m hx
          have hlt2 : (m : Int) / 64 < sizeN n := by omega
          have hB2 := hB.setCell (p := ⟨w.heap.size, m / 64, none⟩) (Nat.le_refl _) (.int .u64 ((y ||| 2 ^ (m % 64) : Nat)))
          clear hst hown hB hgo
          go_wp2_with (first | (go_at_call 28; refine Calls.same (cut_any _ _) ?_))
          go_region
          go_wp2_with fail
          go_roundw
          case rel => exact ⟨k + 1, by omega, by simp, h2.drew, hB2.drew⟩
          case measure => simp [intOf]; omega
        · have heq : Hid (wordsOf (inB (M.take (k + 1)) (cutN n)) (sizeN n) = wordsOf (inB (M.take k) (cutN n)) (sizeN n)) := wordsOf_congr fun j _ => by
            rw [hgo]
            by_cases e : (j : Int) = x
            · have : ¬ j < cutN n := by omega
              simp [this]
            · simp [e]
          clear hgo
          go_wp2_with (first | (go_at_call 28; refine Calls.same (cut_any _ _) ?_))
          go_roundw
          case rel => exact ⟨k + 1, by omega, by simp, by rw [heq]; exact hown, hB⟩
          case measure => simp [intOf]; omega
      · have heq : Hid (wordsOf (inB (M.take (k + 1)) (cutN n)) (sizeN n) = wordsOf (inB (M.take k) (cutN n)) (sizeN n)) := wordsOf_congr fun j _ => by
          rw [hgo]
          have : ¬ (j : Int) = x := by omega
          simp [this]
        clear hgo
        go_wp2_with (first | (go_at_call 28; refine Calls.same (cut_any _ _) ?_))
        go_roundw
        case rel => exact ⟨k + 1, by omega, by simp, by rw [heq]; exact hown, hB⟩
        case measure => simp [intOf]; omega
    · have hks : k = M.length := by omega
      subst hks
      rw [List.take_length] at hown
      go_wp2_with fail
      refine bodyPost_ret (v := .slice (some ⟨w.heap.size, 0, none⟩) (sizeN n) (sizeN n)) (by simp only [results, Tryd.results11]; go_simp) rfl ⟨_, rfl, hown, hB⟩

def hasI (L : List Nat) (n : Int) : Bool := decide (0 ≤ n) && has L n.toNat

theorem whas_any (L : List Nat) (hok : okW L) (hl : L.length ≤ 1000000) (n : Int) (hn : n ≤ 9223372036854775807) (v : Value) (w : World) (h : Sl w v encW L) :
    Calls Tryd.prog 23 #[v, .int .i64 n] w fun e w' => e = .returned (.bool (hasI L n)) ∧ w = w' := by
  by_cases h0 : 0 ≤ n
  · obtain ⟨n, rfl⟩ := Int.eq_ofNat_of_zero_le h0
    have hwd := word_any L (n / 64) v w h
    have hx := ok_at hok (n / 64)
    have e : hasI L n = ((L[n / 64]?).getD 0).testBit (n % 64) := by unfold hasI has; simp
    rw [e]
    generalize (L[n / 64]?).getD 0 = x at hwd hx ⊢
    have hb := bit_test x n hx
    generalize x.testBit (n % 64) = y at hb ⊢
    have e2 : ((n / 64 : Nat) : Int) = (n : Int) / 64 := by omega
    rw [e2] at hwd
    clear e2 e
    go_enter Tryd.func23, Tryd.ntmps23
    go_wp2_with ((go_at_call 35; refine Calls.same (hwd) ?_))
    go_ret
    exact ⟨rfl, rfl⟩
  · have e : hasI L n = false := by unfold hasI; simp [h0]
    rw [e]
    go_enter Tryd.func23, Tryd.ntmps23
    go_wp2_with fail
    go_ret
    exact ⟨rfl, rfl⟩

set_option maxRecDepth 100000 in
theorem rhasI_any (L : List Nat) (hok : okW L) (hl : L.length ≤ 1000000) (n : Int) (hn : n ≤ 9223372036854775807) (v : Value) (w : World) (h : Sl w v encW L) :
    Calls Tryd.prog 24 #[v, .int .i64 n] w fun e w' => e = .returned (.bool (hasI L n)) ∧ w = w' := by
  by_cases h0 : 0 ≤ n
  · obtain ⟨n, rfl⟩ := Int.eq_ofNat_of_zero_le h0
    by_cases h1 : n ≤ 4611686018427387904
    · have e : hasI L n = has L n := by unfold hasI; simp
      rw [e]
      exact rhas_any L hok n h1 v w h
    · obtain ⟨p, cap, hv⟩ : ∃ p cap, v = .slice p L.length cap := by obtain ⟨b, off, p, cap, hv, _⟩ := h; exact ⟨p, cap, hv⟩
      have e : hasI L n = false := by
        have : has L n = false := has_over (by omega)
        unfold hasI; simp [this]
      rw [e]
      have f1 : ¬ (n : Int) / 64 < L.length := by omega
      subst hv
      clear e
      go_enter Tryd.func24, Tryd.ntmps24
      go_wp2_with fail
      go_ret
      exact ⟨rfl, rfl⟩
  · have e : hasI L n = false := by unfold hasI; simp [h0]
    rw [e]
    go_enter Tryd.func24, Tryd.ntmps24
    go_wp2_with fail
    go_ret
    exact ⟨rfl, rfl⟩

end Go.Proofs.YtjjopjpchgajcaaDoor.Ws
