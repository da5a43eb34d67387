/- WALKS of package lattice and its reference: Join, Below. -/
import Derived.Test.YtjjopjpchgajcaaLatth
namespace Go.Proofs.Ytjjopjpchgajcaa.Ws
set_option linter.unusedVariables false
set_option linter.unusedSimpArgs false
open Go Go.RowKit

/-- Words that are alike: told. -/
theorem rsame2_any (L M : List Nat) (hl : L.length ≤ 1000000) (v v' : Value) (w : World) (h : Sl w v encW L) (h' : Sl w v' encW M) :
    Calls Try.prog 50 #[v, v'] w fun e w' => e = .returned (.bool (decide (L = M))) ∧ Below w.heap.size w w' := by
  obtain ⟨b, off, p, cap, rfl, hp, hc⟩ := Sl.words h
  obtain ⟨b', off', p', cap', rfl, hp', hc'⟩ := Sl.words h'
  by_cases hn : L.length = M.length
  · have hN : Hid (L.length = M.length) := hn
    have f1 : ((L.length : Int) != (M.length : Int)) = false := by simp [hn]
    clear hn
    go_enter Try.func50, Try.ntmps50
    go_wp2_with fail
    go_loopw [13] (fun i wr => ∃ k : Nat, k ≤ L.length ∧ i = .int .i64 k ∧ L.take k = M.take k ∧ Below w.heap.size w wr) (fun i _ => L.length - (intOf i).toNat)
    case atStart => exact ⟨0, Nat.zero_le _, rfl, rfl, Below.refl _ _⟩
    case round =>
      obtain ⟨k, hk, rfl, hsame, hB⟩ := hrel
      have hS : Hid (L.take k = M.take k) := hsame
      clear hsame
      by_cases hlt : k < L.length
      · have hlt' : k < M.length := by have h9 : L.length = M.length := hN; omega
        have hltM : (k : Int) < M.length := by omega
        have hpp := hp (by omega)
        have hpp' := hp' (by omega)
        subst hpp hpp'
        have c0 := hc k hlt
        have c1 := hc' k hlt'
        have hg := World.block_lt_of_cell? _ _ c0
        have hg' := World.block_lt_of_cell? _ _ c1
        have c2 := (hB.cell (p := ⟨b, off + k, none⟩) hg).trans c0
        have c3 := (hB.cell (p := ⟨b', off' + k, none⟩) hg').trans c1
        have hgw := World.block_lt_of_cell? _ _ c2
        have hgw' := World.block_lt_of_cell? _ _ c3
        have hT1 : Hid (L.take (k + 1) = L.take k ++ [L[k]'hlt]) := List.take_succ_eq_append_getElem hlt
        have hT2 : Hid (M.take (k + 1) = M.take k ++ [M[k]'hlt']) := List.take_succ_eq_append_getElem hlt'
        have hne : Hid (¬ (L[k]'hlt) = (M[k]'hlt') → ¬ L = M) := fun h9 h8 => by subst h8; exact h9 rfl
        clear hc hc' c0 c1
        generalize L[k]'hlt = x at c2 hT1 hne
        generalize M[k]'hlt' = y at c3 hT2 hne
        by_cases hxy : x = y
        · have f2 : ((x : Int) != (y : Int)) = false := by simp [hxy]
          have hX : Hid (x = y) := hxy
          clear hxy
          go_wp2_with fail
          refine' region_whole _ _ (by kernel_rfl) (by kernel_rfl) _; rotate_left 2; (first | (with_reducible exact After.below _; rfl) | (with_reducible exact below_drew (After.below _); rfl) | (with_reducible exact below_set (After.below _) _ _; (go_simp; rfl)) | (with_reducible exact below_set (below_set (After.below _) _ _) _ _; (go_simp; rfl)) | (with_reducible exact below_set (below_set (below_set (After.below _) _ _) _ _) _ _; (go_simp; rfl)) | (with_reducible exact below_set (below_set (below_set (below_set (After.below _) _ _) _ _) _ _) _ _; (go_simp; rfl)) | (exact Below.refl _ _; rfl)); (repeat (go_big_quiet_step (first | fail))); refine wpQuiet_nil ?_; intro z
          go_wp2_with fail
          go_roundw
          case rel =>
            have hz := z.le
            refine ⟨k + 1, by omega, by simp, ?_, hB.trans (Below.mono (After.below z) hB.size)⟩
            rw [hT1, hT2, hS, hX]
          case measure => simp [intOf]; omega
        · have f2 : ((x : Int) != (y : Int)) = true := by simp; omega
          have hX : Hid (¬ x = y) := hxy
          clear hxy
          go_wp2_with fail
          refine' region_whole _ _ (by kernel_rfl) (by kernel_rfl) _; rotate_left 2; (first | (with_reducible exact After.below _; rfl) | (with_reducible exact below_drew (After.below _); rfl) | (with_reducible exact below_set (After.below _) _ _; (go_simp; rfl)) | (with_reducible exact below_set (below_set (After.below _) _ _) _ _; (go_simp; rfl)) | (with_reducible exact below_set (below_set (below_set (After.below _) _ _) _ _) _ _; (go_simp; rfl)) | (with_reducible exact below_set (below_set (below_set (below_set (After.below _) _ _) _ _) _ _) _ _; (go_simp; rfl)) | (exact Below.refl _ _; rfl)); (repeat (go_big_quiet_step (first | fail))); refine wpQuiet_nil ?_; intro z
          go_wp2_with fail
          have hz := z.le
          refine bodyPost_ret (v := .bool false) (by simp only [results, Try.results50]; go_simp) rfl ⟨?_, hB.trans (Below.mono (After.below z) hB.size)⟩
          have h8 : ¬ L = M := (show ¬ x = y → ¬ L = M from hne) hX
          rw [decide_eq_false h8]
      · have hq : Hid (L = M) := by
          have h9 : L.length = M.length := hN
          have h8 : L.take k = M.take k := hS
          rwa [List.take_of_length_le (by omega), List.take_of_length_le (by omega)] at h8
        clear hc hc'
        go_wp2_with fail
        refine bodyPost_ret (v := .bool true) (by simp only [results, Try.results50]; go_simp) rfl ⟨?_, hB⟩
        rw [decide_eq_true (show L = M from hq)]
  · have f1 : ((L.length : Int) != (M.length : Int)) = true := by simp; omega
    have e : decide (L = M) = false := decide_eq_false fun h9 => hn (by rw [h9])
    rw [e]
    clear hn e hc hc'
    go_enter Try.func50, Try.ntmps50
    go_wp2_with fail
    refine bodyPost_ret (v := .bool false) (by simp only [results, Try.results50]; go_simp) rfl ⟨rfl, Below.refl _ _⟩


theorem valueB_len {what width : Int} {L : List Nat} (h : valueB what width L = true) : L.length = wordsN what width := by
  unfold valueB at h
  simp only [Bool.and_eq_true, decide_eq_true_iff] at h
  exact h.2.1
theorem checkE_two {what width : Int} {L M : List Nat} (h : checkE what width [L, M] = 0) : valueB what width L = true ∧ valueB what width M = true := by
  unfold checkE at h
  split at h
  · split at h
    · rename_i h1
      simp at h1
      exact h1
    · omega
  · omega

/-- What Join gives. -/
def joinRes (what width : Int) (L M : List Nat) : List Nat := if checkE what width [L, M] = 0 then joinV what L M else []

theorem vals_two {v v' : Value} {L M : List Nat} {w w1 : World} (hL : okW L) (hM : okW M) (hl : L.length ≤ 1000000) (hm : M.length ≤ 1000000) (h : Sl w v encW L) (h' : Sl w v' encW M) (hB : Below w.heap.size w w1) :
    ∀ (i : Nat) (hi : i < [v, v'].length) (hi' : i < [L, M].length), okW ([L, M][i]'hi') ∧ ([L, M][i]'hi').length ≤ 1000000 ∧ Sl w1 ([v, v'][i]'hi) encW ([L, M][i]'hi') := by
  intro i hi hi'
  match i, hi, hi' with
  | 0, _, _ => exact ⟨hL, hl, h.below hB⟩
  | 1, _, _ => exact ⟨hM, hm, h'.below hB⟩

theorem sl_two (v v' : Value) (t : TypeId) (w : World) : Sl (w.alloc (.cells #[v, v'] t)) (.slice (some ⟨w.heap.size, 0, none⟩) 2 2) encV [v, v'] :=
  ⟨w.heap.size, 0, _, 2, rfl, fun _ => rfl, fun j u hu => by
    rw [Nat.zero_add, cell_alloc_at rfl]
    simpa [encV] using hu⟩

set_option maxRecDepth 100000 in
theorem ljoin_any (what width : Int) (L M : List Nat) (hL : okW L) (hM : okW M) (hl : L.length ≤ 1000000) (hm : M.length ≤ 1000000) (v v' : Value) (w : World) (h : Sl w v encW L) (h' : Sl w v' encW M) :
    Calls Try.prog 59 #[.int .i64 what, .int .i64 width, v, v'] w fun e w' => ∃ o, e = .returned (.tuple #[o, .int .i64 (checkE what width [L, M])]) ∧ w'.ownsRow w.heap.size 29 1 o (joinRes what width L M).length ((joinRes what width L M).flatMap encW) ∧ Below w.heap.size w w' := by
  obtain ⟨i0, hi, hz0, hz1, hz2⟩ := info_parts w_info
  obtain ⟨b, off, p, cap, rfl, hp, hc⟩ := Sl.words h
  obtain ⟨b', off', p', cap', rfl, hp', hc'⟩ := Sl.words h'
  have hck := check_any what width [.slice p L.length cap, .slice p' M.length cap'] [L, M] rfl (by simp) (.slice (some ⟨w.heap.size, 0, none⟩) 2 2) _ (sl_two _ _ 52 w) (vals_two hL hM hl hm h h' (Below.alloc (Below.refl _ _) (Nat.le_refl _) _))
  have hne := @checkE_two what width L M
  have hJ : joinRes what width L M = if checkE what width [L, M] = 0 then joinV what L M else [] := rfl
  rw [hJ]
  generalize checkE what width [L, M] = ce at hck hne ⊢
  by_cases he : ce = 0
  · subst he
    obtain ⟨h1, h2⟩ := hne rfl
    have hn : L.length = M.length := by rw [valueB_len h1, valueB_len h2]
    rw [if_pos rfl]
    have hZ : Hid ((joinV what L M).length = L.length) := joinV_length what L M
    have hN : Hid (L.length = M.length) := hn
    rw [joinV_length]
    clear hn hne h1 h2 hJ
    go_enter Try.func59, Try.ntmps59
    go_wp2_with ((go_at_call 84; refine' Calls.aft _ _ (hck) _; rotate_left 2; (first | (with_reducible exact After.below _; rfl) | (with_reducible exact below_drew (After.below _); rfl) | (with_reducible exact below_set (After.below _) _ _; (go_simp; rfl)) | (with_reducible exact below_set (below_set (After.below _) _ _) _ _; (go_simp; rfl)) | (with_reducible exact below_set (below_set (below_set (After.below _) _ _) _ _) _ _; (go_simp; rfl)) | (with_reducible exact below_set (below_set (below_set (below_set (After.below _) _ _) _ _) _ _) _ _; (go_simp; rfl)) | (exact Below.refl _ _; rfl)); intro x0; have hle := After.le x0; (try simp at hle)))
    have hB0 : Below w.heap.size w x0.val := (Below.alloc (Below.refl _ _) (Nat.le_refl _) _).trans (Below.mono x0.below (by simp))
    go_loopw [11, 24] (fun o i wr => ∃ k : Nat, k ≤ L.length ∧ i = .int .i64 k ∧ wr.ownsRow w.heap.size 29 1 o k (((joinV what L M).take k).flatMap encW) ∧ Below w.heap.size w wr) (fun _ i _ => L.length - (intOf i).toNat)
    case atStart => exact ⟨0, Nat.zero_le _, rfl, World.ownsRow_nil _ _ _ _, hB0⟩
    case round =>
      obtain ⟨k, hk, rfl, hown, hB⟩ := hrel
      by_cases hlt : k < L.length
      · have hlt' : k < M.length := by have h9 : L.length = M.length := hN; omega
        have hltM : (k : Int) < M.length := by omega
        have hpp := hp (by omega)
        have hpp' := hp' (by omega)
        subst hpp hpp'
        have c0 := hc k hlt
        have c1 := hc' k hlt'
        have hg := World.block_lt_of_cell? _ _ c0
        have hg' := World.block_lt_of_cell? _ _ c1
        have c2 := (hB.cell (p := ⟨b, off + k, none⟩) hg).trans c0
        have c3 := (hB.cell (p := ⟨b', off' + k, none⟩) hg').trans c1
        have hgw := World.block_lt_of_cell? _ _ c2
        have hgw' := World.block_lt_of_cell? _ _ c3
        have hx := hL _ (List.getElem_mem hlt)
        have hy := hM _ (List.getElem_mem hlt')
        have hz : (joinV what L M).take (k + 1) = (joinV what L M).take k ++ [wordV what (L[k]'hlt) (M[k]'hlt')] := by
          rw [List.take_succ_eq_append_getElem (by rw [hZ.out]; exact hlt), joinV_get, List.getElem?_eq_getElem hlt, List.getElem?_eq_getElem hlt']; rfl
        have hw := hB.size
        clear hc hc' c0 c1
        generalize L[k] = x at c2 hx hz
        generalize M[k] = y at c3 hy hz
        have hA := And.intro hz (And.intro hown hB)
        have hwd := lword_any what x y hx hy
        have hwl := wordV_lt what x y hx hy
        generalize wordV what x y = q at hwd hA hwl
        clear hz hown hB
        go_wp2_with fail
        go_region_law (first | (refine step_call rfl 61 #[.int .i64 what, .int .u64 x, .int .u64 y] (.int .u64 q) ?hop9 (hwd _) ?_; (case hop9 => (go_simp; done)); intro w4 hb4; have hz4 := hb4.size; (try simp at hz4)) | (refine step_append_own rfl (.tmp 27) (.tmp 38) 52 rfl w.heap.size 29 i0 (.int .u64 0) 1 8 Try.underlying52 hi hz0 hz1 hz2 rfl (by decide) _ k (((joinV what L M).take k).flatMap encW) (by simp [Act.eval, Act.put]) ((own_below (own_below hA.2.1 (Below.drew (Below.refl _ _))) hb4).alloc _) _ 1 1 [.int .u64 (q : Nat)] (by simp [Act.eval, Act.put]) rfl (news_at rfl) (by intro u hu; simp at hu; subst hu; rfl) (by unfold maxLen; omega) (by omega) (by simp; omega) ?_; intro v2 w1 hown' hgrow _))
        all_goals (
          have hlt1 := hA.2.1.lt
          have hB2 : Below w.heap.size w w1 := Below.grown (w := _) (Below.alloc ((hA.2.2.drew).trans (Below.mono hb4 (by simpa using hw))) (by omega) _) hgrow (by simp; omega) (fun q hq => (hlt1 q hq).1)
          go_wp2_with fail
          go_roundw
          case rel => exact ⟨k + 1, by omega, by simp, by rw [hA.1, List.flatMap_append]; exact hown', hB2⟩
          case measure => simp [intOf]; omega)
      · have hks : k = L.length := by omega
        have h8 : (joinV what L M).take k = joinV what L M := List.take_of_length_le (by rw [hZ.out]; omega)
        rw [hks] at hown h8
        rw [h8] at hown
        clear hc hc'
        go_wp2_with fail
        refine bodyPost_ret (v := .tuple #[u11, .int .i64 0]) (by simp only [results, Try.results59]; go_simp) rfl ⟨_, rfl, hown, hB⟩
  · rw [if_neg he]
    have f1 : (ce != 0) = true := by simp [he]
    clear he hne hJ hc hc'
    go_enter Try.func59, Try.ntmps59
    go_wp2_with ((go_at_call 84; refine' Calls.aft _ _ (hck) _; rotate_left 2; (first | (with_reducible exact After.below _; rfl) | (with_reducible exact below_drew (After.below _); rfl) | (with_reducible exact below_set (After.below _) _ _; (go_simp; rfl)) | (with_reducible exact below_set (below_set (After.below _) _ _) _ _; (go_simp; rfl)) | (with_reducible exact below_set (below_set (below_set (After.below _) _ _) _ _) _ _; (go_simp; rfl)) | (with_reducible exact below_set (below_set (below_set (below_set (After.below _) _ _) _ _) _ _) _ _; (go_simp; rfl)) | (exact Below.refl _ _; rfl)); intro x0; have hle := After.le x0; (try simp at hle)))
    refine bodyPost_ret (v := .tuple #[.slice none 0 0, .int .i64 ce]) (by simp only [results, Try.results59]; go_simp) rfl ⟨_, rfl, World.ownsRow_nil _ _ _ _, ?_⟩
    exact (Below.alloc (Below.refl _ _) (Nat.le_refl _) _).trans (Below.mono x0.below (by simp))

end Go.Proofs.Ytjjopjpchgajcaa.Ws
