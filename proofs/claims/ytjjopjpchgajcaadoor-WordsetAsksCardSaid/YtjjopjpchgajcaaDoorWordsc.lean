/- WALKS of soughref10: Has, Same, With. -/
import Derived.Test.YtjjopjpchgajcaaDoorWordsb
import Derived.OwnWalk
namespace Go.Proofs.YtjjopjpchgajcaaDoor.Ws
set_option linter.unusedVariables false
set_option linter.unusedSimpArgs false
open Go Go.RowKit

theorem bit_test (x n : Nat) (hx : x < 18446744073709551616) : (bits .and .u64 ((x : Int) / 2 ^ (n % 64)) 1 == 1) = x.testBit (n % 64) := by
  have h1 : ((x : Int) / 2 ^ (n % 64)) = ((x / 2 ^ (n % 64) : Nat) : Int) := by simp
  have h2 : x / 2 ^ (n % 64) ≤ x := Nat.div_le_self _ _
  rw [h1, Nat.testBit_eq_decide_div_mod_eq]
  generalize x / 2 ^ (n % 64) = y at h2
  rw [u64_and _ _ (by omega) (by omega) (by omega) (by omega)]
  have h3 : ((y : Int).toNat &&& (1 : Int).toNat) = y % 2 := by
    show (y &&& 1) = _
    exact Nat.and_two_pow_sub_one_eq_mod _ 1
  rw [h3]
  rw [Bool.eq_iff_iff]; simp; omega

set_option maxRecDepth 100000 in
theorem rhas_any (L : List Nat) (hok : okW L) (n : Nat) (hn : n ≤ 4611686018427387904) (v : Value) (w : World) (h : Sl w v encW L) :
    Calls Tryd.prog 24 #[v, .int .i64 n] w fun e w' => e = .returned (.bool (has L n)) ∧ w = w' := by
  obtain ⟨b, off, p, cap, rfl, hp, hc⟩ := Sl.words h
  by_cases hi : n / 64 < L.length
  · have hpp := hp (by omega)
    subst hpp
    have c0 := hc _ hi
    have hg := World.block_lt_of_cell? _ _ c0
    have h2 : (n : Int) / 64 < L.length := by omega
    have h0 : (0 : Int) ≤ n := by omega
    have hx := hok _ (List.getElem_mem hi)
    have e : has L n = (L[n / 64]'hi).testBit (n % 64) := by unfold has; rw [List.getElem?_eq_getElem hi, Option.getD_some]
    rw [e]
    clear hc e
    generalize L[n / 64] = x at c0 hx ⊢
    have hb := bit_test x n hx
    generalize x.testBit (n % 64) = y at hb ⊢
    go_enter Tryd.func24, Tryd.ntmps24
    go_wp2_with fail
    go_ret
    exact ⟨rfl, rfl⟩
  · have h2 : ¬ (n : Int) / 64 < L.length := by omega
    have h0 : (0 : Int) ≤ n := by omega
    have e : has L n = false := has_over (by omega)
    rw [e]
    clear hc e
    go_enter Tryd.func24, Tryd.ntmps24
    go_wp2_with fail
    go_ret
    exact ⟨rfl, rfl⟩

/-- Word lists that are alike. -/
theorem rsame_any (L : List Nat) (hl : L.length ≤ 1000000) (v v' : Value) (w : World) (h : Sl w v encW L) (h' : Sl w v' encW L) :
    Calls Tryd.prog 10 #[v, v'] w fun e w' => e = .returned (.bool true) ∧ Below w.heap.size w w' := by
  obtain ⟨b, off, p, cap, rfl, hp, hc⟩ := Sl.words h
  obtain ⟨b', off', p', cap', rfl, hp', hc'⟩ := Sl.words h'
  go_enter Tryd.func10, Tryd.ntmps10
  go_wp2_with fail
  go_loopw [13] (fun i wr => ∃ k : Nat, k ≤ L.length ∧ i = .int .i64 k ∧ Below w.heap.size w wr) (fun i _ => L.length - (intOf i).toNat)
  case atStart => exact ⟨0, Nat.zero_le _, rfl, Below.refl _ _⟩
  case round =>
    obtain ⟨k, hk, rfl, hB⟩ := hrel
    by_cases hlt : k < L.length
    · have hpp := hp (by omega)
      have hpp' := hp' (by omega)
      subst hpp hpp'
      have c0 := hc k hlt
      have c1 := hc' k hlt
      have hg := World.block_lt_of_cell? _ _ c0
      have hg' := World.block_lt_of_cell? _ _ c1
      have c2 := (hB.cell (p := ⟨b, off + k, none⟩) hg).trans c0
      have c3 := (hB.cell (p := ⟨b', off' + k, none⟩) hg').trans c1
      have hgw := World.block_lt_of_cell? _ _ c2
      have hgw' := World.block_lt_of_cell? _ _ c3
      clear hc hc' c0 c1
      generalize L[k] = x at c2 c3
      go_wp2_with fail
      refine' region_whole _ _ (by kernel_rfl) (by kernel_rfl) _; rotate_left 2; (first | (with_reducible exact After.below _; rfl) | (with_reducible exact below_drew (After.below _); rfl) | (with_reducible exact below_set (After.below _) _ _; (go_simp; rfl)) | (with_reducible exact below_set (below_set (After.below _) _ _) _ _; (go_simp; rfl)) | (with_reducible exact below_set (below_set (below_set (After.below _) _ _) _ _) _ _; (go_simp; rfl)) | (with_reducible exact below_set (below_set (below_set (below_set (After.below _) _ _) _ _) _ _) _ _; (go_simp; rfl)) | (exact Below.refl _ _; rfl)); (repeat (go_big_quiet_step (first | fail))); refine wpQuiet_nil ?_; intro z
      go_wp2_with fail
      go_roundw
      case rel =>
        have hz := z.le
        exact ⟨k + 1, by omega, by simp, hB.trans (Below.mono (After.below z) hB.size)⟩
      case measure => simp [intOf]; omega
    · go_wp2_with fail
      go_ret
      exact ⟨rfl, hB⟩

theorem w_info : (Tryd.prog.info? 39).map (fun i => (i.zero, i.size, i.bytes)) = some (some (.int .u64 0), 1, 8) := by kernel_rfl

theorem set_words {L : List Nat} {j x : Nat} : (L.flatMap encW).set j (.int .u64 x) = (L.set j x).flatMap encW := by
  have e : ∀ M : List Nat, M.flatMap encW = M.map fun y : Nat => Value.int .u64 (y : Int) := fun M => by
    induction M with
    | nil => rfl
    | cons y M ih => simp only [List.flatMap_cons, ih, encW]; rfl
  rw [e, e, List.map_set]

theorem flat_words (L : List Nat) : L.flatMap encW = L.map fun y : Nat => Value.int .u64 (y : Int) := by
  induction L with
  | nil => rfl
  | cons y M ih => simp only [List.flatMap_cons, ih, encW]; rfl

theorem shl_or (x n : Nat) (hx : x < 18446744073709551616) : bits .or .u64 (x : Int) (IntKind.u64.wrap (2 ^ (n % 64))) = ((x ||| 2 ^ (n % 64) : Nat) : Int) := by
  have h1 : (2 : Nat) ^ (n % 64) < 18446744073709551616 := by
    have : (2 : Nat) ^ (n % 64) < 2 ^ 64 := Nat.pow_lt_pow_right (by omega) (Nat.mod_lt _ (by omega))
    simpa using this
  have h2 : IntKind.u64.wrap ((2 : Int) ^ (n % 64)) = ((2 ^ (n % 64) : Nat) : Int) := by
    have := u64_wrap _ h1
    rw [← this]; simp
  rw [h2]
  generalize 2 ^ (n % 64) = y at h1
  rw [u64_or _ _ (by omega) (by omega) (by omega) (by omega)]
  rfl

theorem Sl.news {w w' : World} {b off len cap : Nat} {L : List Nat} (h : Sl w (.slice (some ⟨b, off, none⟩) len cap) encW L) (hB : Below w.heap.size w w') :
    ∀ j u, (L.flatMap encW)[j]? = some u → w'.cell? ((⟨b, off, none⟩ : Addr).add j) = some u := by
  obtain ⟨b', off', p', cap', hv, hp, hc⟩ := h.below hB
  simp only [Value.slice.injEq] at hv
  obtain ⟨rfl, rfl, rfl⟩ := hv
  intro j u hu
  have hL : 0 < L.length := by
    rcases L with _ | ⟨x, L⟩
    · simp at hu
    · simp
  have := hp hL
  simp only [Option.some.injEq, Addr.mk.injEq, and_true] at this
  obtain ⟨rfl, rfl⟩ := this
  rw [Go.WideShapes.add_plain]
  exact hc j u hu

theorem words_one (L : List Nat) : ∀ u ∈ L.flatMap encW, u.oneCell' = true := by
  intro u hu
  rw [flat_words] at hu
  obtain ⟨x, _, rfl⟩ := List.mem_map.1 hu
  rfl
theorem words_len (L : List Nat) : (L.flatMap encW).length = L.length * 1 := by rw [flat_words]; simp

set_option maxRecDepth 100000 in
theorem with_any (L : List Nat) (hok : okW L) (hl : L.length ≤ 1000000) (n : Nat) (hn : n / 64 < L.length) (v : Value) (w : World) (h : Sl w v encW L) :
    Calls Tryd.prog 29 #[v, .int .i64 n] w fun e w' => ∃ v', e = .returned v' ∧ w'.ownsRow w.heap.size 39 1 v' L.length ((L.set (n / 64) ((L[n / 64]?).getD 0 ||| 2 ^ (n % 64))).flatMap encW) ∧ Below w.heap.size w w' := by
  obtain ⟨i0, hi, hz0, hz1, hz2⟩ := info_parts w_info
  obtain ⟨b, off, p, cap, rfl, hp, hc⟩ := Sl.words h
  have hpp := hp (by omega)
  subst hpp
  clear hc
  have hx := hok _ (List.getElem_mem hn)
  have hxe : L[n / 64]? = some (L[n / 64]'hn) := List.getElem?_eq_getElem hn
  rw [hxe, Option.getD_some]
  generalize L[n / 64]'hn = x at hx hxe ⊢
  have hor := shl_or x n hx
  have hlt : (n : Int) / 64 < L.length := by omega
  have hX := And.intro True.intro hxe
  clear hxe
  go_enter Tryd.func29, Tryd.ntmps29
  go_wp2_with ((at_builtin; refine wpList_append_own _ rfl _ _ 23 rfl w.heap.size 39 i0 (.int .u64 0) 1 8 Tryd.underlying23 hi hz0 hz1 hz2 rfl (by decide) _ 0 [] rfl (own_empty w _ _) _ L.length cap (L.flatMap encW) rfl (words_len L) (Sl.news h (Below.alloc (Below.refl _ _) (Nat.le_refl _) _)) (words_one L) (by unfold maxLen; omega) (by omega) (by simp) ?_))
  intro v' w1 hown hgrow _
  try simp only [Nat.zero_add, List.nil_append] at hown
  obtain ⟨g, cap', rfl, hb, hg⟩ := own_some hown (by omega)
  have c0 := hown.cellAt (n / 64) (by omega)
  have f0 := hown.frozenAt (n / 64)
  rw [flat_words, List.getElem?_map, hX.2, Option.map_some] at c0
  have hst := hown.stored (n / 64) (.int .u64 ((x ||| 2 ^ (n % 64) : Nat)))
  rw [set_words] at hst
  have hB : Below w.heap.size w w1 := Below.grown (w := _) (Below.alloc (Below.refl _ _) (Nat.le_refl _) _) hgrow (by simp) (fun k e => by simp [Value.ownBlock] at e; omega)
  clear hown hgrow
  go_wp2_with fail
  go_region
  go_wp2_with fail
  refine bodyPost_ret (v := .slice (some ⟨g, 0, none⟩) L.length cap') (by simp only [results, Tryd.results29]; go_simp) rfl ⟨_, rfl, hst.1.drew, ?_⟩
  exact (hB.setCell hb _).drew

end Go.Proofs.YtjjopjpchgajcaaDoor.Ws
