/- WALKS of soughref10.List, soughref12.Rank. -/
import Derived.Test.YtjjopjpchgajcaaLattj
namespace Go.Proofs.Ytjjopjpchgajcaa.Ws
set_option linter.unusedVariables false
set_option linter.unusedSimpArgs false
open Go Go.RowKit

/-- A set's numbers below a bound. -/
def listW (L : List Nat) (k : Nat) : List Int := ((List.range k).filter (has L)).map fun i : Nat => (i : Int)
theorem listW_succ (L : List Nat) (k : Nat) : listW L (k + 1) = if has L k then listW L k ++ [(k : Int)] else listW L k := by
  unfold listW
  rw [List.range_succ, List.filter_append]
  by_cases h : has L k = true
  · simp [h]
  · simp [h]
theorem listW_length (L : List Nat) (k : Nat) : (listW L k).length = cnt (has L) k := by
  induction k with
  | zero => rfl
  | succ k ih =>
    rw [listW_succ]
    simp only [cnt]
    split <;> simp [ih]

set_option maxRecDepth 100000 in
theorem rlist_any (L : List Nat) (hok : okW L) (hl : L.length ≤ 1000000) (v : Value) (w : World) (h : Sl w v encW L) :
    Calls Try.prog 87 #[v] w fun e w' => ∃ o, e = .returned o ∧ w'.ownsRow w.heap.size 3 1 o (listW L (64 * L.length)).length ((listW L (64 * L.length)).flatMap encI) ∧ Below w.heap.size w w' := by
  obtain ⟨i0, hi, hz0, hz1, hz2⟩ := info_parts i_info
  obtain ⟨p, cap, hv⟩ : ∃ p cap, v = .slice p L.length cap := by obtain ⟨b, off, p, cap, hv, _⟩ := h; exact ⟨p, cap, hv⟩
  subst hv
  go_enter Try.func87, Try.ntmps87
  go_wp2_with fail
  go_loopw [3, 4] (fun o i wr => ∃ k : Nat, k ≤ 64 * L.length ∧ i = .int .i64 k ∧ wr.ownsRow w.heap.size 3 1 o (listW L k).length ((listW L k).flatMap encI) ∧ Below w.heap.size w wr) (fun _ i _ => 64 * L.length - (intOf i).toNat)
  case atStart => exact ⟨0, Nat.zero_le _, rfl, World.ownsRow_nil _ _ _ _, Below.refl _ _⟩
  case round =>
    obtain ⟨k, hk, rfl, hown, hB⟩ := hrel
    have hw := hB.size
    by_cases hlt : k < 64 * L.length
    · have hlt2 : (k : Int) < 64 * L.length := by omega
      have hh := rhas_any L hok k (by omega) _ wr (h.below hB)
      have hs := listW_succ L k
      have hcl := listW_length L k
      have hcl2 := cnt_le_self (has L) k
      rw [← hcl] at hcl2
      clear hcl
      cases hb : has L k
      · rw [hb] at hh hs
        have hS : Hid (listW L (k + 1) = listW L k) := hs
        clear hs
        go_wp2_with ((go_at_call 94; refine Calls.same (hh) ?_))
        go_roundw
        case rel => exact ⟨k + 1, by omega, by simp, by rw [hS]; exact hown, hB⟩
        case measure => simp [intOf]; omega
      · rw [hb] at hh hs
        have hS : Hid (listW L (k + 1) = listW L k ++ [(k : Int)]) := hs
        clear hs
        generalize listW L k = X at hown hS hcl2
        go_wp2_with (first | (go_at_call 94; refine Calls.same (hh) ?_) | (at_builtin; refine wpList_append_own _ rfl _ _ 84 rfl w.heap.size 3 i0 (.int .i64 0) 1 8 Try.underlying84 hi hz0 hz1 hz2 rfl (by decide) _ X.length (X.flatMap encI) rfl (hown.alloc _) _ 1 1 [.int .i64 (k : Int)] rfl rfl (news_at rfl) (by intro u hu; simp at hu; subst hu; rfl) (by unfold maxLen; omega) (by omega) (by simp; omega) ?_; intro v2 w1 hown' hgrow _))
        have hlt1 := hown.lt
        have hB2 : Below w.heap.size w w1 := Below.grown (w := _) (hB.alloc hw _) hgrow (by simp; omega) (fun q hq => (hlt1 q hq).1)
        go_wp2_with fail
        go_roundw
        case rel => exact ⟨k + 1, by omega, by simp, by rw [hS, List.flatMap_append, List.length_append]; exact hown', hB2⟩
        case measure => simp [intOf]; omega
    · have hks : k = 64 * L.length := by omega
      have hlt2 : ¬ (k : Int) < 64 * L.length := by omega
      rw [hks] at hown
      go_wp2_with fail
      refine bodyPost_ret (v := u3) (by simp only [results, Try.results87]; go_simp) rfl ⟨_, rfl, hown, hB⟩

set_option maxRecDepth 100000 in
theorem rlrank_any (what width : Int) (hw : what = 1 ∨ what = 2 ∨ what = 3) (h0 : 0 ≤ width) (h1 : width ≤ 1024) (L : List Nat) (hL : okW L) (hl : L.length ≤ 1000000) (v : Value) (w : World) (h : Sl w v encW L) :
    Calls Try.prog 65 #[.int .i64 what, .int .i64 width, v] w fun e w' => e = .returned (.int .i64 (rankV what width L)) ∧ Below w.heap.size w w' := by
  have hli := rlist_any L hL hl v w h
  have hln : (listW L (64 * L.length)).length = size L := listW_length L _
  have hsz := size_le L
  rw [hln] at hli
  obtain ⟨b, off, p, cap, rfl, hp, hc⟩ := Sl.words h
  rcases hw with rfl | rfl | rfl
  · rw [show rankV 1 width L = (size L : Int) from rfl]
    generalize size L = s at hli hsz ⊢
    clear hc hln
    go_enter Try.func65, Try.ntmps65
    go_wp2_with ((go_at_call 87; refine' Calls.aftS _ _ (hli) _; rotate_left 2; (first | (with_reducible exact After.below _; rfl) | (with_reducible exact below_drew (After.below _); rfl) | (with_reducible exact below_set (After.below _) _ _; (go_simp; rfl)) | (with_reducible exact below_set (below_set (After.below _) _ _) _ _; (go_simp; rfl)) | (with_reducible exact below_set (below_set (below_set (After.below _) _ _) _ _) _ _; (go_simp; rfl)) | (with_reducible exact below_set (below_set (below_set (below_set (After.below _) _ _) _ _) _ _) _ _; (go_simp; rfl)) | (exact Below.refl _ _; rfl)); intro o x1 ho; have hle := After.le x1; (try simp at hle)); obtain ⟨pp, cc, rfl⟩ := own_len ho)
    refine bodyPost_ret (v := .int .i64 s) (by simp only [results, Try.results65]; go_simp) rfl ⟨rfl, x1.below⟩
  · rw [show rankV 2 width L = width - (size L : Int) from rfl]
    generalize size L = s at hli hsz ⊢
    clear hc hln
    go_enter Try.func65, Try.ntmps65
    go_wp2_with ((go_at_call 87; refine' Calls.aftS _ _ (hli) _; rotate_left 2; (first | (with_reducible exact After.below _; rfl) | (with_reducible exact below_drew (After.below _); rfl) | (with_reducible exact below_set (After.below _) _ _; (go_simp; rfl)) | (with_reducible exact below_set (below_set (After.below _) _ _) _ _; (go_simp; rfl)) | (with_reducible exact below_set (below_set (below_set (After.below _) _ _) _ _) _ _; (go_simp; rfl)) | (with_reducible exact below_set (below_set (below_set (below_set (After.below _) _ _) _ _) _ _) _ _; (go_simp; rfl)) | (exact Below.refl _ _; rfl)); intro o x1 ho; have hle := After.le x1; (try simp at hle)); obtain ⟨pp, cc, rfl⟩ := own_len ho)
    refine bodyPost_ret (v := .int .i64 (width - s)) (by simp only [results, Try.results65]; go_simp) rfl ⟨rfl, x1.below⟩
  · rw [show rankV 3 width L = (rsum L : Int) from rfl]
    clear hli hln hsz
    go_enter Try.func65, Try.ntmps65
    go_wp2_with fail
    go_loopw [7, 14] (fun o i wr => ∃ k : Nat, k ≤ L.length ∧ i = .int .i64 k ∧ o = .int .i64 (rsum (L.take k)) ∧ Below w.heap.size w wr) (fun _ i _ => L.length - (intOf i).toNat)
    case atStart => exact ⟨0, Nat.zero_le _, rfl, rfl, Below.refl _ _⟩
    case round =>
      obtain ⟨k, hk, rfl, rfl, hB⟩ := hrel
      by_cases hlt : k < L.length
      · have hpp := hp (by omega)
        subst hpp
        have c0 := hc k hlt
        have hg := World.block_lt_of_cell? _ _ c0
        have c2 := (hB.cell (p := ⟨b, off + k, none⟩) hg).trans c0
        have hgw := World.block_lt_of_cell? _ _ c2
        have hx := hL _ (List.getElem_mem hlt)
        have hz : Hid (rsum (L.take (k + 1)) = rsum (L.take k) + rankW (L[k]'hlt)) := by
          show _ = _
          rw [List.take_succ_eq_append_getElem hlt, rsum_snoc]
        have hr1 := rsum_le (L.take k)
        have hr2 : (L.take k).length ≤ k := by simp; omega
        have hr3 := rankW_le (L[k]'hlt)
        have hw := hB.size
        have hrk := rrank_any ((L[k]'hlt : Nat) : Int) (by omega) (by omega)
        rw [← rankW_eq] at hrk
        clear hc c0
        generalize rankW (L[k]'hlt) = r at hz hr3 hrk
        generalize L[k]'hlt = x at c2 hx hrk
        generalize rsum (L.take k) = s at hz hr1 ⊢
        go_wp2_with ((go_at_call 38; refine' Calls.aft _ _ (hrk _) _; rotate_left 2; (first | (with_reducible exact After.below _; rfl) | (with_reducible exact below_drew (After.below _); rfl) | (with_reducible exact below_set (After.below _) _ _; (go_simp; rfl)) | (with_reducible exact below_set (below_set (After.below _) _ _) _ _; (go_simp; rfl)) | (with_reducible exact below_set (below_set (below_set (After.below _) _ _) _ _) _ _; (go_simp; rfl)) | (with_reducible exact below_set (below_set (below_set (below_set (After.below _) _ _) _ _) _ _) _ _; (go_simp; rfl)) | (exact Below.refl _ _; rfl)); intro x1; have hle := After.le x1; (try simp at hle)))
        go_roundw
        case rel => exact ⟨k + 1, by omega, by simp, by rw [hz]; simp, hB.trans (Below.mono x1.below hw)⟩
        case measure => simp [intOf]; omega
      · have hks : k = L.length := by omega
        subst hks
        rw [List.take_length]
        clear hc
        go_wp2_with fail
        refine bodyPost_ret (v := .int .i64 (rsum L)) (by simp only [results, Try.results65]; go_simp) rfl ⟨rfl, hB⟩

end Go.Proofs.Ytjjopjpchgajcaa.Ws
