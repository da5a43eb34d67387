/- WALKS of package lattice: what is wrong with values; slices.Equal. -/
import Derived.Test.YtjjopjpchgajcaaLattg
namespace Go.Proofs.Ytjjopjpchgajcaa.Ws
set_option linter.unusedVariables false
set_option linter.unusedSimpArgs false
open Go Go.RowKit

theorem check1_any (what width : Int) (L : List Nat) (hok : okW L) (hl : L.length ≤ 1000000) (v : Value) (g3 g4 : Nat) (w : World) (h : Sl w v encW L) (h3 : w.cell? ⟨g3, 0, none⟩ = some (.int .i64 what)) (h4 : w.cell? ⟨g4, 0, none⟩ = some (.int .i64 width)) :
    Calls Try.prog 96 #[v, .pointer (some ⟨g3, 0, none⟩), .pointer (some ⟨g4, 0, none⟩)] w fun e w' => e = .returned (.bool (!valueB what width L)) ∧ Below w.heap.size w w' := by
  have hv := lis_any what width L hok hl v w h
  have b3 := World.block_lt_of_cell? _ _ h3
  have b4 := World.block_lt_of_cell? _ _ h4
  generalize valueB what width L = y at hv ⊢
  go_enter Try.func96, Try.ntmps96
  go_wp2_with ((go_at_call 55; refine' Calls.aft _ _ (hv) _; rotate_left 2; (first | (with_reducible exact After.below _; rfl) | (with_reducible exact below_drew (After.below _); rfl) | (with_reducible exact below_set (After.below _) _ _; (go_simp; rfl)) | (with_reducible exact below_set (below_set (After.below _) _ _) _ _; (go_simp; rfl)) | (with_reducible exact below_set (below_set (below_set (After.below _) _ _) _ _) _ _; (go_simp; rfl)) | (with_reducible exact below_set (below_set (below_set (below_set (After.below _) _ _) _ _) _ _) _ _; (go_simp; rfl)) | (exact Below.refl _ _; rfl)); intro x1; have hle := After.le x1; (try simp at hle)))
  refine bodyPost_ret (v := .bool (!y)) (by simp only [results, Try.results96]; go_simp) rfl ⟨rfl, ?_⟩
  exact x1.below

set_option maxRecDepth 100000 in
theorem contains2_any (Vs : List Value) (fs : List Bool) (hn : fs.length = Vs.length) (hl : Vs.length ≤ 1000) (vv : Value) (g3 g4 : Nat) (w : World) (h : Sl w vv encV Vs)
    (hcall : ∀ (i : Nat) (hi : i < Vs.length) (hi' : i < fs.length) (wr : World), Below w.heap.size w wr →
      Calls Try.prog 96 #[Vs[i]'hi, .pointer (some ⟨g3, 0, none⟩), .pointer (some ⟨g4, 0, none⟩)] wr fun e w' => e = .returned (.bool (fs[i]'hi')) ∧ Below wr.heap.size wr w') :
    Calls Try.prog 95 #[vv, .func (.func 96) #[] #[.pointer (some ⟨g3, 0, none⟩), .pointer (some ⟨g4, 0, none⟩)]] w fun e w' => e = .returned (.bool (fs.any id)) ∧ Below w.heap.size w w' := by
  have hidx : Calls Try.prog 102 #[vv, .func (.func 96) #[] #[.pointer (some ⟨g3, 0, none⟩), .pointer (some ⟨g4, 0, none⟩)]] w fun e w' => ∃ q : Int, e = .returned (.int .i64 q) ∧ (decide (0 ≤ q) = fs.any id) ∧ Below w.heap.size w w' := by
    obtain ⟨b, off, p, cap, rfl, hp, hc⟩ := h.open (k := 1) (fun _ => rfl)
    have hN : Hid (fs.length = Vs.length) := hn
    clear hn
    go_enter Try.func102, Try.ntmps102
    go_wp2_with fail
    go_loopw [8] (fun i wr => ∃ k : Nat, k ≤ Vs.length ∧ i = .int .i64 k ∧ (fs.take k).any id = false ∧ Below w.heap.size w wr) (fun i _ => Vs.length - (intOf i).toNat)
    case atStart => exact ⟨0, Nat.zero_le _, rfl, rfl, Below.refl _ _⟩
    case round =>
      obtain ⟨k, hk, rfl, hall, hB⟩ := hrel
      have hA : Hid ((fs.take k).any id = false) := hall
      clear hall
      by_cases hlt : k < Vs.length
      · have hpp := hp (by omega)
        subst hpp
        have hlt' : k < fs.length := by have h9 : fs.length = Vs.length := hN; omega
        have c0 := hc k hlt 0 _ rfl
        rw [Nat.mul_one, Nat.add_zero] at c0
        have hg := World.block_lt_of_cell? _ _ c0
        have c1 := (hB.cell (p := ⟨b, off + k, none⟩) hg).trans c0
        have hgw := World.block_lt_of_cell? _ _ c1
        have h1 := hcall k hlt hlt' wr hB
        have hT : Hid ((fs.take (k + 1)).any id = ((fs.take k).any id || fs[k]'hlt')) := by
          show _ = _
          rw [List.take_succ_eq_append_getElem hlt', List.any_append]; simp
        have hF : Hid (fs[k]'hlt' = true → fs.any id = true) := fun hf => by
          rw [List.any_eq_true]
          exact ⟨_, List.getElem_mem hlt', by simpa using hf⟩
        have hw := hB.size
        clear hc c0 hcall
        generalize Vs[k]'hlt = vk at c1 h1
        generalize fs[k]'hlt' = fk at h1 hT hF
        cases fk
        · go_wp2_with ((go_at_call 96; refine' Calls.aft _ _ (h1) _; rotate_left 2; (first | (with_reducible exact After.below _; rfl) | (with_reducible exact below_drew (After.below _); rfl) | (with_reducible exact below_set (After.below _) _ _; (go_simp; rfl)) | (with_reducible exact below_set (below_set (After.below _) _ _) _ _; (go_simp; rfl)) | (with_reducible exact below_set (below_set (below_set (After.below _) _ _) _ _) _ _; (go_simp; rfl)) | (with_reducible exact below_set (below_set (below_set (below_set (After.below _) _ _) _ _) _ _) _ _; (go_simp; rfl)) | (exact Below.refl _ _; rfl)); intro x1; have hle := After.le x1; (try simp at hle)))
          go_roundw
          case rel => exact ⟨k + 1, by omega, by simp, by rw [hT, hA]; rfl, hB.trans (Below.mono x1.below hw)⟩
          case measure => simp [intOf]; omega
        · go_wp2_with ((go_at_call 96; refine' Calls.aft _ _ (h1) _; rotate_left 2; (first | (with_reducible exact After.below _; rfl) | (with_reducible exact below_drew (After.below _); rfl) | (with_reducible exact below_set (After.below _) _ _; (go_simp; rfl)) | (with_reducible exact below_set (below_set (After.below _) _ _) _ _; (go_simp; rfl)) | (with_reducible exact below_set (below_set (below_set (After.below _) _ _) _ _) _ _; (go_simp; rfl)) | (with_reducible exact below_set (below_set (below_set (below_set (After.below _) _ _) _ _) _ _) _ _; (go_simp; rfl)) | (exact Below.refl _ _; rfl)); intro x1; have hle := After.le x1; (try simp at hle)))
          refine bodyPost_ret (v := .int .i64 k) (by simp only [results, Try.results102]; go_simp) rfl ⟨k, rfl, ?_, hB.trans (Below.mono x1.below hw)⟩
          have h9 : fs.any id = true := by have h8 := hF.out; exact h8 trivial
          rw [h9]; simp
      · have hA2 : Hid (fs.any id = false) := by
          have h9 : fs.length = Vs.length := hN
          have h8 : (fs.take k).any id = false := hA
          rwa [List.take_of_length_le (by omega)] at h8
        clear hc hcall
        go_wp2_with fail
        refine bodyPost_ret (v := .int .i64 (-1)) (by simp only [results, Try.results102]; go_simp) rfl ⟨-1, rfl, ?_, hB⟩
        rw [hA2]; rfl
  clear hcall
  generalize fs.any id = y at hidx ⊢
  go_enter Try.func95, Try.ntmps95
  go_wp2_with ((go_at_call 102; refine' Calls.aftS _ _ (hidx) _; rotate_left 2; (first | (with_reducible exact After.below _; rfl) | (with_reducible exact below_drew (After.below _); rfl) | (with_reducible exact below_set (After.below _) _ _; (go_simp; rfl)) | (with_reducible exact below_set (below_set (After.below _) _ _) _ _; (go_simp; rfl)) | (with_reducible exact below_set (below_set (below_set (After.below _) _ _) _ _) _ _; (go_simp; rfl)) | (with_reducible exact below_set (below_set (below_set (below_set (After.below _) _ _) _ _) _ _) _ _; (go_simp; rfl)) | (exact Below.refl _ _; rfl)); intro q x1 hq; have hle := After.le x1; (try simp at hle)))
  refine bodyPost_ret (v := .bool y) (by simp only [results, Try.results95]; go_simp) rfl ⟨rfl, x1.below⟩

/-- What is wrong with values. -/
def checkE (what width : Int) (Ls : List (List Nat)) : Int := if isL what width then (if Ls.all (valueB what width) then 0 else 2) else 10

theorem check_any (what width : Int) (Vs : List Value) (Ls : List (List Nat)) (hn : Ls.length = Vs.length) (hl : Vs.length ≤ 1000) (vv : Value) (w : World) (h : Sl w vv encV Vs)
    (hV : ∀ (i : Nat) (hi : i < Vs.length) (hi' : i < Ls.length), okW (Ls[i]'hi') ∧ (Ls[i]'hi').length ≤ 1000000 ∧ Sl w (Vs[i]'hi) encW (Ls[i]'hi')) :
    Calls Try.prog 84 #[.int .i64 what, .int .i64 width, vv] w fun e w' => e = .returned (.int .i64 (checkE what width Ls)) ∧ Below w.heap.size w w' := by
  have h0 := is_any what width
  have hct := fun (w1 : World) (hB : Below w.heap.size w w1) (hs : w.heap.size ≤ w1.heap.size) (g3 g4 : Nat) (h3 : w1.cell? ⟨g3, 0, none⟩ = some (.int .i64 what)) (h4 : w1.cell? ⟨g4, 0, none⟩ = some (.int .i64 width)) =>
    contains2_any Vs (Ls.map fun L => !valueB what width L) (by simpa using hn) hl vv g3 g4 w1 (h.below hB) (fun i hi hi' wr hBr => by
      have hi2 : i < Ls.length := by omega
      obtain ⟨h7, h8, h9⟩ := hV i hi hi2
      have := check1_any what width (Ls[i]'hi2) h7 h8 (Vs[i]'hi) g3 g4 wr ((h9.below hB).below hBr) ((hBr.cell (p := ⟨g3, 0, none⟩) (World.block_lt_of_cell? _ _ h3)).trans h3) ((hBr.cell (p := ⟨g4, 0, none⟩) (World.block_lt_of_cell? _ _ h4)).trans h4)
      simpa using this)
  have hany : (Ls.map fun L => !valueB what width L).any id = !Ls.all (valueB what width) := by
    rw [List.any_map, List.not_all_eq_any_not]; rfl
  rw [hany] at hct
  clear hany hV
  cases hL : isL what width
  · rw [hL] at h0
    have e : checkE what width Ls = 10 := by unfold checkE; rw [hL]; rfl
    rw [e]
    clear hct hL e
    go_enter Try.func84, Try.ntmps84
    go_wp2_with (first | (go_at_call 74; refine Calls.same (h0 _) ?_))
    refine bodyPost_ret (v := .int .i64 10) (by simp only [results, Try.results84]; go_simp) rfl ⟨rfl, ?_⟩
    (repeat (first | exact Below.refl _ _ | apply Below.drew | refine Below.alloc ?_ ?_ _ | refine Below.setCell ?_ ?_ _ | refine Below.trans ?_ (Below.mono (After.below _) ?_))); (all_goals (first | (simp; done) | (simp; omega) | omega))
  · rw [hL] at h0
    have hB1 : Below w.heap.size w ((w.alloc (.cells #[.int .i64 what] 3)).alloc (.cells #[.int .i64 width] 3)) := Below.alloc (Below.alloc (Below.refl _ _) (Nat.le_refl _) _) (by simp) _
    have hc1 := hct _ hB1 (by simp; omega) w.heap.size (w.heap.size + 1) (by simp) (by simp)
    clear hct
    cases hy : Ls.all (valueB what width)
    · have e : checkE what width Ls = 2 := by unfold checkE; rw [hL, hy]; rfl
      rw [e]
      rw [hy] at hc1
      simp only [Bool.not_false] at hc1
      clear hy hL e
      go_enter Try.func84, Try.ntmps84
      go_wp2_with (first | (go_at_call 74; refine Calls.same (h0 _) ?_) | (go_at_call 95; refine' Calls.aft _ _ (hc1) _; rotate_left 2; (first | (with_reducible exact After.below _; rfl) | (with_reducible exact below_drew (After.below _); rfl) | (with_reducible exact below_set (After.below _) _ _; (go_simp; rfl)) | (with_reducible exact below_set (below_set (After.below _) _ _) _ _; (go_simp; rfl)) | (with_reducible exact below_set (below_set (below_set (After.below _) _ _) _ _) _ _; (go_simp; rfl)) | (with_reducible exact below_set (below_set (below_set (below_set (After.below _) _ _) _ _) _ _) _ _; (go_simp; rfl)) | (exact Below.refl _ _; rfl)); intro x1; have hle := After.le x1; (try simp at hle)))
      refine bodyPost_ret (v := .int .i64 2) (by simp only [results, Try.results84]; go_simp) rfl ⟨rfl, ?_⟩
      exact hB1.trans (Below.mono x1.below (by simp; omega))
    · have e : checkE what width Ls = 0 := by unfold checkE; rw [hL, hy]; rfl
      rw [e]
      rw [hy] at hc1
      simp only [Bool.not_true] at hc1
      clear hy hL e
      go_enter Try.func84, Try.ntmps84
      go_wp2_with (first | (go_at_call 74; refine Calls.same (h0 _) ?_) | (go_at_call 95; refine' Calls.aft _ _ (hc1) _; rotate_left 2; (first | (with_reducible exact After.below _; rfl) | (with_reducible exact below_drew (After.below _); rfl) | (with_reducible exact below_set (After.below _) _ _; (go_simp; rfl)) | (with_reducible exact below_set (below_set (After.below _) _ _) _ _; (go_simp; rfl)) | (with_reducible exact below_set (below_set (below_set (After.below _) _ _) _ _) _ _; (go_simp; rfl)) | (with_reducible exact below_set (below_set (below_set (below_set (After.below _) _ _) _ _) _ _) _ _; (go_simp; rfl)) | (exact Below.refl _ _; rfl)); intro x1; have hle := After.le x1; (try simp at hle)))
      refine bodyPost_ret (v := .int .i64 0) (by simp only [results, Try.results84]; go_simp) rfl ⟨rfl, ?_⟩
      exact hB1.trans (Below.mono x1.below (by simp; omega))

/-- Words that are alike: told. -/
theorem equal_any (L M : List Nat) (hl : L.length ≤ 1000000) (v v' : Value) (w : World) (h : Sl w v encW L) (h' : Sl w v' encW M) :
    Calls Try.prog 86 #[v, v'] w fun e w' => e = .returned (.bool (decide (L = M))) ∧ Below w.heap.size w w' := by
  obtain ⟨b, off, p, cap, rfl, hp, hc⟩ := Sl.words h
  obtain ⟨b', off', p', cap', rfl, hp', hc'⟩ := Sl.words h'
  by_cases hn : L.length = M.length
  · have hN : Hid (L.length = M.length) := hn
    have f1 : ((L.length : Int) != (M.length : Int)) = false := by simp [hn]
    clear hn
    go_enter Try.func86, Try.ntmps86
    go_wp2_with fail
    go_loopw [13] (fun i wr => ∃ k : Nat, k ≤ L.length ∧ i = .int .i64 k ∧ L.take k = M.take k ∧ Below w.heap.size w wr) (fun i _ => L.length - (intOf i).toNat)
    case atStart => exact ⟨0, Nat.zero_le _, rfl, rfl, Below.refl _ _⟩
    case round =>
      obtain ⟨k, hk, rfl, hsame, hB⟩ := hrel
      have hS : Hid (L.take k = M.take k) := hsame
      clear hsame
      by_cases hlt : k < L.length
      · have hlt' : k < M.length := by have h9 : L.length = M.length := hN; omega
        have hltM : (k : Int) < M.length := by omega
        have hpp := hp (by omega)
        have hpp' := hp' (by omega)
        subst hpp hpp'
        have c0 := hc k hlt
        have c1 := hc' k hlt'
        have hg := World.block_lt_of_cell? _ _ c0
        have hg' := World.block_lt_of_cell? _ _ c1
        have c2 := (hB.cell (p := ⟨b, off + k, none⟩) hg).trans c0
        have c3 := (hB.cell (p := ⟨b', off' + k, none⟩) hg').trans c1
        have hgw := World.block_lt_of_cell? _ _ c2
        have hgw' := World.block_lt_of_cell? _ _ c3
        have hT1 : Hid (L.take (k + 1) = L.take k ++ [L[k]'hlt]) := List.take_succ_eq_append_getElem hlt
        have hT2 : Hid (M.take (k + 1) = M.take k ++ [M[k]'hlt']) := List.take_succ_eq_append_getElem hlt'
        have hne : Hid (¬ (L[k]'hlt) = (M[k]'hlt') → ¬ L = M) := fun h9 h8 => by subst h8; exact h9 rfl
        clear hc hc' c0 c1
        generalize L[k]'hlt = x at c2 hT1 hne
        generalize M[k]'hlt' = y at c3 hT2 hne
        by_cases hxy : x = y
        · have f2 : ((x : Int) != (y : Int)) = false := by simp [hxy]
          have hX : Hid (x = y) := hxy
          clear hxy
          go_wp2_with fail
          refine' region_whole _ _ (by kernel_rfl) (by kernel_rfl) _; rotate_left 2; (first | (with_reducible exact After.below _; rfl) | (with_reducible exact below_drew (After.below _); rfl) | (with_reducible exact below_set (After.below _) _ _; (go_simp; rfl)) | (with_reducible exact below_set (below_set (After.below _) _ _) _ _; (go_simp; rfl)) | (with_reducible exact below_set (below_set (below_set (After.below _) _ _) _ _) _ _; (go_simp; rfl)) | (with_reducible exact below_set (below_set (below_set (below_set (After.below _) _ _) _ _) _ _) _ _; (go_simp; rfl)) | (exact Below.refl _ _; rfl)); (repeat (go_big_quiet_step (first | fail))); refine wpQuiet_nil ?_; intro z
          go_wp2_with fail
          go_roundw
          case rel =>
            have hz := z.le
            refine ⟨k + 1, by omega, by simp, ?_, hB.trans (Below.mono (After.below z) hB.size)⟩
            rw [hT1, hT2, hS, hX]
          case measure => simp [intOf]; omega
        · have f2 : ((x : Int) != (y : Int)) = true := by simp; omega
          have hX : Hid (¬ x = y) := hxy
          clear hxy
          go_wp2_with fail
          refine' region_whole _ _ (by kernel_rfl) (by kernel_rfl) _; rotate_left 2; (first | (with_reducible exact After.below _; rfl) | (with_reducible exact below_drew (After.below _); rfl) | (with_reducible exact below_set (After.below _) _ _; (go_simp; rfl)) | (with_reducible exact below_set (below_set (After.below _) _ _) _ _; (go_simp; rfl)) | (with_reducible exact below_set (below_set (below_set (After.below _) _ _) _ _) _ _; (go_simp; rfl)) | (with_reducible exact below_set (below_set (below_set (below_set (After.below _) _ _) _ _) _ _) _ _; (go_simp; rfl)) | (exact Below.refl _ _; rfl)); (repeat (go_big_quiet_step (first | fail))); refine wpQuiet_nil ?_; intro z
          go_wp2_with fail
          have hz := z.le
          refine bodyPost_ret (v := .bool false) (by simp only [results, Try.results86]; go_simp) rfl ⟨?_, hB.trans (Below.mono (After.below z) hB.size)⟩
          have h8 : ¬ L = M := (show ¬ x = y → ¬ L = M from hne) hX
          rw [decide_eq_false h8]
      · have hq : Hid (L = M) := by
          have h9 : L.length = M.length := hN
          have h8 : L.take k = M.take k := hS
          rwa [List.take_of_length_le (by omega), List.take_of_length_le (by omega)] at h8
        clear hc hc'
        go_wp2_with fail
        refine bodyPost_ret (v := .bool true) (by simp only [results, Try.results86]; go_simp) rfl ⟨?_, hB⟩
        rw [decide_eq_true (show L = M from hq)]
  · have f1 : ((L.length : Int) != (M.length : Int)) = true := by simp; omega
    have e : decide (L = M) = false := decide_eq_false fun h9 => hn (by rw [h9])
    rw [e]
    clear hn e hc hc'
    go_enter Try.func86, Try.ntmps86
    go_wp2_with fail
    refine bodyPost_ret (v := .bool false) (by simp only [results, Try.results86]; go_simp) rfl ⟨rfl, Below.refl _ _⟩

end Go.Proofs.Ytjjopjpchgajcaa.Ws
