/- WALKS of package lattice and its reference: Top of the reference, values, few. -/
import Derived.Test.YtjjopjpchgajcaaLattb
namespace Go.Proofs.Ytjjopjpchgajcaa.Ws
set_option linter.unusedVariables false
set_option linter.unusedSimpArgs false
open Go Go.RowKit

theorem rep_set {a k n : Nat} (h : k < n) : (List.replicate k a ++ List.replicate (n - k) 0).set k a = List.replicate (k + 1) a ++ List.replicate (n - (k + 1)) 0 := by
  apply List.ext_getElem?
  intro j
  by_cases h1 : j = k
  · subst h1
    rw [List.getElem?_set_self (by simp; omega), List.getElem?_append_left (by simp), List.getElem?_replicate, if_pos (by omega)]
  · rw [List.getElem?_set_ne (by omega)]
    by_cases h2 : j < k
    · rw [List.getElem?_append_left (by simpa using h2), List.getElem?_append_left (by simp; omega), List.getElem?_replicate, List.getElem?_replicate, if_pos h2, if_pos (by omega)]
    · rw [List.getElem?_append_right (by simp; omega), List.getElem?_append_right (by simp; omega), List.getElem?_replicate, List.getElem?_replicate]
      simp only [List.length_replicate]
      by_cases h3 : j < n
      · rw [if_pos (by omega), if_pos (by omega)]
      · rw [if_neg (by omega), if_neg (by omega)]

set_option maxRecDepth 100000 in
theorem rtop_any (what width : Int) (w : World) :
    Calls Try.prog 54 #[.int .i64 what, .int .i64 width] w fun e w' => ∃ v', e = .returned v' ∧ w'.ownsRow w.heap.size 29 1 v' (topW what width).length ((topW what width).flatMap encW) ∧ Below w.heap.size w w' := by
  obtain ⟨i0, hi, hz0, hz1, hz2⟩ := info_parts w_info
  rw [topW_length]
  have hi0 := ris_any what width
  have hwl := wordsN_le what width
  by_cases hc : isL what width = true ∧ what = 1
  · obtain ⟨h1, h2, h3⟩ := isL_facts hc.1
    have hf := rfull_any width h2 h3
    have hb : topW what width = fullW width := by unfold topW; rw [if_pos hc]
    rw [hb, sizeN_words hc.1 (by omega)]
    rw [hc.1] at hi0
    have f2 : (what == 1) = true := by simp [hc.2]
    clear hc h1 hb
    go_enter Try.func54, Try.ntmps54
    go_wp2_with (first | (go_at_call 63; refine Calls.same (hi0 _) ?_) | (go_at_call 78; refine' Calls.aftS _ _ (hf _) _; rotate_left 2; (first | (with_reducible exact After.below _; rfl) | (with_reducible exact below_drew (After.below _); rfl) | (with_reducible exact below_set (After.below _) _ _; (go_simp; rfl)) | (with_reducible exact below_set (below_set (After.below _) _ _) _ _; (go_simp; rfl)) | (with_reducible exact below_set (below_set (below_set (After.below _) _ _) _ _) _ _; (go_simp; rfl)) | (with_reducible exact below_set (below_set (below_set (below_set (After.below _) _ _) _ _) _ _) _ _; (go_simp; rfl)) | (exact Below.refl _ _; rfl)); intro v1 x1 ho; have hle := After.le x1; (try simp at hle)))
    refine bodyPost_ret (v := v1) (by simp only [results, Try.results54]; go_simp) rfl ⟨_, rfl, ho, x1.below⟩
  · have hb : topW what width = List.replicate (wordsN what width) (if what = 3 then 1 else 0) := by unfold topW; rw [if_neg hc]
    rw [hb]
    have hr := rwords_any what width
    have f2 : isL what width = true → (what == 1) = false := fun hl => by simp; intro h; exact hc ⟨hl, h⟩
    have hn0 : isL what width = false → wordsN what width = 0 := fun hl => by unfold wordsN; rw [hl]; rfl
    generalize wordsN what width = n at hr hwl hn0 ⊢
    generalize isL what width = l at hi0 f2 hn0
    clear hc hb
    have hlast : ∀ l : Bool, (l = false → n = 0) → (l = true → (what == 1) = false) → (∀ w, Calls Try.prog 63 #[.int .i64 what, .int .i64 width] w fun e w' => e = .returned (.bool l) ∧ w = w') →
        Calls Try.prog 54 #[.int .i64 what, .int .i64 width] w fun e w' => ∃ v', e = .returned v' ∧ w'.ownsRow w.heap.size 29 1 v' n ((List.replicate n (if what = 3 then 1 else 0)).flatMap encW) ∧ Below w.heap.size w w' := by
      intro l hn0 f2 hi0
      cases l
      · have hn := hn0 rfl
        subst hn
        go_enter Try.func54, Try.ntmps54
        go_wp2_with (first | (go_at_call 63; refine Calls.same (hi0 _) ?_) | (go_at_call 49; refine Calls.same (hr _) ?_) | (at_make; refine wpList_make_full _ rfl _ _ 52 rfl w.heap.size 29 i0 (.int .u64 0) 1 Try.underlying52 hi hz0 hz1 .i64 .i64 _ _ 0 rfl rfl rfl rfl (by rw [hz2]; omega) (by unfold maxLen; omega) (Nat.le_refl _) ?_; intro w1 hown hgrow; rw [zeros_rep] at hown))
        have hB : Below w.heap.size w w1 := Below.grown (Below.refl _ _) hgrow (Nat.le_refl _) (fun k e => by cases e)
        go_wp2_with fail
        go_loop [22] (fun i => i = .int .i64 0) (fun _ => 0)
        case atStart => rfl
        case round =>
          subst hrel
          go_wp2_with fail
          refine bodyPost_ret (v := .slice (some ⟨w.heap.size, 0, none⟩) 0 0) (by simp only [results, Try.results54]; go_simp) rfl ⟨_, rfl, hown, hB⟩
      · have f3 := f2 rfl
        by_cases h3 : what = 3
        · subst h3
          simp only [if_true]
          go_enter Try.func54, Try.ntmps54
          go_wp2_with (first | (go_at_call 63; refine Calls.same (hi0 _) ?_) | (go_at_call 49; refine Calls.same (hr _) ?_) | (at_make; refine wpList_make_full _ rfl _ _ 52 rfl w.heap.size 29 i0 (.int .u64 0) 1 Try.underlying52 hi hz0 hz1 .i64 .i64 _ _ n rfl rfl rfl rfl (by rw [hz2]; omega) (by unfold maxLen; omega) (Nat.le_refl _) ?_; intro w1 hown hgrow; rw [zeros_rep] at hown))
          have hB : Below w.heap.size w w1 := Below.grown (Below.refl _ _) hgrow (Nat.le_refl _) (fun k e => by cases e)
          go_wp2_with fail
          go_loopw [22] (fun i wr => ∃ k : Nat, k ≤ n ∧ i = .int .i64 k ∧ wr.ownsRow w.heap.size 29 1 (.slice (some ⟨w.heap.size, 0, none⟩) n n) n ((List.replicate k 1 ++ List.replicate (n - k) 0).flatMap encW) ∧ Below w.heap.size w wr) (fun i _ => n - (intOf i).toNat)
          case atStart => exact ⟨0, Nat.zero_le _, rfl, by simpa using hown, hB⟩
          case round =>
            obtain ⟨k, hk, rfl, hown, hB⟩ := hrel
            by_cases hlt : k < n
            · have f0 := hown.frozenAt k
              have c0 := hown.cellAt k (by omega)
              rw [flat_words, List.getElem?_map, List.getElem?_append_right (by simp), List.getElem?_replicate, if_pos (by simp; omega)] at c0
              simp only [Option.map_some] at c0
              have h2 := (hown.stored k (.int .u64 1)).1
              rw [show (Value.int IntKind.u64 1) = Value.int IntKind.u64 ((1 : Nat) : Int) from rfl, set_words, rep_set hlt] at h2
              have hB2 := hB.setCell (p := ⟨w.heap.size, k, none⟩) (Nat.le_refl _) (.int .u64 ((1 : Nat) : Int))
              have hA := And.intro h2 hB2
              clear hown hB h2 hB2
              go_wp2_with fail
              go_roundw
              case rel => exact ⟨k + 1, by omega, by simp, hA.1, hA.2⟩
              case measure => simp [intOf]; omega
            · have hks : k = n := by omega
              subst hks
              rw [Nat.sub_self, List.replicate_zero, List.append_nil] at hown
              go_wp2_with fail
              refine bodyPost_ret (v := .slice (some ⟨w.heap.size, 0, none⟩) k k) (by simp only [results, Try.results54]; go_simp) rfl ⟨_, rfl, hown, hB⟩
        · rw [if_neg h3]
          have f4 : (what == 3) = false := by simp [h3]
          clear h3
          go_enter Try.func54, Try.ntmps54
          go_wp2_with (first | (go_at_call 63; refine Calls.same (hi0 _) ?_) | (go_at_call 49; refine Calls.same (hr _) ?_) | (at_make; refine wpList_make_full _ rfl _ _ 52 rfl w.heap.size 29 i0 (.int .u64 0) 1 Try.underlying52 hi hz0 hz1 .i64 .i64 _ _ n rfl rfl rfl rfl (by rw [hz2]; omega) (by unfold maxLen; omega) (Nat.le_refl _) ?_; intro w1 hown hgrow; rw [zeros_rep] at hown))
          have hB : Below w.heap.size w w1 := Below.grown (Below.refl _ _) hgrow (Nat.le_refl _) (fun k e => by cases e)
          go_wp2_with fail
          go_loop [22] (fun i => ∃ k : Nat, k ≤ n ∧ i = .int .i64 k) (fun i => n - (intOf i).toNat)
          case atStart => exact ⟨0, Nat.zero_le _, rfl⟩
          case round =>
            obtain ⟨k, hk, rfl⟩ := hrel
            by_cases hlt : k < n
            · have hA := And.intro hown hB
              clear hown hB
              go_wp2_with fail
              exact ⟨⟨k + 1, by omega, by simp⟩, by simp [intOf]; omega⟩
            · have hks : k = n := by omega
              subst hks
              go_wp2_with fail
              refine bodyPost_ret (v := .slice (some ⟨w.heap.size, 0, none⟩) k k) (by simp only [results, Try.results54]; go_simp) rfl ⟨_, rfl, hown, hB⟩
    exact hlast l hn0 f2 hi0

/-- Whether words are a value. -/
def valueB (what width : Int) (L : List Nat) : Bool := isL what width && (decide (L.length = wordsN what width) && (if what = 3 then L.all (fun x => isB (x : Int)) else fitsB L width))

theorem is1_any (x : Nat) (hx : x < 18446744073709551616) (w : World) :
    Calls Try.prog 82 #[.int .u64 x] w fun e w' => e = .returned (.bool (!isB (x : Int))) ∧ Below w.heap.size w w' := by
  have h1 := is_word (x : Int) (by omega) (by omega)
  generalize isB (x : Int) = y at h1 ⊢
  go_enter Try.func82, Try.ntmps82
  go_wp2_with ((go_at_call 43; refine' Calls.aft _ _ (h1 _) _; rotate_left 2; (first | (with_reducible exact After.below _; rfl) | (with_reducible exact below_drew (After.below _); rfl) | (with_reducible exact below_set (After.below _) _ _; (go_simp; rfl)) | (with_reducible exact below_set (below_set (After.below _) _ _) _ _; (go_simp; rfl)) | (with_reducible exact below_set (below_set (below_set (After.below _) _ _) _ _) _ _; (go_simp; rfl)) | (with_reducible exact below_set (below_set (below_set (below_set (After.below _) _ _) _ _) _ _) _ _; (go_simp; rfl)) | (exact Below.refl _ _; rfl)); intro x1; have hle := After.le x1; (try simp at hle)))
  refine bodyPost_ret (v := .bool (!y)) (by simp only [results, Try.results82]; go_simp) rfl ⟨rfl, ?_⟩
  exact x1.below

set_option maxRecDepth 100000 in
theorem contains_any (L : List Nat) (hok : okW L) (hl : L.length ≤ 1000000) (v : Value) (w : World) (h : Sl w v encW L) :
    Calls Try.prog 81 #[v, .func (.func 82) #[] #[]] w fun e w' => e = .returned (.bool (!L.all fun x => isB (x : Int))) ∧ Below w.heap.size w w' := by
  have hidx : ∀ w, Sl w v encW L → Calls Try.prog 93 #[v, .func (.func 82) #[] #[]] w fun e w' => ∃ q : Int, e = .returned (.int .i64 q) ∧ (decide (0 ≤ q) = !L.all fun x => isB (x : Int)) ∧ Below w.heap.size w w' := by
    intro w h
    obtain ⟨b, off, p, cap, rfl, hp, hc⟩ := Sl.words h
    go_enter Try.func93, Try.ntmps93
    go_wp2_with fail
    go_loopw [8] (fun i wr => ∃ k : Nat, k ≤ L.length ∧ i = .int .i64 k ∧ ((L.take k).all fun x => isB (x : Int)) = true ∧ Below w.heap.size w wr) (fun i _ => L.length - (intOf i).toNat)
    case atStart => exact ⟨0, Nat.zero_le _, rfl, rfl, Below.refl _ _⟩
    case round =>
      obtain ⟨k, hk, rfl, hall, hB⟩ := hrel
      have hA := And.intro True.intro hall
      clear hall
      by_cases hlt : k < L.length
      · have hpp := hp (by omega)
        subst hpp
        have c0 := hc k hlt
        have hg := World.block_lt_of_cell? _ _ c0
        have c1 := (hB.cell (p := ⟨b, off + k, none⟩) hg).trans c0
        have hgw := World.block_lt_of_cell? _ _ c1
        have hx := hok _ (List.getElem_mem hlt)
        have h1 := is1_any _ hx wr
        have hT : (L.take (k + 1)).all (fun x => isB (x : Int)) = ((L.take k).all (fun x => isB (x : Int)) && isB ((L[k]'hlt : Nat) : Int)) := by
          rw [List.take_succ_eq_append_getElem hlt, List.all_append]; simp
        have hF : isB ((L[k]'hlt : Nat) : Int) = false → (L.all fun x => isB (x : Int)) = false := fun hf => by
          rw [List.all_eq_false]
          exact ⟨_, List.getElem_mem hlt, by rw [hf]; simp⟩
        have hw := hB.size
        have hT2 := And.intro hT hF
        clear hc c0 hT hF
        generalize L[k]'hlt = x at c1 hx h1 hT2
        cases hb : isB (x : Int)
        · rw [hb] at h1
          simp only [Bool.not_false] at h1
          go_wp2_with ((go_at_call 82; refine' Calls.aft _ _ (h1) _; rotate_left 2; (first | (with_reducible exact After.below _; rfl) | (with_reducible exact below_drew (After.below _); rfl) | (with_reducible exact below_set (After.below _) _ _; (go_simp; rfl)) | (with_reducible exact below_set (below_set (After.below _) _ _) _ _; (go_simp; rfl)) | (with_reducible exact below_set (below_set (below_set (After.below _) _ _) _ _) _ _; (go_simp; rfl)) | (with_reducible exact below_set (below_set (below_set (below_set (After.below _) _ _) _ _) _ _) _ _; (go_simp; rfl)) | (exact Below.refl _ _; rfl)); intro x1; have hle := After.le x1; (try simp at hle)))
          refine bodyPost_ret (v := .int .i64 k) (by simp only [results, Try.results93]; go_simp) rfl ⟨k, rfl, ?_, hB.trans (Below.mono x1.below hw)⟩
          rw [hT2.2 hb]; simp
        · rw [hb] at h1
          simp only [Bool.not_true] at h1
          go_wp2_with ((go_at_call 82; refine' Calls.aft _ _ (h1) _; rotate_left 2; (first | (with_reducible exact After.below _; rfl) | (with_reducible exact below_drew (After.below _); rfl) | (with_reducible exact below_set (After.below _) _ _; (go_simp; rfl)) | (with_reducible exact below_set (below_set (After.below _) _ _) _ _; (go_simp; rfl)) | (with_reducible exact below_set (below_set (below_set (After.below _) _ _) _ _) _ _; (go_simp; rfl)) | (with_reducible exact below_set (below_set (below_set (below_set (After.below _) _ _) _ _) _ _) _ _; (go_simp; rfl)) | (exact Below.refl _ _; rfl)); intro x1; have hle := After.le x1; (try simp at hle)))
          go_roundw
          case rel => exact ⟨k + 1, by omega, by simp, by rw [hT2.1, hA.2, hb]; rfl, hB.trans (Below.mono x1.below hw)⟩
          case measure => simp [intOf]; omega
      · have hks : k = L.length := by omega
        have hA2 := hA.2
        rw [hks, List.take_length] at hA2
        clear hc
        go_wp2_with fail
        refine bodyPost_ret (v := .int .i64 (-1)) (by simp only [results, Try.results93]; go_simp) rfl ⟨-1, rfl, ?_, hB⟩
        rw [hA2]; rfl
  have hi := hidx w h
  have hS : ∀ (q : Int), (decide (0 ≤ q) = !L.all fun x => isB (x : Int)) → decide (0 ≤ q) = !L.all fun x => isB (x : Int) := fun q h => h
  generalize (!L.all fun x => isB (x : Int)) = y at hi ⊢
  go_enter Try.func81, Try.ntmps81
  go_wp2_with ((go_at_call 93; refine' Calls.aftS _ _ (hi) _; rotate_left 2; (first | (with_reducible exact After.below _; rfl) | (with_reducible exact below_drew (After.below _); rfl) | (with_reducible exact below_set (After.below _) _ _; (go_simp; rfl)) | (with_reducible exact below_set (below_set (After.below _) _ _) _ _; (go_simp; rfl)) | (with_reducible exact below_set (below_set (below_set (After.below _) _ _) _ _) _ _; (go_simp; rfl)) | (with_reducible exact below_set (below_set (below_set (below_set (After.below _) _ _) _ _) _ _) _ _; (go_simp; rfl)) | (exact Below.refl _ _; rfl)); intro q x1 hq; have hle := After.le x1; (try simp at hle)))
  refine bodyPost_ret (v := .bool y) (by simp only [results, Try.results81]; go_simp) rfl ⟨rfl, x1.below⟩

end Go.Proofs.Ytjjopjpchgajcaa.Ws
