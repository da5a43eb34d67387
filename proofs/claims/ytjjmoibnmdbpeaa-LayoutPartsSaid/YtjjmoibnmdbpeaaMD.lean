/- WALKS of package lattice and its reference: is, Words, Height; what they tell. WALKS of package lattice and its reference: few, Full, Bottom, Top of the reference. WALKS of package lattice and its reference: Top of the reference, values, few. WALKS of package lattice and its reference: whether words are a value; few. -/
import Derived.Test.YtjjmoibnmdbpeaaMC
import Derived.Test.YtjjmoibnmdbpeaaConstc

namespace Go.Proofs.Ytjjmoibnmdbpeaa.Ws
set_option linter.unusedVariables false
set_option linter.unusedSimpArgs false
open Go Go.RowKit

/-- Whether there is such a lattice. -/
def isL (what width : Int) : Bool := (decide (what = 1) || decide (what = 2) || decide (what = 3)) && (decide (0 ≤ width) && decide (width ≤ 1024))
/-- How many words a value has. -/
def wordsN (what width : Int) : Nat := if isL what width then (if what = 3 then width.toNat else sizeN width) else 0
def heightN (what width : Int) : Nat := if isL what width then (if what = 3 then 2 * width.toNat else width.toNat) else 0

theorem isL_facts {what width : Int} (h : isL what width = true) : (what = 1 ∨ what = 2 ∨ what = 3) ∧ 0 ≤ width ∧ width ≤ 1024 := by
  simpa [isL, or_assoc] using h
theorem wordsN_le (what width : Int) : wordsN what width ≤ 1024 := by
  unfold wordsN
  split
  · have := isL_facts (by assumption)
    have := sizeN_le width
    split <;> omega
  · omega

theorem is_any (what width : Int) (w : World) : Calls Try.prog 68 #[.int .i64 what, .int .i64 width] w fun e w' => e = .returned (.bool (isL what width)) ∧ w = w' := by
  go_enter Try.func68, Try.ntmps68
  go_wp2_with fail
  all_goals (go_ret; refine ⟨?_, rfl⟩; refine congrArg (fun b => Ending.returned (Value.bool b)) (?_ : (_ : Bool) = _); rw [Bool.eq_iff_iff]; simp [isL] <;> omega)

theorem ris_any (what width : Int) (w : World) : Calls Try.prog 70 #[.int .i64 what, .int .i64 width] w fun e w' => e = .returned (.bool (isL what width)) ∧ w = w' := by
  go_enter Try.func70, Try.ntmps70
  go_wp2_with fail
  all_goals (go_ret; refine ⟨?_, rfl⟩; refine congrArg (fun b => Ending.returned (Value.bool b)) (?_ : (_ : Bool) = _); rw [Bool.eq_iff_iff]; simp [isL] <;> omega)

theorem words_any (what width : Int) (w : World) : Calls Try.prog 32 #[.int .i64 what, .int .i64 width] w fun e w' => e = .returned (.int .i64 (wordsN what width)) ∧ w = w' := by
  have h0 := is_any what width
  cases hL : isL what width
  · rw [hL] at h0
    have hw : wordsN what width = 0 := by simp [wordsN, hL]
    rw [hw]
    go_enter Try.func32, Try.ntmps32
    go_wp2_with (first | (go_at_call 68; refine Calls.same (h0 _) ?_))
    go_ret
    exact ⟨rfl, rfl⟩
  · rw [hL] at h0
    obtain ⟨h1, h2, h3⟩ := isL_facts hL
    have hs := size_any width
    rcases h1 with rfl | rfl | rfl
    · have hw : wordsN 1 width = sizeN width := by simp [wordsN, hL]
      rw [hw]
      go_enter Try.func32, Try.ntmps32
      go_wp2_with (first | (go_at_call 68; refine Calls.same (h0 _) ?_) | (go_at_call 69; refine Calls.same (hs _) ?_))
      go_ret
      exact ⟨rfl, rfl⟩
    · have hw : wordsN 2 width = sizeN width := by simp [wordsN, hL]
      rw [hw]
      go_enter Try.func32, Try.ntmps32
      go_wp2_with (first | (go_at_call 68; refine Calls.same (h0 _) ?_) | (go_at_call 69; refine Calls.same (hs _) ?_))
      go_ret
      exact ⟨rfl, rfl⟩
    · have hw : ((wordsN 3 width : Nat) : Int) = width := by simp [wordsN, hL]; omega
      rw [hw]
      go_enter Try.func32, Try.ntmps32
      go_wp2_with (first | (go_at_call 68; refine Calls.same (h0 _) ?_) | (go_at_call 69; refine Calls.same (hs _) ?_))
      go_ret
      exact ⟨rfl, rfl⟩

theorem rwords_any (what width : Int) (w : World) : Calls Try.prog 34 #[.int .i64 what, .int .i64 width] w fun e w' => e = .returned (.int .i64 (wordsN what width)) ∧ w = w' := by
  have h0 := ris_any what width
  cases hL : isL what width
  · rw [hL] at h0
    have hw : wordsN what width = 0 := by simp [wordsN, hL]
    rw [hw]
    go_enter Try.func34, Try.ntmps34
    go_wp2_with (first | (go_at_call 70; refine Calls.same (h0 _) ?_))
    go_ret
    exact ⟨rfl, rfl⟩
  · rw [hL] at h0
    obtain ⟨h1, h2, h3⟩ := isL_facts hL
    have hs := rsize_any width
    by_cases h4 : what = 3
    · have hw : ((wordsN what width : Nat) : Int) = width := by unfold wordsN; rw [hL, if_pos rfl, if_pos h4]; omega
      rw [hw]
      have f4 : (what == 3) = true := by simp [h4]
      clear h4 hL h1
      go_enter Try.func34, Try.ntmps34
      go_wp2_with (first | (go_at_call 70; refine Calls.same (h0 _) ?_) | (go_at_call 74; refine Calls.same (hs _) ?_))
      go_ret
      exact ⟨rfl, rfl⟩
    · have hw : wordsN what width = sizeN width := by simp [wordsN, hL, h4]
      rw [hw]
      have f4 : (what == 3) = false := by simp [h4]
      clear h4 hL h1
      go_enter Try.func34, Try.ntmps34
      go_wp2_with (first | (go_at_call 70; refine Calls.same (h0 _) ?_) | (go_at_call 74; refine Calls.same (hs _) ?_))
      go_ret
      exact ⟨rfl, rfl⟩

theorem height_any (what width : Int) (w : World) : Calls Try.prog 63 #[.int .i64 what, .int .i64 width] w fun e w' => e = .returned (.int .i64 (heightN what width)) ∧ w = w' := by
  have h0 := is_any what width
  cases hL : isL what width
  · rw [hL] at h0
    have hw : heightN what width = 0 := by simp [heightN, hL]
    rw [hw]
    go_enter Try.func63, Try.ntmps63
    go_wp2_with (first | (go_at_call 68; refine Calls.same (h0 _) ?_))
    go_ret
    exact ⟨rfl, rfl⟩
  · rw [hL] at h0
    obtain ⟨h1, h2, h3⟩ := isL_facts hL
    by_cases h4 : what = 3
    · have hw : ((heightN what width : Nat) : Int) = 2 * width := by unfold heightN; rw [hL, if_pos rfl, if_pos h4]; omega
      rw [hw]
      have f4 : (what == 3) = true := by simp [h4]
      clear h4 hL h1
      go_enter Try.func63, Try.ntmps63
      go_wp2_with (first | (go_at_call 68; refine Calls.same (h0 _) ?_))
      go_ret
      exact ⟨rfl, rfl⟩
    · have hw : ((heightN what width : Nat) : Int) = width := by simp [heightN, hL, h4]; omega
      rw [hw]
      have f4 : (what == 3) = false := by simp [h4]
      clear h4 hL h1
      go_enter Try.func63, Try.ntmps63
      go_wp2_with (first | (go_at_call 68; refine Calls.same (h0 _) ?_))
      go_ret
      exact ⟨rfl, rfl⟩

end Go.Proofs.Ytjjmoibnmdbpeaa.Ws

namespace Go.Proofs.Ytjjmoibnmdbpeaa.Ws
set_option linter.unusedVariables false
set_option linter.unusedSimpArgs false
open Go Go.RowKit

/-- The words of the least and of the greatest value. -/
def botW (what width : Int) : List Nat := if isL what width = true ∧ what = 2 then fullW width else List.replicate (wordsN what width) 0
def topW (what width : Int) : List Nat := if isL what width = true ∧ what = 1 then fullW width else List.replicate (wordsN what width) (if what = 3 then 1 else 0)

theorem zeros_rep (n : Nat) : (madeCells (Value.int .u64 0).cells (n * 1)).toList = (List.replicate n 0).flatMap encW := by
  show (madeCells #[Value.int .u64 0] (n * 1)).toList = _
  rw [toList_madeCells_one, flat_words, Nat.mul_one]
  simp

theorem i_info : (Try.prog.info? 3).map (fun i => (i.zero, i.size, i.bytes)) = some (some (.int .i64 0), 1, 8) := by kernel_rfl

theorem flat_ints (M : List Int) : M.flatMap encI = M.map fun y : Int => Value.int .i64 y := by
  induction M with
  | nil => rfl
  | cons y M ih => simp only [List.flatMap_cons, ih, encI]; rfl

def upto (k : Nat) : List Int := (List.range k).map fun i : Nat => (i : Int)
theorem upto_succ (k : Nat) : upto (k + 1) = upto k ++ [(k : Int)] := by simp [upto, List.range_succ]
theorem upto_length (k : Nat) : (upto k).length = k := by simp [upto]

theorem sizeN_words {what width : Int} (hL : isL what width = true) (h3 : ¬ what = 3) : wordsN what width = sizeN width := by
  unfold wordsN; rw [hL, if_pos rfl, if_neg h3]
theorem botW_length (what width : Int) : (botW what width).length = wordsN what width := by
  unfold botW
  split
  · rename_i h
    rw [fullW_len, sizeN_words h.1 (by omega)]
  · simp
theorem topW_length (what width : Int) : (topW what width).length = wordsN what width := by
  unfold topW
  split
  · rename_i h
    rw [fullW_len, sizeN_words h.1 (by omega)]
  · simp

theorem bottom_any (what width : Int) (w : World) :
    Calls Try.prog 65 #[.int .i64 what, .int .i64 width] w fun e w' => ∃ v', e = .returned v' ∧ w'.ownsRow w.heap.size 78 1 v' (botW what width).length ((botW what width).flatMap encW) ∧ Below w.heap.size w w' := by
  obtain ⟨i0, hi, hz0, hz1, hz2⟩ := info_parts w_info
  rw [botW_length]
  have hi0 := is_any what width
  have hwl := wordsN_le what width
  by_cases hc : isL what width = true ∧ what = 2
  · have hf := full_any width
    have hb : botW what width = fullW width := by unfold botW; rw [if_pos hc]
    rw [hb, sizeN_words hc.1 (by omega)]
    rw [hc.1] at hi0
    have f2 : (what == 2) = true := by simp [hc.2]
    clear hc hb
    go_enter Try.func65, Try.ntmps65
    go_wp2_with (first | (go_at_call 68; refine Calls.same (hi0 _) ?_) | (go_at_call 103; refine' Calls.aftS _ _ (hf _) _; rotate_left 2; (first | (with_reducible exact After.below _; rfl) | (with_reducible exact below_drew (After.below _); rfl) | (with_reducible exact below_set (After.below _) _ _; (go_simp; rfl)) | (with_reducible exact below_set (below_set (After.below _) _ _) _ _; (go_simp; rfl)) | (with_reducible exact below_set (below_set (below_set (After.below _) _ _) _ _) _ _; (go_simp; rfl)) | (with_reducible exact below_set (below_set (below_set (below_set (After.below _) _ _) _ _) _ _) _ _; (go_simp; rfl)) | (exact Below.refl _ _; rfl)); intro v1 x1 ho; have hle := After.le x1; (try simp at hle)))
    refine bodyPost_ret (v := v1) (by simp only [results, Try.results65]; go_simp) rfl ⟨_, rfl, ho, x1.below⟩
  · have hb : botW what width = List.replicate (wordsN what width) 0 := by unfold botW; rw [if_neg hc]
    rw [hb]
    have hr := words_any what width
    generalize wordsN what width = n at hr hwl ⊢
    cases f2 : (what == 2)
    · clear hc hb
      go_enter Try.func65, Try.ntmps65
      go_wp2_with (first | (go_at_call 68; refine Calls.same (hi0 _) ?_) | (go_at_call 32; refine Calls.same (hr _) ?_) | (at_make; refine wpList_make_full _ rfl _ _ 24 rfl w.heap.size 78 i0 (.int .u64 0) 1 Try.underlying24 hi hz0 hz1 .i64 .i64 _ _ n rfl rfl rfl rfl (by rw [hz2]; omega) (by unfold maxLen; omega) (Nat.le_refl _) ?_; intro w1 hown hgrow; rw [zeros_rep] at hown))
      have hB : Below w.heap.size w w1 := Below.grown (Below.refl _ _) hgrow (Nat.le_refl _) (fun k e => by cases e)
      go_wp2_with fail
      refine bodyPost_ret (v := .slice (some ⟨w.heap.size, 0, none⟩) n n) (by simp only [results, Try.results65]; go_simp) rfl ⟨_, rfl, hown, hB⟩
    · have hl : isL what width = false := by
        cases hq : isL what width with
        | false => rfl
        | true => exact absurd ⟨hq, (beq_iff_eq).1 f2⟩ hc
      rw [hl] at hi0
      clear hc hb
      go_enter Try.func65, Try.ntmps65
      go_wp2_with (first | (go_at_call 68; refine Calls.same (hi0 _) ?_) | (go_at_call 32; refine Calls.same (hr _) ?_) | (at_make; refine wpList_make_full _ rfl _ _ 24 rfl w.heap.size 78 i0 (.int .u64 0) 1 Try.underlying24 hi hz0 hz1 .i64 .i64 _ _ n rfl rfl rfl rfl (by rw [hz2]; omega) (by unfold maxLen; omega) (Nat.le_refl _) ?_; intro w1 hown hgrow; rw [zeros_rep] at hown))
      have hB : Below w.heap.size w w1 := Below.grown (Below.refl _ _) hgrow (Nat.le_refl _) (fun k e => by cases e)
      go_wp2_with fail
      refine bodyPost_ret (v := .slice (some ⟨w.heap.size, 0, none⟩) n n) (by simp only [results, Try.results65]; go_simp) rfl ⟨_, rfl, hown, hB⟩

end Go.Proofs.Ytjjmoibnmdbpeaa.Ws

namespace Go.Proofs.Ytjjmoibnmdbpeaa.Ws
set_option linter.unusedVariables false
set_option linter.unusedSimpArgs false
open Go Go.RowKit

theorem rep_set {a k n : Nat} (h : k < n) : (List.replicate k a ++ List.replicate (n - k) 0).set k a = List.replicate (k + 1) a ++ List.replicate (n - (k + 1)) 0 := by
  apply List.ext_getElem?
  intro j
  by_cases h1 : j = k
  · subst h1
    rw [List.getElem?_set_self (by simp; omega), List.getElem?_append_left (by simp), List.getElem?_replicate, if_pos (by omega)]
  · rw [List.getElem?_set_ne (by omega)]
    by_cases h2 : j < k
    · rw [List.getElem?_append_left (by simpa using h2), List.getElem?_append_left (by simp; omega), List.getElem?_replicate, List.getElem?_replicate, if_pos h2, if_pos (by omega)]
    · rw [List.getElem?_append_right (by simp; omega), List.getElem?_append_right (by simp; omega), List.getElem?_replicate, List.getElem?_replicate]
      simp only [List.length_replicate]
      by_cases h3 : j < n
      · rw [if_pos (by omega), if_pos (by omega)]
      · rw [if_neg (by omega), if_neg (by omega)]

/-- Whether words are a value. -/
def valueB (what width : Int) (L : List Nat) : Bool := isL what width && (decide (L.length = wordsN what width) && (if what = 3 then L.all (fun x => isB (x : Int)) else fitsB L width))

theorem is1_any (x : Nat) (hx : x < 18446744073709551616) (w : World) :
    Calls Try.prog 101 #[.int .u64 x] w fun e w' => e = .returned (.bool (!isB (x : Int))) ∧ Below w.heap.size w w' := by
  have h1 := is_word (x : Int) (by omega) (by omega)
  generalize isB (x : Int) = y at h1 ⊢
  go_enter Try.func101, Try.ntmps101
  go_wp2_with ((go_at_call 102; refine' Calls.aft _ _ (h1 _) _; rotate_left 2; (first | (with_reducible exact After.below _; rfl) | (with_reducible exact below_drew (After.below _); rfl) | (with_reducible exact below_set (After.below _) _ _; (go_simp; rfl)) | (with_reducible exact below_set (below_set (After.below _) _ _) _ _; (go_simp; rfl)) | (with_reducible exact below_set (below_set (below_set (After.below _) _ _) _ _) _ _; (go_simp; rfl)) | (with_reducible exact below_set (below_set (below_set (below_set (After.below _) _ _) _ _) _ _) _ _; (go_simp; rfl)) | (exact Below.refl _ _; rfl)); intro x1; have hle := After.le x1; (try simp at hle)))
  refine bodyPost_ret (v := .bool (!y)) (by simp only [results, Try.results101]; go_simp) rfl ⟨rfl, ?_⟩
  exact x1.below

set_option maxRecDepth 100000 in
theorem contains_any (L : List Nat) (hok : okW L) (hl : L.length ≤ 1000000) (v : Value) (w : World) (h : Sl w v encW L) :
    Calls Try.prog 100 #[v, .func (.func 101) #[] #[]] w fun e w' => e = .returned (.bool (!L.all fun x => isB (x : Int))) ∧ Below w.heap.size w w' := by
  have hidx : ∀ w, Sl w v encW L → Calls Try.prog 131 #[v, .func (.func 101) #[] #[]] w fun e w' => ∃ q : Int, e = .returned (.int .i64 q) ∧ (decide (0 ≤ q) = !L.all fun x => isB (x : Int)) ∧ Below w.heap.size w w' := by
    intro w h
    obtain ⟨b, off, p, cap, rfl, hp, hc⟩ := Sl.words h
    go_enter Try.func131, Try.ntmps131
    go_wp2_with fail
    go_loopw [8] (fun i wr => ∃ k : Nat, k ≤ L.length ∧ i = .int .i64 k ∧ ((L.take k).all fun x => isB (x : Int)) = true ∧ Below w.heap.size w wr) (fun i _ => L.length - (intOf i).toNat)
    case atStart => exact ⟨0, Nat.zero_le _, rfl, rfl, Below.refl _ _⟩
    case round =>
      obtain ⟨k, hk, rfl, hall, hB⟩ := hrel
      have hA := And.intro True.intro hall
      clear hall
      by_cases hlt : k < L.length
      · have hpp := hp (by omega)
        subst hpp
        have c0 := hc k hlt
        have hg := World.block_lt_of_cell? _ _ c0
        have c1 := (hB.cell (p := ⟨b, off + k, none⟩) hg).trans c0
        have hgw := World.block_lt_of_cell? _ _ c1
        have hx := hok _ (List.getElem_mem hlt)
        have h1 := is1_any _ hx wr
        have hT : (L.take (k + 1)).all (fun x => isB (x : Int)) = ((L.take k).all (fun x => isB (x : Int)) && isB ((L[k]'hlt : Nat) : Int)) := by
          rw [List.take_succ_eq_append_getElem hlt, List.all_append]; simp
        have hF : isB ((L[k]'hlt : Nat) : Int) = false → (L.all fun x => isB (x : Int)) = false := fun hf => by
          rw [List.all_eq_false]
          exact ⟨_, List.getElem_mem hlt, by rw [hf]; simp⟩
        have hw := hB.size
        have hT2 := And.intro hT hF
        clear hc c0 hT hF
        generalize L[k]'hlt = x at c1 hx h1 hT2
        cases hb : isB (x : Int)
        · rw [hb] at h1
          simp only [Bool.not_false] at h1
          go_wp2_with ((go_at_call 101; refine' Calls.aft _ _ (h1) _; rotate_left 2; (first | (with_reducible exact After.below _; rfl) | (with_reducible exact below_drew (After.below _); rfl) | (with_reducible exact below_set (After.below _) _ _; (go_simp; rfl)) | (with_reducible exact below_set (below_set (After.below _) _ _) _ _; (go_simp; rfl)) | (with_reducible exact below_set (below_set (below_set (After.below _) _ _) _ _) _ _; (go_simp; rfl)) | (with_reducible exact below_set (below_set (below_set (below_set (After.below _) _ _) _ _) _ _) _ _; (go_simp; rfl)) | (exact Below.refl _ _; rfl)); intro x1; have hle := After.le x1; (try simp at hle)))
          refine bodyPost_ret (v := .int .i64 k) (by simp only [results, Try.results131]; go_simp) rfl ⟨k, rfl, ?_, hB.trans (Below.mono x1.below hw)⟩
          rw [hT2.2 hb]; simp
        · rw [hb] at h1
          simp only [Bool.not_true] at h1
          go_wp2_with ((go_at_call 101; refine' Calls.aft _ _ (h1) _; rotate_left 2; (first | (with_reducible exact After.below _; rfl) | (with_reducible exact below_drew (After.below _); rfl) | (with_reducible exact below_set (After.below _) _ _; (go_simp; rfl)) | (with_reducible exact below_set (below_set (After.below _) _ _) _ _; (go_simp; rfl)) | (with_reducible exact below_set (below_set (below_set (After.below _) _ _) _ _) _ _; (go_simp; rfl)) | (with_reducible exact below_set (below_set (below_set (below_set (After.below _) _ _) _ _) _ _) _ _; (go_simp; rfl)) | (exact Below.refl _ _; rfl)); intro x1; have hle := After.le x1; (try simp at hle)))
          go_roundw
          case rel => exact ⟨k + 1, by omega, by simp, by rw [hT2.1, hA.2, hb]; rfl, hB.trans (Below.mono x1.below hw)⟩
          case measure => simp [intOf]; omega
      · have hks : k = L.length := by omega
        have hA2 := hA.2
        rw [hks, List.take_length] at hA2
        clear hc
        go_wp2_with fail
        refine bodyPost_ret (v := .int .i64 (-1)) (by simp only [results, Try.results131]; go_simp) rfl ⟨-1, rfl, ?_, hB⟩
        rw [hA2]; rfl
  have hi := hidx w h
  have hS : ∀ (q : Int), (decide (0 ≤ q) = !L.all fun x => isB (x : Int)) → decide (0 ≤ q) = !L.all fun x => isB (x : Int) := fun q h => h
  generalize (!L.all fun x => isB (x : Int)) = y at hi ⊢
  go_enter Try.func100, Try.ntmps100
  go_wp2_with ((go_at_call 131; refine' Calls.aftS _ _ (hi) _; rotate_left 2; (first | (with_reducible exact After.below _; rfl) | (with_reducible exact below_drew (After.below _); rfl) | (with_reducible exact below_set (After.below _) _ _; (go_simp; rfl)) | (with_reducible exact below_set (below_set (After.below _) _ _) _ _; (go_simp; rfl)) | (with_reducible exact below_set (below_set (below_set (After.below _) _ _) _ _) _ _; (go_simp; rfl)) | (with_reducible exact below_set (below_set (below_set (below_set (After.below _) _ _) _ _) _ _) _ _; (go_simp; rfl)) | (exact Below.refl _ _; rfl)); intro q x1 hq; have hle := After.le x1; (try simp at hle)))
  refine bodyPost_ret (v := .bool y) (by simp only [results, Try.results100]; go_simp) rfl ⟨rfl, x1.below⟩

end Go.Proofs.Ytjjmoibnmdbpeaa.Ws

namespace Go.Proofs.Ytjjmoibnmdbpeaa.Ws
set_option linter.unusedVariables false
set_option linter.unusedSimpArgs false
open Go Go.RowKit

theorem lis_any (what width : Int) (L : List Nat) (hok : okW L) (hl : L.length ≤ 1000000) (v : Value) (w : World) (h : Sl w v encW L) :
    Calls Try.prog 64 #[.int .i64 what, .int .i64 width, v] w fun e w' => e = .returned (.bool (valueB what width L)) ∧ Below w.heap.size w w' := by
  obtain ⟨p, cap, hv⟩ : ∃ p cap, v = .slice p L.length cap := by obtain ⟨b, off, p, cap, hv, _⟩ := h; exact ⟨p, cap, hv⟩
  have h0 := is_any what width
  have hr := words_any what width
  cases hL : isL what width
  · rw [hL] at h0
    have hw : valueB what width L = false := by simp [valueB, hL]
    rw [hw]
    clear hw hL
    subst hv
    go_enter Try.func64, Try.ntmps64
    go_wp2_with (first | (go_at_call 68; refine Calls.same (h0 _) ?_))
    refine bodyPost_ret (v := .bool false) (by simp only [results, Try.results64]; go_simp) rfl ⟨rfl, Below.refl _ _⟩
  · rw [hL] at h0
    by_cases hn : L.length = wordsN what width
    · have fn : ((L.length : Int) != (wordsN what width : Int)) = false := by simp [hn]
      by_cases h3 : what = 3
      · have hw : valueB what width L = L.all (fun x => isB (x : Int)) := by unfold valueB; rw [hL, if_pos h3]; simp [hn]
        rw [hw]
        have hct := contains_any L hok hl v
        generalize wordsN what width = n at hr fn
        generalize (L.all fun x => isB (x : Int)) = y at hct ⊢
        have f3 : (what != 3) = false := by simp [h3]
        clear hw hn h3 hL
        subst hv
        go_enter Try.func64, Try.ntmps64
        go_wp2_with (first | (go_at_call 68; refine Calls.same (h0 _) ?_) | (go_at_call 32; refine Calls.same (hr _) ?_) | (go_at_call 100; refine' Calls.aft _ _ (hct _ h) _; rotate_left 2; (first | (with_reducible exact After.below _; rfl) | (with_reducible exact below_drew (After.below _); rfl) | (with_reducible exact below_set (After.below _) _ _; (go_simp; rfl)) | (with_reducible exact below_set (below_set (After.below _) _ _) _ _; (go_simp; rfl)) | (with_reducible exact below_set (below_set (below_set (After.below _) _ _) _ _) _ _; (go_simp; rfl)) | (with_reducible exact below_set (below_set (below_set (below_set (After.below _) _ _) _ _) _ _) _ _; (go_simp; rfl)) | (exact Below.refl _ _; rfl)); intro x1; have hle := After.le x1; (try simp at hle)))
        refine bodyPost_ret (v := .bool y) (by simp only [results, Try.results64]; go_simp) rfl ⟨rfl, x1.below⟩
      · have hw : valueB what width L = fitsB L width := by unfold valueB; rw [hL, if_neg h3]; simp [hn]
        rw [hw]
        have hft := fits_any L hok hl width v w h
        generalize wordsN what width = n at hr fn
        generalize fitsB L width = y at hft ⊢
        have f3 : (what != 3) = true := by simp [h3]
        clear hw hn h3 hL
        subst hv
        go_enter Try.func64, Try.ntmps64
        go_wp2_with (first | (go_at_call 68; refine Calls.same (h0 _) ?_) | (go_at_call 32; refine Calls.same (hr _) ?_) | (go_at_call 99; refine' Calls.aft _ _ (hft) _; rotate_left 2; (first | (with_reducible exact After.below _; rfl) | (with_reducible exact below_drew (After.below _); rfl) | (with_reducible exact below_set (After.below _) _ _; (go_simp; rfl)) | (with_reducible exact below_set (below_set (After.below _) _ _) _ _; (go_simp; rfl)) | (with_reducible exact below_set (below_set (below_set (After.below _) _ _) _ _) _ _; (go_simp; rfl)) | (with_reducible exact below_set (below_set (below_set (below_set (After.below _) _ _) _ _) _ _) _ _; (go_simp; rfl)) | (exact Below.refl _ _; rfl)); intro x1; have hle := After.le x1; (try simp at hle)))
        refine bodyPost_ret (v := .bool y) (by simp only [results, Try.results64]; go_simp) rfl ⟨rfl, x1.below⟩
    · have hw : valueB what width L = false := by simp [valueB, hn]
      rw [hw]
      have fn : ((L.length : Int) != (wordsN what width : Int)) = true := by simp; omega
      generalize wordsN what width = n at hr fn
      clear hw hL hn
      subst hv
      go_enter Try.func64, Try.ntmps64
      go_wp2_with (first | (go_at_call 68; refine Calls.same (h0 _) ?_) | (go_at_call 32; refine Calls.same (hr _) ?_))
      refine bodyPost_ret (v := .bool false) (by simp only [results, Try.results64]; go_simp) rfl ⟨rfl, Below.refl _ _⟩

theorem isB_norm (x : Int) : isB x = (normW x == x) := by
  cases h : isB x with
  | true => simp [norm_of x h]
  | false =>
    rw [norm_not x h]
    by_cases e : x = 1
    · subst e; exact absurd h (by decide)
    · symm; simp; omega

set_option maxRecDepth 100000 in
theorem rvalue_any (what width : Int) (L : List Nat) (hok : okW L) (hl : L.length ≤ 1000000) (v : Value) (w : World) (h : Sl w v encW L) :
    Calls Try.prog 72 #[.int .i64 what, .int .i64 width, v] w fun e w' => e = .returned (.bool (valueB what width L)) ∧ Below w.heap.size w w' := by
  obtain ⟨b, off, p, cap, hv, hp, hc⟩ := Sl.words h
  have h0 := ris_any what width
  have hr := rwords_any what width
  cases hL : isL what width
  · rw [hL] at h0
    have hw : valueB what width L = false := by simp [valueB, hL]
    rw [hw]
    clear hw hL hc
    subst hv
    go_enter Try.func72, Try.ntmps72
    go_wp2_with (first | (go_at_call 70; refine Calls.same (h0 _) ?_))
    refine bodyPost_ret (v := .bool false) (by simp only [results, Try.results72]; go_simp) rfl ⟨rfl, Below.refl _ _⟩
  · rw [hL] at h0
    by_cases hn : L.length = wordsN what width
    · have fn : ((L.length : Int) != (wordsN what width : Int)) = false := by simp [hn]
      by_cases h3 : what = 3
      · have hw : valueB what width L = L.all (fun x => isB (x : Int)) := by unfold valueB; rw [hL, if_pos h3]; simp [hn]
        have hW := And.intro True.intro hw
        generalize wordsN what width = n at hr fn
        have f3 : (what != 3) = false := by simp [h3]
        clear hw hn h3 hL
        subst hv
        go_enter Try.func72, Try.ntmps72
        go_wp2_with (first | (go_at_call 70; refine Calls.same (h0 _) ?_) | (go_at_call 34; refine Calls.same (hr _) ?_))
        go_loopw [28] (fun i wr => ∃ k : Nat, k ≤ L.length ∧ i = .int .i64 k ∧ ((L.take k).all fun x => isB (x : Int)) = true ∧ Below w.heap.size w wr) (fun i _ => L.length - (intOf i).toNat)
        case atStart => exact ⟨0, Nat.zero_le _, rfl, rfl, Below.refl _ _⟩
        case round =>
          obtain ⟨k, hk, rfl, hall, hB⟩ := hrel
          have hA := And.intro True.intro hall
          clear hall
          by_cases hlt : k < L.length
          · have hpp := hp (by omega)
            subst hpp
            have c0 := hc k hlt
            have hg := World.block_lt_of_cell? _ _ c0
            have c1 := (hB.cell (p := ⟨b, off + k, none⟩) hg).trans c0
            have hgw := World.block_lt_of_cell? _ _ c1
            have hx := hok _ (List.getElem_mem hlt)
            have hT : (L.take (k + 1)).all (fun x => isB (x : Int)) = ((L.take k).all (fun x => isB (x : Int)) && isB ((L[k]'hlt : Nat) : Int)) := by
              rw [List.take_succ_eq_append_getElem hlt, List.all_append]; simp
            have hF : isB ((L[k]'hlt : Nat) : Int) = false → (L.all fun x => isB (x : Int)) = false := fun hf => by
              rw [List.all_eq_false]
              exact ⟨_, List.getElem_mem hlt, by rw [hf]; simp⟩
            have hw := hB.size
            have hT2 := And.intro hT hF
            clear hc c0 hT hF
            generalize L[k]'hlt = x at c1 hx hT2
            have h1 := rnorm_any (x : Int) (by omega) (by omega) wr
            have h2 := isB_norm (x : Int)
            cases hb : isB (x : Int)
            · rw [hb] at h2
              have f1 : (normW (x : Int) != (x : Int)) = true := by rw [bne, ← h2]; rfl
              generalize normW (x : Int) = y at h1 f1
              clear h2
              go_wp2_with ((go_at_call 112; refine' Calls.aft _ _ (h1) _; rotate_left 2; (first | (with_reducible exact After.below _; rfl) | (with_reducible exact below_drew (After.below _); rfl) | (with_reducible exact below_set (After.below _) _ _; (go_simp; rfl)) | (with_reducible exact below_set (below_set (After.below _) _ _) _ _; (go_simp; rfl)) | (with_reducible exact below_set (below_set (below_set (After.below _) _ _) _ _) _ _; (go_simp; rfl)) | (with_reducible exact below_set (below_set (below_set (below_set (After.below _) _ _) _ _) _ _) _ _; (go_simp; rfl)) | (exact Below.refl _ _; rfl)); intro x1; have hle := After.le x1; (try simp at hle)))
              refine bodyPost_ret (v := .bool false) (by simp only [results, Try.results72]; go_simp) rfl ⟨?_, hB.trans (Below.mono x1.below hw)⟩
              rw [hW.2, hT2.2 hb]
            · rw [hb] at h2
              have f1 : (normW (x : Int) != (x : Int)) = false := by rw [bne, ← h2]; rfl
              generalize normW (x : Int) = y at h1 f1
              clear h2
              go_wp2_with ((go_at_call 112; refine' Calls.aft _ _ (h1) _; rotate_left 2; (first | (with_reducible exact After.below _; rfl) | (with_reducible exact below_drew (After.below _); rfl) | (with_reducible exact below_set (After.below _) _ _; (go_simp; rfl)) | (with_reducible exact below_set (below_set (After.below _) _ _) _ _; (go_simp; rfl)) | (with_reducible exact below_set (below_set (below_set (After.below _) _ _) _ _) _ _; (go_simp; rfl)) | (with_reducible exact below_set (below_set (below_set (below_set (After.below _) _ _) _ _) _ _) _ _; (go_simp; rfl)) | (exact Below.refl _ _; rfl)); intro x1; have hle := After.le x1; (try simp at hle)))
              go_roundw
              case rel => exact ⟨k + 1, by omega, by simp, by rw [hT2.1, hA.2, hb]; rfl, hB.trans (Below.mono x1.below hw)⟩
              case measure => simp [intOf]; omega
          · have hks : k = L.length := by omega
            have hA2 := hA.2
            rw [hks, List.take_length] at hA2
            clear hc
            have hA3 := And.intro True.intro hA2
            clear hA2
            go_wp2_with fail
            refine bodyPost_ret (v := .bool true) (by simp only [results, Try.results72]; go_simp) rfl ⟨?_, hB⟩
            rw [hW.2, hA3.2]
      · have hw : valueB what width L = fitsB L width := by unfold valueB; rw [hL, if_neg h3]; simp [hn]
        rw [hw]
        have hft := rfits_any L hok width v w h
        generalize wordsN what width = n at hr fn
        generalize fitsB L width = y at hft ⊢
        have f3 : (what != 3) = true := by simp [h3]
        clear hw hn h3 hL hc
        subst hv
        go_enter Try.func72, Try.ntmps72
        go_wp2_with (first | (go_at_call 70; refine Calls.same (h0 _) ?_) | (go_at_call 34; refine Calls.same (hr _) ?_) | (go_at_call 111; refine Calls.same (hft) ?_))
        refine bodyPost_ret (v := .bool y) (by simp only [results, Try.results72]; go_simp) rfl ⟨rfl, Below.refl _ _⟩
    · have hw : valueB what width L = false := by simp [valueB, hn]
      rw [hw]
      have fn : ((L.length : Int) != (wordsN what width : Int)) = true := by simp; omega
      generalize wordsN what width = n at hr fn
      clear hw hL hn hc
      subst hv
      go_enter Try.func72, Try.ntmps72
      go_wp2_with (first | (go_at_call 70; refine Calls.same (h0 _) ?_) | (go_at_call 34; refine Calls.same (hr _) ?_))
      refine bodyPost_ret (v := .bool false) (by simp only [results, Try.results72]; go_simp) rfl ⟨rfl, Below.refl _ _⟩

/-- Slices that are elements of a slice. -/
def encV (x : Value) : List Value := [x]
def vlen : Value → Nat | .slice _ n _ => n | _ => 0
def fewB (width : Int) (Vs : List Value) : Bool := Vs.all (fun v => decide (vlen v ≤ 70)) && (decide (width ≤ 70) || decide (1024 < width))

end Go.Proofs.Ytjjmoibnmdbpeaa.Ws
