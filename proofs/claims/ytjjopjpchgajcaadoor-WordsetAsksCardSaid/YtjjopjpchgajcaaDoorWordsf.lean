/- WALKS: Within, Fits, both Fits; what they tell. -/
import Derived.Test.YtjjopjpchgajcaaDoorWordse
namespace Go.Proofs.YtjjopjpchgajcaaDoor.Ws
set_option linter.unusedVariables false
set_option linter.unusedSimpArgs false
open Go Go.RowKit

theorem bit_minus (x y i : Nat) (hy : y < 18446744073709551616) (hi : i < 64) : (gMinus x y).testBit i = (x.testBit i && !y.testBit i) := by
  unfold gMinus
  have h := Nat.testBit_two_pow_sub_succ (n := 64) (x := y) (by simpa using hy) i
  rw [show (2 : Nat) ^ 64 - (y + 1) = 18446744073709551615 - y by omega] at h
  rw [Nat.testBit_and, h]
  simp [hi]
theorem bit_or (x y i : Nat) : (gOr x y).testBit i = (x.testBit i || y.testBit i) := by unfold gOr; rw [Nat.testBit_or]
theorem bit_and (x y i : Nat) : (gAnd x y).testBit i = (x.testBit i && y.testBit i) := by unfold gAnd; rw [Nat.testBit_and]

theorem has_zip {g : Nat → Nat → Nat} {f : Bool → Bool → Bool} (hf : f false false = false) {L M : List Nat} (hg : ∀ (k i : Nat), i < 64 → (g ((L[k]?).getD 0) ((M[k]?).getD 0)).testBit i = f (((L[k]?).getD 0).testBit i) (((M[k]?).getD 0).testBit i)) (m : Nat) :
    has (zipW g L M) m = f (has L m) (has M m) := by
  by_cases h : m / 64 < max L.length M.length
  · have h1 : (zipW g L M)[m / 64]? = some (g ((L[m / 64]?).getD 0) ((M[m / 64]?).getD 0)) := by simp [zipW, List.getElem?_range h]
    unfold has
    rw [h1, Option.getD_some, hg _ _ (Nat.mod_lt _ (by omega))]
  · rw [has_over (L := L) (by omega), has_over (L := M) (by omega), has_over (by rw [zipW_length]; omega), hf]

theorem has_minus {L M : List Nat} (hM : okW M) (m : Nat) : has (zipW gMinus L M) m = (has L m && !has M m) :=
  has_zip (f := fun a b => a && !b) rfl (fun k i hi => bit_minus _ _ _ (ok_at hM k) hi) m
theorem has_union {L M : List Nat} (m : Nat) : has (zipW gOr L M) m = (has L m || has M m) := has_zip rfl (fun k i hi => bit_or _ _ _) m
theorem has_inter {L M : List Nat} (m : Nat) : has (zipW gAnd L M) m = (has L m && has M m) := has_zip rfl (fun k i hi => bit_and _ _ _) m

theorem zip_ok {g : Nat → Nat → Nat} (hg : ∀ x y, x < 18446744073709551616 → y < 18446744073709551616 → g x y < 18446744073709551616) {L M : List Nat} (hL : okW L) (hM : okW M) : okW (zipW g L M) := by
  intro x hx
  simp only [zipW, List.mem_map] at hx
  obtain ⟨k, _, rfl⟩ := hx
  exact hg _ _ (ok_at hL k) (ok_at hM k)
theorem minus_lt (x y : Nat) (hx : x < 18446744073709551616) (hy : y < 18446744073709551616) : gMinus x y < 18446744073709551616 := by
  unfold gMinus
  exact Nat.lt_of_le_of_lt Nat.and_le_left hx
theorem or_lt (x y : Nat) (hx : x < 18446744073709551616) (hy : y < 18446744073709551616) : gOr x y < 18446744073709551616 := by
  unfold gOr
  exact Nat.or_lt_two_pow (n := 64) hx hy
theorem and_lt (x y : Nat) (hx : x < 18446744073709551616) (hy : y < 18446744073709551616) : gAnd x y < 18446744073709551616 := by
  unfold gAnd
  exact Nat.lt_of_le_of_lt Nat.and_le_left hx

/-- All of one's numbers are another one's. -/
def withinB (L M : List Nat) : Bool := decide (size (zipW gMinus L M) = 0)
theorem size_zero {L : List Nat} : size L = 0 ↔ ∀ m, has L m = false := by
  constructor
  · intro h m
    by_cases hm : m < 64 * L.length
    · have := cnt_eq (p := fun _ => false) (q := has L) (64 * L.length) (fun i _ h => by cases h) (by rw [cnt_zero]; exact h.symm) m hm
      exact this.symm
    · exact has_over (by omega)
  · intro h
    unfold size
    rw [cnt_congr (q := fun _ => false) _ (fun i _ => h i), cnt_zero]
theorem within_iff {L M : List Nat} (hM : okW M) : withinB L M = true ↔ ∀ m, has L m = true → has M m = true := by
  unfold withinB
  rw [decide_eq_true_iff, size_zero]
  refine forall_congr' fun m => ?_
  rw [has_minus hM]
  cases has L m <;> cases has M m <;> simp

theorem within_any (L M : List Nat) (hL : okW L) (hM : okW M) (hl : L.length ≤ 1000000) (hm : M.length ≤ 1000000) (v v' : Value) (w : World) (h : Sl w v encW L) (h' : Sl w v' encW M) :
    Calls Tryd.prog 21 #[v, v'] w fun e w' => e = .returned (.bool (withinB L M)) ∧ Below w.heap.size w w' := by
  have hb := minus_any L M hL hM hl hm v v' w h h'
  have hok := zip_ok minus_lt hL hM
  have hln : (zipW gMinus L M).length ≤ 1000000 := by rw [zipW_length]; omega
  have hW : (((size (zipW gMinus L M) : Nat) : Int) == 0) = withinB L M := by unfold withinB; rw [Bool.eq_iff_iff]; simp
  generalize withinB L M = y at hW ⊢
  generalize zipW gMinus L M = Z at hb hok hln hW
  go_enter Tryd.func21, Tryd.ntmps21
  go_wp2_with (first | (go_at_call 20; refine' Calls.aftS _ _ (hb) _; rotate_left 2; (first | (with_reducible exact After.below _; rfl) | (with_reducible exact below_drew (After.below _); rfl) | (with_reducible exact below_set (After.below _) _ _; (go_simp; rfl)) | (with_reducible exact below_set (below_set (After.below _) _ _) _ _; (go_simp; rfl)) | (with_reducible exact below_set (below_set (below_set (After.below _) _ _) _ _) _ _; (go_simp; rfl)) | (with_reducible exact below_set (below_set (below_set (below_set (After.below _) _ _) _ _) _ _) _ _; (go_simp; rfl)) | (exact Below.refl _ _; rfl)); intro o x1 ho; have hle := After.le x1; (try simp at hle)) | (go_at_call 13; refine Calls.same (len_any Z hok hln _ _ (Sl.of_own ho)) ?_))
  refine bodyPost_ret (v := .bool y) (by simp only [results, Tryd.results21]; go_simp) rfl ⟨rfl, x1.below⟩

def fitsB (L : List Nat) (n : Int) : Bool := decide (L.length = sizeN n) && withinB L (fullW n)

theorem fullW_len (n : Int) : (fullW n).length = sizeN n := wordsOf_length _ _
theorem fullW_ok (n : Int) : okW (fullW n) := wordsOf_ok _ _

theorem fits_any (L : List Nat) (hL : okW L) (hl : L.length ≤ 1000000) (n : Int) (v : Value) (w : World) (h : Sl w v encW L) :
    Calls Tryd.prog 15 #[v, .int .i64 n] w fun e w' => e = .returned (.bool (fitsB L n)) ∧ Below w.heap.size w w' := by
  obtain ⟨p, cap, hv⟩ : ∃ p cap, v = .slice p L.length cap := by obtain ⟨b, off, p, cap, hv, _⟩ := h; exact ⟨p, cap, hv⟩
  have hs := sizeN_le n
  have hfl := fullW_len n
  by_cases he : L.length = sizeN n
  · have hW : fitsB L n = withinB L (fullW n) := by unfold fitsB; simp [he]
    have hf := full_any n w
    rw [hW]
    subst hv
    have he2 : ((L.length : Int) == (sizeN n : Int)) = true := by simp [he]
    rw [← hfl] at hf
    have hw2 := fun v' w' h2 h3 => within_any L (fullW n) hL (fullW_ok n) hl (by omega) (.slice p L.length cap) v' w' h2 h3
    generalize withinB L (fullW n) = y at hw2 ⊢
    clear he hfl hW
    go_enter Tryd.func15, Tryd.ntmps15
    go_wp2_with (first | (go_at_call 8; refine Calls.same (size_any _ _) ?_) | (go_at_call 7; refine' Calls.aftS _ _ (hf) _; rotate_left 2; (first | (with_reducible exact After.below _; rfl) | (with_reducible exact below_drew (After.below _); rfl) | (with_reducible exact below_set (After.below _) _ _; (go_simp; rfl)) | (with_reducible exact below_set (below_set (After.below _) _ _) _ _; (go_simp; rfl)) | (with_reducible exact below_set (below_set (below_set (After.below _) _ _) _ _) _ _; (go_simp; rfl)) | (with_reducible exact below_set (below_set (below_set (below_set (After.below _) _ _) _ _) _ _) _ _; (go_simp; rfl)) | (exact Below.refl _ _; rfl)); intro o x1 ho; have hle := After.le x1; (try simp at hle)) | (go_at_call 21; refine' Calls.aft _ _ (hw2 _ _ (h.below x1.below) (Sl.of_own ho)) _; rotate_left 2; (first | (with_reducible exact After.below _; rfl) | (with_reducible exact below_drew (After.below _); rfl) | (with_reducible exact below_set (After.below _) _ _; (go_simp; rfl)) | (with_reducible exact below_set (below_set (After.below _) _ _) _ _; (go_simp; rfl)) | (with_reducible exact below_set (below_set (below_set (After.below _) _ _) _ _) _ _; (go_simp; rfl)) | (with_reducible exact below_set (below_set (below_set (below_set (After.below _) _ _) _ _) _ _) _ _; (go_simp; rfl)) | (exact Below.refl _ _; rfl)); intro x2; have hle := After.le x2; (try simp at hle)))
    refine bodyPost_ret (v := .bool y) (by simp only [results, Tryd.results15]; go_simp) rfl ⟨rfl, x2.below⟩
  · have hW : fitsB L n = false := by unfold fitsB; simp [he]
    rw [hW]
    subst hv
    have he2 : ((L.length : Int) == (sizeN n : Int)) = false := by rw [beq_eq_false_iff_ne]; omega
    clear he hfl hW
    go_enter Tryd.func15, Tryd.ntmps15
    go_wp2_with (first | (go_at_call 8; refine Calls.same (size_any _ _) ?_))
    refine bodyPost_ret (v := .bool false) (by simp only [results, Tryd.results15]; go_simp) rfl ⟨rfl, Below.refl _ _⟩

theorem fullW_has (n : Int) (m : Nat) : has (fullW n) m = decide (m < cutN n) := by
  unfold fullW
  rw [has_wordsOf, ← Bool.decide_and]
  congr 1
  have : cutN n ≤ 64 * sizeN n := by unfold sizeN; omega
  simp; omega

theorem fits_iff {L : List Nat} {n : Int} (hl : L.length = sizeN n) : fitsB L n = true ↔ ∀ m, cutN n ≤ m → m < 64 * L.length → has L m = false := by
  unfold fitsB
  rw [Bool.and_eq_true, decide_eq_true_iff, within_iff (fullW_ok n)]
  constructor
  · rintro ⟨_, h⟩ m h1 h2
    cases hm : has L m with
    | false => rfl
    | true =>
      have := h m hm
      rw [fullW_has] at this
      simp at this; omega
  · intro h
    refine ⟨hl, fun m hm => ?_⟩
    rw [fullW_has]
    simp only [decide_eq_true_iff]
    by_cases h1 : m < cutN n
    · exact h1
    · by_cases h2 : m < 64 * L.length
      · rw [h m (by omega) h2] at hm; cases hm
      · rw [has_over (by omega)] at hm; cases hm

set_option maxRecDepth 100000 in
theorem rfits_any (L : List Nat) (hL : okW L) (n : Int) (v : Value) (w : World) (h : Sl w v encW L) :
    Calls Tryd.prog 16 #[v, .int .i64 n] w fun e w' => e = .returned (.bool (fitsB L n)) ∧ w = w' := by
  obtain ⟨p, cap, hv⟩ : ∃ p cap, v = .slice p L.length cap := by obtain ⟨b, off, p, cap, hv, _⟩ := h; exact ⟨p, cap, hv⟩
  have hs := sizeN_le n
  have hcut := cutN_le n
  by_cases he : L.length = sizeN n
  · have hF := And.intro True.intro (fits_iff he)
    subst hv
    have he2 : ((L.length : Int) != (sizeN n : Int)) = false := by simp [he]
    have hll : L.length ≤ 16 := by omega
    clear he
    go_enter Tryd.func16, Tryd.ntmps16
    go_wp2_with (first | (go_at_call 9; refine Calls.same (rsize_any _ _) ?_) | (go_at_call 14; refine Calls.same (width_any _ _) ?_))
    go_loop [5] (fun i => ∃ k : Nat, k ≤ 2048 ∧ cutN n ≤ k ∧ i = .int .i64 k ∧ ∀ m, cutN n ≤ m → m < k → has L m = false) (fun i => 64 * L.length - (intOf i).toNat)
    case atStart => exact ⟨cutN n, by omega, Nat.le_refl _, rfl, fun m h1 h2 => by omega⟩
    case round =>
      obtain ⟨k, hk, hck, rfl, hno⟩ := hrel
      have hN := And.intro True.intro hno
      clear hno
      by_cases hlt : k < 64 * L.length
      · have hlt2 : (k : Int) < 64 * L.length := by omega
        have hh := rhas_any L hL k (by omega) _ w h
        cases hb : has L k
        · rw [hb] at hh
          go_wp2_with (first | (go_at_call 24; refine Calls.same (hh) ?_))
          refine ⟨⟨k + 1, by omega, by omega, by simp, fun m h1 h2 => ?_⟩, by simp [intOf]; omega⟩
          by_cases e : m = k
          · rw [e]; exact hb
          · exact hN.2 m h1 (by omega)
        · rw [hb] at hh
          go_wp2_with (first | (go_at_call 24; refine Calls.same (hh) ?_))
          have hf : fitsB L n = false := by
            cases hq : fitsB L n with
            | false => rfl
            | true => rw [(hF.2.1 hq) k hck hlt] at hb; cases hb
          refine bodyPost_ret (v := .bool false) (by simp only [results, Tryd.results16]; go_simp) rfl ⟨by rw [hf], rfl⟩
      · have hlt2 : ¬ (k : Int) < 64 * L.length := by omega
        go_wp2_with fail
        have hf : fitsB L n = true := hF.2.2 fun m h1 h2 => hN.2 m h1 (by omega)
        refine bodyPost_ret (v := .bool true) (by simp only [results, Tryd.results16]; go_simp) rfl ⟨by rw [hf], rfl⟩
  · have hW : fitsB L n = false := by unfold fitsB; simp [he]
    rw [hW]
    subst hv
    have he2 : ((L.length : Int) != (sizeN n : Int)) = true := by simp; omega
    clear he hW
    go_enter Tryd.func16, Tryd.ntmps16
    go_wp2_with (first | (go_at_call 9; refine Calls.same (rsize_any _ _) ?_))
    refine bodyPost_ret (v := .bool false) (by simp only [results, Tryd.results16]; go_simp) rfl ⟨rfl, rfl⟩

end Go.Proofs.YtjjopjpchgajcaaDoor.Ws
