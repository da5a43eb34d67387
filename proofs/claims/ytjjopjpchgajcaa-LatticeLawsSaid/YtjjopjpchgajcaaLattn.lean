/- THE LAWS OF LATTICES: what values come to together is the least that both are below, and ranks. Plain: no program in sight. -/
import Derived.Test.YtjjopjpchgajcaaLattm
namespace Go.Proofs.Ytjjopjpchgajcaa.Ws
set_option linter.unusedVariables false
set_option linter.unusedSimpArgs false
open Go Go.RowKit

/-! Sets. -/
theorem joinV_zip1 {A B : List Nat} (h : A.length = B.length) : joinV 1 A B = zipW gOr A B := by
  unfold joinV zipW
  rw [h, Nat.max_self]
  rfl
theorem joinV_zip2 {A B : List Nat} (h : A.length = B.length) : joinV 2 A B = zipW gAnd A B := by
  unfold joinV zipW
  rw [h, Nat.max_self]
  rfl

theorem has1 {A B : List Nat} (h : A.length = B.length) (m : Nat) : has (joinV 1 A B) m = (has A m || has B m) := by rw [joinV_zip1 h, has_union]
theorem has2 {A B : List Nat} (h : A.length = B.length) (m : Nat) : has (joinV 2 A B) m = (has A m && has B m) := by rw [joinV_zip2 h, has_inter]

theorem below1 {A B : List Nat} (h : A.length = B.length) (hA : okW A) (hB : okW B) : joinV 1 A B = B ↔ ∀ m, has A m = true → has B m = true := by
  constructor
  · intro he m hm
    rw [← he, has1 h, hm]; rfl
  · intro hs
    refine words_ext (joinV_ok hA hB) hB (by rw [joinV_length, h]) fun m _ => ?_
    rw [has1 h]
    have := hs m
    cases h1 : has A m <;> cases h2 : has B m <;> simp_all
theorem below2 {A B : List Nat} (h : A.length = B.length) (hA : okW A) (hB : okW B) : joinV 2 A B = B ↔ ∀ m, has B m = true → has A m = true := by
  constructor
  · intro he m hm
    rw [← he, has2 h] at hm
    simp at hm
    exact hm.1
  · intro hs
    refine words_ext (joinV_ok hA hB) hB (by rw [joinV_length, h]) fun m _ => ?_
    rw [has2 h]
    have := hs m
    cases h1 : has A m <;> cases h2 : has B m <;> simp_all

theorem size_mono {A B : List Nat} (h : A.length = B.length) (hs : ∀ m, has A m = true → has B m = true) : size A ≤ size B := by
  unfold size
  rw [h]
  exact cnt_le _ fun i _ => hs i
theorem size_same {A B : List Nat} (h : A.length = B.length) (hA : okW A) (hB : okW B) (hs : ∀ m, has A m = true → has B m = true) (he : size A = size B) : A = B := by
  refine words_ext hA hB h fun m hm => ?_
  unfold size at he
  rw [h] at he
  exact cnt_eq _ (fun i _ => hs i) he m (by rw [← h]; exact hm)
theorem cnt_lt (c : Nat) : ∀ n, cnt (fun i => decide (i < c)) n ≤ c
  | 0 => Nat.zero_le _
  | n + 1 => by
    have ih := cnt_lt c n
    have h2 := cnt_le_self (fun i => decide (i < c)) n
    simp only [cnt]
    split
    · rename_i h
      simp at h; omega
    · omega
theorem has_lt {L : List Nat} {n : Int} (h : fitsB L n = true) (m : Nat) (hm : has L m = true) : m < cutN n := by
  have hl : L.length = sizeN n := by unfold fitsB at h; simp at h; exact h.1
  by_cases h1 : m < 64 * L.length
  · by_cases h2 : m < cutN n
    · exact h2
    · rw [(fits_iff hl).1 h m (by omega) h1] at hm; cases hm
  · rw [has_over (by omega)] at hm; cases hm
theorem size_fits {L : List Nat} {n : Int} (h : fitsB L n = true) : size L ≤ cutN n := by
  refine Nat.le_trans ?_ (cnt_lt (cutN n) (64 * L.length))
  unfold size
  exact cnt_le _ fun i _ hi => decide_eq_true (has_lt h i hi)
theorem fits_of {L : List Nat} {n : Int} (hl : L.length = sizeN n) (h : ∀ m, has L m = true → m < cutN n) : fitsB L n = true := by
  rw [fits_iff hl]
  intro m h1 _
  cases hm : has L m with
  | false => rfl
  | true => have := h m hm; omega

/-! What is known of variables. -/
def jN (x y : Nat) : Nat := if x = y then x else if y = 0 then x else if x = 0 then y else 1
theorem norm_nat {x : Nat} (h : isB (x : Int) = true) : normW (x : Int) = x := norm_of _ h
theorem word3 {x y : Nat} (hx : isB (x : Int) = true) (hy : isB (y : Int) = true) : wordV 3 x y = jN x y := by
  unfold wordV joinW
  rw [if_neg (by omega), if_neg (by omega), if_pos rfl, norm_nat hx, norm_nat hy]
  unfold joinN jN
  repeat' split
  all_goals omega
theorem isB_jN {x y : Nat} (hx : isB (x : Int) = true) (hy : isB (y : Int) = true) : isB ((jN x y : Nat) : Int) = true := by
  unfold jN
  repeat' split
  all_goals first | exact hx | exact hy | decide
theorem rank3 {x : Nat} (hx : isB (x : Int) = true) : rankW x = if x = 0 then 0 else if x = 1 then 2 else 1 := by
  unfold rankW
  rw [norm_nat hx]
  unfold rankN
  repeat' split
  all_goals omega
theorem rank_jN {x y : Nat} (hx : isB (x : Int) = true) (hy : isB (y : Int) = true) : rankW x ≤ rankW (jN x y) ∧ (rankW x = rankW (jN x y) → x = jN x y) := by
  rw [rank3 hx, rank3 (isB_jN hx hy)]
  unfold jN
  by_cases h1 : x = y
  · rw [if_pos h1]; exact ⟨Nat.le_refl _, fun _ => rfl⟩
  · rw [if_neg h1]
    by_cases h2 : y = 0
    · rw [if_pos h2]; exact ⟨Nat.le_refl _, fun _ => rfl⟩
    · rw [if_neg h2]
      by_cases h3 : x = 0
      · rw [if_pos h3, if_pos h3, if_neg h2]
        split <;> omega
      · rw [if_neg h3, if_neg h3]
        by_cases h4 : x = 1
        · subst h4; simp
        · rw [if_neg h4]; simp

/-- Lists of words, one by one. -/
theorem joinV_ext {what : Int} {A B D : List Nat} (hl : A.length = D.length) (h : ∀ (i : Nat) (hA : i < A.length) (hD : i < D.length), wordV what (A[i]'hA) ((B[i]?).getD 0) = D[i]'hD) : joinV what A B = D := by
  apply List.ext_getElem
  · rw [joinV_length, hl]
  · intro i h1 h2
    rw [joinV_get]
    rw [joinV_length] at h1
    rw [List.getElem?_eq_getElem h1, Option.getD_some]
    exact h i h1 h2
theorem joinV_word {what : Int} {A B D : List Nat} (h : joinV what A B = D) {i : Nat} (hA : i < A.length) (hB : i < B.length) (hD : i < D.length) : wordV what (A[i]'hA) (B[i]'hB) = D[i]'hD := by
  subst h
  rw [joinV_get, List.getElem?_eq_getElem hA, List.getElem?_eq_getElem hB]; rfl

def allB (L : List Nat) : Prop := ∀ x ∈ L, isB (x : Int) = true
theorem rsum_mono : ∀ (A D : List Nat), A.length = D.length → (∀ (i : Nat) (h1 : i < A.length) (h2 : i < D.length), rankW (A[i]'h1) ≤ rankW (D[i]'h2) ∧ (rankW (A[i]'h1) = rankW (D[i]'h2) → A[i]'h1 = D[i]'h2)) →
    rsum A ≤ rsum D ∧ (rsum A = rsum D → A = D)
  | [], [], _, _ => ⟨Nat.le_refl _, fun _ => rfl⟩
  | x :: A, y :: D, hl, h => by
    obtain ⟨h1, h2⟩ := rsum_mono A D (by simpa using hl) fun i a b => by
      have := h (i + 1) (by simpa using a) (by simpa using b)
      simpa using this
    have h0 := h 0 (by simp) (by simp)
    simp only [List.getElem_cons_zero] at h0
    simp only [rsum]
    refine ⟨by omega, fun he => ?_⟩
    have e1 : rankW x = rankW y := by omega
    rw [h0.2 e1, h2 (by omega)]
  | [], _ :: _, hl, _ => by simp at hl
  | _ :: _, [], hl, _ => by simp at hl

/-- ALL THAT THE LAW ASKS. -/
structure Facts (what width : Int) (A B C : List Nat) : Prop where
  comm : joinV what B A = joinV what A B
  val : valueB what width (joinV what A B) = true
  left : joinV what A (joinV what A B) = joinV what A B
  right : joinV what B (joinV what A B) = joinV what A B
  lub : joinV what A C = C → joinV what B C = C → joinV what (joinV what A B) C = C
  botv : valueB what width (botW what width) = true
  topv : valueB what width (topW what width) = true
  bot : joinV what (botW what width) A = A
  top : joinV what A (topW what width) = topW what width
  high : rankV what width (joinV what A B) ≤ (heightN what width : Int)
  up : rankV what width A ≤ rankV what width (joinV what A B)
  same : rankV what width A = rankV what width (joinV what A B) → A = joinV what A B
  anti : joinV what A B = B → joinV what B A = A → A = B

theorem value_fits {what width : Int} {L : List Nat} (h3 : ¬ what = 3) (hi : isL what width = true) (hl : L.length = sizeN width) (hf : fitsB L width = true) : valueB what width L = true := by
  unfold valueB
  rw [hi, if_neg h3, hf, sizeN_words hi h3, hl]; simp
theorem fits_value {what width : Int} {L : List Nat} (h3 : ¬ what = 3) (h : valueB what width L = true) : L.length = sizeN width ∧ fitsB L width = true := by
  unfold valueB at h
  rw [if_neg h3] at h
  simp only [Bool.and_eq_true, decide_eq_true_iff] at h
  rw [sizeN_words h.1 h3] at h
  exact h.2

theorem facts1 {width : Int} {A B C : List Nat} (hi : isL 1 width = true) (okA : okW A) (okB : okW B) (okC : okW C) (hA : valueB 1 width A = true) (hB : valueB 1 width B = true) (hC : valueB 1 width C = true) : Facts 1 width A B C := by
  obtain ⟨_, hw0, hw1⟩ := isL_facts hi
  obtain ⟨la, fa⟩ := fits_value (by omega) hA
  obtain ⟨lb, fb⟩ := fits_value (by omega) hB
  obtain ⟨lc, fc⟩ := fits_value (by omega) hC
  have okJ := joinV_ok (what := 1) okA okB
  have lj : (joinV 1 A B).length = sizeN width := by rw [joinV_length, la]
  have hj := fun m => has1 (A := A) (B := B) (by omega) m
  have fj : fitsB (joinV 1 A B) width = true := fits_of lj fun m hm => by
    rw [hj] at hm
    simp at hm
    rcases hm with h | h
    · exact has_lt fa m h
    · exact has_lt fb m h
  have bw : botW 1 width = List.replicate (sizeN width) 0 := by unfold botW; rw [if_neg (by omega), sizeN_words hi (by omega)]
  have tw : topW 1 width = fullW width := by unfold topW; rw [if_pos ⟨hi, rfl⟩]
  have bok : okW (botW 1 width) := by rw [bw]; intro x hx; rw [List.eq_of_mem_replicate hx]; omega
  have bl : (botW 1 width).length = sizeN width := by rw [bw]; simp
  have bh : ∀ m, has (botW 1 width) m = false := fun m => by
    rw [bw]; unfold has
    rw [List.getElem?_replicate]; split <;> simp
  have tok : okW (topW 1 width) := by rw [tw]; exact fullW_ok _
  have tl : (topW 1 width).length = sizeN width := by rw [tw]; exact fullW_len _
  have th : ∀ m, has (topW 1 width) m = decide (m < cutN width) := fun m => by rw [tw]; exact fullW_has _ _
  have hc : (heightN 1 width : Int) = width := by unfold heightN; rw [hi, if_pos rfl, if_neg (by omega)]; omega
  have hcut : (cutN width : Int) = width := by unfold cutN; split <;> (try split) <;> omega
  constructor
  · refine words_ext (joinV_ok okB okA) okJ (by rw [joinV_length, joinV_length]; omega) fun m _ => ?_
    rw [hj, has1 (by omega), Bool.or_comm]
  · exact value_fits (by omega) hi lj fj
  · rw [below1 (by omega) okA okJ]; intro m hm; rw [hj, hm]; rfl
  · rw [below1 (by omega) okB okJ]; intro m hm; rw [hj, hm, Bool.or_true]
  · intro h1 h2
    rw [below1 (by omega) okA okC] at h1
    rw [below1 (by omega) okB okC] at h2
    rw [below1 (by omega) okJ okC]
    intro m hm
    rw [hj] at hm
    simp at hm
    rcases hm with h | h
    · exact h1 m h
    · exact h2 m h
  · exact value_fits (by omega) hi bl (fits_of bl fun m hm => by rw [bh] at hm; cases hm)
  · exact value_fits (by omega) hi tl (fits_of tl fun m hm => by rw [th] at hm; simpa using hm)
  · rw [below1 (by omega) bok okA]; intro m hm; rw [bh] at hm; cases hm
  · rw [below1 (by omega) okA tok]; intro m hm; rw [th]; exact decide_eq_true (has_lt fa m hm)
  · rw [hc, ← hcut]
    have := size_fits fj
    show ((size (joinV 1 A B) : Nat) : Int) ≤ _
    omega
  · have := size_mono (A := A) (B := joinV 1 A B) (by omega) (fun m hm => by rw [hj, hm]; rfl)
    show ((size A : Nat) : Int) ≤ ((size (joinV 1 A B) : Nat) : Int)
    omega
  · intro he
    have he' : ((size A : Nat) : Int) = ((size (joinV 1 A B) : Nat) : Int) := he
    exact size_same (by omega) okA okJ (fun m hm => by rw [hj, hm]; rfl) (by omega)
  · intro h1 h2
    rw [below1 (by omega) okA okB] at h1
    rw [below1 (by omega) okB okA] at h2
    refine words_ext okA okB (by omega) fun m _ => ?_
    have a := h1 m
    have b := h2 m
    cases e1 : has A m <;> cases e2 : has B m <;> simp_all

theorem facts2 {width : Int} {A B C : List Nat} (hi : isL 2 width = true) (okA : okW A) (okB : okW B) (okC : okW C) (hA : valueB 2 width A = true) (hB : valueB 2 width B = true) (hC : valueB 2 width C = true) : Facts 2 width A B C := by
  obtain ⟨_, hw0, hw1⟩ := isL_facts hi
  obtain ⟨la, fa⟩ := fits_value (by omega) hA
  obtain ⟨lb, fb⟩ := fits_value (by omega) hB
  obtain ⟨lc, fc⟩ := fits_value (by omega) hC
  have okJ := joinV_ok (what := 2) okA okB
  have lj : (joinV 2 A B).length = sizeN width := by rw [joinV_length, la]
  have hj := fun m => has2 (A := A) (B := B) (by omega) m
  have fj : fitsB (joinV 2 A B) width = true := fits_of lj fun m hm => by
    rw [hj] at hm
    simp at hm
    exact has_lt fa m hm.1
  have bw : topW 2 width = List.replicate (sizeN width) 0 := by unfold topW; rw [if_neg (by omega), sizeN_words hi (by omega), if_neg (by omega)]
  have tw : botW 2 width = fullW width := by unfold botW; rw [if_pos ⟨hi, rfl⟩]
  have bok : okW (topW 2 width) := by rw [bw]; intro x hx; rw [List.eq_of_mem_replicate hx]; omega
  have bl : (topW 2 width).length = sizeN width := by rw [bw]; simp
  have bh : ∀ m, has (topW 2 width) m = false := fun m => by
    rw [bw]; unfold has
    rw [List.getElem?_replicate]; split <;> simp
  have tok : okW (botW 2 width) := by rw [tw]; exact fullW_ok _
  have tl : (botW 2 width).length = sizeN width := by rw [tw]; exact fullW_len _
  have th : ∀ m, has (botW 2 width) m = decide (m < cutN width) := fun m => by rw [tw]; exact fullW_has _ _
  have hc : (heightN 2 width : Int) = width := by unfold heightN; rw [hi, if_pos rfl, if_neg (by omega)]; omega
  constructor
  · refine words_ext (joinV_ok okB okA) okJ (by rw [joinV_length, joinV_length]; omega) fun m _ => ?_
    rw [hj, has2 (by omega), Bool.and_comm]
  · exact value_fits (by omega) hi lj fj
  · rw [below2 (by omega) okA okJ]; intro m hm; rw [hj] at hm; simp at hm; exact hm.1
  · rw [below2 (by omega) okB okJ]; intro m hm; rw [hj] at hm; simp at hm; exact hm.2
  · intro h1 h2
    rw [below2 (by omega) okA okC] at h1
    rw [below2 (by omega) okB okC] at h2
    rw [below2 (by omega) okJ okC]
    intro m hm
    rw [hj, h1 m hm, h2 m hm]; rfl
  · exact value_fits (by omega) hi tl (fits_of tl fun m hm => by rw [th] at hm; simpa using hm)
  · exact value_fits (by omega) hi bl (fits_of bl fun m hm => by rw [bh] at hm; cases hm)
  · rw [below2 (by omega) tok okA]; intro m hm; rw [th]; exact decide_eq_true (has_lt fa m hm)
  · rw [below2 (by omega) okA bok]; intro m hm; rw [bh] at hm; cases hm
  · rw [hc]
    show width - ((size (joinV 2 A B) : Nat) : Int) ≤ _
    omega
  · have := size_mono (A := joinV 2 A B) (B := A) (by omega) (fun m hm => by rw [hj] at hm; simp at hm; exact hm.1)
    show width - ((size A : Nat) : Int) ≤ width - ((size (joinV 2 A B) : Nat) : Int)
    omega
  · intro he
    have he' : width - ((size A : Nat) : Int) = width - ((size (joinV 2 A B) : Nat) : Int) := he
    exact (size_same (by omega) okJ okA (fun m hm => by rw [hj] at hm; simp at hm; exact hm.1) (by omega)).symm
  · intro h1 h2
    rw [below2 (by omega) okA okB] at h1
    rw [below2 (by omega) okB okA] at h2
    refine words_ext okA okB (by omega) fun m _ => ?_
    have a := h1 m
    have b := h2 m
    cases e1 : has A m <;> cases e2 : has B m <;> simp_all

theorem value_flat {width : Int} {L : List Nat} (hi : isL 3 width = true) (hl : L.length = width.toNat) (hb : allB L) : valueB 3 width L = true := by
  have hw : wordsN 3 width = width.toNat := by unfold wordsN; rw [hi, if_pos rfl, if_pos rfl]
  unfold valueB
  rw [hi, if_pos rfl, hw, hl, List.all_eq_true.2 hb]; simp
theorem flat_value {width : Int} {L : List Nat} (h : valueB 3 width L = true) : L.length = width.toNat ∧ allB L := by
  unfold valueB at h
  rw [if_pos rfl] at h
  simp only [Bool.and_eq_true, decide_eq_true_iff] at h
  have hw : wordsN 3 width = width.toNat := by unfold wordsN; rw [h.1, if_pos rfl, if_pos rfl]
  rw [hw] at h
  exact ⟨h.2.1, List.all_eq_true.1 h.2.2⟩

theorem facts3 {width : Int} {A B C : List Nat} (hi : isL 3 width = true) (okA : okW A) (okB : okW B) (okC : okW C) (hA : valueB 3 width A = true) (hB : valueB 3 width B = true) (hC : valueB 3 width C = true) : Facts 3 width A B C := by
  obtain ⟨_, hw0, hw1⟩ := isL_facts hi
  obtain ⟨la, fa⟩ := flat_value hA
  obtain ⟨lb, fb⟩ := flat_value hB
  obtain ⟨lc, fc⟩ := flat_value hC
  have hw : wordsN 3 width = width.toNat := by unfold wordsN; rw [hi, if_pos rfl, if_pos rfl]
  have lj : (joinV 3 A B).length = width.toNat := by rw [joinV_length, la]
  have gj : ∀ (i : Nat) (h : i < (joinV 3 A B).length) (h1 : i < A.length) (h2 : i < B.length), (joinV 3 A B)[i]'h = jN (A[i]'h1) (B[i]'h2) := fun i h h1 h2 => by
    rw [joinV_get, List.getElem?_eq_getElem h1, List.getElem?_eq_getElem h2]
    exact word3 (fa _ (List.getElem_mem _)) (fb _ (List.getElem_mem _))
  have fj : allB (joinV 3 A B) := fun x hx => by
    obtain ⟨i, h, rfl⟩ := List.mem_iff_getElem.1 hx
    rw [gj i h (by omega) (by omega)]
    exact isB_jN (fa _ (List.getElem_mem _)) (fb _ (List.getElem_mem _))
  have bw : botW 3 width = List.replicate width.toNat 0 := by unfold botW; rw [if_neg (by omega), hw]
  have tw : topW 3 width = List.replicate width.toNat 1 := by unfold topW; rw [if_neg (by omega), hw, if_pos rfl]
  have hc : heightN 3 width = 2 * width.toNat := by unfold heightN; rw [hi, if_pos rfl, if_pos rfl]
  have gd : ∀ (L : List Nat) (i : Nat) (h : i < L.length), (L[i]?).getD 0 = L[i]'h := fun L i h => by rw [List.getElem?_eq_getElem h]; rfl
  constructor
  · refine joinV_ext (by omega) fun i h1 h2 => ?_
    rw [gd A i (by omega), gj i h2 (by omega) h1, word3 (fb _ (List.getElem_mem _)) (fa _ (List.getElem_mem _))]
    unfold jN
    repeat' split
    all_goals omega
  · exact value_flat hi lj fj
  · refine joinV_ext (by omega) fun i h1 h2 => ?_
    have hjb := fj _ (List.getElem_mem (l := joinV 3 A B) h2)
    rw [gd _ i h2, word3 (fa _ (List.getElem_mem _)) hjb, gj i h2 h1 (by omega)]
    unfold jN
    repeat' split
    all_goals omega
  · refine joinV_ext (by omega) fun i h1 h2 => ?_
    have hjb := fj _ (List.getElem_mem (l := joinV 3 A B) h2)
    rw [gd _ i h2, word3 (fb _ (List.getElem_mem _)) hjb, gj i h2 (by omega) h1]
    unfold jN
    repeat' split
    all_goals omega
  · intro h1 h2
    refine joinV_ext (by omega) fun i g1 g2 => ?_
    have a := joinV_word h1 (i := i) (by omega) g2 g2
    have b := joinV_word h2 (i := i) (by omega) g2 g2
    have hjb := fj _ (List.getElem_mem (l := joinV 3 A B) g1)
    have hcb := fc _ (List.getElem_mem (l := C) g2)
    rw [word3 (fa _ (List.getElem_mem _)) hcb] at a
    rw [word3 (fb _ (List.getElem_mem _)) hcb] at b
    rw [gd _ i g2, word3 hjb hcb, gj i g1 (by omega) (by omega)]
    revert a b
    generalize A[i]'(by omega) = x
    generalize B[i]'(by omega) = y
    generalize C[i]'g2 = z
    intro a b
    unfold jN at *
    repeat' split at a
    all_goals repeat' split at b
    all_goals repeat' split
    all_goals omega
  · exact value_flat hi (by rw [bw]; simp) fun x hx => by rw [bw] at hx; rw [List.eq_of_mem_replicate hx]; decide
  · exact value_flat hi (by rw [tw]; simp) fun x hx => by rw [tw] at hx; rw [List.eq_of_mem_replicate hx]; decide
  · refine joinV_ext (by rw [bw]; simp; omega) fun i h1 h2 => ?_
    have e : (botW 3 width)[i]'h1 = 0 := by simp [bw]
    rw [gd _ i h2, e, word3 (by decide) (fa _ (List.getElem_mem _))]
    unfold jN
    repeat' split
    all_goals omega
  · refine joinV_ext (by rw [tw]; simp; omega) fun i h1 h2 => ?_
    have e : (topW 3 width)[i]'h2 = 1 := by simp [tw]
    rw [gd _ i h2, e, word3 (fa _ (List.getElem_mem _)) (by decide)]
    unfold jN
    repeat' split
    all_goals omega
  · rw [hc]
    have := rsum_le (joinV 3 A B)
    show ((rsum (joinV 3 A B) : Nat) : Int) ≤ _
    omega
  · have := (rsum_mono A (joinV 3 A B) (by omega) fun i h1 h2 => by
      rw [gj i h2 h1 (by omega)]
      exact rank_jN (fa _ (List.getElem_mem _)) (fb _ (List.getElem_mem _))).1
    show ((rsum A : Nat) : Int) ≤ ((rsum (joinV 3 A B) : Nat) : Int)
    omega
  · intro he
    have he' : ((rsum A : Nat) : Int) = ((rsum (joinV 3 A B) : Nat) : Int) := he
    exact (rsum_mono A (joinV 3 A B) (by omega) fun i h1 h2 => by
      rw [gj i h2 h1 (by omega)]
      exact rank_jN (fa _ (List.getElem_mem _)) (fb _ (List.getElem_mem _))).2 (by omega)
  · intro h1 h2
    apply List.ext_getElem (by omega)
    intro i g1 g2
    have a := joinV_word h1 (i := i) g1 g2 g2
    have b := joinV_word h2 (i := i) g2 g1 g1
    rw [word3 (fa _ (List.getElem_mem _)) (fb _ (List.getElem_mem _))] at a
    rw [word3 (fb _ (List.getElem_mem _)) (fa _ (List.getElem_mem _))] at b
    revert a b
    generalize A[i]'g1 = x
    generalize B[i]'g2 = y
    intro a b
    unfold jN at *
    repeat' split at a
    all_goals repeat' split at b
    all_goals omega

theorem facts_all {what width : Int} {A B C : List Nat} (okA : okW A) (okB : okW B) (okC : okW C) (hA : valueB what width A = true) (hB : valueB what width B = true) (hC : valueB what width C = true) : Facts what width A B C := by
  have hi : isL what width = true := by unfold valueB at hA; simp only [Bool.and_eq_true] at hA; exact hA.1
  rcases (isL_facts hi).1 with rfl | rfl | rfl
  · exact facts1 hi okA okB okC hA hB hC
  · exact facts2 hi okA okB okC hA hB hC
  · exact facts3 hi okA okB okC hA hB hC

end Go.Proofs.Ytjjopjpchgajcaa.Ws
