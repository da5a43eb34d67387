/- WALKS of package lattice and its reference: whether words are a value; few. -/
import Derived.Test.YtjjopjpchgajcaaLattc
namespace Go.Proofs.Ytjjopjpchgajcaa.Ws
set_option linter.unusedVariables false
set_option linter.unusedSimpArgs false
open Go Go.RowKit

theorem lis_any (what width : Int) (L : List Nat) (hok : okW L) (hl : L.length ≤ 1000000) (v : Value) (w : World) (h : Sl w v encW L) :
    Calls Try.prog 55 #[.int .i64 what, .int .i64 width, v] w fun e w' => e = .returned (.bool (valueB what width L)) ∧ Below w.heap.size w w' := by
  obtain ⟨p, cap, hv⟩ : ∃ p cap, v = .slice p L.length cap := by obtain ⟨b, off, p, cap, hv, _⟩ := h; exact ⟨p, cap, hv⟩
  have h0 := is_any what width
  have hr := words_any what width
  cases hL : isL what width
  · rw [hL] at h0
    have hw : valueB what width L = false := by simp [valueB, hL]
    rw [hw]
    clear hw hL
    subst hv
    go_enter Try.func55, Try.ntmps55
    go_wp2_with (first | (go_at_call 74; refine Calls.same (h0 _) ?_))
    refine bodyPost_ret (v := .bool false) (by simp only [results, Try.results55]; go_simp) rfl ⟨rfl, Below.refl _ _⟩
  · rw [hL] at h0
    by_cases hn : L.length = wordsN what width
    · have fn : ((L.length : Int) != (wordsN what width : Int)) = false := by simp [hn]
      by_cases h3 : what = 3
      · have hw : valueB what width L = L.all (fun x => isB (x : Int)) := by unfold valueB; rw [hL, if_pos h3]; simp [hn]
        rw [hw]
        have hct := contains_any L hok hl v
        generalize wordsN what width = n at hr fn
        generalize (L.all fun x => isB (x : Int)) = y at hct ⊢
        have f3 : (what != 3) = false := by simp [h3]
        clear hw hn h3 hL
        subst hv
        go_enter Try.func55, Try.ntmps55
        go_wp2_with (first | (go_at_call 74; refine Calls.same (h0 _) ?_) | (go_at_call 48; refine Calls.same (hr _) ?_) | (go_at_call 81; refine' Calls.aft _ _ (hct _ h) _; rotate_left 2; (first | (with_reducible exact After.below _; rfl) | (with_reducible exact below_drew (After.below _); rfl) | (with_reducible exact below_set (After.below _) _ _; (go_simp; rfl)) | (with_reducible exact below_set (below_set (After.below _) _ _) _ _; (go_simp; rfl)) | (with_reducible exact below_set (below_set (below_set (After.below _) _ _) _ _) _ _; (go_simp; rfl)) | (with_reducible exact below_set (below_set (below_set (below_set (After.below _) _ _) _ _) _ _) _ _; (go_simp; rfl)) | (exact Below.refl _ _; rfl)); intro x1; have hle := After.le x1; (try simp at hle)))
        refine bodyPost_ret (v := .bool y) (by simp only [results, Try.results55]; go_simp) rfl ⟨rfl, x1.below⟩
      · have hw : valueB what width L = fitsB L width := by unfold valueB; rw [hL, if_neg h3]; simp [hn]
        rw [hw]
        have hft := fits_any L hok hl width v w h
        generalize wordsN what width = n at hr fn
        generalize fitsB L width = y at hft ⊢
        have f3 : (what != 3) = true := by simp [h3]
        clear hw hn h3 hL
        subst hv
        go_enter Try.func55, Try.ntmps55
        go_wp2_with (first | (go_at_call 74; refine Calls.same (h0 _) ?_) | (go_at_call 48; refine Calls.same (hr _) ?_) | (go_at_call 80; refine' Calls.aft _ _ (hft) _; rotate_left 2; (first | (with_reducible exact After.below _; rfl) | (with_reducible exact below_drew (After.below _); rfl) | (with_reducible exact below_set (After.below _) _ _; (go_simp; rfl)) | (with_reducible exact below_set (below_set (After.below _) _ _) _ _; (go_simp; rfl)) | (with_reducible exact below_set (below_set (below_set (After.below _) _ _) _ _) _ _; (go_simp; rfl)) | (with_reducible exact below_set (below_set (below_set (below_set (After.below _) _ _) _ _) _ _) _ _; (go_simp; rfl)) | (exact Below.refl _ _; rfl)); intro x1; have hle := After.le x1; (try simp at hle)))
        refine bodyPost_ret (v := .bool y) (by simp only [results, Try.results55]; go_simp) rfl ⟨rfl, x1.below⟩
    · have hw : valueB what width L = false := by simp [valueB, hn]
      rw [hw]
      have fn : ((L.length : Int) != (wordsN what width : Int)) = true := by simp; omega
      generalize wordsN what width = n at hr fn
      clear hw hL hn
      subst hv
      go_enter Try.func55, Try.ntmps55
      go_wp2_with (first | (go_at_call 74; refine Calls.same (h0 _) ?_) | (go_at_call 48; refine Calls.same (hr _) ?_))
      refine bodyPost_ret (v := .bool false) (by simp only [results, Try.results55]; go_simp) rfl ⟨rfl, Below.refl _ _⟩

theorem isB_norm (x : Int) : isB x = (normW x == x) := by
  cases h : isB x with
  | true => simp [norm_of x h]
  | false =>
    rw [norm_not x h]
    by_cases e : x = 1
    · subst e; exact absurd h (by decide)
    · symm; simp; omega

set_option maxRecDepth 100000 in
theorem rvalue_any (what width : Int) (L : List Nat) (hok : okW L) (hl : L.length ≤ 1000000) (v : Value) (w : World) (h : Sl w v encW L) :
    Calls Try.prog 56 #[.int .i64 what, .int .i64 width, v] w fun e w' => e = .returned (.bool (valueB what width L)) ∧ Below w.heap.size w w' := by
  obtain ⟨b, off, p, cap, hv, hp, hc⟩ := Sl.words h
  have h0 := ris_any what width
  have hr := rwords_any what width
  cases hL : isL what width
  · rw [hL] at h0
    have hw : valueB what width L = false := by simp [valueB, hL]
    rw [hw]
    clear hw hL hc
    subst hv
    go_enter Try.func56, Try.ntmps56
    go_wp2_with (first | (go_at_call 63; refine Calls.same (h0 _) ?_))
    refine bodyPost_ret (v := .bool false) (by simp only [results, Try.results56]; go_simp) rfl ⟨rfl, Below.refl _ _⟩
  · rw [hL] at h0
    by_cases hn : L.length = wordsN what width
    · have fn : ((L.length : Int) != (wordsN what width : Int)) = false := by simp [hn]
      by_cases h3 : what = 3
      · have hw : valueB what width L = L.all (fun x => isB (x : Int)) := by unfold valueB; rw [hL, if_pos h3]; simp [hn]
        have hW := And.intro True.intro hw
        generalize wordsN what width = n at hr fn
        have f3 : (what != 3) = false := by simp [h3]
        clear hw hn h3 hL
        subst hv
        go_enter Try.func56, Try.ntmps56
        go_wp2_with (first | (go_at_call 63; refine Calls.same (h0 _) ?_) | (go_at_call 49; refine Calls.same (hr _) ?_))
        go_loopw [28] (fun i wr => ∃ k : Nat, k ≤ L.length ∧ i = .int .i64 k ∧ ((L.take k).all fun x => isB (x : Int)) = true ∧ Below w.heap.size w wr) (fun i _ => L.length - (intOf i).toNat)
        case atStart => exact ⟨0, Nat.zero_le _, rfl, rfl, Below.refl _ _⟩
        case round =>
          obtain ⟨k, hk, rfl, hall, hB⟩ := hrel
          have hA := And.intro True.intro hall
          clear hall
          by_cases hlt : k < L.length
          · have hpp := hp (by omega)
            subst hpp
            have c0 := hc k hlt
            have hg := World.block_lt_of_cell? _ _ c0
            have c1 := (hB.cell (p := ⟨b, off + k, none⟩) hg).trans c0
            have hgw := World.block_lt_of_cell? _ _ c1
            have hx := hok _ (List.getElem_mem hlt)
            have hT : (L.take (k + 1)).all (fun x => isB (x : Int)) = ((L.take k).all (fun x => isB (x : Int)) && isB ((L[k]'hlt : Nat) : Int)) := by
              rw [List.take_succ_eq_append_getElem hlt, List.all_append]; simp
            have hF : isB ((L[k]'hlt : Nat) : Int) = false → (L.all fun x => isB (x : Int)) = false := fun hf => by
              rw [List.all_eq_false]
              exact ⟨_, List.getElem_mem hlt, by rw [hf]; simp⟩
            have hw := hB.size
            have hT2 := And.intro hT hF
            clear hc c0 hT hF
            generalize L[k]'hlt = x at c1 hx hT2
            have h1 := rnorm_any (x : Int) (by omega) (by omega) wr
            have h2 := isB_norm (x : Int)
            cases hb : isB (x : Int)
            · rw [hb] at h2
              have f1 : (normW (x : Int) != (x : Int)) = true := by rw [bne, ← h2]; rfl
              generalize normW (x : Int) = y at h1 f1
              clear h2
              go_wp2_with ((go_at_call 36; refine' Calls.aft _ _ (h1) _; rotate_left 2; (first | (with_reducible exact After.below _; rfl) | (with_reducible exact below_drew (After.below _); rfl) | (with_reducible exact below_set (After.below _) _ _; (go_simp; rfl)) | (with_reducible exact below_set (below_set (After.below _) _ _) _ _; (go_simp; rfl)) | (with_reducible exact below_set (below_set (below_set (After.below _) _ _) _ _) _ _; (go_simp; rfl)) | (with_reducible exact below_set (below_set (below_set (below_set (After.below _) _ _) _ _) _ _) _ _; (go_simp; rfl)) | (exact Below.refl _ _; rfl)); intro x1; have hle := After.le x1; (try simp at hle)))
              refine bodyPost_ret (v := .bool false) (by simp only [results, Try.results56]; go_simp) rfl ⟨?_, hB.trans (Below.mono x1.below hw)⟩
              rw [hW.2, hT2.2 hb]
            · rw [hb] at h2
              have f1 : (normW (x : Int) != (x : Int)) = false := by rw [bne, ← h2]; rfl
              generalize normW (x : Int) = y at h1 f1
              clear h2
              go_wp2_with ((go_at_call 36; refine' Calls.aft _ _ (h1) _; rotate_left 2; (first | (with_reducible exact After.below _; rfl) | (with_reducible exact below_drew (After.below _); rfl) | (with_reducible exact below_set (After.below _) _ _; (go_simp; rfl)) | (with_reducible exact below_set (below_set (After.below _) _ _) _ _; (go_simp; rfl)) | (with_reducible exact below_set (below_set (below_set (After.below _) _ _) _ _) _ _; (go_simp; rfl)) | (with_reducible exact below_set (below_set (below_set (below_set (After.below _) _ _) _ _) _ _) _ _; (go_simp; rfl)) | (exact Below.refl _ _; rfl)); intro x1; have hle := After.le x1; (try simp at hle)))
              go_roundw
              case rel => exact ⟨k + 1, by omega, by simp, by rw [hT2.1, hA.2, hb]; rfl, hB.trans (Below.mono x1.below hw)⟩
              case measure => simp [intOf]; omega
          · have hks : k = L.length := by omega
            have hA2 := hA.2
            rw [hks, List.take_length] at hA2
            clear hc
            have hA3 := And.intro True.intro hA2
            clear hA2
            go_wp2_with fail
            refine bodyPost_ret (v := .bool true) (by simp only [results, Try.results56]; go_simp) rfl ⟨?_, hB⟩
            rw [hW.2, hA3.2]
      · have hw : valueB what width L = fitsB L width := by unfold valueB; rw [hL, if_neg h3]; simp [hn]
        rw [hw]
        have hft := rfits_any L hok width v w h
        generalize wordsN what width = n at hr fn
        generalize fitsB L width = y at hft ⊢
        have f3 : (what != 3) = true := by simp [h3]
        clear hw hn h3 hL hc
        subst hv
        go_enter Try.func56, Try.ntmps56
        go_wp2_with (first | (go_at_call 63; refine Calls.same (h0 _) ?_) | (go_at_call 49; refine Calls.same (hr _) ?_) | (go_at_call 83; refine Calls.same (hft) ?_))
        refine bodyPost_ret (v := .bool y) (by simp only [results, Try.results56]; go_simp) rfl ⟨rfl, Below.refl _ _⟩
    · have hw : valueB what width L = false := by simp [valueB, hn]
      rw [hw]
      have fn : ((L.length : Int) != (wordsN what width : Int)) = true := by simp; omega
      generalize wordsN what width = n at hr fn
      clear hw hL hn hc
      subst hv
      go_enter Try.func56, Try.ntmps56
      go_wp2_with (first | (go_at_call 63; refine Calls.same (h0 _) ?_) | (go_at_call 49; refine Calls.same (hr _) ?_))
      refine bodyPost_ret (v := .bool false) (by simp only [results, Try.results56]; go_simp) rfl ⟨rfl, Below.refl _ _⟩

/-- Slices that are elements of a slice. -/
def encV (x : Value) : List Value := [x]
def vlen : Value → Nat | .slice _ n _ => n | _ => 0
def fewB (width : Int) (Vs : List Value) : Bool := Vs.all (fun v => decide (vlen v ≤ 70)) && (decide (width ≤ 70) || decide (1024 < width))

set_option maxRecDepth 100000 in
theorem few_any (width : Int) (Vs : List Value) (hVs : ∀ v ∈ Vs, ∃ p n cap, v = .slice p n cap) (hn : Vs.length ≤ 1000) (v : Value) (w : World) (h : Sl w v encV Vs) :
    Calls Try.prog 47 #[.int .i64 width, v] w fun e w' => e = .returned (.bool (fewB width Vs)) ∧ w = w' := by
  obtain ⟨b, off, p, cap, rfl, hp, hc⟩ := h.open (k := 1) (fun _ => rfl)
  go_enter Try.func47, Try.ntmps47
  go_wp2_with fail
  go_loop [9] (fun i => ∃ k : Nat, k ≤ Vs.length ∧ i = .int .i64 k ∧ ((Vs.take k).all fun v => decide (vlen v ≤ 70)) = true) (fun i => Vs.length - (intOf i).toNat)
  case atStart => exact ⟨0, Nat.zero_le _, rfl, rfl⟩
  case round =>
    obtain ⟨k, hk, rfl, hall⟩ := hrel
    have hA := And.intro True.intro hall
    clear hall
    by_cases hlt : k < Vs.length
    · have hpp := hp (by omega)
      subst hpp
      have c0 := hc k hlt 0 _ rfl
      rw [Nat.mul_one, Nat.add_zero] at c0
      have hg := World.block_lt_of_cell? _ _ c0
      obtain ⟨pp, n, cc, hvv⟩ := hVs _ (List.getElem_mem hlt)
      have hT : (Vs.take (k + 1)).all (fun v => decide (vlen v ≤ 70)) = ((Vs.take k).all (fun v => decide (vlen v ≤ 70)) && decide (vlen (Vs[k]'hlt) ≤ 70)) := by
        rw [List.take_succ_eq_append_getElem hlt, List.all_append]; simp
      have hF : decide (vlen (Vs[k]'hlt) ≤ 70) = false → (Vs.all fun v => decide (vlen v ≤ 70)) = false := fun hf => by
        rw [List.all_eq_false]
        exact ⟨_, List.getElem_mem hlt, by rw [hf]; simp⟩
      rw [hvv] at c0 hT hF
      have hT2 := And.intro hT hF
      clear hc hT hF hvv
      by_cases h70 : n ≤ 70
      · have f1 : ¬ (70 : Int) < n := by omega
        go_wp2_with fail
        refine ⟨⟨k + 1, by omega, by simp, ?_⟩, by simp [intOf]; omega⟩
        rw [hT2.1, hA.2]
        simp [vlen, h70]
      · have f1 : (70 : Int) < n := by omega
        go_wp2_with fail
        refine bodyPost_ret (v := .bool false) (by simp only [results, Try.results47]; go_simp) rfl ⟨?_, rfl⟩
        rw [fewB, hT2.2 (decide_eq_false h70)]
        rfl
    · have hks : k = Vs.length := by omega
      have hA2 := hA.2
      rw [hks, List.take_length] at hA2
      have hA3 := And.intro True.intro hA2
      clear hc hA2
      go_wp2_with fail
      all_goals (go_ret; refine ⟨?_, rfl⟩; refine congrArg (fun b => Ending.returned (Value.bool b)) (?_ : (_ : Bool) = _); rw [fewB, hA3.2, Bool.true_and, Bool.eq_iff_iff]; (try first | (simp; done) | (simp; omega)))

end Go.Proofs.Ytjjopjpchgajcaa.Ws
