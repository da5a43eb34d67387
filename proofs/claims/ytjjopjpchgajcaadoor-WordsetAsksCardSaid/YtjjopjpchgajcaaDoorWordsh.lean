/- WALKS: soughref10.Both, soughlaw10.few. -/
import Derived.Test.YtjjopjpchgajcaaDoorWordsg
namespace Go.Proofs.YtjjopjpchgajcaaDoor.Ws
set_option linter.unusedVariables false
set_option linter.unusedSimpArgs false
open Go Go.RowKit

theorem few10_any (L M : List Nat) (v v' : Value) (w : World) (h : Sl w v encW L) (h' : Sl w v' encW M) :
    Calls Tryd.prog 17 #[v, v'] w fun e w' => e = .returned (.bool (decide (L.length ≤ 4) && decide (M.length ≤ 4))) ∧ w = w' := by
  obtain ⟨p, cap, hv⟩ : ∃ p cap, v = .slice p L.length cap := by obtain ⟨b, off, p, cap, hv, _⟩ := h; exact ⟨p, cap, hv⟩
  obtain ⟨p', cap', hv'⟩ : ∃ p cap, v' = .slice p M.length cap := by obtain ⟨b, off, p, cap, hv, _⟩ := h'; exact ⟨p, cap, hv⟩
  subst hv hv'
  go_enter Tryd.func17, Tryd.ntmps17
  go_wp2_with fail
  all_goals (go_ret; refine ⟨?_, rfl⟩; refine congrArg (fun b => Ending.returned (Value.bool b)) (?_ : (_ : Bool) = _); rw [Bool.eq_iff_iff]; (try first | (simp; done) | (simp; omega)))

theorem zip_words {g : Nat → Nat → Nat} {f : Bool → Bool → Bool} {L M : List Nat} (hok : okW (zipW g L M)) (h : ∀ m, has (zipW g L M) m = f (has L m) (has M m)) :
    zipW g L M = wordsOf (fun m => f (has L m) (has M m)) (max L.length M.length) := by
  have := words_of_has (p := fun m => f (has L m) (has M m)) hok (fun m _ => h m)
  rwa [zipW_length] at this

set_option maxRecDepth 100000 in
set_option maxHeartbeats 1000000 in
theorem rboth_union (L M : List Nat) (hL : okW L) (hM : okW M) (hl : L.length ≤ 1000000) (hm : M.length ≤ 1000000) (v v' : Value) (w : World) (h : Sl w v encW L) (h' : Sl w v' encW M) :
    Calls Tryd.prog 27 #[v, v', .int .i64 1] w fun e w' => ∃ o, e = .returned o ∧ w'.ownsRow w.heap.size 39 1 o (max L.length M.length) ((wordsOf (fun m => has L m || has M m) (max L.length M.length)).flatMap encW) ∧ Below w.heap.size w w' := by
  obtain ⟨i0, hi, hz0, hz1, hz2⟩ := info_parts w_info
  obtain ⟨p, cap, hv⟩ : ∃ p cap, v = .slice p L.length cap := by obtain ⟨b, off, p, cap, hv, _⟩ := h; exact ⟨p, cap, hv⟩
  obtain ⟨p', cap', hv'⟩ : ∃ p cap, v' = .slice p M.length cap := by obtain ⟨b, off, p, cap, hv, _⟩ := h'; exact ⟨p, cap, hv⟩
  subst hv hv'
  obtain ⟨f, hf⟩ : ∃ f : Nat → Bool, f = fun m => has L m || has M m := ⟨_, rfl⟩
  have hF : Hid (∀ m, f m = (has L m || has M m)) := fun m => by rw [hf]
  rw [← hf]
  clear hf
  rcases Nat.lt_or_ge L.length M.length with hlm | hlm
  · rw [show max L.length M.length = M.length by omega]
    have hlm2 : (L.length : Int) < M.length := by omega
    go_enter Tryd.func27, Tryd.ntmps27
    go_wp2_with ((at_make; refine wpList_make_full _ rfl _ _ 23 rfl w.heap.size 39 i0 (.int .u64 0) 1 Tryd.underlying23 hi hz0 hz1 .i64 .i64 _ _ M.length rfl rfl rfl rfl (by rw [hz2]; omega) (by unfold maxLen; omega) (Nat.le_refl _) ?_; intro w1 hown hgrow; rw [zeros_words] at hown))
    have hB : Below w.heap.size w w1 := Below.grown (Below.refl _ _) hgrow (Nat.le_refl _) (fun k e => by cases e)
    go_wp2_with fail
    go_loopw [7, 8] (fun o i wr => ∃ k : Nat, k ≤ 64 * M.length ∧ i = .int .i64 k ∧ wr.ownsRow w.heap.size 39 1 o M.length ((wordsOf (fun m => decide (m < k) && f m) M.length).flatMap encW) ∧ Below w.heap.size w wr) (fun _ i _ => 64 * M.length - (intOf i).toNat)
    case atStart =>
      refine ⟨0, Nat.zero_le _, rfl, ?_, hB⟩
      rw [show wordsOf (fun m => decide (m < 0) && f m) (M.length) = wordsOf (fun _ => false) (M.length) from wordsOf_congr fun m _ => by simp]
      exact hown
    case round =>
      obtain ⟨k, hk, rfl, hown, hB⟩ := hrel
      have hwl : (wordsOf (fun m => decide (m < k) && f m) (M.length)).length = M.length := wordsOf_length _ _
      obtain ⟨pp, cc, rfl⟩ := own_len hown
      by_cases hlt : k < 64 * M.length
      · have hlt2 : (k : Int) < 64 * M.length := by omega
        have h1 := rhas_any L hL k (by omega) _ wr (h.below hB)
        have h2 := rhas_any M hM k (by omega) _ wr (h'.below hB)
        have hS : Sl wr (.slice pp (M.length) cc) encW (wordsOf (fun m => decide (m < k) && f m) (M.length)) := Sl.of_own (by rw [hwl]; exact hown)
        have hwith := with_any (wordsOf (fun m => decide (m < k) && f m) (M.length)) (wordsOf_ok _ _) (by omega) k (by omega) _ wr hS
        rw [wordsOf_set hlt, hwl] at hwith
        have hw := hB.size
        have hfk := hF k
        have hyes : Hid (f k = true → wordsOf (fun j => (decide (j < k) && f j) || decide (j = k)) (M.length) = wordsOf (fun m => decide (m < k + 1) && f m) (M.length)) := fun hfk => wordsOf_congr fun j _ => by
          by_cases e : j = k
          · subst e; simp [hfk]
          · have : (decide (j < k + 1)) = decide (j < k) := by congr 1; simp; omega
            simp [e, this]
        have hno : Hid (f k = false → wordsOf (fun j => decide (j < k) && f j) (M.length) = wordsOf (fun m => decide (m < k + 1) && f m) (M.length)) := fun hfk => wordsOf_congr fun j _ => by
          by_cases e : j = k
          · subst e; simp [hfk]
          · have : (decide (j < k + 1)) = decide (j < k) := by congr 1; simp; omega
            simp [this]
        have hA := And.intro hown hB
        clear hown hS
        cases hx : has L k <;> cases hy : has M k
        · rw [hx] at h1 hfk
          rw [hy] at h2 hfk
          have hK : Hid (wordsOf (fun j => decide (j < k) && f j) (M.length) = wordsOf (fun m => decide (m < k + 1) && f m) (M.length)) := hno.out (by rw [hfk]; rfl)
          clear hyes hno hfk hx hy
          go_wp2_with (first | (go_at_call 24; first | (with_reducible refine Calls.same h1 ?_) | (with_reducible refine Calls.same h2 ?_)))
          go_roundw
          case rel => exact ⟨k + 1, by omega, by simp, by rw [← hK.out]; exact hA.1, hA.2⟩
          case measure => simp [intOf]; omega
        · rw [hx] at h1 hfk
          rw [hy] at h2 hfk
          have hK : Hid (wordsOf (fun j => (decide (j < k) && f j) || decide (j = k)) (M.length) = wordsOf (fun m => decide (m < k + 1) && f m) (M.length)) := hyes.out (by rw [hfk]; rfl)
          clear hyes hno hfk hx hy
          go_wp2_with (first | (go_at_call 24; first | (with_reducible refine Calls.same h1 ?_) | (with_reducible refine Calls.same h2 ?_)) | (go_at_call 29; refine' Calls.aftS _ _ (hwith) _; rotate_left 2; (first | (with_reducible exact After.below _; rfl) | (with_reducible exact below_drew (After.below _); rfl) | (with_reducible exact below_set (After.below _) _ _; (go_simp; rfl)) | (with_reducible exact below_set (below_set (After.below _) _ _) _ _; (go_simp; rfl)) | (with_reducible exact below_set (below_set (below_set (After.below _) _ _) _ _) _ _; (go_simp; rfl)) | (with_reducible exact below_set (below_set (below_set (below_set (After.below _) _ _) _ _) _ _) _ _; (go_simp; rfl)) | (exact Below.refl _ _; rfl)); intro v2 x2 ho; have hle := After.le x2; (try simp at hle)))
          go_roundw
          case rel => exact ⟨k + 1, by omega, by simp, by rw [← hK.out]; exact own_base ho hw, hA.2.trans (Below.mono x2.below hw)⟩
          case measure => simp [intOf]; omega
        · rw [hx] at h1 hfk
          rw [hy] at h2 hfk
          have hK : Hid (wordsOf (fun j => (decide (j < k) && f j) || decide (j = k)) (M.length) = wordsOf (fun m => decide (m < k + 1) && f m) (M.length)) := hyes.out (by rw [hfk]; rfl)
          clear hyes hno hfk hx hy
          go_wp2_with (first | (go_at_call 24; first | (with_reducible refine Calls.same h1 ?_) | (with_reducible refine Calls.same h2 ?_)) | (go_at_call 29; refine' Calls.aftS _ _ (hwith) _; rotate_left 2; (first | (with_reducible exact After.below _; rfl) | (with_reducible exact below_drew (After.below _); rfl) | (with_reducible exact below_set (After.below _) _ _; (go_simp; rfl)) | (with_reducible exact below_set (below_set (After.below _) _ _) _ _; (go_simp; rfl)) | (with_reducible exact below_set (below_set (below_set (After.below _) _ _) _ _) _ _; (go_simp; rfl)) | (with_reducible exact below_set (below_set (below_set (below_set (After.below _) _ _) _ _) _ _) _ _; (go_simp; rfl)) | (exact Below.refl _ _; rfl)); intro v2 x2 ho; have hle := After.le x2; (try simp at hle)))
          go_roundw
          case rel => exact ⟨k + 1, by omega, by simp, by rw [← hK.out]; exact own_base ho hw, hA.2.trans (Below.mono x2.below hw)⟩
          case measure => simp [intOf]; omega
        · rw [hx] at h1 hfk
          rw [hy] at h2 hfk
          have hK : Hid (wordsOf (fun j => (decide (j < k) && f j) || decide (j = k)) (M.length) = wordsOf (fun m => decide (m < k + 1) && f m) (M.length)) := hyes.out (by rw [hfk]; rfl)
          clear hyes hno hfk hx hy
          go_wp2_with (first | (go_at_call 24; first | (with_reducible refine Calls.same h1 ?_) | (with_reducible refine Calls.same h2 ?_)) | (go_at_call 29; refine' Calls.aftS _ _ (hwith) _; rotate_left 2; (first | (with_reducible exact After.below _; rfl) | (with_reducible exact below_drew (After.below _); rfl) | (with_reducible exact below_set (After.below _) _ _; (go_simp; rfl)) | (with_reducible exact below_set (below_set (After.below _) _ _) _ _; (go_simp; rfl)) | (with_reducible exact below_set (below_set (below_set (After.below _) _ _) _ _) _ _; (go_simp; rfl)) | (with_reducible exact below_set (below_set (below_set (below_set (After.below _) _ _) _ _) _ _) _ _; (go_simp; rfl)) | (exact Below.refl _ _; rfl)); intro v2 x2 ho; have hle := After.le x2; (try simp at hle)))
          go_roundw
          case rel => exact ⟨k + 1, by omega, by simp, by rw [← hK.out]; exact own_base ho hw, hA.2.trans (Below.mono x2.below hw)⟩
          case measure => simp [intOf]; omega
      · have hks : k = 64 * M.length := by omega
        have hlt2 : ¬ (k : Int) < 64 * M.length := by omega
        rw [show wordsOf (fun m => decide (m < k) && f m) (M.length) = wordsOf f (M.length) from wordsOf_congr fun j hj => by
          have : j < k := by omega
          simp [this]] at hown
        go_wp2_with fail
        refine bodyPost_ret (v := .slice pp (M.length) cc) (by simp only [results, Tryd.results27]; go_simp) rfl ⟨_, rfl, hown, hB⟩
  · rw [show max L.length M.length = L.length by omega]
    have hlm2 : ¬ (L.length : Int) < M.length := by omega
    go_enter Tryd.func27, Tryd.ntmps27
    go_wp2_with ((at_make; refine wpList_make_full _ rfl _ _ 23 rfl w.heap.size 39 i0 (.int .u64 0) 1 Tryd.underlying23 hi hz0 hz1 .i64 .i64 _ _ L.length rfl rfl rfl rfl (by rw [hz2]; omega) (by unfold maxLen; omega) (Nat.le_refl _) ?_; intro w1 hown hgrow; rw [zeros_words] at hown))
    have hB : Below w.heap.size w w1 := Below.grown (Below.refl _ _) hgrow (Nat.le_refl _) (fun k e => by cases e)
    go_wp2_with fail
    go_loopw [7, 8] (fun o i wr => ∃ k : Nat, k ≤ 64 * L.length ∧ i = .int .i64 k ∧ wr.ownsRow w.heap.size 39 1 o L.length ((wordsOf (fun m => decide (m < k) && f m) L.length).flatMap encW) ∧ Below w.heap.size w wr) (fun _ i _ => 64 * L.length - (intOf i).toNat)
    case atStart =>
      refine ⟨0, Nat.zero_le _, rfl, ?_, hB⟩
      rw [show wordsOf (fun m => decide (m < 0) && f m) (L.length) = wordsOf (fun _ => false) (L.length) from wordsOf_congr fun m _ => by simp]
      exact hown
    case round =>
      obtain ⟨k, hk, rfl, hown, hB⟩ := hrel
      have hwl : (wordsOf (fun m => decide (m < k) && f m) (L.length)).length = L.length := wordsOf_length _ _
      obtain ⟨pp, cc, rfl⟩ := own_len hown
      by_cases hlt : k < 64 * L.length
      · have hlt2 : (k : Int) < 64 * L.length := by omega
        have h1 := rhas_any L hL k (by omega) _ wr (h.below hB)
        have h2 := rhas_any M hM k (by omega) _ wr (h'.below hB)
        have hS : Sl wr (.slice pp (L.length) cc) encW (wordsOf (fun m => decide (m < k) && f m) (L.length)) := Sl.of_own (by rw [hwl]; exact hown)
        have hwith := with_any (wordsOf (fun m => decide (m < k) && f m) (L.length)) (wordsOf_ok _ _) (by omega) k (by omega) _ wr hS
        rw [wordsOf_set hlt, hwl] at hwith
        have hw := hB.size
        have hfk := hF k
        have hyes : Hid (f k = true → wordsOf (fun j => (decide (j < k) && f j) || decide (j = k)) (L.length) = wordsOf (fun m => decide (m < k + 1) && f m) (L.length)) := fun hfk => wordsOf_congr fun j _ => by
          by_cases e : j = k
          · subst e; simp [hfk]
          · have : (decide (j < k + 1)) = decide (j < k) := by congr 1; simp; omega
            simp [e, this]
        have hno : Hid (f k = false → wordsOf (fun j => decide (j < k) && f j) (L.length) = wordsOf (fun m => decide (m < k + 1) && f m) (L.length)) := fun hfk => wordsOf_congr fun j _ => by
          by_cases e : j = k
          · subst e; simp [hfk]
          · have : (decide (j < k + 1)) = decide (j < k) := by congr 1; simp; omega
            simp [this]
        have hA := And.intro hown hB
        clear hown hS
        cases hx : has L k <;> cases hy : has M k
        · rw [hx] at h1 hfk
          rw [hy] at h2 hfk
          have hK : Hid (wordsOf (fun j => decide (j < k) && f j) (L.length) = wordsOf (fun m => decide (m < k + 1) && f m) (L.length)) := hno.out (by rw [hfk]; rfl)
          clear hyes hno hfk hx hy
          go_wp2_with (first | (go_at_call 24; first | (with_reducible refine Calls.same h1 ?_) | (with_reducible refine Calls.same h2 ?_)))
          go_roundw
          case rel => exact ⟨k + 1, by omega, by simp, by rw [← hK.out]; exact hA.1, hA.2⟩
          case measure => simp [intOf]; omega
        · rw [hx] at h1 hfk
          rw [hy] at h2 hfk
          have hK : Hid (wordsOf (fun j => (decide (j < k) && f j) || decide (j = k)) (L.length) = wordsOf (fun m => decide (m < k + 1) && f m) (L.length)) := hyes.out (by rw [hfk]; rfl)
          clear hyes hno hfk hx hy
          go_wp2_with (first | (go_at_call 24; first | (with_reducible refine Calls.same h1 ?_) | (with_reducible refine Calls.same h2 ?_)) | (go_at_call 29; refine' Calls.aftS _ _ (hwith) _; rotate_left 2; (first | (with_reducible exact After.below _; rfl) | (with_reducible exact below_drew (After.below _); rfl) | (with_reducible exact below_set (After.below _) _ _; (go_simp; rfl)) | (with_reducible exact below_set (below_set (After.below _) _ _) _ _; (go_simp; rfl)) | (with_reducible exact below_set (below_set (below_set (After.below _) _ _) _ _) _ _; (go_simp; rfl)) | (with_reducible exact below_set (below_set (below_set (below_set (After.below _) _ _) _ _) _ _) _ _; (go_simp; rfl)) | (exact Below.refl _ _; rfl)); intro v2 x2 ho; have hle := After.le x2; (try simp at hle)))
          go_roundw
          case rel => exact ⟨k + 1, by omega, by simp, by rw [← hK.out]; exact own_base ho hw, hA.2.trans (Below.mono x2.below hw)⟩
          case measure => simp [intOf]; omega
        · rw [hx] at h1 hfk
          rw [hy] at h2 hfk
          have hK : Hid (wordsOf (fun j => (decide (j < k) && f j) || decide (j = k)) (L.length) = wordsOf (fun m => decide (m < k + 1) && f m) (L.length)) := hyes.out (by rw [hfk]; rfl)
          clear hyes hno hfk hx hy
          go_wp2_with (first | (go_at_call 24; first | (with_reducible refine Calls.same h1 ?_) | (with_reducible refine Calls.same h2 ?_)) | (go_at_call 29; refine' Calls.aftS _ _ (hwith) _; rotate_left 2; (first | (with_reducible exact After.below _; rfl) | (with_reducible exact below_drew (After.below _); rfl) | (with_reducible exact below_set (After.below _) _ _; (go_simp; rfl)) | (with_reducible exact below_set (below_set (After.below _) _ _) _ _; (go_simp; rfl)) | (with_reducible exact below_set (below_set (below_set (After.below _) _ _) _ _) _ _; (go_simp; rfl)) | (with_reducible exact below_set (below_set (below_set (below_set (After.below _) _ _) _ _) _ _) _ _; (go_simp; rfl)) | (exact Below.refl _ _; rfl)); intro v2 x2 ho; have hle := After.le x2; (try simp at hle)))
          go_roundw
          case rel => exact ⟨k + 1, by omega, by simp, by rw [← hK.out]; exact own_base ho hw, hA.2.trans (Below.mono x2.below hw)⟩
          case measure => simp [intOf]; omega
        · rw [hx] at h1 hfk
          rw [hy] at h2 hfk
          have hK : Hid (wordsOf (fun j => (decide (j < k) && f j) || decide (j = k)) (L.length) = wordsOf (fun m => decide (m < k + 1) && f m) (L.length)) := hyes.out (by rw [hfk]; rfl)
          clear hyes hno hfk hx hy
          go_wp2_with (first | (go_at_call 24; first | (with_reducible refine Calls.same h1 ?_) | (with_reducible refine Calls.same h2 ?_)) | (go_at_call 29; refine' Calls.aftS _ _ (hwith) _; rotate_left 2; (first | (with_reducible exact After.below _; rfl) | (with_reducible exact below_drew (After.below _); rfl) | (with_reducible exact below_set (After.below _) _ _; (go_simp; rfl)) | (with_reducible exact below_set (below_set (After.below _) _ _) _ _; (go_simp; rfl)) | (with_reducible exact below_set (below_set (below_set (After.below _) _ _) _ _) _ _; (go_simp; rfl)) | (with_reducible exact below_set (below_set (below_set (below_set (After.below _) _ _) _ _) _ _) _ _; (go_simp; rfl)) | (exact Below.refl _ _; rfl)); intro v2 x2 ho; have hle := After.le x2; (try simp at hle)))
          go_roundw
          case rel => exact ⟨k + 1, by omega, by simp, by rw [← hK.out]; exact own_base ho hw, hA.2.trans (Below.mono x2.below hw)⟩
          case measure => simp [intOf]; omega
      · have hks : k = 64 * L.length := by omega
        have hlt2 : ¬ (k : Int) < 64 * L.length := by omega
        rw [show wordsOf (fun m => decide (m < k) && f m) (L.length) = wordsOf f (L.length) from wordsOf_congr fun j hj => by
          have : j < k := by omega
          simp [this]] at hown
        go_wp2_with fail
        refine bodyPost_ret (v := .slice pp (L.length) cc) (by simp only [results, Tryd.results27]; go_simp) rfl ⟨_, rfl, hown, hB⟩

set_option maxRecDepth 100000 in
set_option maxHeartbeats 1000000 in
theorem rboth_inter (L M : List Nat) (hL : okW L) (hM : okW M) (hl : L.length ≤ 1000000) (hm : M.length ≤ 1000000) (v v' : Value) (w : World) (h : Sl w v encW L) (h' : Sl w v' encW M) :
    Calls Tryd.prog 27 #[v, v', .int .i64 2] w fun e w' => ∃ o, e = .returned o ∧ w'.ownsRow w.heap.size 39 1 o (max L.length M.length) ((wordsOf (fun m => has L m && has M m) (max L.length M.length)).flatMap encW) ∧ Below w.heap.size w w' := by
  obtain ⟨i0, hi, hz0, hz1, hz2⟩ := info_parts w_info
  obtain ⟨p, cap, hv⟩ : ∃ p cap, v = .slice p L.length cap := by obtain ⟨b, off, p, cap, hv, _⟩ := h; exact ⟨p, cap, hv⟩
  obtain ⟨p', cap', hv'⟩ : ∃ p cap, v' = .slice p M.length cap := by obtain ⟨b, off, p, cap, hv, _⟩ := h'; exact ⟨p, cap, hv⟩
  subst hv hv'
  obtain ⟨f, hf⟩ : ∃ f : Nat → Bool, f = fun m => has L m && has M m := ⟨_, rfl⟩
  have hF : Hid (∀ m, f m = (has L m && has M m)) := fun m => by rw [hf]
  rw [← hf]
  clear hf
  rcases Nat.lt_or_ge L.length M.length with hlm | hlm
  · rw [show max L.length M.length = M.length by omega]
    have hlm2 : (L.length : Int) < M.length := by omega
    go_enter Tryd.func27, Tryd.ntmps27
    go_wp2_with ((at_make; refine wpList_make_full _ rfl _ _ 23 rfl w.heap.size 39 i0 (.int .u64 0) 1 Tryd.underlying23 hi hz0 hz1 .i64 .i64 _ _ M.length rfl rfl rfl rfl (by rw [hz2]; omega) (by unfold maxLen; omega) (Nat.le_refl _) ?_; intro w1 hown hgrow; rw [zeros_words] at hown))
    have hB : Below w.heap.size w w1 := Below.grown (Below.refl _ _) hgrow (Nat.le_refl _) (fun k e => by cases e)
    go_wp2_with fail
    go_loopw [7, 8] (fun o i wr => ∃ k : Nat, k ≤ 64 * M.length ∧ i = .int .i64 k ∧ wr.ownsRow w.heap.size 39 1 o M.length ((wordsOf (fun m => decide (m < k) && f m) M.length).flatMap encW) ∧ Below w.heap.size w wr) (fun _ i _ => 64 * M.length - (intOf i).toNat)
    case atStart =>
      refine ⟨0, Nat.zero_le _, rfl, ?_, hB⟩
      rw [show wordsOf (fun m => decide (m < 0) && f m) (M.length) = wordsOf (fun _ => false) (M.length) from wordsOf_congr fun m _ => by simp]
      exact hown
    case round =>
      obtain ⟨k, hk, rfl, hown, hB⟩ := hrel
      have hwl : (wordsOf (fun m => decide (m < k) && f m) (M.length)).length = M.length := wordsOf_length _ _
      obtain ⟨pp, cc, rfl⟩ := own_len hown
      by_cases hlt : k < 64 * M.length
      · have hlt2 : (k : Int) < 64 * M.length := by omega
        have h1 := rhas_any L hL k (by omega) _ wr (h.below hB)
        have h2 := rhas_any M hM k (by omega) _ wr (h'.below hB)
        have hS : Sl wr (.slice pp (M.length) cc) encW (wordsOf (fun m => decide (m < k) && f m) (M.length)) := Sl.of_own (by rw [hwl]; exact hown)
        have hwith := with_any (wordsOf (fun m => decide (m < k) && f m) (M.length)) (wordsOf_ok _ _) (by omega) k (by omega) _ wr hS
        rw [wordsOf_set hlt, hwl] at hwith
        have hw := hB.size
        have hfk := hF k
        have hyes : Hid (f k = true → wordsOf (fun j => (decide (j < k) && f j) || decide (j = k)) (M.length) = wordsOf (fun m => decide (m < k + 1) && f m) (M.length)) := fun hfk => wordsOf_congr fun j _ => by
          by_cases e : j = k
          · subst e; simp [hfk]
          · have : (decide (j < k + 1)) = decide (j < k) := by congr 1; simp; omega
            simp [e, this]
        have hno : Hid (f k = false → wordsOf (fun j => decide (j < k) && f j) (M.length) = wordsOf (fun m => decide (m < k + 1) && f m) (M.length)) := fun hfk => wordsOf_congr fun j _ => by
          by_cases e : j = k
          · subst e; simp [hfk]
          · have : (decide (j < k + 1)) = decide (j < k) := by congr 1; simp; omega
            simp [this]
        have hA := And.intro hown hB
        clear hown hS
        cases hx : has L k <;> cases hy : has M k
        · rw [hx] at h1 hfk
          rw [hy] at h2 hfk
          have hK : Hid (wordsOf (fun j => decide (j < k) && f j) (M.length) = wordsOf (fun m => decide (m < k + 1) && f m) (M.length)) := hno.out (by rw [hfk]; rfl)
          clear hyes hno hfk hx hy
          go_wp2_with (first | (go_at_call 24; first | (with_reducible refine Calls.same h1 ?_) | (with_reducible refine Calls.same h2 ?_)))
          go_roundw
          case rel => exact ⟨k + 1, by omega, by simp, by rw [← hK.out]; exact hA.1, hA.2⟩
          case measure => simp [intOf]; omega
        · rw [hx] at h1 hfk
          rw [hy] at h2 hfk
          have hK : Hid (wordsOf (fun j => decide (j < k) && f j) (M.length) = wordsOf (fun m => decide (m < k + 1) && f m) (M.length)) := hno.out (by rw [hfk]; rfl)
          clear hyes hno hfk hx hy
          go_wp2_with (first | (go_at_call 24; first | (with_reducible refine Calls.same h1 ?_) | (with_reducible refine Calls.same h2 ?_)))
          go_roundw
          case rel => exact ⟨k + 1, by omega, by simp, by rw [← hK.out]; exact hA.1, hA.2⟩
          case measure => simp [intOf]; omega
        · rw [hx] at h1 hfk
          rw [hy] at h2 hfk
          have hK : Hid (wordsOf (fun j => decide (j < k) && f j) (M.length) = wordsOf (fun m => decide (m < k + 1) && f m) (M.length)) := hno.out (by rw [hfk]; rfl)
          clear hyes hno hfk hx hy
          go_wp2_with (first | (go_at_call 24; first | (with_reducible refine Calls.same h1 ?_) | (with_reducible refine Calls.same h2 ?_)))
          go_roundw
          case rel => exact ⟨k + 1, by omega, by simp, by rw [← hK.out]; exact hA.1, hA.2⟩
          case measure => simp [intOf]; omega
        · rw [hx] at h1 hfk
          rw [hy] at h2 hfk
          have hK : Hid (wordsOf (fun j => (decide (j < k) && f j) || decide (j = k)) (M.length) = wordsOf (fun m => decide (m < k + 1) && f m) (M.length)) := hyes.out (by rw [hfk]; rfl)
          clear hyes hno hfk hx hy
          go_wp2_with (first | (go_at_call 24; first | (with_reducible refine Calls.same h1 ?_) | (with_reducible refine Calls.same h2 ?_)) | (go_at_call 29; refine' Calls.aftS _ _ (hwith) _; rotate_left 2; (first | (with_reducible exact After.below _; rfl) | (with_reducible exact below_drew (After.below _); rfl) | (with_reducible exact below_set (After.below _) _ _; (go_simp; rfl)) | (with_reducible exact below_set (below_set (After.below _) _ _) _ _; (go_simp; rfl)) | (with_reducible exact below_set (below_set (below_set (After.below _) _ _) _ _) _ _; (go_simp; rfl)) | (with_reducible exact below_set (below_set (below_set (below_set (After.below _) _ _) _ _) _ _) _ _; (go_simp; rfl)) | (exact Below.refl _ _; rfl)); intro v2 x2 ho; have hle := After.le x2; (try simp at hle)))
          go_roundw
          case rel => exact ⟨k + 1, by omega, by simp, by rw [← hK.out]; exact own_base ho hw, hA.2.trans (Below.mono x2.below hw)⟩
          case measure => simp [intOf]; omega
      · have hks : k = 64 * M.length := by omega
        have hlt2 : ¬ (k : Int) < 64 * M.length := by omega
        rw [show wordsOf (fun m => decide (m < k) && f m) (M.length) = wordsOf f (M.length) from wordsOf_congr fun j hj => by
          have : j < k := by omega
          simp [this]] at hown
        go_wp2_with fail
        refine bodyPost_ret (v := .slice pp (M.length) cc) (by simp only [results, Tryd.results27]; go_simp) rfl ⟨_, rfl, hown, hB⟩
  · rw [show max L.length M.length = L.length by omega]
    have hlm2 : ¬ (L.length : Int) < M.length := by omega
    go_enter Tryd.func27, Tryd.ntmps27
    go_wp2_with ((at_make; refine wpList_make_full _ rfl _ _ 23 rfl w.heap.size 39 i0 (.int .u64 0) 1 Tryd.underlying23 hi hz0 hz1 .i64 .i64 _ _ L.length rfl rfl rfl rfl (by rw [hz2]; omega) (by unfold maxLen; omega) (Nat.le_refl _) ?_; intro w1 hown hgrow; rw [zeros_words] at hown))
    have hB : Below w.heap.size w w1 := Below.grown (Below.refl _ _) hgrow (Nat.le_refl _) (fun k e => by cases e)
    go_wp2_with fail
    go_loopw [7, 8] (fun o i wr => ∃ k : Nat, k ≤ 64 * L.length ∧ i = .int .i64 k ∧ wr.ownsRow w.heap.size 39 1 o L.length ((wordsOf (fun m => decide (m < k) && f m) L.length).flatMap encW) ∧ Below w.heap.size w wr) (fun _ i _ => 64 * L.length - (intOf i).toNat)
    case atStart =>
      refine ⟨0, Nat.zero_le _, rfl, ?_, hB⟩
      rw [show wordsOf (fun m => decide (m < 0) && f m) (L.length) = wordsOf (fun _ => false) (L.length) from wordsOf_congr fun m _ => by simp]
      exact hown
    case round =>
      obtain ⟨k, hk, rfl, hown, hB⟩ := hrel
      have hwl : (wordsOf (fun m => decide (m < k) && f m) (L.length)).length = L.length := wordsOf_length _ _
      obtain ⟨pp, cc, rfl⟩ := own_len hown
      by_cases hlt : k < 64 * L.length
      · have hlt2 : (k : Int) < 64 * L.length := by omega
        have h1 := rhas_any L hL k (by omega) _ wr (h.below hB)
        have h2 := rhas_any M hM k (by omega) _ wr (h'.below hB)
        have hS : Sl wr (.slice pp (L.length) cc) encW (wordsOf (fun m => decide (m < k) && f m) (L.length)) := Sl.of_own (by rw [hwl]; exact hown)
        have hwith := with_any (wordsOf (fun m => decide (m < k) && f m) (L.length)) (wordsOf_ok _ _) (by omega) k (by omega) _ wr hS
        rw [wordsOf_set hlt, hwl] at hwith
        have hw := hB.size
        have hfk := hF k
        have hyes : Hid (f k = true → wordsOf (fun j => (decide (j < k) && f j) || decide (j = k)) (L.length) = wordsOf (fun m => decide (m < k + 1) && f m) (L.length)) := fun hfk => wordsOf_congr fun j _ => by
          by_cases e : j = k
          · subst e; simp [hfk]
          · have : (decide (j < k + 1)) = decide (j < k) := by congr 1; simp; omega
            simp [e, this]
        have hno : Hid (f k = false → wordsOf (fun j => decide (j < k) && f j) (L.length) = wordsOf (fun m => decide (m < k + 1) && f m) (L.length)) := fun hfk => wordsOf_congr fun j _ => by
          by_cases e : j = k
          · subst e; simp [hfk]
          · have : (decide (j < k + 1)) = decide (j < k) := by congr 1; simp; omega
            simp [this]
        have hA := And.intro hown hB
        clear hown hS
        cases hx : has L k <;> cases hy : has M k
        · rw [hx] at h1 hfk
          rw [hy] at h2 hfk
          have hK : Hid (wordsOf (fun j => decide (j < k) && f j) (L.length) = wordsOf (fun m => decide (m < k + 1) && f m) (L.length)) := hno.out (by rw [hfk]; rfl)
          clear hyes hno hfk hx hy
          go_wp2_with (first | (go_at_call 24; first | (with_reducible refine Calls.same h1 ?_) | (with_reducible refine Calls.same h2 ?_)))
          go_roundw
          case rel => exact ⟨k + 1, by omega, by simp, by rw [← hK.out]; exact hA.1, hA.2⟩
          case measure => simp [intOf]; omega
        · rw [hx] at h1 hfk
          rw [hy] at h2 hfk
          have hK : Hid (wordsOf (fun j => decide (j < k) && f j) (L.length) = wordsOf (fun m => decide (m < k + 1) && f m) (L.length)) := hno.out (by rw [hfk]; rfl)
          clear hyes hno hfk hx hy
          go_wp2_with (first | (go_at_call 24; first | (with_reducible refine Calls.same h1 ?_) | (with_reducible refine Calls.same h2 ?_)))
          go_roundw
          case rel => exact ⟨k + 1, by omega, by simp, by rw [← hK.out]; exact hA.1, hA.2⟩
          case measure => simp [intOf]; omega
        · rw [hx] at h1 hfk
          rw [hy] at h2 hfk
          have hK : Hid (wordsOf (fun j => decide (j < k) && f j) (L.length) = wordsOf (fun m => decide (m < k + 1) && f m) (L.length)) := hno.out (by rw [hfk]; rfl)
          clear hyes hno hfk hx hy
          go_wp2_with (first | (go_at_call 24; first | (with_reducible refine Calls.same h1 ?_) | (with_reducible refine Calls.same h2 ?_)))
          go_roundw
          case rel => exact ⟨k + 1, by omega, by simp, by rw [← hK.out]; exact hA.1, hA.2⟩
          case measure => simp [intOf]; omega
        · rw [hx] at h1 hfk
          rw [hy] at h2 hfk
          have hK : Hid (wordsOf (fun j => (decide (j < k) && f j) || decide (j = k)) (L.length) = wordsOf (fun m => decide (m < k + 1) && f m) (L.length)) := hyes.out (by rw [hfk]; rfl)
          clear hyes hno hfk hx hy
          go_wp2_with (first | (go_at_call 24; first | (with_reducible refine Calls.same h1 ?_) | (with_reducible refine Calls.same h2 ?_)) | (go_at_call 29; refine' Calls.aftS _ _ (hwith) _; rotate_left 2; (first | (with_reducible exact After.below _; rfl) | (with_reducible exact below_drew (After.below _); rfl) | (with_reducible exact below_set (After.below _) _ _; (go_simp; rfl)) | (with_reducible exact below_set (below_set (After.below _) _ _) _ _; (go_simp; rfl)) | (with_reducible exact below_set (below_set (below_set (After.below _) _ _) _ _) _ _; (go_simp; rfl)) | (with_reducible exact below_set (below_set (below_set (below_set (After.below _) _ _) _ _) _ _) _ _; (go_simp; rfl)) | (exact Below.refl _ _; rfl)); intro v2 x2 ho; have hle := After.le x2; (try simp at hle)))
          go_roundw
          case rel => exact ⟨k + 1, by omega, by simp, by rw [← hK.out]; exact own_base ho hw, hA.2.trans (Below.mono x2.below hw)⟩
          case measure => simp [intOf]; omega
      · have hks : k = 64 * L.length := by omega
        have hlt2 : ¬ (k : Int) < 64 * L.length := by omega
        rw [show wordsOf (fun m => decide (m < k) && f m) (L.length) = wordsOf f (L.length) from wordsOf_congr fun j hj => by
          have : j < k := by omega
          simp [this]] at hown
        go_wp2_with fail
        refine bodyPost_ret (v := .slice pp (L.length) cc) (by simp only [results, Tryd.results27]; go_simp) rfl ⟨_, rfl, hown, hB⟩

set_option maxRecDepth 100000 in
set_option maxHeartbeats 1000000 in
theorem rboth_minus (L M : List Nat) (hL : okW L) (hM : okW M) (hl : L.length ≤ 1000000) (hm : M.length ≤ 1000000) (v v' : Value) (w : World) (h : Sl w v encW L) (h' : Sl w v' encW M) :
    Calls Tryd.prog 27 #[v, v', .int .i64 3] w fun e w' => ∃ o, e = .returned o ∧ w'.ownsRow w.heap.size 39 1 o (max L.length M.length) ((wordsOf (fun m => has L m && !has M m) (max L.length M.length)).flatMap encW) ∧ Below w.heap.size w w' := by
  obtain ⟨i0, hi, hz0, hz1, hz2⟩ := info_parts w_info
  obtain ⟨p, cap, hv⟩ : ∃ p cap, v = .slice p L.length cap := by obtain ⟨b, off, p, cap, hv, _⟩ := h; exact ⟨p, cap, hv⟩
  obtain ⟨p', cap', hv'⟩ : ∃ p cap, v' = .slice p M.length cap := by obtain ⟨b, off, p, cap, hv, _⟩ := h'; exact ⟨p, cap, hv⟩
  subst hv hv'
  obtain ⟨f, hf⟩ : ∃ f : Nat → Bool, f = fun m => has L m && !has M m := ⟨_, rfl⟩
  have hF : Hid (∀ m, f m = (has L m && !has M m)) := fun m => by rw [hf]
  rw [← hf]
  clear hf
  rcases Nat.lt_or_ge L.length M.length with hlm | hlm
  · rw [show max L.length M.length = M.length by omega]
    have hlm2 : (L.length : Int) < M.length := by omega
    go_enter Tryd.func27, Tryd.ntmps27
    go_wp2_with ((at_make; refine wpList_make_full _ rfl _ _ 23 rfl w.heap.size 39 i0 (.int .u64 0) 1 Tryd.underlying23 hi hz0 hz1 .i64 .i64 _ _ M.length rfl rfl rfl rfl (by rw [hz2]; omega) (by unfold maxLen; omega) (Nat.le_refl _) ?_; intro w1 hown hgrow; rw [zeros_words] at hown))
    have hB : Below w.heap.size w w1 := Below.grown (Below.refl _ _) hgrow (Nat.le_refl _) (fun k e => by cases e)
    go_wp2_with fail
    go_loopw [7, 8] (fun o i wr => ∃ k : Nat, k ≤ 64 * M.length ∧ i = .int .i64 k ∧ wr.ownsRow w.heap.size 39 1 o M.length ((wordsOf (fun m => decide (m < k) && f m) M.length).flatMap encW) ∧ Below w.heap.size w wr) (fun _ i _ => 64 * M.length - (intOf i).toNat)
    case atStart =>
      refine ⟨0, Nat.zero_le _, rfl, ?_, hB⟩
      rw [show wordsOf (fun m => decide (m < 0) && f m) (M.length) = wordsOf (fun _ => false) (M.length) from wordsOf_congr fun m _ => by simp]
      exact hown
    case round =>
      obtain ⟨k, hk, rfl, hown, hB⟩ := hrel
      have hwl : (wordsOf (fun m => decide (m < k) && f m) (M.length)).length = M.length := wordsOf_length _ _
      obtain ⟨pp, cc, rfl⟩ := own_len hown
      by_cases hlt : k < 64 * M.length
      · have hlt2 : (k : Int) < 64 * M.length := by omega
        have h1 := rhas_any L hL k (by omega) _ wr (h.below hB)
        have h2 := rhas_any M hM k (by omega) _ wr (h'.below hB)
        have hS : Sl wr (.slice pp (M.length) cc) encW (wordsOf (fun m => decide (m < k) && f m) (M.length)) := Sl.of_own (by rw [hwl]; exact hown)
        have hwith := with_any (wordsOf (fun m => decide (m < k) && f m) (M.length)) (wordsOf_ok _ _) (by omega) k (by omega) _ wr hS
        rw [wordsOf_set hlt, hwl] at hwith
        have hw := hB.size
        have hfk := hF k
        have hyes : Hid (f k = true → wordsOf (fun j => (decide (j < k) && f j) || decide (j = k)) (M.length) = wordsOf (fun m => decide (m < k + 1) && f m) (M.length)) := fun hfk => wordsOf_congr fun j _ => by
          by_cases e : j = k
          · subst e; simp [hfk]
          · have : (decide (j < k + 1)) = decide (j < k) := by congr 1; simp; omega
            simp [e, this]
        have hno : Hid (f k = false → wordsOf (fun j => decide (j < k) && f j) (M.length) = wordsOf (fun m => decide (m < k + 1) && f m) (M.length)) := fun hfk => wordsOf_congr fun j _ => by
          by_cases e : j = k
          · subst e; simp [hfk]
          · have : (decide (j < k + 1)) = decide (j < k) := by congr 1; simp; omega
            simp [this]
        have hA := And.intro hown hB
        clear hown hS
        cases hx : has L k <;> cases hy : has M k
        · rw [hx] at h1 hfk
          rw [hy] at h2 hfk
          have hK : Hid (wordsOf (fun j => decide (j < k) && f j) (M.length) = wordsOf (fun m => decide (m < k + 1) && f m) (M.length)) := hno.out (by rw [hfk]; rfl)
          clear hyes hno hfk hx hy
          go_wp2_with (first | (go_at_call 24; first | (with_reducible refine Calls.same h1 ?_) | (with_reducible refine Calls.same h2 ?_)))
          go_roundw
          case rel => exact ⟨k + 1, by omega, by simp, by rw [← hK.out]; exact hA.1, hA.2⟩
          case measure => simp [intOf]; omega
        · rw [hx] at h1 hfk
          rw [hy] at h2 hfk
          have hK : Hid (wordsOf (fun j => decide (j < k) && f j) (M.length) = wordsOf (fun m => decide (m < k + 1) && f m) (M.length)) := hno.out (by rw [hfk]; rfl)
          clear hyes hno hfk hx hy
          go_wp2_with (first | (go_at_call 24; first | (with_reducible refine Calls.same h1 ?_) | (with_reducible refine Calls.same h2 ?_)))
          go_roundw
          case rel => exact ⟨k + 1, by omega, by simp, by rw [← hK.out]; exact hA.1, hA.2⟩
          case measure => simp [intOf]; omega
        · rw [hx] at h1 hfk
          rw [hy] at h2 hfk
          have hK : Hid (wordsOf (fun j => (decide (j < k) && f j) || decide (j = k)) (M.length) = wordsOf (fun m => decide (m < k + 1) && f m) (M.length)) := hyes.out (by rw [hfk]; rfl)
          clear hyes hno hfk hx hy
          go_wp2_with (first | (go_at_call 24; first | (with_reducible refine Calls.same h1 ?_) | (with_reducible refine Calls.same h2 ?_)) | (go_at_call 29; refine' Calls.aftS _ _ (hwith) _; rotate_left 2; (first | (with_reducible exact After.below _; rfl) | (with_reducible exact below_drew (After.below _); rfl) | (with_reducible exact below_set (After.below _) _ _; (go_simp; rfl)) | (with_reducible exact below_set (below_set (After.below _) _ _) _ _; (go_simp; rfl)) | (with_reducible exact below_set (below_set (below_set (After.below _) _ _) _ _) _ _; (go_simp; rfl)) | (with_reducible exact below_set (below_set (below_set (below_set (After.below _) _ _) _ _) _ _) _ _; (go_simp; rfl)) | (exact Below.refl _ _; rfl)); intro v2 x2 ho; have hle := After.le x2; (try simp at hle)))
          go_roundw
          case rel => exact ⟨k + 1, by omega, by simp, by rw [← hK.out]; exact own_base ho hw, hA.2.trans (Below.mono x2.below hw)⟩
          case measure => simp [intOf]; omega
        · rw [hx] at h1 hfk
          rw [hy] at h2 hfk
          have hK : Hid (wordsOf (fun j => decide (j < k) && f j) (M.length) = wordsOf (fun m => decide (m < k + 1) && f m) (M.length)) := hno.out (by rw [hfk]; rfl)
          clear hyes hno hfk hx hy
          go_wp2_with (first | (go_at_call 24; first | (with_reducible refine Calls.same h1 ?_) | (with_reducible refine Calls.same h2 ?_)))
          go_roundw
          case rel => exact ⟨k + 1, by omega, by simp, by rw [← hK.out]; exact hA.1, hA.2⟩
          case measure => simp [intOf]; omega
      · have hks : k = 64 * M.length := by omega
        have hlt2 : ¬ (k : Int) < 64 * M.length := by omega
        rw [show wordsOf (fun m => decide (m < k) && f m) (M.length) = wordsOf f (M.length) from wordsOf_congr fun j hj => by
          have : j < k := by omega
          simp [this]] at hown
        go_wp2_with fail
        refine bodyPost_ret (v := .slice pp (M.length) cc) (by simp only [results, Tryd.results27]; go_simp) rfl ⟨_, rfl, hown, hB⟩
  · rw [show max L.length M.length = L.length by omega]
    have hlm2 : ¬ (L.length : Int) < M.length := by omega
    go_enter Tryd.func27, Tryd.ntmps27
    go_wp2_with ((at_make; refine wpList_make_full _ rfl _ _ 23 rfl w.heap.size 39 i0 (.int .u64 0) 1 Tryd.underlying23 hi hz0 hz1 .i64 .i64 _ _ L.length rfl rfl rfl rfl (by rw [hz2]; omega) (by unfold maxLen; omega) (Nat.le_refl _) ?_; intro w1 hown hgrow; rw [zeros_words] at hown))
    have hB : Below w.heap.size w w1 := Below.grown (Below.refl _ _) hgrow (Nat.le_refl _) (fun k e => by cases e)
    go_wp2_with fail
    go_loopw [7, 8] (fun o i wr => ∃ k : Nat, k ≤ 64 * L.length ∧ i = .int .i64 k ∧ wr.ownsRow w.heap.size 39 1 o L.length ((wordsOf (fun m => decide (m < k) && f m) L.length).flatMap encW) ∧ Below w.heap.size w wr) (fun _ i _ => 64 * L.length - (intOf i).toNat)
    case atStart =>
      refine ⟨0, Nat.zero_le _, rfl, ?_, hB⟩
      rw [show wordsOf (fun m => decide (m < 0) && f m) (L.length) = wordsOf (fun _ => false) (L.length) from wordsOf_congr fun m _ => by simp]
      exact hown
    case round =>
      obtain ⟨k, hk, rfl, hown, hB⟩ := hrel
      have hwl : (wordsOf (fun m => decide (m < k) && f m) (L.length)).length = L.length := wordsOf_length _ _
      obtain ⟨pp, cc, rfl⟩ := own_len hown
      by_cases hlt : k < 64 * L.length
      · have hlt2 : (k : Int) < 64 * L.length := by omega
        have h1 := rhas_any L hL k (by omega) _ wr (h.below hB)
        have h2 := rhas_any M hM k (by omega) _ wr (h'.below hB)
        have hS : Sl wr (.slice pp (L.length) cc) encW (wordsOf (fun m => decide (m < k) && f m) (L.length)) := Sl.of_own (by rw [hwl]; exact hown)
        have hwith := with_any (wordsOf (fun m => decide (m < k) && f m) (L.length)) (wordsOf_ok _ _) (by omega) k (by omega) _ wr hS
        rw [wordsOf_set hlt, hwl] at hwith
        have hw := hB.size
        have hfk := hF k
        have hyes : Hid (f k = true → wordsOf (fun j => (decide (j < k) && f j) || decide (j = k)) (L.length) = wordsOf (fun m => decide (m < k + 1) && f m) (L.length)) := fun hfk => wordsOf_congr fun j _ => by
          by_cases e : j = k
          · subst e; simp [hfk]
          · have : (decide (j < k + 1)) = decide (j < k) := by congr 1; simp; omega
            simp [e, this]
        have hno : Hid (f k = false → wordsOf (fun j => decide (j < k) && f j) (L.length) = wordsOf (fun m => decide (m < k + 1) && f m) (L.length)) := fun hfk => wordsOf_congr fun j _ => by
          by_cases e : j = k
          · subst e; simp [hfk]
          · have : (decide (j < k + 1)) = decide (j < k) := by congr 1; simp; omega
            simp [this]
        have hA := And.intro hown hB
        clear hown hS
        cases hx : has L k <;> cases hy : has M k
        · rw [hx] at h1 hfk
          rw [hy] at h2 hfk
          have hK : Hid (wordsOf (fun j => decide (j < k) && f j) (L.length) = wordsOf (fun m => decide (m < k + 1) && f m) (L.length)) := hno.out (by rw [hfk]; rfl)
          clear hyes hno hfk hx hy
          go_wp2_with (first | (go_at_call 24; first | (with_reducible refine Calls.same h1 ?_) | (with_reducible refine Calls.same h2 ?_)))
          go_roundw
          case rel => exact ⟨k + 1, by omega, by simp, by rw [← hK.out]; exact hA.1, hA.2⟩
          case measure => simp [intOf]; omega
        · rw [hx] at h1 hfk
          rw [hy] at h2 hfk
          have hK : Hid (wordsOf (fun j => decide (j < k) && f j) (L.length) = wordsOf (fun m => decide (m < k + 1) && f m) (L.length)) := hno.out (by rw [hfk]; rfl)
          clear hyes hno hfk hx hy
          go_wp2_with (first | (go_at_call 24; first | (with_reducible refine Calls.same h1 ?_) | (with_reducible refine Calls.same h2 ?_)))
          go_roundw
          case rel => exact ⟨k + 1, by omega, by simp, by rw [← hK.out]; exact hA.1, hA.2⟩
          case measure => simp [intOf]; omega
        · rw [hx] at h1 hfk
          rw [hy] at h2 hfk
          have hK : Hid (wordsOf (fun j => (decide (j < k) && f j) || decide (j = k)) (L.length) = wordsOf (fun m => decide (m < k + 1) && f m) (L.length)) := hyes.out (by rw [hfk]; rfl)
          clear hyes hno hfk hx hy
          go_wp2_with (first | (go_at_call 24; first | (with_reducible refine Calls.same h1 ?_) | (with_reducible refine Calls.same h2 ?_)) | (go_at_call 29; refine' Calls.aftS _ _ (hwith) _; rotate_left 2; (first | (with_reducible exact After.below _; rfl) | (with_reducible exact below_drew (After.below _); rfl) | (with_reducible exact below_set (After.below _) _ _; (go_simp; rfl)) | (with_reducible exact below_set (below_set (After.below _) _ _) _ _; (go_simp; rfl)) | (with_reducible exact below_set (below_set (below_set (After.below _) _ _) _ _) _ _; (go_simp; rfl)) | (with_reducible exact below_set (below_set (below_set (below_set (After.below _) _ _) _ _) _ _) _ _; (go_simp; rfl)) | (exact Below.refl _ _; rfl)); intro v2 x2 ho; have hle := After.le x2; (try simp at hle)))
          go_roundw
          case rel => exact ⟨k + 1, by omega, by simp, by rw [← hK.out]; exact own_base ho hw, hA.2.trans (Below.mono x2.below hw)⟩
          case measure => simp [intOf]; omega
        · rw [hx] at h1 hfk
          rw [hy] at h2 hfk
          have hK : Hid (wordsOf (fun j => decide (j < k) && f j) (L.length) = wordsOf (fun m => decide (m < k + 1) && f m) (L.length)) := hno.out (by rw [hfk]; rfl)
          clear hyes hno hfk hx hy
          go_wp2_with (first | (go_at_call 24; first | (with_reducible refine Calls.same h1 ?_) | (with_reducible refine Calls.same h2 ?_)))
          go_roundw
          case rel => exact ⟨k + 1, by omega, by simp, by rw [← hK.out]; exact hA.1, hA.2⟩
          case measure => simp [intOf]; omega
      · have hks : k = 64 * L.length := by omega
        have hlt2 : ¬ (k : Int) < 64 * L.length := by omega
        rw [show wordsOf (fun m => decide (m < k) && f m) (L.length) = wordsOf f (L.length) from wordsOf_congr fun j hj => by
          have : j < k := by omega
          simp [this]] at hown
        go_wp2_with fail
        refine bodyPost_ret (v := .slice pp (L.length) cc) (by simp only [results, Tryd.results27]; go_simp) rfl ⟨_, rfl, hown, hB⟩

end Go.Proofs.YtjjopjpchgajcaaDoor.Ws
