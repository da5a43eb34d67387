/- WALKS of package lattice and its reference: Below, Rank; soughref10.List. -/
import Derived.Test.YtjjopjpchgajcaaLatti
namespace Go.Proofs.Ytjjopjpchgajcaa.Ws
set_option linter.unusedVariables false
set_option linter.unusedSimpArgs false
open Go Go.RowKit

theorem joinRes_ok {what width : Int} {L M : List Nat} (hL : okW L) (hM : okW M) : okW (joinRes what width L M) := by
  unfold joinRes
  split
  · exact joinV_ok hL hM
  · intro x hx; simp at hx
theorem joinRes_len (what width : Int) (L M : List Nat) : (joinRes what width L M).length ≤ L.length := by
  unfold joinRes
  split
  · rw [joinV_length]; exact Nat.le_refl _
  · simp

/-- Whether one is below another one. -/
def belowL (what width : Int) (L M : List Nat) : Bool := decide (checkE what width [L, M] = 0) && decide (joinRes what width L M = M)

theorem lbelow_any (what width : Int) (L M : List Nat) (hL : okW L) (hM : okW M) (hl : L.length ≤ 1000000) (hm : M.length ≤ 1000000) (v v' : Value) (w : World) (h : Sl w v encW L) (h' : Sl w v' encW M) :
    Calls Try.prog 64 #[.int .i64 what, .int .i64 width, v, v'] w fun e w' => e = .returned (.bool (belowL what width L M)) ∧ Below w.heap.size w w' := by
  have hj := ljoin_any what width L M hL hM hl hm v v' w h h'
  have hlen := joinRes_len what width L M
  unfold belowL
  generalize joinRes what width L M = J at hj hlen ⊢
  generalize checkE what width [L, M] = ce at hj ⊢
  have heq := fun (o : Value) (w1 : World) (hB : Below w.heap.size w w1) (ho : Sl w1 o encW J) => equal_any J M (by omega) o v' w1 ho (h'.below hB)
  generalize decide (J = M) = y at heq ⊢
  by_cases he : ce = 0
  · subst he
    rw [decide_eq_true rfl, Bool.true_and]
    go_enter Try.func64, Try.ntmps64
    go_wp2_with (first | (go_at_call 59; refine' Calls.aftS _ _ (hj) _; rotate_left 2; (first | (with_reducible exact After.below _; rfl) | (with_reducible exact below_drew (After.below _); rfl) | (with_reducible exact below_set (After.below _) _ _; (go_simp; rfl)) | (with_reducible exact below_set (below_set (After.below _) _ _) _ _; (go_simp; rfl)) | (with_reducible exact below_set (below_set (below_set (After.below _) _ _) _ _) _ _; (go_simp; rfl)) | (with_reducible exact below_set (below_set (below_set (below_set (After.below _) _ _) _ _) _ _) _ _; (go_simp; rfl)) | (exact Below.refl _ _; rfl)); intro o x1 ho; have hle := After.le x1; (try simp at hle)) | (go_at_call 86; refine' Calls.aft _ _ (heq _ _ x1.below (Sl.of_own ho)) _; rotate_left 2; (exact Below.refl _ _; rfl); intro x2; have hle := After.le x2; (try simp at hle)))
    refine bodyPost_ret (v := .bool y) (by simp only [results, Try.results64]; go_simp) rfl ⟨rfl, x1.below.trans (Below.mono x2.below x1.below.size)⟩
  · have f1 : (ce == 0) = false := by simp [he]
    rw [decide_eq_false he, Bool.false_and]
    clear he
    go_enter Try.func64, Try.ntmps64
    go_wp2_with (first | (go_at_call 59; refine' Calls.aftS _ _ (hj) _; rotate_left 2; (first | (with_reducible exact After.below _; rfl) | (with_reducible exact below_drew (After.below _); rfl) | (with_reducible exact below_set (After.below _) _ _; (go_simp; rfl)) | (with_reducible exact below_set (below_set (After.below _) _ _) _ _; (go_simp; rfl)) | (with_reducible exact below_set (below_set (below_set (After.below _) _ _) _ _) _ _; (go_simp; rfl)) | (with_reducible exact below_set (below_set (below_set (below_set (After.below _) _ _) _ _) _ _) _ _; (go_simp; rfl)) | (exact Below.refl _ _; rfl)); intro o x1 ho; have hle := After.le x1; (try simp at hle)))
    refine bodyPost_ret (v := .bool false) (by simp only [results, Try.results64]; go_simp) rfl ⟨rfl, x1.below⟩

theorem rlbelow_any (what : Int) (L M : List Nat) (hL : okW L) (hM : okW M) (hl : L.length ≤ 1000000) (hn : L.length = M.length) (v v' : Value) (w : World) (h : Sl w v encW L) (h' : Sl w v' encW M) :
    Calls Try.prog 67 #[.int .i64 what, v, v'] w fun e w' => e = .returned (.bool (decide (joinV what L M = M))) ∧ Below w.heap.size w w' := by
  have hj := rjoinV_any what L M hL hM hn hl v v' w h h'
  have hlen := joinV_length what L M
  generalize joinV what L M = J at hj hlen ⊢
  have heq := fun (o : Value) (w1 : World) (hB : Below w.heap.size w w1) (ho : Sl w1 o encW J) => rsame2_any J M (by omega) o v' w1 ho (h'.below hB)
  generalize decide (J = M) = y at heq ⊢
  obtain ⟨p, cap, hv⟩ : ∃ p cap, v = .slice p L.length cap := by obtain ⟨b, off, p, cap, hv, _⟩ := h; exact ⟨p, cap, hv⟩
  obtain ⟨p', cap', hv'⟩ : ∃ p cap, v' = .slice p M.length cap := by obtain ⟨b, off, p, cap, hv, _⟩ := h'; exact ⟨p, cap, hv⟩
  subst hv hv'
  have f1 : ((L.length : Int) == (M.length : Int)) = true := by simp [hn]
  clear hn hlen
  go_enter Try.func67, Try.ntmps67
  go_wp2_with (first | (go_at_call 66; refine' Calls.aftS _ _ (hj) _; rotate_left 2; (first | (with_reducible exact After.below _; rfl) | (with_reducible exact below_drew (After.below _); rfl) | (with_reducible exact below_set (After.below _) _ _; (go_simp; rfl)) | (with_reducible exact below_set (below_set (After.below _) _ _) _ _; (go_simp; rfl)) | (with_reducible exact below_set (below_set (below_set (After.below _) _ _) _ _) _ _; (go_simp; rfl)) | (with_reducible exact below_set (below_set (below_set (below_set (After.below _) _ _) _ _) _ _) _ _; (go_simp; rfl)) | (exact Below.refl _ _; rfl)); intro o x1 ho; have hle := After.le x1; (try simp at hle)) | (go_at_call 50; refine' Calls.aft _ _ (heq _ _ x1.below (Sl.of_own ho)) _; rotate_left 2; (exact Below.refl _ _; rfl); intro x2; have hle := After.le x2; (try simp at hle)))
  refine bodyPost_ret (v := .bool y) (by simp only [results, Try.results67]; go_simp) rfl ⟨rfl, x1.below.trans (Below.mono x2.below x1.below.size)⟩

/-- The ranks of words together. -/
def rankW (x : Nat) : Nat := (rankN (normW (x : Int))).toNat
theorem rankW_eq (x : Nat) : (rankW x : Int) = rankN (normW (x : Int)) := by
  unfold rankW rankN
  repeat' split
  all_goals omega
theorem rankW_le (x : Nat) : rankW x ≤ 2 := by
  unfold rankW rankN
  repeat' split
  all_goals omega
def rsum : List Nat → Nat
  | [] => 0
  | x :: L => rankW x + rsum L
theorem rsum_snoc (L : List Nat) (x : Nat) : rsum (L ++ [x]) = rsum L + rankW x := by
  induction L with
  | nil => simp [rsum]
  | cons y L ih => simp only [List.cons_append, rsum, ih]; omega
theorem rsum_le (L : List Nat) : rsum L ≤ 2 * L.length := by
  induction L with
  | nil => simp [rsum]
  | cons y L ih => have := rankW_le y; simp only [rsum, List.length_cons]; omega

/-- A value's rank. -/
def rankV (what width : Int) (L : List Nat) : Int := if what = 1 then (size L : Int) else if what = 2 then width - (size L : Int) else (rsum L : Int)
def rankR (what width : Int) (L : List Nat) : Int := if checkE what width [L] = 0 then rankV what width L else 0

theorem vals_one {v : Value} {L : List Nat} {w w1 : World} (hL : okW L) (hl : L.length ≤ 1000000) (h : Sl w v encW L) (hB : Below w.heap.size w w1) :
    ∀ (i : Nat) (hi : i < [v].length) (hi' : i < [L].length), okW ([L][i]'hi') ∧ ([L][i]'hi').length ≤ 1000000 ∧ Sl w1 ([v][i]'hi) encW ([L][i]'hi') := by
  intro i hi hi'
  match i, hi, hi' with
  | 0, _, _ => exact ⟨hL, hl, h.below hB⟩
theorem sl_one (v : Value) (t : TypeId) (w : World) : Sl (w.alloc (.cells #[v] t)) (.slice (some ⟨w.heap.size, 0, none⟩) 1 1) encV [v] :=
  ⟨w.heap.size, 0, _, 1, rfl, fun _ => rfl, fun j u hu => by
    rw [Nat.zero_add, cell_alloc_at rfl]
    simpa [encV] using hu⟩

theorem checkE_one {what width : Int} {L : List Nat} (h : checkE what width [L] = 0) : isL what width = true ∧ valueB what width L = true := by
  unfold checkE at h
  split at h
  · rename_i h0
    refine ⟨h0, ?_⟩
    split at h
    · rename_i h1
      simpa using h1
    · omega
  · omega

set_option maxRecDepth 100000 in
theorem lrank_any (what width : Int) (L : List Nat) (hL : okW L) (hl : L.length ≤ 1000000) (v : Value) (w : World) (h : Sl w v encW L) :
    Calls Try.prog 60 #[.int .i64 what, .int .i64 width, v] w fun e w' => e = .returned (.tuple #[.int .i64 (rankR what width L), .int .i64 (checkE what width [L])]) ∧ Below w.heap.size w w' := by
  obtain ⟨b, off, p, cap, rfl, hp, hc⟩ := Sl.words h
  have hB1 : Below w.heap.size w (w.alloc (.cells #[.slice p L.length cap] 52)) := Below.alloc (Below.refl _ _) (Nat.le_refl _) _
  have hck := check_any what width [.slice p L.length cap] [L] rfl (by simp) (.slice (some ⟨w.heap.size, 0, none⟩) 1 1) _ (sl_one _ 52 w) (vals_one hL hl h hB1)
  have hne := @checkE_one what width L
  have hJ : rankR what width L = if checkE what width [L] = 0 then rankV what width L else 0 := rfl
  rw [hJ]
  generalize checkE what width [L] = ce at hck hne ⊢
  have hsz := size_le L
  by_cases he : ce = 0
  · subst he
    obtain ⟨h1, _⟩ := hne rfl
    obtain ⟨h2, h3, h4⟩ := isL_facts h1
    rw [if_pos rfl]
    clear hne hJ h1
    rcases h2 with rfl | rfl | rfl
    · rw [show rankV 1 width L = (size L : Int) from rfl]
      have hlen := fun w1 (hB : Below w.heap.size w w1) => len_any L hL hl (.slice p L.length cap) w1 (h.below hB)
      generalize size L = s at hlen hsz ⊢
      clear hc
      go_enter Try.func60, Try.ntmps60
      go_wp2_with (first | (go_at_call 84; refine' Calls.aft _ _ (hck) _; rotate_left 2; (first | (with_reducible exact After.below _; rfl) | (with_reducible exact below_drew (After.below _); rfl) | (with_reducible exact below_set (After.below _) _ _; (go_simp; rfl)) | (with_reducible exact below_set (below_set (After.below _) _ _) _ _; (go_simp; rfl)) | (with_reducible exact below_set (below_set (below_set (After.below _) _ _) _ _) _ _; (go_simp; rfl)) | (with_reducible exact below_set (below_set (below_set (below_set (After.below _) _ _) _ _) _ _) _ _; (go_simp; rfl)) | (exact Below.refl _ _; rfl)); intro x0; have hle := After.le x0; (try simp at hle)) | (go_at_call 85; refine Calls.same (hlen _ (hB1.trans (Below.mono x0.below hB1.size))) ?_))
      refine bodyPost_ret (v := .tuple #[.int .i64 s, .int .i64 0]) (by simp only [results, Try.results60]; go_simp) rfl ⟨rfl, hB1.trans (Below.mono x0.below hB1.size)⟩
    · rw [show rankV 2 width L = width - (size L : Int) from rfl]
      have hlen := fun w1 (hB : Below w.heap.size w w1) => len_any L hL hl (.slice p L.length cap) w1 (h.below hB)
      generalize size L = s at hlen hsz ⊢
      clear hc
      go_enter Try.func60, Try.ntmps60
      go_wp2_with (first | (go_at_call 84; refine' Calls.aft _ _ (hck) _; rotate_left 2; (first | (with_reducible exact After.below _; rfl) | (with_reducible exact below_drew (After.below _); rfl) | (with_reducible exact below_set (After.below _) _ _; (go_simp; rfl)) | (with_reducible exact below_set (below_set (After.below _) _ _) _ _; (go_simp; rfl)) | (with_reducible exact below_set (below_set (below_set (After.below _) _ _) _ _) _ _; (go_simp; rfl)) | (with_reducible exact below_set (below_set (below_set (below_set (After.below _) _ _) _ _) _ _) _ _; (go_simp; rfl)) | (exact Below.refl _ _; rfl)); intro x0; have hle := After.le x0; (try simp at hle)) | (go_at_call 85; refine Calls.same (hlen _ (hB1.trans (Below.mono x0.below hB1.size))) ?_))
      refine bodyPost_ret (v := .tuple #[.int .i64 (width - s), .int .i64 0]) (by simp only [results, Try.results60]; go_simp) rfl ⟨rfl, hB1.trans (Below.mono x0.below hB1.size)⟩
    · rw [show rankV 3 width L = (rsum L : Int) from rfl]
      have hB0 : ∀ x0 : After (w.alloc (.cells #[.slice p L.length cap] 52)), Below w.heap.size w x0.val := fun x0 => hB1.trans (Below.mono x0.below hB1.size)
      clear hB1
      go_enter Try.func60, Try.ntmps60
      go_wp2_with (first | (go_at_call 84; refine' Calls.aft _ _ (hck) _; rotate_left 2; (first | (with_reducible exact After.below _; rfl) | (with_reducible exact below_drew (After.below _); rfl) | (with_reducible exact below_set (After.below _) _ _; (go_simp; rfl)) | (with_reducible exact below_set (below_set (After.below _) _ _) _ _; (go_simp; rfl)) | (with_reducible exact below_set (below_set (below_set (After.below _) _ _) _ _) _ _; (go_simp; rfl)) | (with_reducible exact below_set (below_set (below_set (below_set (After.below _) _ _) _ _) _ _) _ _; (go_simp; rfl)) | (exact Below.refl _ _; rfl)); intro x0; have hle := After.le x0; (try simp at hle)))
      have hB1 := hB0 x0
      clear hB0
      go_loopw [9, 33] (fun o i wr => ∃ k : Nat, k ≤ L.length ∧ i = .int .i64 k ∧ o = .int .i64 (rsum (L.take k)) ∧ Below w.heap.size w wr) (fun _ i _ => L.length - (intOf i).toNat)
      case atStart => exact ⟨0, Nat.zero_le _, rfl, rfl, hB1⟩
      case round =>
        obtain ⟨k, hk, rfl, rfl, hB⟩ := hrel
        by_cases hlt : k < L.length
        · have hpp := hp (by omega)
          subst hpp
          have c0 := hc k hlt
          have hg := World.block_lt_of_cell? _ _ c0
          have c2 := (hB.cell (p := ⟨b, off + k, none⟩) hg).trans c0
          have hgw := World.block_lt_of_cell? _ _ c2
          have hx := hL _ (List.getElem_mem hlt)
          have hz : Hid (rsum (L.take (k + 1)) = rsum (L.take k) + rankW (L[k]'hlt)) := by
            show _ = _
            rw [List.take_succ_eq_append_getElem hlt, rsum_snoc]
          have hr1 := rsum_le (L.take k)
          have hr2 : (L.take k).length ≤ k := by simp; omega
          have hr3 := rankW_le (L[k]'hlt)
          have hw := hB.size
          have hrk := rank_any ((L[k]'hlt : Nat) : Int) (by omega) (by omega)
          rw [← rankW_eq] at hrk
          clear hc c0
          generalize rankW (L[k]'hlt) = r at hz hr3 hrk
          generalize L[k]'hlt = x at c2 hx hrk
          generalize rsum (L.take k) = s at hz hr1 ⊢
          go_wp2_with ((go_at_call 37; refine' Calls.aft _ _ (hrk _) _; rotate_left 2; (first | (with_reducible exact After.below _; rfl) | (with_reducible exact below_drew (After.below _); rfl) | (with_reducible exact below_set (After.below _) _ _; (go_simp; rfl)) | (with_reducible exact below_set (below_set (After.below _) _ _) _ _; (go_simp; rfl)) | (with_reducible exact below_set (below_set (below_set (After.below _) _ _) _ _) _ _; (go_simp; rfl)) | (with_reducible exact below_set (below_set (below_set (below_set (After.below _) _ _) _ _) _ _) _ _; (go_simp; rfl)) | (exact Below.refl _ _; rfl)); intro x1; have hle := After.le x1; (try simp at hle)))
          go_roundw
          case rel => exact ⟨k + 1, by omega, by simp, by rw [hz]; simp, hB.trans (Below.mono x1.below hw)⟩
          case measure => simp [intOf]; omega
        · have hks : k = L.length := by omega
          subst hks
          rw [List.take_length]
          clear hc
          go_wp2_with fail
          refine bodyPost_ret (v := .tuple #[.int .i64 (rsum L), .int .i64 0]) (by simp only [results, Try.results60]; go_simp) rfl ⟨rfl, hB⟩
  · rw [if_neg he]
    have f1 : (ce != 0) = true := by simp [he]
    clear he hne hJ hc
    go_enter Try.func60, Try.ntmps60
    go_wp2_with ((go_at_call 84; refine' Calls.aft _ _ (hck) _; rotate_left 2; (first | (with_reducible exact After.below _; rfl) | (with_reducible exact below_drew (After.below _); rfl) | (with_reducible exact below_set (After.below _) _ _; (go_simp; rfl)) | (with_reducible exact below_set (below_set (After.below _) _ _) _ _; (go_simp; rfl)) | (with_reducible exact below_set (below_set (below_set (After.below _) _ _) _ _) _ _; (go_simp; rfl)) | (with_reducible exact below_set (below_set (below_set (below_set (After.below _) _ _) _ _) _ _) _ _; (go_simp; rfl)) | (exact Below.refl _ _; rfl)); intro x0; have hle := After.le x0; (try simp at hle)))
    refine bodyPost_ret (v := .tuple #[.int .i64 0, .int .i64 ce]) (by simp only [results, Try.results60]; go_simp) rfl ⟨rfl, hB1.trans (Below.mono x0.below hB1.size)⟩

end Go.Proofs.Ytjjopjpchgajcaa.Ws
