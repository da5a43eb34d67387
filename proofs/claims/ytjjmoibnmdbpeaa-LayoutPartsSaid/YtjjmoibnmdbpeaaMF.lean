/- Both packages' loops over a text's bytes: number, run. Both packages' signs, words in memory, names. -/
import Derived.Test.YtjjmoibnmdbpeaaToken
import Derived.LoopTactic

namespace Go.Proofs.Ytjjmoibnmdbpeaa.Tk
set_option linter.unusedVariables false
set_option linter.unusedSimpArgs false
open Go Go.RowKit

@[go_sem] theorem byt_get (s : ByteArray) (i : Nat) (h : i < s.size) : ((s[i]'h).toNat : Int) = byt s i := by
  unfold byt
  congr 2
  obtain ⟨⟨s⟩⟩ := s
  have h' : i < s.length := h
  simp only [ByteArray.get!]
  show s[i] = _
  simp [Array.getElem!_eq_getD, Array.getD_eq_getD_getElem?, h']

def intOf : Value → Int | .int _ q => q | _ => 0

def numV (s : ByteArray) : Int := if num s > 32768 then 0 else num s
def numOk (s : ByteArray) : Bool := !decide (num s > 32768)

theorem num_over {s : ByteArray} (hd : digits s) {k : Nat} {m : Int} (hk : k < s.size) (h : 32768 < 10 * m + (byt s k - 48)) (hn : numAt s k m = num s) : numV s = 0 ∧ numOk s = false := by
  have e : min (10 * m + byt s k - 48) 32769 = 32769 := by omega
  rw [numAt_go hk, e, numAt_top hd] at hn
  simp [numV, numOk, ← hn]

end Go.Proofs.Ytjjmoibnmdbpeaa.Tk

namespace Go.Proofs.Ytjjmoibnmdbpeaa.Tk
set_option linter.unusedVariables false
set_option linter.unusedSimpArgs false
open Go Go.RowKit

set_option maxRecDepth 1000000 in
theorem rword_any (s : ByteArray) (w : World) : Calls Try.prog 92 #[.string s] w fun e w' => e = .returned (.bool (wordB s)) ∧ Below w.heap.size w w' := by
  go_enter Try.func92, Try.ntmps92
  go_wp2_with fail
  refine wp_loop_rounds 10 ?_
  rw [rounds_succ]
  go_wp2_with fail
  · rename_i h
    go_ret
    refine ⟨?_, ?_⟩
    · rw [wordB_true (w := [98, 108, 111, 99, 107]) (by decide) h]
      rfl
    · (repeat (first | exact Below.refl _ _ | apply Below.drew | refine Below.alloc ?_ ?_ _ | refine Below.setCell ?_ ?_ _ | refine Below.trans ?_ (Below.mono (After.below _) ?_))); (all_goals (first | (simp; done) | (simp; omega) | omega))
  rename_i n0
  rw [rounds_succ]
  go_wp2_with fail
  · rename_i h
    go_ret
    refine ⟨?_, ?_⟩
    · rw [wordB_true (w := [103, 111, 116, 111]) (by decide) h]
      rfl
    · (repeat (first | exact Below.refl _ _ | apply Below.drew | refine Below.alloc ?_ ?_ _ | refine Below.setCell ?_ ?_ _ | refine Below.trans ?_ (Below.mono (After.below _) ?_))); (all_goals (first | (simp; done) | (simp; omega) | omega))
  rename_i n1
  rw [rounds_succ]
  go_wp2_with fail
  · rename_i h
    go_ret
    refine ⟨?_, ?_⟩
    · rw [wordB_true (w := [105, 102]) (by decide) h]
      rfl
    · (repeat (first | exact Below.refl _ _ | apply Below.drew | refine Below.alloc ?_ ?_ _ | refine Below.setCell ?_ ?_ _ | refine Below.trans ?_ (Below.mono (After.below _) ?_))); (all_goals (first | (simp; done) | (simp; omega) | omega))
  rename_i n2
  rw [rounds_succ]
  go_wp2_with fail
  · rename_i h
    go_ret
    refine ⟨?_, ?_⟩
    · rw [wordB_true (w := [116, 104, 101, 110]) (by decide) h]
      rfl
    · (repeat (first | exact Below.refl _ _ | apply Below.drew | refine Below.alloc ?_ ?_ _ | refine Below.setCell ?_ ?_ _ | refine Below.trans ?_ (Below.mono (After.below _) ?_))); (all_goals (first | (simp; done) | (simp; omega) | omega))
  rename_i n3
  rw [rounds_succ]
  go_wp2_with fail
  · rename_i h
    go_ret
    refine ⟨?_, ?_⟩
    · rw [wordB_true (w := [101, 108, 115, 101]) (by decide) h]
      rfl
    · (repeat (first | exact Below.refl _ _ | apply Below.drew | refine Below.alloc ?_ ?_ _ | refine Below.setCell ?_ ?_ _ | refine Below.trans ?_ (Below.mono (After.below _) ?_))); (all_goals (first | (simp; done) | (simp; omega) | omega))
  rename_i n4
  rw [rounds_succ]
  go_wp2_with fail
  · rename_i h
    go_ret
    refine ⟨?_, ?_⟩
    · rw [wordB_true (w := [114, 101, 116]) (by decide) h]
      rfl
    · (repeat (first | exact Below.refl _ _ | apply Below.drew | refine Below.alloc ?_ ?_ _ | refine Below.setCell ?_ ?_ _ | refine Below.trans ?_ (Below.mono (After.below _) ?_))); (all_goals (first | (simp; done) | (simp; omega) | omega))
  rename_i n5
  rw [rounds_succ]
  go_wp2_with fail
  · rename_i h
    go_ret
    refine ⟨?_, ?_⟩
    · rw [wordB_true (w := [105, 110]) (by decide) h]
      rfl
    · (repeat (first | exact Below.refl _ _ | apply Below.drew | refine Below.alloc ?_ ?_ _ | refine Below.setCell ?_ ?_ _ | refine Below.trans ?_ (Below.mono (After.below _) ?_))); (all_goals (first | (simp; done) | (simp; omega) | omega))
  rename_i n6
  rw [rounds_succ]
  go_wp2_with fail
  · rename_i h
    go_ret
    refine ⟨?_, ?_⟩
    · rw [wordB_true (w := [111, 117, 116]) (by decide) h]
      rfl
    · (repeat (first | exact Below.refl _ _ | apply Below.drew | refine Below.alloc ?_ ?_ _ | refine Below.setCell ?_ ?_ _ | refine Below.trans ?_ (Below.mono (After.below _) ?_))); (all_goals (first | (simp; done) | (simp; omega) | omega))
  rename_i n7
  rw [rounds_succ]
  go_wp2_with fail
  · rename_i h
    go_ret
    refine ⟨?_, ?_⟩
    · rw [wordB_true (w := [99, 111, 110, 106]) (by decide) h]
      rfl
    · (repeat (first | exact Below.refl _ _ | apply Below.drew | refine Below.alloc ?_ ?_ _ | refine Below.setCell ?_ ?_ _ | refine Below.trans ?_ (Below.mono (After.below _) ?_))); (all_goals (first | (simp; done) | (simp; omega) | omega))
  rename_i n8
  rw [rounds_succ]
  go_wp2_with fail
  go_ret
  refine ⟨?_, ?_⟩
  · have : wordB s = false := by simp only [wordB, words, List.any_cons, List.any_nil, n0, n1, n2, n3, n4, n5, n6, n7, n8, Bool.or_false]
    rw [this]
    rfl
  · (repeat (first | exact Below.refl _ _ | apply Below.drew | refine Below.alloc ?_ ?_ _ | refine Below.setCell ?_ ?_ _ | refine Below.trans ?_ (Below.mono (After.below _) ?_))); (all_goals (first | (simp; done) | (simp; omega) | omega))

theorem byt_123 : byt { data := #[123] } 0 = 123 := rfl
theorem byt_125 : byt { data := #[125] } 0 = 125 := rfl
theorem byt_59 : byt { data := #[59] } 0 = 59 := rfl
theorem byt_61 : byt { data := #[61] } 0 = 61 := rfl
theorem byt_43 : byt { data := #[43] } 0 = 43 := rfl
theorem byt_45 : byt { data := #[45] } 0 = 45 := rfl
theorem byt_42 : byt { data := #[42] } 0 = 42 := rfl
theorem byt_40 : byt { data := #[40] } 0 = 40 := rfl
theorem byt_41 : byt { data := #[41] } 0 = 41 := rfl
theorem byt_44 : byt { data := #[44] } 0 = 44 := rfl

def nameB (s : ByteArray) : Bool := decide (0 < s.size) && decide (s.size ≤ 12) && letterB (byt s 0) && !wordB s && decide (runTo alnumB s 0 = s.size)

theorem nameB_1 {s : ByteArray} (h : s.size < 1 ∨ 12 < s.size) : nameB s = false := by
  rcases h with h | h
  · have : s.size = 0 := by omega
    simp [nameB, this]
  · simp [nameB, Nat.not_le.2 h]
theorem nameB_2 {s : ByteArray} (h : ¬ letterB (byt s 0) = true) : nameB s = false := by simp [nameB, h]
theorem nameB_3 {s : ByteArray} (h : wordB s = true) : nameB s = false := by simp [nameB, h]
theorem nameB_4 {s : ByteArray} {k : Nat} (hk : k < s.size) (hr : runTo alnumB s k = runTo alnumB s 0) (h1 : letterB (byt s k) = false) (h2 : digitB (byt s k) = false) : nameB s = false := by
  rw [runTo_stop (fun _ => by simp [alnumB, h1, h2])] at hr
  have : ¬ runTo alnumB s 0 = s.size := by omega
  simp [nameB, this]
theorem nameB_5 {s : ByteArray} (h0 : 1 ≤ s.size) (h1 : s.size ≤ 12) (h2 : letterB (byt s 0) = true) (h3 : wordB s = false) (hr : runTo alnumB s s.size = runTo alnumB s 0) : nameB s = true := by
  rw [runTo_stop (fun h => absurd h (Nat.lt_irrefl _))] at hr
  have : 0 < s.size := by omega
  simp [nameB, h1, h2, h3, ← hr, this]

set_option maxRecDepth 100000 in
theorem name_any (s : ByteArray) (w : World) : Calls Try.prog 76 #[.string s] w fun e w' => e = .returned (.bool (nameB s)) ∧ w = w' := by
  have hb0 := byt_nonneg s 0
  have hb1 := byt_le s 0
  cases z1 : decide (s.size < 1 ∨ 12 < s.size)
  · have z1' := of_decide_eq_false z1
    cases z2 : letterB (byt s 0)
    · rw [nameB_2 (by simp [z2])]
      go_enter Try.func76, Try.ntmps76
      go_wp2_with (first | (go_at_call 115; refine Calls.same (letter_any _ _) ?_) | (go_at_call 116; refine Calls.same (word_any _ _) ?_))
      all_goals first | (exfalso; omega) | (go_ret; exact ⟨rfl, rfl⟩)
    · cases z3 : wordB s
      · go_enter Try.func76, Try.ntmps76
        go_wp2_with (first | (go_at_call 115; refine Calls.same (letter_any _ _) ?_) | (go_at_call 116; refine Calls.same (word_any _ _) ?_))
        all_goals first | (exfalso; omega) | (exfalso; simp_all; done) | skip
        go_loop [24] (fun i => ∃ (k : Nat), k ≤ s.size ∧ i = .int .i64 k ∧ runTo alnumB s k = runTo alnumB s 0) (fun i => s.size - (intOf i).toNat)
        case atStart => exact ⟨0, Nat.zero_le _, rfl, rfl⟩
        case round =>
          obtain ⟨k, hk, rfl, hn⟩ := hrel
          have hb := byt_nonneg s k
          have hb2 := byt_le s k
          go_wp2_with (first | (go_at_call 115; refine Calls.same (letter_any _ _) ?_) | (go_at_call 117; refine Calls.same (digit_any _ _) ?_))
          · have hlt : k < s.size := by assumption
            have hl : letterB (byt s k) = true := by assumption
            exact ⟨⟨k + 1, by omega, by simp, by rw [← hn, runTo_go hlt (by simp [alnumB, hl])]⟩, by simp [intOf]; omega⟩
          · have hlt : k < s.size := by assumption
            have hl : ¬ letterB (byt s k) = true := by assumption
            have hd : (!digitB (byt s k)) = true := by assumption
            rw [nameB_4 hlt hn (by simpa using hl) (by simpa using hd)]
            go_ret
            exact ⟨rfl, rfl⟩
          · have hlt : k < s.size := by assumption
            have hd : (!digitB (byt s k)) = false := by assumption
            exact ⟨⟨k + 1, by omega, by simp, by rw [← hn, runTo_go hlt (by simp only [Bool.not_eq_false'] at hd; simp [alnumB, hd])]⟩, by simp [intOf]; omega⟩
          · have hge : ¬ k < s.size := by assumption
            have e : k = s.size := by omega
            subst e
            rw [nameB_5 (by omega) (by omega) z2 z3 hn]
            go_ret
            exact ⟨rfl, rfl⟩
      · rw [nameB_3 z3]
        go_enter Try.func76, Try.ntmps76
        go_wp2_with (first | (go_at_call 115; refine Calls.same (letter_any _ _) ?_) | (go_at_call 116; refine Calls.same (word_any _ _) ?_))
        all_goals first | (exfalso; omega) | (go_ret; exact ⟨rfl, rfl⟩)
  · rw [nameB_1 (of_decide_eq_true z1)]
    have z1' := of_decide_eq_true z1
    go_enter Try.func76, Try.ntmps76
    go_wp2_with (first | (go_at_call 115; refine Calls.same (letter_any _ _) ?_) | (go_at_call 116; refine Calls.same (word_any _ _) ?_))
    all_goals first | (exfalso; omega) | (go_ret; exact ⟨rfl, rfl⟩)

set_option maxRecDepth 100000 in
theorem rname_any (s : ByteArray) (w : World) : Calls Try.prog 56 #[.string s] w fun e w' => e = .returned (.bool (nameB s)) ∧ Below w.heap.size w w' := by
  have hb0 := byt_nonneg s 0
  have hb1 := byt_le s 0
  cases z1 : decide (s.size < 1 ∨ 12 < s.size)
  · have z1' := of_decide_eq_false z1
    cases z2 : letterB (byt s 0)
    · rw [nameB_2 (by simp [z2])]
      go_enter Try.func56, Try.ntmps56
      go_wp2_with (first | (go_at_call 91; refine Calls.same (rletter_any _ _) ?_) | (go_at_call 92; refine' Calls.aft _ _ (rword_any _ _) _; rotate_left 2; (first | (with_reducible exact After.below _; rfl) | (with_reducible exact below_drew (After.below _); rfl) | (with_reducible exact below_set (After.below _) _ _; (go_simp; rfl)) | (with_reducible exact below_set (below_set (After.below _) _ _) _ _; (go_simp; rfl)) | (with_reducible exact below_set (below_set (below_set (After.below _) _ _) _ _) _ _; (go_simp; rfl)) | (with_reducible exact below_set (below_set (below_set (below_set (After.below _) _ _) _ _) _ _) _ _; (go_simp; rfl)) | (exact Below.refl _ _; rfl)); intro x1; have hle := After.le x1; (try simp at hle)))
      all_goals first | (exfalso; first | omega | (rename_i hx; simp only [beq_iff_eq] at hx; omega) | (rename_i hx; simp at hx; omega) | (rename_i hx; subst hx; simp at z1'; done) | (simp_all; done)) | (go_ret; (refine ⟨rfl, ?_⟩; (repeat (first | exact Below.refl _ _ | apply Below.drew | refine Below.alloc ?_ ?_ _ | refine Below.setCell ?_ ?_ _ | refine Below.trans ?_ (Below.mono (After.below _) ?_))); (all_goals (first | (simp; done) | (simp; omega) | omega))))
    · have z0 : ((s.size : Int) == 0) = false := by
        rw [beq_eq_false_iff_ne]; omega
      cases z3 : wordB s
      · go_enter Try.func56, Try.ntmps56
        go_wp2_with (first | (go_at_call 91; refine Calls.same (rletter_any _ _) ?_) | (go_at_call 92; refine' Calls.aft _ _ (rword_any _ _) _; rotate_left 2; (first | (with_reducible exact After.below _; rfl) | (with_reducible exact below_drew (After.below _); rfl) | (with_reducible exact below_set (After.below _) _ _; (go_simp; rfl)) | (with_reducible exact below_set (below_set (After.below _) _ _) _ _; (go_simp; rfl)) | (with_reducible exact below_set (below_set (below_set (After.below _) _ _) _ _) _ _; (go_simp; rfl)) | (with_reducible exact below_set (below_set (below_set (below_set (After.below _) _ _) _ _) _ _) _ _; (go_simp; rfl)) | (exact Below.refl _ _; rfl)); intro x1; have hle := After.le x1; (try simp at hle)))
        all_goals first | (exfalso; first | omega | (rename_i hx; simp only [beq_iff_eq] at hx; omega) | (rename_i hx; simp at hx; omega) | (rename_i hx; subst hx; simp at z1'; done) | (simp_all; done)) | skip
        go_loop [3] (fun i => ∃ (k : Nat), k ≤ s.size ∧ i = .int .i64 k ∧ runTo alnumB s k = runTo alnumB s 0) (fun i => s.size - (intOf i).toNat)
        case atStart => exact ⟨0, Nat.zero_le _, rfl, rfl⟩
        case round =>
          obtain ⟨k, hk, rfl, hn⟩ := hrel
          have hb := byt_nonneg s k
          have hb2 := byt_le s k
          go_wp2_with (first | (go_at_call 91; refine Calls.same (rletter_any _ _) ?_) | (go_at_call 93; refine Calls.same (rdigit_any _ _) ?_))
          · have hlt : k < s.size := by assumption
            have hl : letterB (byt s k) = true := by assumption
            exact ⟨⟨k + 1, by omega, by simp, by rw [← hn, runTo_go hlt (by simp [alnumB, hl])]⟩, by simp [intOf]; omega⟩
          · have hlt : k < s.size := by assumption
            have hl : ¬ letterB (byt s k) = true := by assumption
            have hd : (!digitB (byt s k)) = true := by assumption
            rw [nameB_4 hlt hn (by simpa using hl) (by simpa using hd)]
            go_ret
            (refine ⟨rfl, ?_⟩; (repeat (first | exact Below.refl _ _ | apply Below.drew | refine Below.alloc ?_ ?_ _ | refine Below.setCell ?_ ?_ _ | refine Below.trans ?_ (Below.mono (After.below _) ?_))); (all_goals (first | (simp; done) | (simp; omega) | omega)))
          · have hlt : k < s.size := by assumption
            have hd : (!digitB (byt s k)) = false := by assumption
            exact ⟨⟨k + 1, by omega, by simp, by rw [← hn, runTo_go hlt (by simp only [Bool.not_eq_false'] at hd; simp [alnumB, hd])]⟩, by simp [intOf]; omega⟩
          · have hge : ¬ k < s.size := by assumption
            have e : k = s.size := by omega
            subst e
            rw [nameB_5 (by omega) (by omega) z2 z3 hn]
            go_ret
            (refine ⟨rfl, ?_⟩; (repeat (first | exact Below.refl _ _ | apply Below.drew | refine Below.alloc ?_ ?_ _ | refine Below.setCell ?_ ?_ _ | refine Below.trans ?_ (Below.mono (After.below _) ?_))); (all_goals (first | (simp; done) | (simp; omega) | omega)))
      · rw [nameB_3 z3]
        go_enter Try.func56, Try.ntmps56
        go_wp2_with (first | (go_at_call 91; refine Calls.same (rletter_any _ _) ?_) | (go_at_call 92; refine' Calls.aft _ _ (rword_any _ _) _; rotate_left 2; (first | (with_reducible exact After.below _; rfl) | (with_reducible exact below_drew (After.below _); rfl) | (with_reducible exact below_set (After.below _) _ _; (go_simp; rfl)) | (with_reducible exact below_set (below_set (After.below _) _ _) _ _; (go_simp; rfl)) | (with_reducible exact below_set (below_set (below_set (After.below _) _ _) _ _) _ _; (go_simp; rfl)) | (with_reducible exact below_set (below_set (below_set (below_set (After.below _) _ _) _ _) _ _) _ _; (go_simp; rfl)) | (exact Below.refl _ _; rfl)); intro x1; have hle := After.le x1; (try simp at hle)))
        all_goals first | (exfalso; first | omega | (rename_i hx; simp only [beq_iff_eq] at hx; omega) | (rename_i hx; simp at hx; omega) | (rename_i hx; subst hx; simp at z1'; done) | (simp_all; done)) | (go_ret; (refine ⟨rfl, ?_⟩; (repeat (first | exact Below.refl _ _ | apply Below.drew | refine Below.alloc ?_ ?_ _ | refine Below.setCell ?_ ?_ _ | refine Below.trans ?_ (Below.mono (After.below _) ?_))); (all_goals (first | (simp; done) | (simp; omega) | omega))))
  · rw [nameB_1 (of_decide_eq_true z1)]
    have z1' := of_decide_eq_true z1
    go_enter Try.func56, Try.ntmps56
    go_wp2_with (first | (go_at_call 91; refine Calls.same (rletter_any _ _) ?_) | (go_at_call 92; refine' Calls.aft _ _ (rword_any _ _) _; rotate_left 2; (first | (with_reducible exact After.below _; rfl) | (with_reducible exact below_drew (After.below _); rfl) | (with_reducible exact below_set (After.below _) _ _; (go_simp; rfl)) | (with_reducible exact below_set (below_set (After.below _) _ _) _ _; (go_simp; rfl)) | (with_reducible exact below_set (below_set (below_set (After.below _) _ _) _ _) _ _; (go_simp; rfl)) | (with_reducible exact below_set (below_set (below_set (below_set (After.below _) _ _) _ _) _ _) _ _; (go_simp; rfl)) | (exact Below.refl _ _; rfl)); intro x1; have hle := After.le x1; (try simp at hle)))
    all_goals first | (exfalso; first | omega | (rename_i hx; simp only [beq_iff_eq] at hx; omega) | (rename_i hx; simp at hx; omega) | (rename_i hx; subst hx; simp at z1'; done) | (simp_all; done)) | (go_ret; (refine ⟨rfl, ?_⟩; (repeat (first | exact Below.refl _ _ | apply Below.drew | refine Below.alloc ?_ ?_ _ | refine Below.setCell ?_ ?_ _ | refine Below.trans ?_ (Below.mono (After.below _) ?_))); (all_goals (first | (simp; done) | (simp; omega) | omega))))

end Go.Proofs.Ytjjmoibnmdbpeaa.Tk
