/- token.figure and soughref02.one: one token. -/
import Derived.Test.YtmnplnhblniimaaTokenc
import Derived.Test.YtmnplnhblniimaaTokb
import Derived.Laws.DeepStrings4
namespace Go.Proofs.Ytmnplnhblniimaa.Tk
set_option linter.unusedVariables false
set_option linter.unusedSimpArgs false
open Go Go.RowKit

def figE (s : ByteArray) : Int := if num s > 32768 then 6 else if 1 < s.size ∧ byt s 0 = 48 then 3 else 0
def figT (s : ByteArray) (i : Int) : Tok := if figE s = 0 then ⟨2, i, s, num s⟩ else ⟨0, 0, ⟨#[]⟩, 0⟩

theorem figure_any (s : ByteArray) (hd : digits s) (h1 : 0 < s.size) (hs : s.size ≤ 16384) (i : Int) (w : World) :
    Calls Try.prog 60 #[.string s, .int .i64 i] w fun e w' => e = .returned (.tuple #[.agg #[.int .i64 (figT s i).kind, .int .i64 (figT s i).pos, .string (figT s i).s, .int .i64 (figT s i).n], .int .i64 (figE s)]) ∧ Below w.heap.size w w' := by
  cases a1 : decide (num s > 32768)
  · have a1' := of_decide_eq_false a1
    have ok : numOk s = true := by simp [numOk, a1]
    have nv : numV s = num s := by simp [numV, a1']
    cases a2 : decide (1 < s.size ∧ byt s 0 = 48)
    · have a2' := of_decide_eq_false a2
      have e1 : figE s = 0 := by rw [figE, if_neg a1', if_neg a2']
      have e2 : figT s i = ⟨2, i, s, num s⟩ := by rw [figT, if_pos e1]
      rw [e1, e2]
      go_enter Try.func60, Try.ntmps60
      go_wp2_with ((go_at_call 89; refine Calls.same (number_any s hd hs _) ?_))
      all_goals first | (exfalso; omega) | (exfalso; simp_all; done) | (exfalso; simp_all; omega) | (refine bodyPost_ret (v := .tuple #[.agg #[.int .i64 2, .int .i64 i, .string s, .int .i64 (num s)], .int .i64 0]) (by simp only [results, Try.results60]; go_simp) rfl ⟨rfl, ?_⟩; have := trivial; (try have hz1 := x1.le); (try have hz2 := x2.le); (try have hz3 := x3.le); (try simp at hz1); (try simp at hz2); (try simp at hz3); (repeat (first | exact Below.refl _ _ | apply Below.drew | refine Below.alloc ?_ ?_ _ | refine Below.setCell ?_ ?_ _ | refine Below.trans ?_ (Below.mono (After.below _) ?_))); (all_goals (first | (simp; done) | (simp; omega) | omega)))
    · have a2' := of_decide_eq_true a2
      have e1 : figE s = 3 := by rw [figE, if_neg a1', if_pos a2']
      have e2 : figT s i = ⟨0, 0, ⟨#[]⟩, 0⟩ := by rw [figT, if_neg (by rw [e1]; decide)]
      rw [e1, e2]
      go_enter Try.func60, Try.ntmps60
      go_wp2_with ((go_at_call 89; refine Calls.same (number_any s hd hs _) ?_))
      all_goals first | (exfalso; omega) | (exfalso; simp_all; done) | (exfalso; simp_all; omega) | (refine bodyPost_ret (v := .tuple #[.agg #[.int .i64 0, .int .i64 0, .string (⟨#[]⟩ : ByteArray), .int .i64 0], .int .i64 3]) (by simp only [results, Try.results60]; go_simp) rfl ⟨rfl, ?_⟩; have := trivial; (try have hz1 := x1.le); (try have hz2 := x2.le); (try have hz3 := x3.le); (try simp at hz1); (try simp at hz2); (try simp at hz3); (repeat (first | exact Below.refl _ _ | apply Below.drew | refine Below.alloc ?_ ?_ _ | refine Below.setCell ?_ ?_ _ | refine Below.trans ?_ (Below.mono (After.below _) ?_))); (all_goals (first | (simp; done) | (simp; omega) | omega)))
  · have a1' := of_decide_eq_true a1
    have ok : numOk s = false := by simp [numOk, a1]
    have e1 : figE s = 6 := by rw [figE, if_pos a1']
    have e2 : figT s i = ⟨0, 0, ⟨#[]⟩, 0⟩ := by rw [figT, if_neg (by rw [e1]; decide)]
    rw [e1, e2]
    go_enter Try.func60, Try.ntmps60
    go_wp2_with ((go_at_call 89; refine Calls.same (number_any s hd hs _) ?_))
    all_goals first | (exfalso; omega) | (exfalso; simp_all; done) | (exfalso; simp_all; omega) | (refine bodyPost_ret (v := .tuple #[.agg #[.int .i64 0, .int .i64 0, .string (⟨#[]⟩ : ByteArray), .int .i64 0], .int .i64 6]) (by simp only [results, Try.results60]; go_simp) rfl ⟨rfl, ?_⟩; have := trivial; (try have hz1 := x1.le); (try have hz2 := x2.le); (try have hz3 := x3.le); (try simp at hz1); (try simp at hz2); (try simp at hz3); (repeat (first | exact Below.refl _ _ | apply Below.drew | refine Below.alloc ?_ ?_ _ | refine Below.setCell ?_ ?_ _ | refine Below.trans ?_ (Below.mono (After.below _) ?_))); (all_goals (first | (simp; done) | (simp; omega) | omega)))

theorem digits_run (s : ByteArray) (i : Nat) (hi : i ≤ s.size) : digits (s.extract i (runTo digitB s i)) := by
  intro j hj
  rw [size_run digitB s i hi] at hj
  have h := runTo_mem digitB s i (i + j) (by omega) (by omega)
  have hl := runTo_le digitB s i hi
  rw [show byt (s.extract i (runTo digitB s i)) j = byt s (i + j) from ?_]
  · exact h
  · obtain ⟨⟨l⟩⟩ := s
    have hl' : runTo digitB ⟨⟨l⟩⟩ i ≤ l.length := hl
    unfold byt
    congr 2
    simp only [ByteArray.get!, ByteArray.data_extract]
    simp [Array.getElem!_eq_getD, Array.getD_eq_getD_getElem?]
    rw [List.getElem?_take, if_pos (by omega), List.getElem?_drop]

theorem slice_one (s : ByteArray) (i : Nat) (hi : i < s.size) (w : World) : (Instr.slice 9 (.string s) (some (.int .i64 i)) (some (.int .i64 ((i : Int) + 1))) none).run Try.prog w = .ok (.string (s.extract i (i + 1))) w := by
  rw [run_slice_string_if w 9 s .i64 .i64 i ((i : Int) + 1) Try.underlying9, if_pos (by omega), if_pos (by omega)]
  rfl
theorem byt_first (s : ByteArray) (i j : Nat) (h : i < j) (hj : j ≤ s.size) : byt (s.extract i j) 0 = byt s i := by
  obtain ⟨⟨l⟩⟩ := s
  have hl' : j ≤ l.length := hj
  unfold byt
  congr 2
  simp only [ByteArray.get!, ByteArray.data_extract]
  simp [Array.getElem!_eq_getD, Array.getD_eq_getD_getElem?]
  rw [List.getElem?_take, if_pos (by omega), List.getElem?_drop]
  rfl

/-- The token at a place, and what is wrong. -/
def oneE (s : ByteArray) (i : Nat) : Int := match stepAt s i with | .bad e => e | _ => 0
def oneT (s : ByteArray) (i : Nat) : Tok := match stepAt s i with | .tok t => t | _ => ⟨0, 0, ⟨#[]⟩, 0⟩

set_option maxRecDepth 100000 in
theorem one_word (s : ByteArray) (i : Nat) (hi : i < s.size) (hs : s.size ≤ 16384) (b1 : blankB (byt s i) = false) (b2 : ¬ byt s i = 35) (l : letterB (byt s i) = true) (g : wordB (s.extract i (runTo alnumB s i)) = true) (w : World) :
    Calls Try.prog 52 #[.string s, .int .i64 i] w fun e w' => e = .returned (.tuple #[.agg #[.int .i64 (oneT s i).kind, .int .i64 (oneT s i).pos, .string (oneT s i).s, .int .i64 (oneT s i).n], .int .i64 (oneE s i)]) ∧ Below w.heap.size w w' := by
  have st : stepAt s i = .tok ⟨4, i, (s.extract i (runTo alnumB s i)), 0⟩ := by simp [stepAt, *, -ByteArray.size_extract]
  have e1 : oneE s i = 0 := by rw [oneE, st]
  have e2 : oneT s i = ⟨4, (i : Int), (s.extract i (runTo alnumB s i)), 0⟩ := by rw [oneT, st]
  rw [e1, e2]
  have hb := byt_nonneg s i
  have hb2 := byt_le s i
  have rl := runTo_le alnumB s i (by omega)
  have rg := runTo_ge alnumB s i
  have rs := size_run alnumB s i (by omega)
  go_enter Try.func52, Try.ntmps52
  go_wp2_with (first | (go_at_call 81; refine Calls.same (rletter_any _ _) ?_) | (go_at_call 84; refine Calls.same (rdigit_any _ _) ?_) | (go_at_call 82; refine Calls.same (run_names _ _ (by omega) hs _) ?_) | (go_at_call 85; refine Calls.same (rnumber_any _ hD hDs _) ?_) | (go_at_call 83; refine' Calls.aft _ _ (rword_any _ _) _; rotate_left 2; (first | (with_reducible exact After.below _; rfl) | (with_reducible exact below_drew (After.below _); rfl) | (with_reducible exact below_set (After.below _) _ _; (go_simp; rfl)) | (with_reducible exact below_set (below_set (After.below _) _ _) _ _; (go_simp; rfl)) | (with_reducible exact below_set (below_set (below_set (After.below _) _ _) _ _) _ _; (go_simp; rfl)) | (with_reducible exact below_set (below_set (below_set (below_set (After.below _) _ _) _ _) _ _) _ _; (go_simp; rfl)) | (exact Below.refl _ _; rfl)); intro x1; have hle := After.le x1; (try simp at hle)) | (go_at_call 86; refine' Calls.aft _ _ (rsign_any _ _) _; rotate_left 2; (first | (with_reducible exact After.below _; rfl) | (with_reducible exact below_drew (After.below _); rfl) | (with_reducible exact below_set (After.below _) _ _; (go_simp; rfl)) | (with_reducible exact below_set (below_set (After.below _) _ _) _ _; (go_simp; rfl)) | (with_reducible exact below_set (below_set (below_set (After.below _) _ _) _ _) _ _; (go_simp; rfl)) | (with_reducible exact below_set (below_set (below_set (below_set (After.below _) _ _) _ _) _ _) _ _; (go_simp; rfl)) | (exact Below.refl _ _; rfl)); intro x2; have hle := After.le x2; (try simp at hle)))
  all_goals first | (exfalso; omega) | (exfalso; simp_all; done) | (exfalso; simp_all; omega) | (refine bodyPost_ret (v := .tuple #[.agg #[.int .i64 4, .int .i64 (i : Int), .string (s.extract i (runTo alnumB s i)), .int .i64 0], .int .i64 0]) (by simp only [results, Try.results52]; go_simp) rfl ⟨rfl, ?_⟩; have := trivial; (try have hz1 := x1.le); (try have hz2 := x2.le); (try have hz3 := x3.le); (try simp at hz1); (try simp at hz2); (try simp at hz3); (repeat (first | exact Below.refl _ _ | apply Below.drew | refine Below.alloc ?_ ?_ _ | refine Below.setCell ?_ ?_ _ | refine Below.trans ?_ (Below.mono (After.below _) ?_))); (all_goals (first | (simp; done) | (simp; omega) | omega)))

set_option maxRecDepth 100000 in
theorem one_long (s : ByteArray) (i : Nat) (hi : i < s.size) (hs : s.size ≤ 16384) (b1 : blankB (byt s i) = false) (b2 : ¬ byt s i = 35) (l : letterB (byt s i) = true) (g : wordB (s.extract i (runTo alnumB s i)) = false) (z : 12 < (s.extract i (runTo alnumB s i)).size) (w : World) :
    Calls Try.prog 52 #[.string s, .int .i64 i] w fun e w' => e = .returned (.tuple #[.agg #[.int .i64 (oneT s i).kind, .int .i64 (oneT s i).pos, .string (oneT s i).s, .int .i64 (oneT s i).n], .int .i64 (oneE s i)]) ∧ Below w.heap.size w w' := by
  have st : stepAt s i = .bad 6 := by simp [stepAt, *, -ByteArray.size_extract]
  have e1 : oneE s i = 6 := by rw [oneE, st]
  have e2 : oneT s i = ⟨0, 0, (⟨#[]⟩ : ByteArray), 0⟩ := by rw [oneT, st]
  rw [e1, e2]
  have hb := byt_nonneg s i
  have hb2 := byt_le s i
  have rl := runTo_le alnumB s i (by omega)
  have rg := runTo_ge alnumB s i
  have rs := size_run alnumB s i (by omega)
  go_enter Try.func52, Try.ntmps52
  go_wp2_with (first | (go_at_call 81; refine Calls.same (rletter_any _ _) ?_) | (go_at_call 84; refine Calls.same (rdigit_any _ _) ?_) | (go_at_call 82; refine Calls.same (run_names _ _ (by omega) hs _) ?_) | (go_at_call 85; refine Calls.same (rnumber_any _ hD hDs _) ?_) | (go_at_call 83; refine' Calls.aft _ _ (rword_any _ _) _; rotate_left 2; (first | (with_reducible exact After.below _; rfl) | (with_reducible exact below_drew (After.below _); rfl) | (with_reducible exact below_set (After.below _) _ _; (go_simp; rfl)) | (with_reducible exact below_set (below_set (After.below _) _ _) _ _; (go_simp; rfl)) | (with_reducible exact below_set (below_set (below_set (After.below _) _ _) _ _) _ _; (go_simp; rfl)) | (with_reducible exact below_set (below_set (below_set (below_set (After.below _) _ _) _ _) _ _) _ _; (go_simp; rfl)) | (exact Below.refl _ _; rfl)); intro x1; have hle := After.le x1; (try simp at hle)) | (go_at_call 86; refine' Calls.aft _ _ (rsign_any _ _) _; rotate_left 2; (first | (with_reducible exact After.below _; rfl) | (with_reducible exact below_drew (After.below _); rfl) | (with_reducible exact below_set (After.below _) _ _; (go_simp; rfl)) | (with_reducible exact below_set (below_set (After.below _) _ _) _ _; (go_simp; rfl)) | (with_reducible exact below_set (below_set (below_set (After.below _) _ _) _ _) _ _; (go_simp; rfl)) | (with_reducible exact below_set (below_set (below_set (below_set (After.below _) _ _) _ _) _ _) _ _; (go_simp; rfl)) | (exact Below.refl _ _; rfl)); intro x2; have hle := After.le x2; (try simp at hle)))
  all_goals first | (exfalso; omega) | (exfalso; simp_all; done) | (exfalso; simp_all; omega) | (refine bodyPost_ret (v := .tuple #[.agg #[.int .i64 0, .int .i64 0, .string (⟨#[]⟩ : ByteArray), .int .i64 0], .int .i64 6]) (by simp only [results, Try.results52]; go_simp) rfl ⟨rfl, ?_⟩; have := trivial; (try have hz1 := x1.le); (try have hz2 := x2.le); (try have hz3 := x3.le); (try simp at hz1); (try simp at hz2); (try simp at hz3); (repeat (first | exact Below.refl _ _ | apply Below.drew | refine Below.alloc ?_ ?_ _ | refine Below.setCell ?_ ?_ _ | refine Below.trans ?_ (Below.mono (After.below _) ?_))); (all_goals (first | (simp; done) | (simp; omega) | omega)))

set_option maxRecDepth 100000 in
theorem one_name (s : ByteArray) (i : Nat) (hi : i < s.size) (hs : s.size ≤ 16384) (b1 : blankB (byt s i) = false) (b2 : ¬ byt s i = 35) (l : letterB (byt s i) = true) (g : wordB (s.extract i (runTo alnumB s i)) = false) (z : ¬ 12 < (s.extract i (runTo alnumB s i)).size) (w : World) :
    Calls Try.prog 52 #[.string s, .int .i64 i] w fun e w' => e = .returned (.tuple #[.agg #[.int .i64 (oneT s i).kind, .int .i64 (oneT s i).pos, .string (oneT s i).s, .int .i64 (oneT s i).n], .int .i64 (oneE s i)]) ∧ Below w.heap.size w w' := by
  have st : stepAt s i = .tok ⟨1, i, (s.extract i (runTo alnumB s i)), 0⟩ := by simp [stepAt, *, -ByteArray.size_extract]
  have e1 : oneE s i = 0 := by rw [oneE, st]
  have e2 : oneT s i = ⟨1, (i : Int), (s.extract i (runTo alnumB s i)), 0⟩ := by rw [oneT, st]
  rw [e1, e2]
  have hb := byt_nonneg s i
  have hb2 := byt_le s i
  have rl := runTo_le alnumB s i (by omega)
  have rg := runTo_ge alnumB s i
  have rs := size_run alnumB s i (by omega)
  go_enter Try.func52, Try.ntmps52
  go_wp2_with (first | (go_at_call 81; refine Calls.same (rletter_any _ _) ?_) | (go_at_call 84; refine Calls.same (rdigit_any _ _) ?_) | (go_at_call 82; refine Calls.same (run_names _ _ (by omega) hs _) ?_) | (go_at_call 85; refine Calls.same (rnumber_any _ hD hDs _) ?_) | (go_at_call 83; refine' Calls.aft _ _ (rword_any _ _) _; rotate_left 2; (first | (with_reducible exact After.below _; rfl) | (with_reducible exact below_drew (After.below _); rfl) | (with_reducible exact below_set (After.below _) _ _; (go_simp; rfl)) | (with_reducible exact below_set (below_set (After.below _) _ _) _ _; (go_simp; rfl)) | (with_reducible exact below_set (below_set (below_set (After.below _) _ _) _ _) _ _; (go_simp; rfl)) | (with_reducible exact below_set (below_set (below_set (below_set (After.below _) _ _) _ _) _ _) _ _; (go_simp; rfl)) | (exact Below.refl _ _; rfl)); intro x1; have hle := After.le x1; (try simp at hle)) | (go_at_call 86; refine' Calls.aft _ _ (rsign_any _ _) _; rotate_left 2; (first | (with_reducible exact After.below _; rfl) | (with_reducible exact below_drew (After.below _); rfl) | (with_reducible exact below_set (After.below _) _ _; (go_simp; rfl)) | (with_reducible exact below_set (below_set (After.below _) _ _) _ _; (go_simp; rfl)) | (with_reducible exact below_set (below_set (below_set (After.below _) _ _) _ _) _ _; (go_simp; rfl)) | (with_reducible exact below_set (below_set (below_set (below_set (After.below _) _ _) _ _) _ _) _ _; (go_simp; rfl)) | (exact Below.refl _ _; rfl)); intro x2; have hle := After.le x2; (try simp at hle)))
  all_goals first | (exfalso; omega) | (exfalso; simp_all; done) | (exfalso; simp_all; omega) | (refine bodyPost_ret (v := .tuple #[.agg #[.int .i64 1, .int .i64 (i : Int), .string (s.extract i (runTo alnumB s i)), .int .i64 0], .int .i64 0]) (by simp only [results, Try.results52]; go_simp) rfl ⟨rfl, ?_⟩; have := trivial; (try have hz1 := x1.le); (try have hz2 := x2.le); (try have hz3 := x3.le); (try simp at hz1); (try simp at hz2); (try simp at hz3); (repeat (first | exact Below.refl _ _ | apply Below.drew | refine Below.alloc ?_ ?_ _ | refine Below.setCell ?_ ?_ _ | refine Below.trans ?_ (Below.mono (After.below _) ?_))); (all_goals (first | (simp; done) | (simp; omega) | omega)))

set_option maxRecDepth 100000 in
theorem one_great (s : ByteArray) (i : Nat) (hi : i < s.size) (hs : s.size ≤ 16384) (b1 : blankB (byt s i) = false) (b2 : ¬ byt s i = 35) (l : letterB (byt s i) = false)(d : digitB (byt s i) = true) (g : 32768 < num (s.extract i (runTo digitB s i))) (w : World) :
    Calls Try.prog 52 #[.string s, .int .i64 i] w fun e w' => e = .returned (.tuple #[.agg #[.int .i64 (oneT s i).kind, .int .i64 (oneT s i).pos, .string (oneT s i).s, .int .i64 (oneT s i).n], .int .i64 (oneE s i)]) ∧ Below w.heap.size w w' := by
  have st : stepAt s i = .bad 6 := by simp [stepAt, *, -ByteArray.size_extract]
  have e1 : oneE s i = 6 := by rw [oneE, st]
  have e2 : oneT s i = ⟨0, 0, (⟨#[]⟩ : ByteArray), 0⟩ := by rw [oneT, st]
  rw [e1, e2]
  have hb := byt_nonneg s i
  have hb2 := byt_le s i
  have rl := runTo_le digitB s i (by omega)
  have rg : i < runTo digitB s i := by rw [runTo_go hi d]; exact runTo_ge _ _ _
  have rs := size_run digitB s i (by omega)
  have rg2 := runTo_ge digitB s i
  have hD := digits_run s i (by omega)
  have hDs : (s.extract i (runTo digitB s i)).size ≤ 16384 := by omega
  have hb3 := byt_nonneg (s.extract i (runTo digitB s i)) 0
  have hb4 := byt_le (s.extract i (runTo digitB s i)) 0
  go_enter Try.func52, Try.ntmps52
  go_wp2_with (first | (go_at_call 81; refine Calls.same (rletter_any _ _) ?_) | (go_at_call 84; refine Calls.same (rdigit_any _ _) ?_) | (go_at_call 82; refine Calls.same (run_digits _ _ (by omega) hs _) ?_) | (go_at_call 85; refine Calls.same (rnumber_any _ hD hDs _) ?_) | (go_at_call 83; refine' Calls.aft _ _ (rword_any _ _) _; rotate_left 2; (first | (with_reducible exact After.below _; rfl) | (with_reducible exact below_drew (After.below _); rfl) | (with_reducible exact below_set (After.below _) _ _; (go_simp; rfl)) | (with_reducible exact below_set (below_set (After.below _) _ _) _ _; (go_simp; rfl)) | (with_reducible exact below_set (below_set (below_set (After.below _) _ _) _ _) _ _; (go_simp; rfl)) | (with_reducible exact below_set (below_set (below_set (below_set (After.below _) _ _) _ _) _ _) _ _; (go_simp; rfl)) | (exact Below.refl _ _; rfl)); intro x1; have hle := After.le x1; (try simp at hle)) | (go_at_call 86; refine' Calls.aft _ _ (rsign_any _ _) _; rotate_left 2; (first | (with_reducible exact After.below _; rfl) | (with_reducible exact below_drew (After.below _); rfl) | (with_reducible exact below_set (After.below _) _ _; (go_simp; rfl)) | (with_reducible exact below_set (below_set (After.below _) _ _) _ _; (go_simp; rfl)) | (with_reducible exact below_set (below_set (below_set (After.below _) _ _) _ _) _ _; (go_simp; rfl)) | (with_reducible exact below_set (below_set (below_set (below_set (After.below _) _ _) _ _) _ _) _ _; (go_simp; rfl)) | (exact Below.refl _ _; rfl)); intro x2; have hle := After.le x2; (try simp at hle)))
  all_goals first | (exfalso; omega) | (exfalso; simp_all; done) | (exfalso; simp_all; omega) | (refine bodyPost_ret (v := .tuple #[.agg #[.int .i64 0, .int .i64 0, .string (⟨#[]⟩ : ByteArray), .int .i64 0], .int .i64 6]) (by simp only [results, Try.results52]; go_simp) rfl ⟨rfl, ?_⟩; have := trivial; (try have hz1 := x1.le); (try have hz2 := x2.le); (try have hz3 := x3.le); (try simp at hz1); (try simp at hz2); (try simp at hz3); (repeat (first | exact Below.refl _ _ | apply Below.drew | refine Below.alloc ?_ ?_ _ | refine Below.setCell ?_ ?_ _ | refine Below.trans ?_ (Below.mono (After.below _) ?_))); (all_goals (first | (simp; done) | (simp; omega) | omega)))

set_option maxHeartbeats 1000000 in
set_option maxRecDepth 100000 in
theorem one_zero (s : ByteArray) (i : Nat) (hi : i < s.size) (hs : s.size ≤ 16384) (b1 : blankB (byt s i) = false) (b2 : ¬ byt s i = 35) (l : letterB (byt s i) = false)(d : digitB (byt s i) = true) (g : ¬ 32768 < num (s.extract i (runTo digitB s i))) (z1 : 1 < (s.extract i (runTo digitB s i)).size) (z2 : byt (s.extract i (runTo digitB s i)) 0 = 48) (w : World) :
    Calls Try.prog 52 #[.string s, .int .i64 i] w fun e w' => e = .returned (.tuple #[.agg #[.int .i64 (oneT s i).kind, .int .i64 (oneT s i).pos, .string (oneT s i).s, .int .i64 (oneT s i).n], .int .i64 (oneE s i)]) ∧ Below w.heap.size w w' := by
  have st : stepAt s i = .bad 3 := by simp [stepAt, *, -ByteArray.size_extract]
  have e1 : oneE s i = 3 := by rw [oneE, st]
  have e2 : oneT s i = ⟨0, 0, (⟨#[]⟩ : ByteArray), 0⟩ := by rw [oneT, st]
  rw [e1, e2]
  have hb := byt_nonneg s i
  have hb2 := byt_le s i
  have rl := runTo_le digitB s i (by omega)
  have rg : i < runTo digitB s i := by rw [runTo_go hi d]; exact runTo_ge _ _ _
  have rs := size_run digitB s i (by omega)
  have rg2 := runTo_ge digitB s i
  have hD := digits_run s i (by omega)
  have hDs : (s.extract i (runTo digitB s i)).size ≤ 16384 := by omega
  have hb3 := byt_nonneg (s.extract i (runTo digitB s i)) 0
  have hb4 := byt_le (s.extract i (runTo digitB s i)) 0
  have z3 : byt s i = 48 := by rw [← z2]; exact (byt_first s i _ rg rl).symm
  go_enter Try.func52, Try.ntmps52
  go_wp2_with (first | (go_at_call 81; refine Calls.same (rletter_any _ _) ?_) | (go_at_call 84; refine Calls.same (rdigit_any _ _) ?_) | (go_at_call 82; refine Calls.same (run_digits _ _ (by omega) hs _) ?_) | (go_at_call 85; refine Calls.same (rnumber_any _ hD hDs _) ?_) | (go_at_call 83; refine' Calls.aft _ _ (rword_any _ _) _; rotate_left 2; (first | (with_reducible exact After.below _; rfl) | (with_reducible exact below_drew (After.below _); rfl) | (with_reducible exact below_set (After.below _) _ _; (go_simp; rfl)) | (with_reducible exact below_set (below_set (After.below _) _ _) _ _; (go_simp; rfl)) | (with_reducible exact below_set (below_set (below_set (After.below _) _ _) _ _) _ _; (go_simp; rfl)) | (with_reducible exact below_set (below_set (below_set (below_set (After.below _) _ _) _ _) _ _) _ _; (go_simp; rfl)) | (exact Below.refl _ _; rfl)); intro x1; have hle := After.le x1; (try simp at hle)) | (go_at_call 86; refine' Calls.aft _ _ (rsign_any _ _) _; rotate_left 2; (first | (with_reducible exact After.below _; rfl) | (with_reducible exact below_drew (After.below _); rfl) | (with_reducible exact below_set (After.below _) _ _; (go_simp; rfl)) | (with_reducible exact below_set (below_set (After.below _) _ _) _ _; (go_simp; rfl)) | (with_reducible exact below_set (below_set (below_set (After.below _) _ _) _ _) _ _; (go_simp; rfl)) | (with_reducible exact below_set (below_set (below_set (below_set (After.below _) _ _) _ _) _ _) _ _; (go_simp; rfl)) | (exact Below.refl _ _; rfl)); intro x2; have hle := After.le x2; (try simp at hle)))
  all_goals first | (exfalso; omega) | (exfalso; simp_all; done) | (exfalso; simp_all; omega) | (refine bodyPost_ret (v := .tuple #[.agg #[.int .i64 0, .int .i64 0, .string (⟨#[]⟩ : ByteArray), .int .i64 0], .int .i64 3]) (by simp only [results, Try.results52]; go_simp) rfl ⟨rfl, ?_⟩; have := trivial; (try have hz1 := x1.le); (try have hz2 := x2.le); (try have hz3 := x3.le); (try simp at hz1); (try simp at hz2); (try simp at hz3); (repeat (first | exact Below.refl _ _ | apply Below.drew | refine Below.alloc ?_ ?_ _ | refine Below.setCell ?_ ?_ _ | refine Below.trans ?_ (Below.mono (After.below _) ?_))); (all_goals (first | (simp; done) | (simp; omega) | omega)))

set_option maxHeartbeats 1000000 in
set_option maxRecDepth 100000 in
theorem one_num1 (s : ByteArray) (i : Nat) (hi : i < s.size) (hs : s.size ≤ 16384) (b1 : blankB (byt s i) = false) (b2 : ¬ byt s i = 35) (l : letterB (byt s i) = false)(d : digitB (byt s i) = true) (g : ¬ 32768 < num (s.extract i (runTo digitB s i))) (z1 : ¬ 1 < (s.extract i (runTo digitB s i)).size) (w : World) :
    Calls Try.prog 52 #[.string s, .int .i64 i] w fun e w' => e = .returned (.tuple #[.agg #[.int .i64 (oneT s i).kind, .int .i64 (oneT s i).pos, .string (oneT s i).s, .int .i64 (oneT s i).n], .int .i64 (oneE s i)]) ∧ Below w.heap.size w w' := by
  have st : stepAt s i = .tok ⟨2, i, (s.extract i (runTo digitB s i)), num (s.extract i (runTo digitB s i))⟩ := by simp [stepAt, *, -ByteArray.size_extract]
  have e1 : oneE s i = 0 := by rw [oneE, st]
  have e2 : oneT s i = ⟨2, (i : Int), (s.extract i (runTo digitB s i)), (num (s.extract i (runTo digitB s i)))⟩ := by rw [oneT, st]
  rw [e1, e2]
  have hb := byt_nonneg s i
  have hb2 := byt_le s i
  have rl := runTo_le digitB s i (by omega)
  have rg : i < runTo digitB s i := by rw [runTo_go hi d]; exact runTo_ge _ _ _
  have rs := size_run digitB s i (by omega)
  have rg2 := runTo_ge digitB s i
  have hD := digits_run s i (by omega)
  have hDs : (s.extract i (runTo digitB s i)).size ≤ 16384 := by omega
  have hb3 := byt_nonneg (s.extract i (runTo digitB s i)) 0
  have hb4 := byt_le (s.extract i (runTo digitB s i)) 0
  go_enter Try.func52, Try.ntmps52
  go_wp2_with (first | (go_at_call 81; refine Calls.same (rletter_any _ _) ?_) | (go_at_call 84; refine Calls.same (rdigit_any _ _) ?_) | (go_at_call 82; refine Calls.same (run_digits _ _ (by omega) hs _) ?_) | (go_at_call 85; refine Calls.same (rnumber_any _ hD hDs _) ?_) | (go_at_call 83; refine' Calls.aft _ _ (rword_any _ _) _; rotate_left 2; (first | (with_reducible exact After.below _; rfl) | (with_reducible exact below_drew (After.below _); rfl) | (with_reducible exact below_set (After.below _) _ _; (go_simp; rfl)) | (with_reducible exact below_set (below_set (After.below _) _ _) _ _; (go_simp; rfl)) | (with_reducible exact below_set (below_set (below_set (After.below _) _ _) _ _) _ _; (go_simp; rfl)) | (with_reducible exact below_set (below_set (below_set (below_set (After.below _) _ _) _ _) _ _) _ _; (go_simp; rfl)) | (exact Below.refl _ _; rfl)); intro x1; have hle := After.le x1; (try simp at hle)) | (go_at_call 86; refine' Calls.aft _ _ (rsign_any _ _) _; rotate_left 2; (first | (with_reducible exact After.below _; rfl) | (with_reducible exact below_drew (After.below _); rfl) | (with_reducible exact below_set (After.below _) _ _; (go_simp; rfl)) | (with_reducible exact below_set (below_set (After.below _) _ _) _ _; (go_simp; rfl)) | (with_reducible exact below_set (below_set (below_set (After.below _) _ _) _ _) _ _; (go_simp; rfl)) | (with_reducible exact below_set (below_set (below_set (below_set (After.below _) _ _) _ _) _ _) _ _; (go_simp; rfl)) | (exact Below.refl _ _; rfl)); intro x2; have hle := After.le x2; (try simp at hle)))
  all_goals first | (exfalso; omega) | (exfalso; simp_all; done) | (exfalso; simp_all; omega) | (refine bodyPost_ret (v := .tuple #[.agg #[.int .i64 2, .int .i64 (i : Int), .string (s.extract i (runTo digitB s i)), .int .i64 (num (s.extract i (runTo digitB s i)))], .int .i64 0]) (by simp only [results, Try.results52]; go_simp) rfl ⟨rfl, ?_⟩; have := trivial; (try have hz1 := x1.le); (try have hz2 := x2.le); (try have hz3 := x3.le); (try simp at hz1); (try simp at hz2); (try simp at hz3); (repeat (first | exact Below.refl _ _ | apply Below.drew | refine Below.alloc ?_ ?_ _ | refine Below.setCell ?_ ?_ _ | refine Below.trans ?_ (Below.mono (After.below _) ?_))); (all_goals (first | (simp; done) | (simp; omega) | omega)))

set_option maxHeartbeats 1000000 in
set_option maxRecDepth 100000 in
theorem one_num2 (s : ByteArray) (i : Nat) (hi : i < s.size) (hs : s.size ≤ 16384) (b1 : blankB (byt s i) = false) (b2 : ¬ byt s i = 35) (l : letterB (byt s i) = false)(d : digitB (byt s i) = true) (g : ¬ 32768 < num (s.extract i (runTo digitB s i))) (z1 : 1 < (s.extract i (runTo digitB s i)).size) (z2 : ¬ byt (s.extract i (runTo digitB s i)) 0 = 48) (w : World) :
    Calls Try.prog 52 #[.string s, .int .i64 i] w fun e w' => e = .returned (.tuple #[.agg #[.int .i64 (oneT s i).kind, .int .i64 (oneT s i).pos, .string (oneT s i).s, .int .i64 (oneT s i).n], .int .i64 (oneE s i)]) ∧ Below w.heap.size w w' := by
  have st : stepAt s i = .tok ⟨2, i, (s.extract i (runTo digitB s i)), num (s.extract i (runTo digitB s i))⟩ := by simp [stepAt, *, -ByteArray.size_extract]
  have e1 : oneE s i = 0 := by rw [oneE, st]
  have e2 : oneT s i = ⟨2, (i : Int), (s.extract i (runTo digitB s i)), (num (s.extract i (runTo digitB s i)))⟩ := by rw [oneT, st]
  rw [e1, e2]
  have hb := byt_nonneg s i
  have hb2 := byt_le s i
  have rl := runTo_le digitB s i (by omega)
  have rg : i < runTo digitB s i := by rw [runTo_go hi d]; exact runTo_ge _ _ _
  have rs := size_run digitB s i (by omega)
  have rg2 := runTo_ge digitB s i
  have hD := digits_run s i (by omega)
  have hDs : (s.extract i (runTo digitB s i)).size ≤ 16384 := by omega
  have hb3 := byt_nonneg (s.extract i (runTo digitB s i)) 0
  have hb4 := byt_le (s.extract i (runTo digitB s i)) 0
  have z3 : ¬ byt s i = 48 := by rw [← byt_first s i _ rg rl]; exact z2
  go_enter Try.func52, Try.ntmps52
  go_wp2_with (first | (go_at_call 81; refine Calls.same (rletter_any _ _) ?_) | (go_at_call 84; refine Calls.same (rdigit_any _ _) ?_) | (go_at_call 82; refine Calls.same (run_digits _ _ (by omega) hs _) ?_) | (go_at_call 85; refine Calls.same (rnumber_any _ hD hDs _) ?_) | (go_at_call 83; refine' Calls.aft _ _ (rword_any _ _) _; rotate_left 2; (first | (with_reducible exact After.below _; rfl) | (with_reducible exact below_drew (After.below _); rfl) | (with_reducible exact below_set (After.below _) _ _; (go_simp; rfl)) | (with_reducible exact below_set (below_set (After.below _) _ _) _ _; (go_simp; rfl)) | (with_reducible exact below_set (below_set (below_set (After.below _) _ _) _ _) _ _; (go_simp; rfl)) | (with_reducible exact below_set (below_set (below_set (below_set (After.below _) _ _) _ _) _ _) _ _; (go_simp; rfl)) | (exact Below.refl _ _; rfl)); intro x1; have hle := After.le x1; (try simp at hle)) | (go_at_call 86; refine' Calls.aft _ _ (rsign_any _ _) _; rotate_left 2; (first | (with_reducible exact After.below _; rfl) | (with_reducible exact below_drew (After.below _); rfl) | (with_reducible exact below_set (After.below _) _ _; (go_simp; rfl)) | (with_reducible exact below_set (below_set (After.below _) _ _) _ _; (go_simp; rfl)) | (with_reducible exact below_set (below_set (below_set (After.below _) _ _) _ _) _ _; (go_simp; rfl)) | (with_reducible exact below_set (below_set (below_set (below_set (After.below _) _ _) _ _) _ _) _ _; (go_simp; rfl)) | (exact Below.refl _ _; rfl)); intro x2; have hle := After.le x2; (try simp at hle)))
  all_goals first | (exfalso; omega) | (exfalso; simp_all; done) | (exfalso; simp_all; omega) | (refine bodyPost_ret (v := .tuple #[.agg #[.int .i64 2, .int .i64 (i : Int), .string (s.extract i (runTo digitB s i)), .int .i64 (num (s.extract i (runTo digitB s i)))], .int .i64 0]) (by simp only [results, Try.results52]; go_simp) rfl ⟨rfl, ?_⟩; have := trivial; (try have hz1 := x1.le); (try have hz2 := x2.le); (try have hz3 := x3.le); (try simp at hz1); (try simp at hz2); (try simp at hz3); (repeat (first | exact Below.refl _ _ | apply Below.drew | refine Below.alloc ?_ ?_ _ | refine Below.setCell ?_ ?_ _ | refine Below.trans ?_ (Below.mono (After.below _) ?_))); (all_goals (first | (simp; done) | (simp; omega) | omega)))

set_option maxRecDepth 100000 in
theorem one_sign (s : ByteArray) (i : Nat) (hi : i < s.size) (hs : s.size ≤ 16384) (b1 : blankB (byt s i) = false) (b2 : ¬ byt s i = 35) (l : letterB (byt s i) = false)(d : digitB (byt s i) = false) (g : signB (byt s i) = true) (w : World) :
    Calls Try.prog 52 #[.string s, .int .i64 i] w fun e w' => e = .returned (.tuple #[.agg #[.int .i64 (oneT s i).kind, .int .i64 (oneT s i).pos, .string (oneT s i).s, .int .i64 (oneT s i).n], .int .i64 (oneE s i)]) ∧ Below w.heap.size w w' := by
  have st : stepAt s i = .tok ⟨3, i, s.extract i (i + 1), 0⟩ := by simp [stepAt, *, -ByteArray.size_extract]
  have e1 : oneE s i = 0 := by rw [oneE, st]
  have e2 : oneT s i = ⟨3, (i : Int), (s.extract i (i + 1)), 0⟩ := by rw [oneT, st]
  rw [e1, e2]
  have hb := byt_nonneg s i
  have hb2 := byt_le s i
  have sl := slice_one s i hi
  go_enter Try.func52, Try.ntmps52
  go_wp2_with (first | (go_at_call 81; refine Calls.same (rletter_any _ _) ?_) | (go_at_call 84; refine Calls.same (rdigit_any _ _) ?_) | (go_at_call 82; refine Calls.same (run_digits _ _ (by omega) hs _) ?_) | (go_at_call 85; refine Calls.same (rnumber_any _ hD hDs _) ?_) | (go_at_call 83; refine' Calls.aft _ _ (rword_any _ _) _; rotate_left 2; (first | (with_reducible exact After.below _; rfl) | (with_reducible exact below_drew (After.below _); rfl) | (with_reducible exact below_set (After.below _) _ _; (go_simp; rfl)) | (with_reducible exact below_set (below_set (After.below _) _ _) _ _; (go_simp; rfl)) | (with_reducible exact below_set (below_set (below_set (After.below _) _ _) _ _) _ _; (go_simp; rfl)) | (with_reducible exact below_set (below_set (below_set (below_set (After.below _) _ _) _ _) _ _) _ _; (go_simp; rfl)) | (exact Below.refl _ _; rfl)); intro x1; have hle := After.le x1; (try simp at hle)) | (go_at_call 86; refine' Calls.aft _ _ (rsign_any _ _) _; rotate_left 2; (first | (with_reducible exact After.below _; rfl) | (with_reducible exact below_drew (After.below _); rfl) | (with_reducible exact below_set (After.below _) _ _; (go_simp; rfl)) | (with_reducible exact below_set (below_set (After.below _) _ _) _ _; (go_simp; rfl)) | (with_reducible exact below_set (below_set (below_set (After.below _) _ _) _ _) _ _; (go_simp; rfl)) | (with_reducible exact below_set (below_set (below_set (below_set (After.below _) _ _) _ _) _ _) _ _; (go_simp; rfl)) | (exact Below.refl _ _; rfl)); intro x2; have hle := After.le x2; (try simp at hle)))
  all_goals first | (exfalso; omega) | (exfalso; simp_all; done) | (exfalso; simp_all; omega) | (refine bodyPost_ret (v := .tuple #[.agg #[.int .i64 3, .int .i64 (i : Int), .string (s.extract i (i + 1)), .int .i64 0], .int .i64 0]) (by simp only [results, Try.results52]; go_simp) rfl ⟨rfl, ?_⟩; have := trivial; (try have hz1 := x1.le); (try have hz2 := x2.le); (try have hz3 := x3.le); (try simp at hz1); (try simp at hz2); (try simp at hz3); (repeat (first | exact Below.refl _ _ | apply Below.drew | refine Below.alloc ?_ ?_ _ | refine Below.setCell ?_ ?_ _ | refine Below.trans ?_ (Below.mono (After.below _) ?_))); (all_goals (first | (simp; done) | (simp; omega) | omega)))

set_option maxRecDepth 100000 in
theorem one_none (s : ByteArray) (i : Nat) (hi : i < s.size) (hs : s.size ≤ 16384) (b1 : blankB (byt s i) = false) (b2 : ¬ byt s i = 35) (l : letterB (byt s i) = false)(d : digitB (byt s i) = false) (g : signB (byt s i) = false) (w : World) :
    Calls Try.prog 52 #[.string s, .int .i64 i] w fun e w' => e = .returned (.tuple #[.agg #[.int .i64 (oneT s i).kind, .int .i64 (oneT s i).pos, .string (oneT s i).s, .int .i64 (oneT s i).n], .int .i64 (oneE s i)]) ∧ Below w.heap.size w w' := by
  have st : stepAt s i = .bad 3 := by simp [stepAt, *, -ByteArray.size_extract]
  have e1 : oneE s i = 3 := by rw [oneE, st]
  have e2 : oneT s i = ⟨0, 0, (⟨#[]⟩ : ByteArray), 0⟩ := by rw [oneT, st]
  rw [e1, e2]
  have hb := byt_nonneg s i
  have hb2 := byt_le s i
  go_enter Try.func52, Try.ntmps52
  go_wp2_with (first | (go_at_call 81; refine Calls.same (rletter_any _ _) ?_) | (go_at_call 84; refine Calls.same (rdigit_any _ _) ?_) | (go_at_call 82; refine Calls.same (run_digits _ _ (by omega) hs _) ?_) | (go_at_call 85; refine Calls.same (rnumber_any _ hD hDs _) ?_) | (go_at_call 83; refine' Calls.aft _ _ (rword_any _ _) _; rotate_left 2; (first | (with_reducible exact After.below _; rfl) | (with_reducible exact below_drew (After.below _); rfl) | (with_reducible exact below_set (After.below _) _ _; (go_simp; rfl)) | (with_reducible exact below_set (below_set (After.below _) _ _) _ _; (go_simp; rfl)) | (with_reducible exact below_set (below_set (below_set (After.below _) _ _) _ _) _ _; (go_simp; rfl)) | (with_reducible exact below_set (below_set (below_set (below_set (After.below _) _ _) _ _) _ _) _ _; (go_simp; rfl)) | (exact Below.refl _ _; rfl)); intro x1; have hle := After.le x1; (try simp at hle)) | (go_at_call 86; refine' Calls.aft _ _ (rsign_any _ _) _; rotate_left 2; (first | (with_reducible exact After.below _; rfl) | (with_reducible exact below_drew (After.below _); rfl) | (with_reducible exact below_set (After.below _) _ _; (go_simp; rfl)) | (with_reducible exact below_set (below_set (After.below _) _ _) _ _; (go_simp; rfl)) | (with_reducible exact below_set (below_set (below_set (After.below _) _ _) _ _) _ _; (go_simp; rfl)) | (with_reducible exact below_set (below_set (below_set (below_set (After.below _) _ _) _ _) _ _) _ _; (go_simp; rfl)) | (exact Below.refl _ _; rfl)); intro x2; have hle := After.le x2; (try simp at hle)))
  all_goals first | (exfalso; omega) | (exfalso; simp_all; done) | (exfalso; simp_all; omega) | (refine bodyPost_ret (v := .tuple #[.agg #[.int .i64 0, .int .i64 0, .string (⟨#[]⟩ : ByteArray), .int .i64 0], .int .i64 3]) (by simp only [results, Try.results52]; go_simp) rfl ⟨rfl, ?_⟩; have := trivial; (try have hz1 := x1.le); (try have hz2 := x2.le); (try have hz3 := x3.le); (try simp at hz1); (try simp at hz2); (try simp at hz3); (repeat (first | exact Below.refl _ _ | apply Below.drew | refine Below.alloc ?_ ?_ _ | refine Below.setCell ?_ ?_ _ | refine Below.trans ?_ (Below.mono (After.below _) ?_))); (all_goals (first | (simp; done) | (simp; omega) | omega)))

theorem one_any (s : ByteArray) (i : Nat) (hi : i < s.size) (hs : s.size ≤ 16384) (b1 : blankB (byt s i) = false) (b2 : ¬ byt s i = 35) (w : World) :
    Calls Try.prog 52 #[.string s, .int .i64 i] w fun e w' => e = .returned (.tuple #[.agg #[.int .i64 (oneT s i).kind, .int .i64 (oneT s i).pos, .string (oneT s i).s, .int .i64 (oneT s i).n], .int .i64 (oneE s i)]) ∧ Below w.heap.size w w' := by
  cases l : letterB (byt s i)
  · cases d : digitB (byt s i)
    · cases g : signB (byt s i)
      · exact one_none s i hi hs b1 b2 l d g w
      · exact one_sign s i hi hs b1 b2 l d g w
    · by_cases g : 32768 < num (s.extract i (runTo digitB s i))
      · exact one_great s i hi hs b1 b2 l d g w
      · by_cases z1 : 1 < (s.extract i (runTo digitB s i)).size
        · by_cases z2 : byt (s.extract i (runTo digitB s i)) 0 = 48
          · exact one_zero s i hi hs b1 b2 l d g z1 z2 w
          · exact one_num2 s i hi hs b1 b2 l d g z1 z2 w
        · exact one_num1 s i hi hs b1 b2 l d g z1 w
  · cases g : wordB (s.extract i (runTo alnumB s i))
    · by_cases z : 12 < (s.extract i (runTo alnumB s i)).size
      · exact one_long s i hi hs b1 b2 l g z w
      · exact one_name s i hi hs b1 b2 l g z w
    · exact one_word s i hi hs b1 b2 l g w

end Go.Proofs.Ytmnplnhblniimaa.Tk
