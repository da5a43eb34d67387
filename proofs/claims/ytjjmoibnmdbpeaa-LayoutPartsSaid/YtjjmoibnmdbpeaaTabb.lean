/- PLAIN: a text put into a rising list, as a loop does it. -/
import Derived.Test.YtjjmoibnmdbpeaaTab
namespace Go.Proofs.Ytjjmoibnmdbpeaa.Pr
set_option linter.unusedVariables false
set_option linter.unusedSimpArgs false
open Go

structure PutSt where
  done : Bool
  out : List ByteArray
def stepP (s : ByteArray) (p : PutSt) (x : ByteArray) : PutSt :=
  match p.done with
  | true => ⟨true, p.out ++ [x]⟩
  | false => match ltS x s with
    | true => ⟨false, p.out ++ [x]⟩
    | false => match ltS s x with
      | true => ⟨true, (p.out ++ [s]) ++ [x]⟩
      | false => ⟨true, p.out ++ [x]⟩
def runP (s : ByteArray) (T : List ByteArray) (p : PutSt) : Nat → PutSt
  | 0 => p
  | k + 1 => match T[k]? with | some x => stepP s (runP s T p k) x | none => runP s T p k
def finP (s : ByteArray) (p : PutSt) : List ByteArray := match p.done with | true => p.out | false => p.out ++ [s]

theorem runP_foldl (s : ByteArray) (T : List ByteArray) (p : PutSt) : ∀ k, k ≤ T.length → runP s T p k = (T.take k).foldl (stepP s) p
  | 0, _ => rfl
  | k + 1, h => by
    have ih := runP_foldl s T p k (by omega)
    have hk : k < T.length := by omega
    rw [List.take_succ_eq_append_getElem hk, List.foldl_append, ← ih]
    simp only [runP, List.getElem?_eq_getElem hk, List.foldl_cons, List.foldl_nil]

theorem fold_done (s : ByteArray) : ∀ (T out : List ByteArray), T.foldl (stepP s) ⟨true, out⟩ = ⟨true, out ++ T⟩
  | [], out => by simp
  | x :: T, out => by
    rw [List.foldl_cons, show stepP s ⟨true, out⟩ x = ⟨true, out ++ [x]⟩ from rfl, fold_done s T]
    simp

theorem fold_put {s : ByteArray} (hs : s.size ≠ 0) : ∀ (T out : List ByteArray), Rise T → finP s (T.foldl (stepP s) ⟨false, out⟩) = out ++ putS T s
  | [], out, _ => by simp [finP, putS, hs, posS]
  | x :: T, out, hr => by
    obtain ⟨hx, hr'⟩ := List.pairwise_cons.1 hr
    rw [List.foldl_cons]
    cases h1 : ltS x s with
    | true =>
      rw [show stepP s ⟨false, out⟩ x = ⟨false, out ++ [x]⟩ by simp [stepP, h1], fold_put hs T _ hr']
      have e : posS (x :: T) s = posS T s + 1 := by simp [posS, h1]
      have e2 : putS (x :: T) s = x :: putS T s := by
        unfold putS
        rw [if_neg hs, if_neg hs, e]
        simp only [List.getElem?_cons_succ, List.take_succ_cons, List.drop_succ_cons]
        split <;> simp
      rw [e2]; simp
    | false =>
      have e : posS (x :: T) s = 0 := by simp [posS, h1]
      cases h2 : ltS s x with
      | true =>
        rw [show stepP s ⟨false, out⟩ x = ⟨true, (out ++ [s]) ++ [x]⟩ by simp [stepP, h1, h2], fold_done]
        have hne : ¬ (x = s) := fun h => by subst h; rw [ltS_irrefl] at h2; cases h2
        have e2 : putS (x :: T) s = s :: x :: T := by
          unfold putS
          rw [if_neg hs, e]
          simp [hne]
        rw [e2]; simp [finP]
      | false =>
        rw [show stepP s ⟨false, out⟩ x = ⟨true, out ++ [x]⟩ by simp [stepP, h1, h2], fold_done]
        have he : x = s := by
          by_cases h : x = s
          · exact h
          · have := ltS_total h1 h
            rw [h2] at this; cases this
        have e2 : putS (x :: T) s = x :: T := by
          unfold putS
          rw [if_neg hs, e]
          simp [he]
        rw [e2]; simp [finP]

def emptyB (s : ByteArray) : Bool := s.toList == []
theorem emptyB_iff (s : ByteArray) : emptyB s = true ↔ s.size = 0 := by
  unfold emptyB
  rw [ByteArray.toList_eq]
  cases s with
  | mk d => simp [ByteArray.size]

theorem put_is {T : List ByteArray} (hr : Rise T) (s : ByteArray) : finP s (runP s T ⟨emptyB s, []⟩ T.length) = putS T s := by
  rw [runP_foldl s T _ _ (Nat.le_refl _), List.take_length]
  cases h : emptyB s with
  | true =>
    rw [fold_done]
    have := (emptyB_iff s).1 h
    simp [finP, putS, this]
  | false =>
    rw [fold_put (fun h0 => by rw [(emptyB_iff s).2 h0] at h; cases h) T [] hr]
    simp

theorem runP_len (s : ByteArray) (T : List ByteArray) (p : PutSt) : ∀ k, (runP s T p k).out.length ≤ p.out.length + 2 * k
  | 0 => by simp [runP]
  | k + 1 => by
    have ih := runP_len s T p k
    simp only [runP]
    split
    · simp only [stepP]
      split
      · simp; omega
      · split
        · simp; omega
        · split <;> simp <;> omega
    · omega

end Go.Proofs.Ytjjmoibnmdbpeaa.Pr
