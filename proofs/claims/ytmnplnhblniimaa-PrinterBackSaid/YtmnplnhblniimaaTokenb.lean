/- Both packages' loops over a text's bytes: number, run. -/
import Derived.Test.YtmnplnhblniimaaToken
import Derived.LoopTactic
namespace Go.Proofs.Ytmnplnhblniimaa.Tk
set_option linter.unusedVariables false
set_option linter.unusedSimpArgs false
open Go Go.RowKit

@[go_sem] theorem byt_get (s : ByteArray) (i : Nat) (h : i < s.size) : ((s[i]'h).toNat : Int) = byt s i := by
  unfold byt
  congr 2
  obtain ⟨⟨s⟩⟩ := s
  have h' : i < s.length := h
  simp only [ByteArray.get!]
  show s[i] = _
  simp [Array.getElem!_eq_getD, Array.getD_eq_getD_getElem?, h']

def intOf : Value → Int | .int _ q => q | _ => 0

def numV (s : ByteArray) : Int := if num s > 32768 then 0 else num s
def numOk (s : ByteArray) : Bool := !decide (num s > 32768)

theorem num_over {s : ByteArray} (hd : digits s) {k : Nat} {m : Int} (hk : k < s.size) (h : 32768 < 10 * m + (byt s k - 48)) (hn : numAt s k m = num s) : numV s = 0 ∧ numOk s = false := by
  have e : min (10 * m + byt s k - 48) 32769 = 32769 := by omega
  rw [numAt_go hk, e, numAt_top hd] at hn
  simp [numV, numOk, ← hn]

theorem number_any (s : ByteArray) (hd : digits s) (hs : s.size ≤ 16384) (w : World) :
    Calls Try.prog 89 #[.string s] w fun e w' => e = .returned (.tuple #[.int .i64 (numV s), .bool (numOk s)]) ∧ w = w' := by
  go_enter Try.func89, Try.ntmps89
  go_wp2_with fail
  go_loop [4, 8] (fun n i => ∃ (k : Nat) (m : Int), k ≤ s.size ∧ i = .int .i64 k ∧ n = .int .i64 m ∧ 0 ≤ m ∧ m ≤ 32768 ∧ numAt s k m = num s) (fun _ i => s.size - (intOf i).toNat)
  case atStart => exact ⟨0, 0, Nat.zero_le _, rfl, rfl, by omega, by omega, rfl⟩
  case round =>
    obtain ⟨k, m, hk, rfl, rfl, h0, h1, hn⟩ := hrel
    have hb := byt_nonneg s k
    have hb2 := byt_le s k
    have hdk : k < s.size → 48 ≤ byt s k ∧ byt s k ≤ 57 := fun h => digit_ge (hd k h)
    go_wp2_with fail
    · have hlt : k < s.size := by assumption
      have hgt : 32768 < 10 * m + (byt s k - 48) := by assumption
      have ho := num_over hd hlt hgt hn
      rw [ho.1, ho.2]
      go_ret2
      exact ⟨rfl, rfl⟩
    · have hlt : k < s.size := by assumption
      have hle : 10 * m + (byt s k - 48) ≤ 32768 := by assumption
      refine ⟨⟨k + 1, _, by omega, by simp, rfl, by have := hdk hlt; omega, hle, ?_⟩, by simp [intOf]; omega⟩
      rw [← hn, numAt_go hlt]
      congr 1; omega
    · have hge : ¬ k < s.size := by assumption
      rw [numAt_end hge] at hn
      have e1 : numV s = m := by rw [numV, ← hn, if_neg (by omega)]
      have e2 : numOk s = true := by rw [numOk, ← hn]; simp; omega
      rw [e1, e2]
      go_ret2
      exact ⟨rfl, rfl⟩

theorem rnumber_any (s : ByteArray) (hd : digits s) (hs : s.size ≤ 16384) (w : World) :
    Calls Try.prog 85 #[.string s] w fun e w' => e = .returned (.int .i64 (num s)) ∧ w = w' := by
  go_enter Try.func85, Try.ntmps85
  go_wp2_with fail
  go_loop [3, 4] (fun n i => ∃ (k : Nat) (m : Int), k ≤ s.size ∧ i = .int .i64 k ∧ n = .int .i64 m ∧ 0 ≤ m ∧ m ≤ 32769 ∧ numAt s k m = num s) (fun _ i => s.size - (intOf i).toNat)
  case atStart => exact ⟨0, 0, Nat.zero_le _, rfl, rfl, by omega, by omega, rfl⟩
  case round =>
    obtain ⟨k, m, hk, rfl, rfl, h0, h1, hn⟩ := hrel
    have hb := byt_nonneg s k
    have hb2 := byt_le s k
    have hdk : k < s.size → 48 ≤ byt s k ∧ byt s k ≤ 57 := fun h => digit_ge (hd k h)
    go_wp2_with fail
    · have hlt : k < s.size := by assumption
      have := hdk hlt
      refine ⟨⟨k + 1, _, by omega, by simp, rfl, by split <;> omega, by split <;> omega, ?_⟩, by simp [intOf]; omega⟩
      rw [← hn, numAt_go hlt]
      congr 1; split <;> omega
    · have hge : ¬ k < s.size := by assumption
      rw [numAt_end hge] at hn
      subst hn
      go_ret
      exact ⟨rfl, rfl⟩

theorem run_digits (s : ByteArray) (i : Nat) (hi : i ≤ s.size) (hs : s.size ≤ 16384) (w : World) :
    Calls Try.prog 82 #[.string s, .int .i64 i, .bool true] w fun e w' => e = .returned (.int .i64 (runTo digitB s i)) ∧ w = w' := by
  go_enter Try.func82, Try.ntmps82
  go_wp2_with fail
  go_loop [1] (fun i' => ∃ (k : Nat), k ≤ s.size ∧ i' = .int .i64 k ∧ runTo digitB s k = runTo digitB s i) (fun i => s.size - (intOf i).toNat)
  case atStart => exact ⟨i, hi, rfl, rfl⟩
  case round =>
    obtain ⟨k, hk, rfl, hn⟩ := hrel
    have hb := byt_nonneg s k
    have hb2 := byt_le s k
    go_wp2_with ((go_at_call 84; refine Calls.same (rdigit_any _ _) ?_))
    · have hlt : k < s.size := by assumption
      have hd : digitB (byt s k) = true := by assumption
      exact ⟨⟨k + 1, by omega, by simp, by rw [← hn, runTo_go hlt hd]⟩, by simp [intOf]; omega⟩
    · have hd : ¬ digitB (byt s k) = true := by assumption
      rw [runTo_stop (fun _ => by simpa using hd)] at hn
      rw [← hn]
      go_ret
      exact ⟨rfl, rfl⟩
    · have hge : ¬ k < s.size := by assumption
      rw [runTo_stop (fun h => absurd h hge)] at hn
      rw [← hn]
      go_ret
      exact ⟨rfl, rfl⟩

theorem run_names (s : ByteArray) (i : Nat) (hi : i ≤ s.size) (hs : s.size ≤ 16384) (w : World) :
    Calls Try.prog 82 #[.string s, .int .i64 i, .bool false] w fun e w' => e = .returned (.int .i64 (runTo alnumB s i)) ∧ w = w' := by
  go_enter Try.func82, Try.ntmps82
  go_wp2_with fail
  go_loop [1] (fun i' => ∃ (k : Nat), k ≤ s.size ∧ i' = .int .i64 k ∧ runTo alnumB s k = runTo alnumB s i) (fun i => s.size - (intOf i).toNat)
  case atStart => exact ⟨i, hi, rfl, rfl⟩
  case round =>
    obtain ⟨k, hk, rfl, hn⟩ := hrel
    have hb := byt_nonneg s k
    have hb2 := byt_le s k
    go_wp2_with (first | (go_at_call 84; refine Calls.same (rdigit_any _ _) ?_) | (go_at_call 81; refine Calls.same (rletter_any _ _) ?_))
    · have hlt : k < s.size := by assumption
      have hd : digitB (byt s k) = true := by assumption
      exact ⟨⟨k + 1, by omega, by simp, by rw [← hn, runTo_go hlt (by simp [alnumB, hd])]⟩, by simp [intOf]; omega⟩
    · have hlt : k < s.size := by assumption
      have hd : letterB (byt s k) = true := by assumption
      exact ⟨⟨k + 1, by omega, by simp, by rw [← hn, runTo_go hlt (by simp [alnumB, hd])]⟩, by simp [intOf]; omega⟩
    · have hd : ¬ digitB (byt s k) = true := by assumption
      have hl : letterB (byt s k) = false := by assumption
      rw [runTo_stop (fun _ => by simp [alnumB, hl, hd])] at hn
      rw [← hn]
      go_ret
      exact ⟨rfl, rfl⟩
    · have hge : ¬ k < s.size := by assumption
      rw [runTo_stop (fun h => absurd h hge)] at hn
      rw [← hn]
      go_ret
      exact ⟨rfl, rfl⟩

end Go.Proofs.Ytmnplnhblniimaa.Tk
