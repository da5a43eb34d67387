/- Chapter 2's example: the tokens of 'x=1'. -/
import Derived.Test.YthmcenlkhfdhfaaTok
namespace Go.Proofs.Ythmcenlkhfdhfaa.Tk
set_option linter.unusedVariables false
set_option linter.unusedSimpArgs false
open Go

def x1 : ByteArray := ⟨#[120, 61, 49]⟩
theorem x1_size : x1.size = 3 := rfl
theorem x1_0 : byt x1 0 = 120 := rfl
theorem x1_1 : byt x1 1 = 61 := rfl
theorem x1_2 : byt x1 2 = 49 := rfl
theorem x1_run0 : runTo alnumB x1 0 = 1 := by
  rw [runTo_go (by decide) (by decide), runTo_stop (fun _ => by decide)]
theorem x1_run2 : runTo digitB x1 2 = 3 := by
  rw [runTo_go (by decide) (by decide), runTo_stop (fun h => absurd h (by decide))]
theorem x1_num : num ⟨#[49]⟩ = 1 := by
  rw [num, numAt_go (by decide), numAt_end (by decide)]
  decide

theorem step0 : stepAt x1 0 = .tok ⟨1, 0, ⟨#[120]⟩, 0⟩ := by
  rw [stepAt, if_pos (by decide)]
  have e : x1.extract 0 1 = ⟨#[120]⟩ := rfl
  simp only [x1_0, x1_run0, e]
  rw [if_neg (by decide), if_neg (by decide), if_pos (by decide), if_neg (by decide +kernel), if_neg (by decide)]
  rfl
theorem step1 : stepAt x1 1 = .tok ⟨3, 1, ⟨#[61]⟩, 0⟩ := by
  rw [stepAt, if_pos (by decide)]
  have e : x1.extract 1 2 = ⟨#[61]⟩ := rfl
  simp only [x1_1, e]
  rw [if_neg (by decide), if_neg (by decide), if_neg (by decide), if_neg (by decide), if_pos (by decide)]
  rfl
theorem step2 : stepAt x1 2 = .tok ⟨2, 2, ⟨#[49]⟩, 1⟩ := by
  have e : x1.extract 2 3 = ⟨#[49]⟩ := rfl
  rw [stepAt, if_pos (by decide)]
  simp only [x1_2, x1_run2, e, x1_num]
  rw [if_neg (by decide), if_neg (by decide), if_neg (by decide), if_pos (by decide), if_neg (by decide), if_neg (by decide)]
  rfl
theorem step3 : stepAt x1 3 = .stop := by
  rw [stepAt, if_neg (by decide)]

theorem ofText_x1 : ofText x1 = ⟨[⟨1, 0, ⟨#[120]⟩, 0⟩, ⟨3, 1, ⟨#[61]⟩, 0⟩, ⟨2, 2, ⟨#[49]⟩, 1⟩, ⟨0, 3, bs [], 0⟩], 0, 0⟩ := by
  rw [ofText, if_neg (by decide), x1_size]
  rw [scan, step0]
  simp only []
  rw [show 0 + (⟨#[120]⟩ : ByteArray).size = 1 from rfl, scan, step1]
  simp only []
  rw [show 1 + (⟨#[61]⟩ : ByteArray).size = 2 from rfl, scan, step2]
  simp only []
  rw [show 2 + (⟨#[49]⟩ : ByteArray).size = 3 from rfl, scan, step3]
  rfl

end Go.Proofs.Ythmcenlkhfdhfaa.Tk
