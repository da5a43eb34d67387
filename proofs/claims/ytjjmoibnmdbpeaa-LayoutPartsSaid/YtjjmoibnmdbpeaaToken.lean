/- token.letter, digit, sign and soughref02's letter, digit, blank, sign; both Words: what each tells. -/
import Derived.Test.YtjjmoibnmdbpeaaTok
import Derived.Test.YtjjmoibnmdbpeaaScope
import Derived.Test.YtjjmoibnmdbpeaaProg
namespace Go.Proofs.Ytjjmoibnmdbpeaa.Tk
set_option linter.unusedVariables false
set_option linter.unusedSimpArgs false
open Go Go.RowKit

theorem letter_any (c : Int) (w : World) : Calls Try.prog 115 #[.int .u8 c] w fun e w' => e = .returned (.bool (letterB c)) ∧ w = w' := by
  go_enter Try.func115, Try.ntmps115
  go_wp2_with fail
  all_goals (go_ret; refine ⟨?_, rfl⟩; refine congrArg (fun b => Ending.returned (Value.bool b)) (?_ : (_ : Bool) = _); rw [Bool.eq_iff_iff]; simp [letterB] <;> omega)

theorem rletter_any (c : Int) (w : World) : Calls Try.prog 91 #[.int .u8 c] w fun e w' => e = .returned (.bool (letterB c)) ∧ w = w' := by
  go_enter Try.func91, Try.ntmps91
  go_wp2_with fail
  all_goals (go_ret; refine ⟨?_, rfl⟩; refine congrArg (fun b => Ending.returned (Value.bool b)) (?_ : (_ : Bool) = _); rw [Bool.eq_iff_iff]; simp [letterB] <;> omega)

theorem digit_any (c : Int) (w : World) : Calls Try.prog 117 #[.int .u8 c] w fun e w' => e = .returned (.bool (digitB c)) ∧ w = w' := by
  go_enter Try.func117, Try.ntmps117
  go_wp2_with fail
  all_goals (go_ret; refine ⟨?_, rfl⟩; refine congrArg (fun b => Ending.returned (Value.bool b)) (?_ : (_ : Bool) = _); rw [Bool.eq_iff_iff]; simp [digitB] <;> omega)

theorem rdigit_any (c : Int) (w : World) : Calls Try.prog 93 #[.int .u8 c] w fun e w' => e = .returned (.bool (digitB c)) ∧ w = w' := by
  go_enter Try.func93, Try.ntmps93
  go_wp2_with fail
  all_goals (go_ret; refine ⟨?_, rfl⟩; refine congrArg (fun b => Ending.returned (Value.bool b)) (?_ : (_ : Bool) = _); rw [Bool.eq_iff_iff]; simp [digitB] <;> omega)


theorem wordB_true {s : ByteArray} {w : List UInt8} (hw : words.contains w = true) (h : (s.toList == w) = true) : wordB s = true := by
  simp only [wordB, List.any_eq_true]
  exact ⟨w, by simpa using hw, h⟩

theorem ix0 (w : World) : (Instr.index 175 (Value.agg #[Value.string { data := #[98, 108, 111, 99, 107] }, Value.string { data := #[103, 111, 116, 111] }, Value.string { data := #[105, 102] }, Value.string { data := #[116, 104, 101, 110] }, Value.string { data := #[101, 108, 115, 101] }, Value.string { data := #[114, 101, 116] }, Value.string { data := #[105, 110] }, Value.string { data := #[111, 117, 116] }, Value.string { data := #[99, 111, 110, 106] }]) (.int .i64 0)).run Try.prog w = .ok (Value.string { data := #[98, 108, 111, 99, 107] }) w := by kernel_rfl
theorem ix1 (w : World) : (Instr.index 175 (Value.agg #[Value.string { data := #[98, 108, 111, 99, 107] }, Value.string { data := #[103, 111, 116, 111] }, Value.string { data := #[105, 102] }, Value.string { data := #[116, 104, 101, 110] }, Value.string { data := #[101, 108, 115, 101] }, Value.string { data := #[114, 101, 116] }, Value.string { data := #[105, 110] }, Value.string { data := #[111, 117, 116] }, Value.string { data := #[99, 111, 110, 106] }]) (.int .i64 1)).run Try.prog w = .ok (Value.string { data := #[103, 111, 116, 111] }) w := by kernel_rfl
theorem ix2 (w : World) : (Instr.index 175 (Value.agg #[Value.string { data := #[98, 108, 111, 99, 107] }, Value.string { data := #[103, 111, 116, 111] }, Value.string { data := #[105, 102] }, Value.string { data := #[116, 104, 101, 110] }, Value.string { data := #[101, 108, 115, 101] }, Value.string { data := #[114, 101, 116] }, Value.string { data := #[105, 110] }, Value.string { data := #[111, 117, 116] }, Value.string { data := #[99, 111, 110, 106] }]) (.int .i64 2)).run Try.prog w = .ok (Value.string { data := #[105, 102] }) w := by kernel_rfl
theorem ix3 (w : World) : (Instr.index 175 (Value.agg #[Value.string { data := #[98, 108, 111, 99, 107] }, Value.string { data := #[103, 111, 116, 111] }, Value.string { data := #[105, 102] }, Value.string { data := #[116, 104, 101, 110] }, Value.string { data := #[101, 108, 115, 101] }, Value.string { data := #[114, 101, 116] }, Value.string { data := #[105, 110] }, Value.string { data := #[111, 117, 116] }, Value.string { data := #[99, 111, 110, 106] }]) (.int .i64 3)).run Try.prog w = .ok (Value.string { data := #[116, 104, 101, 110] }) w := by kernel_rfl
theorem ix4 (w : World) : (Instr.index 175 (Value.agg #[Value.string { data := #[98, 108, 111, 99, 107] }, Value.string { data := #[103, 111, 116, 111] }, Value.string { data := #[105, 102] }, Value.string { data := #[116, 104, 101, 110] }, Value.string { data := #[101, 108, 115, 101] }, Value.string { data := #[114, 101, 116] }, Value.string { data := #[105, 110] }, Value.string { data := #[111, 117, 116] }, Value.string { data := #[99, 111, 110, 106] }]) (.int .i64 4)).run Try.prog w = .ok (Value.string { data := #[101, 108, 115, 101] }) w := by kernel_rfl
theorem ix5 (w : World) : (Instr.index 175 (Value.agg #[Value.string { data := #[98, 108, 111, 99, 107] }, Value.string { data := #[103, 111, 116, 111] }, Value.string { data := #[105, 102] }, Value.string { data := #[116, 104, 101, 110] }, Value.string { data := #[101, 108, 115, 101] }, Value.string { data := #[114, 101, 116] }, Value.string { data := #[105, 110] }, Value.string { data := #[111, 117, 116] }, Value.string { data := #[99, 111, 110, 106] }]) (.int .i64 5)).run Try.prog w = .ok (Value.string { data := #[114, 101, 116] }) w := by kernel_rfl
theorem ix6 (w : World) : (Instr.index 175 (Value.agg #[Value.string { data := #[98, 108, 111, 99, 107] }, Value.string { data := #[103, 111, 116, 111] }, Value.string { data := #[105, 102] }, Value.string { data := #[116, 104, 101, 110] }, Value.string { data := #[101, 108, 115, 101] }, Value.string { data := #[114, 101, 116] }, Value.string { data := #[105, 110] }, Value.string { data := #[111, 117, 116] }, Value.string { data := #[99, 111, 110, 106] }]) (.int .i64 6)).run Try.prog w = .ok (Value.string { data := #[105, 110] }) w := by kernel_rfl
theorem ix7 (w : World) : (Instr.index 175 (Value.agg #[Value.string { data := #[98, 108, 111, 99, 107] }, Value.string { data := #[103, 111, 116, 111] }, Value.string { data := #[105, 102] }, Value.string { data := #[116, 104, 101, 110] }, Value.string { data := #[101, 108, 115, 101] }, Value.string { data := #[114, 101, 116] }, Value.string { data := #[105, 110] }, Value.string { data := #[111, 117, 116] }, Value.string { data := #[99, 111, 110, 106] }]) (.int .i64 7)).run Try.prog w = .ok (Value.string { data := #[111, 117, 116] }) w := by kernel_rfl
theorem ix8 (w : World) : (Instr.index 175 (Value.agg #[Value.string { data := #[98, 108, 111, 99, 107] }, Value.string { data := #[103, 111, 116, 111] }, Value.string { data := #[105, 102] }, Value.string { data := #[116, 104, 101, 110] }, Value.string { data := #[101, 108, 115, 101] }, Value.string { data := #[114, 101, 116] }, Value.string { data := #[105, 110] }, Value.string { data := #[111, 117, 116] }, Value.string { data := #[99, 111, 110, 106] }]) (.int .i64 8)).run Try.prog w = .ok (Value.string { data := #[99, 111, 110, 106] }) w := by kernel_rfl

set_option maxRecDepth 1000000 in
theorem word_any (s : ByteArray) (w : World) : Calls Try.prog 116 #[.string s] w fun e w' => e = .returned (.bool (wordB s)) ∧ w = w' := by
  have i0 := ix0
  have i1 := ix1
  have i2 := ix2
  have i3 := ix3
  have i4 := ix4
  have i5 := ix5
  have i6 := ix6
  have i7 := ix7
  have i8 := ix8
  go_enter Try.func116, Try.ntmps116
  go_wp2_with fail
  refine wp_loop_rounds 10 ?_
  rw [rounds_succ]
  go_wp2_with fail
  · rename_i h
    go_ret
    refine ⟨?_, rfl⟩
    rw [wordB_true (w := [98, 108, 111, 99, 107]) (by decide) h]
    rfl
  rename_i n0
  rw [rounds_succ]
  go_wp2_with fail
  · rename_i h
    go_ret
    refine ⟨?_, rfl⟩
    rw [wordB_true (w := [103, 111, 116, 111]) (by decide) h]
    rfl
  rename_i n1
  rw [rounds_succ]
  go_wp2_with fail
  · rename_i h
    go_ret
    refine ⟨?_, rfl⟩
    rw [wordB_true (w := [105, 102]) (by decide) h]
    rfl
  rename_i n2
  rw [rounds_succ]
  go_wp2_with fail
  · rename_i h
    go_ret
    refine ⟨?_, rfl⟩
    rw [wordB_true (w := [116, 104, 101, 110]) (by decide) h]
    rfl
  rename_i n3
  rw [rounds_succ]
  go_wp2_with fail
  · rename_i h
    go_ret
    refine ⟨?_, rfl⟩
    rw [wordB_true (w := [101, 108, 115, 101]) (by decide) h]
    rfl
  rename_i n4
  rw [rounds_succ]
  go_wp2_with fail
  · rename_i h
    go_ret
    refine ⟨?_, rfl⟩
    rw [wordB_true (w := [114, 101, 116]) (by decide) h]
    rfl
  rename_i n5
  rw [rounds_succ]
  go_wp2_with fail
  · rename_i h
    go_ret
    refine ⟨?_, rfl⟩
    rw [wordB_true (w := [105, 110]) (by decide) h]
    rfl
  rename_i n6
  rw [rounds_succ]
  go_wp2_with fail
  · rename_i h
    go_ret
    refine ⟨?_, rfl⟩
    rw [wordB_true (w := [111, 117, 116]) (by decide) h]
    rfl
  rename_i n7
  rw [rounds_succ]
  go_wp2_with fail
  · rename_i h
    go_ret
    refine ⟨?_, rfl⟩
    rw [wordB_true (w := [99, 111, 110, 106]) (by decide) h]
    rfl
  rename_i n8
  rw [rounds_succ]
  go_wp2_with fail
  go_ret
  refine ⟨?_, rfl⟩
  have : wordB s = false := by simp only [wordB, words, List.any_cons, List.any_nil, n0, n1, n2, n3, n4, n5, n6, n7, n8, Bool.or_false]
  rw [this]
  rfl

end Go.Proofs.Ytjjmoibnmdbpeaa.Tk
