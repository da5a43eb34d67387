/- soughlaw05.PrinterParts: the cases put together. -/
import Derived.Test.YthmcenlkhfdhfaaPrintj
namespace Go.Proofs.Ythmcenlkhfdhfaa
set_option linter.unusedVariables false
set_option linter.unusedSimpArgs false
open Go.RowKit Flo

theorem wrap_small (n : Int) (h : 0 ≤ n) (h2 : n ≤ 9223372036854775807) : IntKind.i64.wrap n = n := by
  have := IntKind.wrap_i64 n
  rw [this]; omega

theorem printerParts_any (v : ByteArray) (a b : Int) (op : Int) (v1 v2 : ByteArray) (a1 b1 a2 b2 : Int) (k : Int) (s : ByteArray) (sop : Int) (s1 s2 : ByteArray) (c1 d1 c2 d2 : Int) (tk : Int) (tv : ByteArray) (ta tb : Int) (tt te : ByteArray)
    (m0 : v.size ≤ 140737488355328) (m1 : v1.size ≤ 140737488355328) (m2 : v2.size ≤ 140737488355328) (m3 : s.size ≤ 140737488355328) (m4 : s1.size ≤ 140737488355328) (m5 : s2.size ≤ 140737488355328) (m6 : tv.size ≤ 140737488355328) (m7 : tt.size ≤ 140737488355328) (m8 : te.size ≤ 140737488355328) (w : World) :
    Calls Try.prog 3 #[.agg #[.string v, .int .i64 a, .int .i64 b], .agg #[.int .i64 op, .string v1, .int .i64 a1, .int .i64 b1, .string v2, .int .i64 a2, .int .i64 b2],
      .agg #[.int .i64 k, .string s, .int .i64 sop, .string s1, .int .i64 c1, .int .i64 d1, .string s2, .int .i64 c2, .int .i64 d2], .agg #[.int .i64 tk, .string tv, .int .i64 ta, .int .i64 tb, .string tt, .string te]] w
      fun e w' => e = .returned (.bool true) ∧ Below w.heap.size w w' := by
  have w1 := wrap_small ((v.size : Int) + v1.size) (by omega) (by omega)
  have w2 := wrap_small ((v.size : Int) + v1.size + v2.size) (by omega) (by omega)
  have w3 := wrap_small ((s.size : Int) + s1.size) (by omega) (by omega)
  have w4 := wrap_small ((s.size : Int) + s1.size + s2.size) (by omega) (by omega)
  have w5 := wrap_small ((tt.size : Int) + te.size) (by omega) (by omega)
  have w6 := wrap_small ((tt.size : Int) + te.size + tv.size) (by omega) (by omega)
  cases f1 : decide (200 < (v.size : Int) + v1.size + v2.size)
  · cases f2 : decide (200 < (s.size : Int) + s1.size + s2.size)
    · cases f3 : decide (200 < (tt.size : Int) + te.size + tv.size)
      · have g1 := of_decide_eq_false f1
        have g2 := of_decide_eq_false f2
        have g3 := of_decide_eq_false f3
        apply parts_short <;> first | assumption | omega
      · apply parts_long3 <;> assumption
    · apply parts_long2 <;> assumption
  · apply parts_long1 <;> assumption

end Go.Proofs.Ythmcenlkhfdhfaa
