/- EQUALITY of atoms, expressions, statements, ends: as the model runs it. -/
import Derived.Test.YtjjmoibnmdbpeaaChkb
namespace Go.Proofs.Ytjjmoibnmdbpeaa.Pr
set_option linter.unusedVariables false
set_option linter.unusedSimpArgs false
open Go Go.RowKit

def eqA (x y : At) : Bool := x.v.toList == y.v.toList && (x.a == y.a && x.b == y.b)
def eqE (x y : Ex) : Bool := x.op == y.op && (eqA x.x y.x && eqA x.y y.y)
def eqS (x y : St) : Bool := x.k == y.k && (x.v.toList == y.v.toList && eqE x.e y.e)
def eqT (x y : Te) : Bool := x.k == y.k && (eqA x.x y.x && (x.t.toList == y.t.toList && x.e.toList == y.e.toList))

set_option maxRecDepth 100000 in
@[go_sem high] theorem binEqAtom (v : ByteArray) (a : Int) (b : Int) (v2 : ByteArray) (a2 : Int) (b2 : Int) (w : World) :
    (binOp .eql 71 (.agg #[.string v, .int .i64 a, .int .i64 b]) (.agg #[.string v2, .int .i64 a2, .int .i64 b2])).run Try.prog w = .ok (.bool ((eqA ⟨v, a, b⟩ ⟨v2, a2, b2⟩))) w := by
  have u3 := Try.underlying3
  have a3 := Try.isAgg3
  have z3 := Try.sizeOf3
  have u9 := Try.underlying9
  have a9 := Try.isAgg9
  have z9 := Try.sizeOf9
  have u7 := Try.underlying69
  have a7 := Try.isAgg69
  have z7 := Try.sizeOf69
  have u8 := Try.underlying71
  have a8 := Try.isAgg71
  have z8 := Try.sizeOf71
  have u6 := Try.underlying73
  have a6 := Try.isAgg73
  have z6 := Try.sizeOf73
  have u5 := Try.underlying86
  have u4 := Try.underlying89
  simp only [eqA, eqE, eqS, eqT]
  go_simp
  by_cases h0 : v.toList = v2.toList
  rotate_left
  · simp [h0]
  by_cases h1 : a = a2
  rotate_left
  · simp [h0, h1]
  by_cases h2 : b = b2 <;> simp [h0, h1, h2]

set_option maxRecDepth 100000 in
@[go_sem high] theorem nbinEqAtom (v : ByteArray) (a : Int) (b : Int) (v2 : ByteArray) (a2 : Int) (b2 : Int) (w : World) :
    (binOp .neq 71 (.agg #[.string v, .int .i64 a, .int .i64 b]) (.agg #[.string v2, .int .i64 a2, .int .i64 b2])).run Try.prog w = .ok (.bool (!(eqA ⟨v, a, b⟩ ⟨v2, a2, b2⟩))) w := by
  have u3 := Try.underlying3
  have a3 := Try.isAgg3
  have z3 := Try.sizeOf3
  have u9 := Try.underlying9
  have a9 := Try.isAgg9
  have z9 := Try.sizeOf9
  have u7 := Try.underlying69
  have a7 := Try.isAgg69
  have z7 := Try.sizeOf69
  have u8 := Try.underlying71
  have a8 := Try.isAgg71
  have z8 := Try.sizeOf71
  have u6 := Try.underlying73
  have a6 := Try.isAgg73
  have z6 := Try.sizeOf73
  have u5 := Try.underlying86
  have u4 := Try.underlying89
  simp only [eqA, eqE, eqS, eqT]
  go_simp
  by_cases h0 : v.toList = v2.toList
  rotate_left
  · simp [h0]
  by_cases h1 : a = a2
  rotate_left
  · simp [h0, h1]
  by_cases h2 : b = b2 <;> simp [h0, h1, h2]

@[go_sem high] theorem guardEqAtom (op : BinOp) (x y : Operand) (xs ys : Array Value) (w : World) : (eqGuard op 71 x y (.agg xs) (.agg ys)).run Try.prog w = .ok () w := run_eqGuard_agg w op _ x y xs ys (by kernel_rfl)

set_option maxRecDepth 100000 in
@[go_sem high] theorem binEqExpr (op : Int) (v1 : ByteArray) (a1 : Int) (b1 : Int) (vy : ByteArray) (ay : Int) (by_ : Int) (op2 : Int) (v12 : ByteArray) (a12 : Int) (b12 : Int) (vy2 : ByteArray) (ay2 : Int) (by_2 : Int) (w : World) :
    (binOp .eql 73 (.agg #[.int .i64 op, .string v1, .int .i64 a1, .int .i64 b1, .string vy, .int .i64 ay, .int .i64 by_]) (.agg #[.int .i64 op2, .string v12, .int .i64 a12, .int .i64 b12, .string vy2, .int .i64 ay2, .int .i64 by_2])).run Try.prog w = .ok (.bool ((eqE ⟨op, ⟨v1, a1, b1⟩, ⟨vy, ay, by_⟩⟩ ⟨op2, ⟨v12, a12, b12⟩, ⟨vy2, ay2, by_2⟩⟩))) w := by
  have u3 := Try.underlying3
  have a3 := Try.isAgg3
  have z3 := Try.sizeOf3
  have u9 := Try.underlying9
  have a9 := Try.isAgg9
  have z9 := Try.sizeOf9
  have u7 := Try.underlying69
  have a7 := Try.isAgg69
  have z7 := Try.sizeOf69
  have u8 := Try.underlying71
  have a8 := Try.isAgg71
  have z8 := Try.sizeOf71
  have u6 := Try.underlying73
  have a6 := Try.isAgg73
  have z6 := Try.sizeOf73
  have u5 := Try.underlying86
  have u4 := Try.underlying89
  simp only [eqA, eqE, eqS, eqT]
  go_simp
  by_cases h0 : op = op2
  rotate_left
  · simp [h0]
  by_cases h1 : v1.toList = v12.toList
  rotate_left
  · simp [h0, h1]
  by_cases h2 : a1 = a12
  rotate_left
  · simp [h0, h1, h2]
  by_cases h3 : b1 = b12
  rotate_left
  · simp [h0, h1, h2, h3]
  by_cases h4 : vy.toList = vy2.toList
  rotate_left
  · simp [h0, h1, h2, h3, h4]
  by_cases h5 : ay = ay2
  rotate_left
  · simp [h0, h1, h2, h3, h4, h5]
  by_cases h6 : by_ = by_2 <;> simp [h0, h1, h2, h3, h4, h5, h6]

set_option maxRecDepth 100000 in
@[go_sem high] theorem nbinEqExpr (op : Int) (v1 : ByteArray) (a1 : Int) (b1 : Int) (vy : ByteArray) (ay : Int) (by_ : Int) (op2 : Int) (v12 : ByteArray) (a12 : Int) (b12 : Int) (vy2 : ByteArray) (ay2 : Int) (by_2 : Int) (w : World) :
    (binOp .neq 73 (.agg #[.int .i64 op, .string v1, .int .i64 a1, .int .i64 b1, .string vy, .int .i64 ay, .int .i64 by_]) (.agg #[.int .i64 op2, .string v12, .int .i64 a12, .int .i64 b12, .string vy2, .int .i64 ay2, .int .i64 by_2])).run Try.prog w = .ok (.bool (!(eqE ⟨op, ⟨v1, a1, b1⟩, ⟨vy, ay, by_⟩⟩ ⟨op2, ⟨v12, a12, b12⟩, ⟨vy2, ay2, by_2⟩⟩))) w := by
  have u3 := Try.underlying3
  have a3 := Try.isAgg3
  have z3 := Try.sizeOf3
  have u9 := Try.underlying9
  have a9 := Try.isAgg9
  have z9 := Try.sizeOf9
  have u7 := Try.underlying69
  have a7 := Try.isAgg69
  have z7 := Try.sizeOf69
  have u8 := Try.underlying71
  have a8 := Try.isAgg71
  have z8 := Try.sizeOf71
  have u6 := Try.underlying73
  have a6 := Try.isAgg73
  have z6 := Try.sizeOf73
  have u5 := Try.underlying86
  have u4 := Try.underlying89
  simp only [eqA, eqE, eqS, eqT]
  go_simp
  by_cases h0 : op = op2
  rotate_left
  · simp [h0]
  by_cases h1 : v1.toList = v12.toList
  rotate_left
  · simp [h0, h1]
  by_cases h2 : a1 = a12
  rotate_left
  · simp [h0, h1, h2]
  by_cases h3 : b1 = b12
  rotate_left
  · simp [h0, h1, h2, h3]
  by_cases h4 : vy.toList = vy2.toList
  rotate_left
  · simp [h0, h1, h2, h3, h4]
  by_cases h5 : ay = ay2
  rotate_left
  · simp [h0, h1, h2, h3, h4, h5]
  by_cases h6 : by_ = by_2 <;> simp [h0, h1, h2, h3, h4, h5, h6]

@[go_sem high] theorem guardEqExpr (op : BinOp) (x y : Operand) (xs ys : Array Value) (w : World) : (eqGuard op 73 x y (.agg xs) (.agg ys)).run Try.prog w = .ok () w := run_eqGuard_agg w op _ x y xs ys (by kernel_rfl)

set_option maxRecDepth 100000 in
@[go_sem high] theorem binEqStmt (k : Int) (v : ByteArray) (op : Int) (v1 : ByteArray) (a1 : Int) (b1 : Int) (vy : ByteArray) (ay : Int) (by_ : Int) (k2 : Int) (v2 : ByteArray) (op2 : Int) (v12 : ByteArray) (a12 : Int) (b12 : Int) (vy2 : ByteArray) (ay2 : Int) (by_2 : Int) (w : World) :
    (binOp .eql 86 (.agg #[.int .i64 k, .string v, .int .i64 op, .string v1, .int .i64 a1, .int .i64 b1, .string vy, .int .i64 ay, .int .i64 by_]) (.agg #[.int .i64 k2, .string v2, .int .i64 op2, .string v12, .int .i64 a12, .int .i64 b12, .string vy2, .int .i64 ay2, .int .i64 by_2])).run Try.prog w = .ok (.bool ((eqS ⟨k, v, ⟨op, ⟨v1, a1, b1⟩, ⟨vy, ay, by_⟩⟩⟩ ⟨k2, v2, ⟨op2, ⟨v12, a12, b12⟩, ⟨vy2, ay2, by_2⟩⟩⟩))) w := by
  have u3 := Try.underlying3
  have a3 := Try.isAgg3
  have z3 := Try.sizeOf3
  have u9 := Try.underlying9
  have a9 := Try.isAgg9
  have z9 := Try.sizeOf9
  have u7 := Try.underlying69
  have a7 := Try.isAgg69
  have z7 := Try.sizeOf69
  have u8 := Try.underlying71
  have a8 := Try.isAgg71
  have z8 := Try.sizeOf71
  have u6 := Try.underlying73
  have a6 := Try.isAgg73
  have z6 := Try.sizeOf73
  have u5 := Try.underlying86
  have u4 := Try.underlying89
  simp only [eqA, eqE, eqS, eqT]
  go_simp
  by_cases h0 : k = k2
  rotate_left
  · simp [h0]
  by_cases h1 : v.toList = v2.toList
  rotate_left
  · simp [h0, h1]
  by_cases h2 : op = op2
  rotate_left
  · simp [h0, h1, h2]
  by_cases h3 : v1.toList = v12.toList
  rotate_left
  · simp [h0, h1, h2, h3]
  by_cases h4 : a1 = a12
  rotate_left
  · simp [h0, h1, h2, h3, h4]
  by_cases h5 : b1 = b12
  rotate_left
  · simp [h0, h1, h2, h3, h4, h5]
  by_cases h6 : vy.toList = vy2.toList
  rotate_left
  · simp [h0, h1, h2, h3, h4, h5, h6]
  by_cases h7 : ay = ay2
  rotate_left
  · simp [h0, h1, h2, h3, h4, h5, h6, h7]
  by_cases h8 : by_ = by_2 <;> simp [h0, h1, h2, h3, h4, h5, h6, h7, h8]

set_option maxRecDepth 100000 in
@[go_sem high] theorem nbinEqStmt (k : Int) (v : ByteArray) (op : Int) (v1 : ByteArray) (a1 : Int) (b1 : Int) (vy : ByteArray) (ay : Int) (by_ : Int) (k2 : Int) (v2 : ByteArray) (op2 : Int) (v12 : ByteArray) (a12 : Int) (b12 : Int) (vy2 : ByteArray) (ay2 : Int) (by_2 : Int) (w : World) :
    (binOp .neq 86 (.agg #[.int .i64 k, .string v, .int .i64 op, .string v1, .int .i64 a1, .int .i64 b1, .string vy, .int .i64 ay, .int .i64 by_]) (.agg #[.int .i64 k2, .string v2, .int .i64 op2, .string v12, .int .i64 a12, .int .i64 b12, .string vy2, .int .i64 ay2, .int .i64 by_2])).run Try.prog w = .ok (.bool (!(eqS ⟨k, v, ⟨op, ⟨v1, a1, b1⟩, ⟨vy, ay, by_⟩⟩⟩ ⟨k2, v2, ⟨op2, ⟨v12, a12, b12⟩, ⟨vy2, ay2, by_2⟩⟩⟩))) w := by
  have u3 := Try.underlying3
  have a3 := Try.isAgg3
  have z3 := Try.sizeOf3
  have u9 := Try.underlying9
  have a9 := Try.isAgg9
  have z9 := Try.sizeOf9
  have u7 := Try.underlying69
  have a7 := Try.isAgg69
  have z7 := Try.sizeOf69
  have u8 := Try.underlying71
  have a8 := Try.isAgg71
  have z8 := Try.sizeOf71
  have u6 := Try.underlying73
  have a6 := Try.isAgg73
  have z6 := Try.sizeOf73
  have u5 := Try.underlying86
  have u4 := Try.underlying89
  simp only [eqA, eqE, eqS, eqT]
  go_simp
  by_cases h0 : k = k2
  rotate_left
  · simp [h0]
  by_cases h1 : v.toList = v2.toList
  rotate_left
  · simp [h0, h1]
  by_cases h2 : op = op2
  rotate_left
  · simp [h0, h1, h2]
  by_cases h3 : v1.toList = v12.toList
  rotate_left
  · simp [h0, h1, h2, h3]
  by_cases h4 : a1 = a12
  rotate_left
  · simp [h0, h1, h2, h3, h4]
  by_cases h5 : b1 = b12
  rotate_left
  · simp [h0, h1, h2, h3, h4, h5]
  by_cases h6 : vy.toList = vy2.toList
  rotate_left
  · simp [h0, h1, h2, h3, h4, h5, h6]
  by_cases h7 : ay = ay2
  rotate_left
  · simp [h0, h1, h2, h3, h4, h5, h6, h7]
  by_cases h8 : by_ = by_2 <;> simp [h0, h1, h2, h3, h4, h5, h6, h7, h8]

@[go_sem high] theorem guardEqStmt (op : BinOp) (x y : Operand) (xs ys : Array Value) (w : World) : (eqGuard op 86 x y (.agg xs) (.agg ys)).run Try.prog w = .ok () w := run_eqGuard_agg w op _ x y xs ys (by kernel_rfl)

set_option maxRecDepth 100000 in
@[go_sem high] theorem binEqTerm (k : Int) (v : ByteArray) (a : Int) (b : Int) (t : ByteArray) (e : ByteArray) (k2 : Int) (v2 : ByteArray) (a2 : Int) (b2 : Int) (t2 : ByteArray) (e2 : ByteArray) (w : World) :
    (binOp .eql 89 (.agg #[.int .i64 k, .string v, .int .i64 a, .int .i64 b, .string t, .string e]) (.agg #[.int .i64 k2, .string v2, .int .i64 a2, .int .i64 b2, .string t2, .string e2])).run Try.prog w = .ok (.bool ((eqT ⟨k, ⟨v, a, b⟩, t, e⟩ ⟨k2, ⟨v2, a2, b2⟩, t2, e2⟩))) w := by
  have u3 := Try.underlying3
  have a3 := Try.isAgg3
  have z3 := Try.sizeOf3
  have u9 := Try.underlying9
  have a9 := Try.isAgg9
  have z9 := Try.sizeOf9
  have u7 := Try.underlying69
  have a7 := Try.isAgg69
  have z7 := Try.sizeOf69
  have u8 := Try.underlying71
  have a8 := Try.isAgg71
  have z8 := Try.sizeOf71
  have u6 := Try.underlying73
  have a6 := Try.isAgg73
  have z6 := Try.sizeOf73
  have u5 := Try.underlying86
  have u4 := Try.underlying89
  simp only [eqA, eqE, eqS, eqT]
  go_simp
  by_cases h0 : k = k2
  rotate_left
  · simp [h0]
  by_cases h1 : v.toList = v2.toList
  rotate_left
  · simp [h0, h1]
  by_cases h2 : a = a2
  rotate_left
  · simp [h0, h1, h2]
  by_cases h3 : b = b2
  rotate_left
  · simp [h0, h1, h2, h3]
  by_cases h4 : t.toList = t2.toList
  rotate_left
  · simp [h0, h1, h2, h3, h4]
  by_cases h5 : e.toList = e2.toList <;> simp [h0, h1, h2, h3, h4, h5]

set_option maxRecDepth 100000 in
@[go_sem high] theorem nbinEqTerm (k : Int) (v : ByteArray) (a : Int) (b : Int) (t : ByteArray) (e : ByteArray) (k2 : Int) (v2 : ByteArray) (a2 : Int) (b2 : Int) (t2 : ByteArray) (e2 : ByteArray) (w : World) :
    (binOp .neq 89 (.agg #[.int .i64 k, .string v, .int .i64 a, .int .i64 b, .string t, .string e]) (.agg #[.int .i64 k2, .string v2, .int .i64 a2, .int .i64 b2, .string t2, .string e2])).run Try.prog w = .ok (.bool (!(eqT ⟨k, ⟨v, a, b⟩, t, e⟩ ⟨k2, ⟨v2, a2, b2⟩, t2, e2⟩))) w := by
  have u3 := Try.underlying3
  have a3 := Try.isAgg3
  have z3 := Try.sizeOf3
  have u9 := Try.underlying9
  have a9 := Try.isAgg9
  have z9 := Try.sizeOf9
  have u7 := Try.underlying69
  have a7 := Try.isAgg69
  have z7 := Try.sizeOf69
  have u8 := Try.underlying71
  have a8 := Try.isAgg71
  have z8 := Try.sizeOf71
  have u6 := Try.underlying73
  have a6 := Try.isAgg73
  have z6 := Try.sizeOf73
  have u5 := Try.underlying86
  have u4 := Try.underlying89
  simp only [eqA, eqE, eqS, eqT]
  go_simp
  by_cases h0 : k = k2
  rotate_left
  · simp [h0]
  by_cases h1 : v.toList = v2.toList
  rotate_left
  · simp [h0, h1]
  by_cases h2 : a = a2
  rotate_left
  · simp [h0, h1, h2]
  by_cases h3 : b = b2
  rotate_left
  · simp [h0, h1, h2, h3]
  by_cases h4 : t.toList = t2.toList
  rotate_left
  · simp [h0, h1, h2, h3, h4]
  by_cases h5 : e.toList = e2.toList <;> simp [h0, h1, h2, h3, h4, h5]

@[go_sem high] theorem guardEqTerm (op : BinOp) (x y : Operand) (xs ys : Array Value) (w : World) : (eqGuard op 89 x y (.agg xs) (.agg ys)).run Try.prog w = .ok () w := run_eqGuard_agg w op _ x y xs ys (by kernel_rfl)

end Go.Proofs.Ytjjmoibnmdbpeaa.Pr
