/- PLAIN: what is wrong with a program. -/
import Derived.Test.YtjjmoibnmdbpeaaTabb
import Derived.Test.YtjjmoibnmdbpeaaMF
namespace Go.Proofs.Ytjjmoibnmdbpeaa.Pr
set_option linter.unusedVariables false
set_option linter.unusedSimpArgs false
open Go

def zeroN (a : At) : Bool := a.a == 0 && a.b == 0
def zeroA (a : At) : Bool := emptyB a.v && zeroN a
def isNumB (a : At) : Bool := a.a == wr a.a && a.b == wr a.b
def atomB (a : At) : Bool := match emptyB a.v with | true => isNumB a | false => Tk.nameB a.v && zeroN a
def atomsOf (x : Ex) : List At := if x.op = 0 ∨ x.op = 4 then [x.x] else if x.op = 1 ∨ x.op = 2 ∨ x.op = 3 then [x.x, x.y] else []
def exprB (x : Ex) : Bool := if x.op = 0 ∨ x.op = 4 then atomB x.x && zeroA x.y else if x.op = 1 ∨ x.op = 2 ∨ x.op = 3 then atomB x.x && atomB x.y else false
def zeroE (x : Ex) : Bool := x.op == 0 && (zeroA x.x && zeroA x.y)
def stmtB (s : St) : Bool := if s.k = 1 then Tk.nameB s.v && exprB s.e else if s.k = 2 then Tk.nameB s.v && zeroE s.e else if s.k = 3 then emptyB s.v && (s.e.op == 0 && exprB s.e) else false
def termB (t : Te) : Bool := if t.k = 1 then Tk.nameB t.t && (emptyB t.e && zeroA t.x) else if t.k = 2 then Tk.nameB t.t && (Tk.nameB t.e && atomB t.x) else if t.k = 3 then emptyB t.t && (emptyB t.e && zeroA t.x) else false
def blockB (b : Bl) : Bool := Tk.nameB b.n && termB b.t && b.l.all stmtB
def stmtsOf (P : List Bl) : Nat := (P.map fun b => b.l.length).sum
def hasN (P : List Bl) (n : Nat) (s : ByteArray) : Bool := (P.take n).any fun b => decide (b.n = s)
def twiceB (P : List Bl) (n : Nat) : Bool := (List.range n).any fun i => match P[i]? with | some b => hasN P i b.n | none => false
def badEnd (P : List Bl) (b : Bl) : Bool := (b.t.k == 1 || b.t.k == 2) && !hasN P P.length b.t.t || b.t.k == 2 && !hasN P P.length b.t.e
def checkOf (P : List Bl) : Int :=
  if P.length = 0 ∨ 128 < P.length ∨ 512 < stmtsOf P then 6 else
  if P.all blockB = false then 12 else
  if 64 < (vars P).length then 6 else
  if twiceB P P.length then 5 else
  if P.any (badEnd P) then 4 else 0

end Go.Proofs.Ytjjmoibnmdbpeaa.Pr
