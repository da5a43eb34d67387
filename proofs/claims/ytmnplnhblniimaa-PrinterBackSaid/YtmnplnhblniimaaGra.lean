/- THE READER OF PROGRAMS, as plain functions: what grammar's reader and soughref03's Reader both do. No program in sight. -/
import Derived.Test.YtmnplnhblniimaaTok
import Derived.Test.YtmnplnhblniimaaPgm
namespace Go.Proofs.Ytmnplnhblniimaa.Gr
set_option linter.unusedVariables false
open Go

abbrev Tok := Tk.Tok

/-- Where the reader stands; the fault, and where; statements; variables; what is gone to; blocks' names. -/
structure R where
  i : Nat
  e : Int
  p : Int
  n : Int
  vs : List ByteArray
  tg : List Tok
  bk : List Tok

abbrev st (l : List UInt8) : ByteArray := ⟨l.toArray⟩
def t0 : Tok := ⟨0, 0, st [], 0⟩
def a0 : At := ⟨st [], 0, 0⟩
def now (L : List Tok) (r : R) : Tok := L.getD r.i t0
def isB (L : List Tok) (r : R) (k : Int) (s : ByteArray) : Bool := r.e == 0 && ((now L r).kind == k && (s.toList.isEmpty || (now L r).s.toList == s.toList))
def fail (r : R) (e p : Int) : R := if r.e = 0 then { r with e := e, p := p } else r
def took (L : List Tok) (r : R) (k : Int) (s : ByteArray) : R := if isB L r k s then (if k = 0 then r else { r with i := r.i + 1 }) else fail r 3 (now L r).pos
def tokn (L : List Tok) (r : R) (k : Int) (s : ByteArray) : Tok := if isB L r k s then now L r else t0

def has (l : List ByteArray) (s : ByteArray) : Bool := l.any fun x => x.toList == s.toList
def varR (L : List Tok) (r : R) : R :=
  if (took L r 1 (st [])).e = 0 then
    if has (took L r 1 (st [])).vs (now L r).s then took L r 1 (st [])
    else if 64 < (took L r 1 (st [])).vs.length + 1 then fail { took L r 1 (st []) with vs := (took L r 1 (st [])).vs ++ [(now L r).s] } 6 (now L r).pos
    else { took L r 1 (st []) with vs := (took L r 1 (st [])).vs ++ [(now L r).s] }
  else took L r 1 (st [])
def varS (L : List Tok) (r : R) : ByteArray := (tokn L r 1 (st [])).s

def lblR (L : List Tok) (r : R) : R := { took L r 1 (st []) with tg := (took L r 1 (st [])).tg ++ [tokn L r 1 (st [])] }

/-- Behind a '-', if one comes. -/
def less (L : List Tok) (r : R) : R := if isB L r 3 (st [45]) then took L r 3 (st [45]) else r
def partR (L : List Tok) (r : R) : R :=
  if isB L r 3 (st [45]) = false ∧ 32767 < (tokn L (less L r) 2 (st [])).n then fail (took L (less L r) 2 (st [])) 6 (tokn L (less L r) 2 (st [])).pos else took L (less L r) 2 (st [])
def partN (L : List Tok) (r : R) : Int := if isB L r 3 (st [45]) then -(tokn L (less L r) 2 (st [])).n else (tokn L (less L r) 2 (st [])).n

def atomR (L : List Tok) (r : R) : R :=
  if isB L r 1 (st []) then varR L r
  else if isB L r 3 (st [40]) then took L (partR L (took L (partR L (took L r 3 (st [40]))) 3 (st [44]))) 3 (st [41])
  else partR L r
def atomA (L : List Tok) (r : R) : At :=
  if isB L r 1 (st []) then ⟨varS L r, 0, 0⟩
  else if isB L r 3 (st [40]) then ⟨st [], partN L (took L r 3 (st [40])), partN L (took L (partR L (took L r 3 (st [40]))) 3 (st [44]))⟩
  else ⟨st [], partN L r, 0⟩

abbrev conjS : ByteArray := st [99, 111, 110, 106]
def opOf (L : List Tok) (r : R) : Int := if isB L r 3 (st [43]) then 1 else if isB L r 3 (st [45]) then 2 else if isB L r 3 (st [42]) then 3 else 0
def exprR (L : List Tok) (r : R) : R :=
  if isB L r 4 conjS then atomR L (took L r 4 conjS)
  else if isB L (atomR L r) 3 (st [43]) then atomR L (took L (atomR L r) 3 (st [43]))
  else if isB L (atomR L r) 3 (st [45]) then atomR L (took L (atomR L r) 3 (st [45]))
  else if isB L (atomR L r) 3 (st [42]) then atomR L (took L (atomR L r) 3 (st [42]))
  else atomR L r
def exprE (L : List Tok) (r : R) : Ex :=
  if isB L r 4 conjS then ⟨4, atomA L (took L r 4 conjS), a0⟩
  else if isB L (atomR L r) 3 (st [43]) then ⟨1, atomA L r, atomA L (took L (atomR L r) 3 (st [43]))⟩
  else if isB L (atomR L r) 3 (st [45]) then ⟨2, atomA L r, atomA L (took L (atomR L r) 3 (st [45]))⟩
  else if isB L (atomR L r) 3 (st [42]) then ⟨3, atomA L r, atomA L (took L (atomR L r) 3 (st [42]))⟩
  else ⟨0, atomA L r, a0⟩

abbrev inS : ByteArray := st [105, 110]
abbrev outS : ByteArray := st [111, 117, 116]
def isSt (L : List Tok) (r : R) : Bool := isB L r 1 (st []) || (isB L r 4 inS || isB L r 4 outS)
/-- One statement more. -/
def cntR (L : List Tok) (r : R) : R := if 512 < r.n + 1 then fail { r with n := r.n + 1 } 6 (now L r).pos else { r with n := r.n + 1 }
/-- A statement, of which one comes. -/
def stmtR (L : List Tok) (r : R) : R :=
  took L (if isB L r 1 (st []) then exprR L (took L (varR L (cntR L r)) 3 (st [61]))
    else if isB L r 4 inS then varR L (took L (cntR L r) 4 inS)
    else atomR L (took L (cntR L r) 4 outS)) 3 (st [59])
def stmtS (L : List Tok) (r : R) : St :=
  if isB L r 1 (st []) then ⟨1, varS L (cntR L r), exprE L (took L (varR L (cntR L r)) 3 (st [61]))⟩
  else if isB L r 4 inS then ⟨2, varS L (took L (cntR L r) 4 inS), ⟨0, a0, a0⟩⟩
  else ⟨3, st [], ⟨0, atomA L (took L (cntR L r) 4 outS), a0⟩⟩

abbrev gotoS : ByteArray := st [103, 111, 116, 111]
abbrev ifS : ByteArray := st [105, 102]
abbrev thenS : ByteArray := st [116, 104, 101, 110]
abbrev elseS : ByteArray := st [101, 108, 115, 101]
abbrev retS : ByteArray := st [114, 101, 116]
abbrev blockS : ByteArray := st [98, 108, 111, 99, 107]
def ifA (L : List Tok) (r : R) : R := took L (atomR L (took L r 4 ifS)) 4 thenS
def ifB (L : List Tok) (r : R) : R := took L (lblR L (ifA L r)) 4 elseS
def termR (L : List Tok) (r : R) : R :=
  took L (if isB L r 4 gotoS then lblR L (took L r 4 gotoS)
    else if isB L r 4 ifS then lblR L (ifB L r)
    else took L r 4 retS) 3 (st [59])
def termT (L : List Tok) (r : R) : Te :=
  if isB L r 4 gotoS then ⟨1, a0, varS L (took L r 4 gotoS), st []⟩
  else if isB L r 4 ifS then ⟨2, atomA L (took L r 4 ifS), varS L (ifA L r), varS L (ifB L r)⟩
  else ⟨3, a0, st [], st []⟩

/-- Statements, while one comes; k: fuel. -/
def stsR (L : List Tok) : Nat → R → R
  | 0, r => r
  | k + 1, r => if isSt L r then (if (stmtR L r).e = 0 then stsR L k (stmtR L r) else stmtR L r) else r
def stsL (L : List Tok) : Nat → R → List St
  | 0, r => []
  | k + 1, r => if isSt L r then (if (stmtR L r).e = 0 then stmtS L r :: stsL L k (stmtR L r) else []) else []

def headR (L : List Tok) (r : R) : R := if isB L r 4 blockS = true ∧ r.bk.length = 128 then fail r 6 (now L r).pos else r
def nameR (L : List Tok) (r : R) : R := took L (headR L r) 4 blockS
def bodyR (L : List Tok) (r : R) : R := took L { took L (nameR L r) 1 (st []) with bk := (took L (nameR L r) 1 (st [])).bk ++ [tokn L (nameR L r) 1 (st [])] } 3 (st [123])
def endR (L : List Tok) (r : R) : R := stsR L L.length (bodyR L r)
def blockR (L : List Tok) (r : R) : R := took L (termR L (endR L r)) 3 (st [125])
def blockN (L : List Tok) (r : R) : ByteArray := varS L (nameR L r)

def blksR (L : List Tok) : Nat → R → R
  | 0, r => r
  | k + 1, r => if r.e = 0 ∧ isB L r 0 (st []) = false then blksR L k (blockR L r) else r

/-- A block, but for where its statements lie. -/
structure Bk where
  n : ByteArray
  l : List St
  t : Te
def blockB (L : List Tok) (r : R) : Bk := ⟨blockN L r, stsL L L.length (bodyR L r), termT L (endR L r)⟩
def blksL (L : List Tok) : Nat → R → List Bk
  | 0, r => []
  | k + 1, r => if r.e = 0 ∧ isB L r 0 (st []) = false then blockB L r :: blksL L k (blockR L r) else []

def hasT (l : List Tok) (s : ByteArray) : Bool := l.any fun x => x.s.toList == s.toList
/-- The first of two names that may not be. -/
def leastE (a : Int × Int) (e : Int) (t : Tok) : Int × Int := if a.1 = 0 ∨ t.pos < a.2 then (e, t.pos) else a
/-- The first of the blocks' names that may not be; of what is gone to. -/
def namesN (bk : List Tok) : Nat → Int × Int
  | 0 => (0, 0)
  | k + 1 => match bk[k]? with
    | some t => if hasT (bk.take k) t.s then leastE (namesN bk k) 5 t else namesN bk k
    | none => namesN bk k
def tgtN (bk tg : List Tok) (a : Int × Int) : Nat → Int × Int
  | 0 => a
  | k + 1 => match tg[k]? with
    | some t => if hasT bk t.s then tgtN bk tg a k else leastE (tgtN bk tg a k) 4 t
    | none => tgtN bk tg a k
def namedE (r : R) : Int × Int := tgtN r.bk r.tg (namesN r.bk r.bk.length) r.tg.length

def r0 : R := ⟨0, 0, 0, 0, [], [], []⟩
/-- The blocks' end. -/
def allR (L : List Tok) : R := blksR L L.length (blockR L r0)
def allL (L : List Tok) : List Bk := blockB L r0 :: blksL L L.length (blockR L r0)
/-- A text's blocks, the error and where. -/
def parseL (L : List Tok) : Int × Int := if (allR L).e = 0 then namedE (allR L) else ((allR L).e, (allR L).p)
def parse (s : ByteArray) : List Bk × Int × Int :=
  if (Tk.ofText s).e = 0 then
    if (parseL (Tk.ofText s).l).1 = 0 then (allL (Tk.ofText s).l, 0, 0) else ([], parseL (Tk.ofText s).l)
  else ([], (Tk.ofText s).e, (Tk.ofText s).pos)
/-- A text's expression, the error and where. -/
def exprAll (L : List Tok) : R := took L (exprR L r0) 0 (st [])
def pexpr (s : ByteArray) : Ex × Int × Int :=
  if (Tk.ofText s).e = 0 then
    if (exprAll (Tk.ofText s).l).e = 0 then (exprE (Tk.ofText s).l r0, 0, 0) else (⟨0, a0, a0⟩, (exprAll (Tk.ofText s).l).e, (exprAll (Tk.ofText s).l).p)
  else (⟨0, a0, a0⟩, (Tk.ofText s).e, (Tk.ofText s).pos)

end Go.Proofs.Ytmnplnhblniimaa.Gr
