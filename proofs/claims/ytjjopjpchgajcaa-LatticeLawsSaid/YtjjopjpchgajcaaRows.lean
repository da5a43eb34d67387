/-
  No cell of these rows narrows 'for every input' (looked for: loops, veiled, ifaces, maps, wideKeys, modest, calm, conditions, laid).
  DERIVED. THE GIVEN ROWS OF THIS SEAT. 10 by the template 'for every input the law returns true; each argument reads behind the call as it read before'; 0 by the template 'total and deterministic' (their statements: YtjjopjpchgajcaaTotals.lean).
  GIVEN WITH THE SEED: the statements are not yours to turn. If you find one false, say at which input.
  Laid BY PROGRAM, IN A SANDBOX (cutbox-rows.mjs): the forced cells as the released guide's own fill.sh prints them over the translation 4bd2ba46e99106f1… (all of the seat's roots in one cut). By AI agents, Wed Nov 11 2026. No macro, syntax, notation, axiom, sorry.
-/
import Derived.Test.YtjjopjpchgajcaaChecked
import GoSem.Claim
import GoSem.ClaimJoined
import GoSem.ClaimMapViews
import Derived.JoinedTies
import Derived.KernelRfl
namespace Go.Proofs.Ytjjopjpchgajcaa
/- THE CELL 'sum', in the pinned program and in every row, IS THE sha256 OF THE DUMP (.gsa) THAT YtjjopjpchgajcaaProg.lean LOADS. Nothing in Lean hashes anything: it is a label: what it is worth is what the hold of that sum in a sandbox is worth. -/
noncomputable def Try.pinned : Pinned := { name := "ytjjopjpchgajcaa", sum := "4bd2ba46e99106f1acbf0c9d4366ecbbc23d418b692c464d77cda9ae4d5be225", checked := Try.checked }
namespace Rows
def none {H : Type} : Left H := { results := [], args := [] }

/-- 'soughlaw01.GaussLaws': WHATEVER THE INPUT: true; the input reads as it did. -/
def gaussLawsSpec : ChangeSpec := { name := "gaussLaws", fn := fun _ => fun
  | [d1, d2, d3] => { results := [.lit (.bool true)], args := [d1, d2, d3] }
  | _ => none }
def gaussLawsRow : OpenClaim := { program := "ytjjopjpchgajcaa", sum := "4bd2ba46e99106f1acbf0c9d4366ecbbc23d418b692c464d77cda9ae4d5be225", func := "sough/soughlaw01.GaussLaws", spec := "gaussLaws", recurses := true, apart := false }
def GaussLawsSaid : Prop := gaussLawsRow.holds Try.pinned (OpenSpec.ofChange gaussLawsSpec)

/-- ITS FALSE NEIGHBOUR: 'it returns false'. Refute it at one input. -/
def gaussLawsWrong : ChangeSpec := { name := "gaussLaws", fn := fun _ => fun
  | [d1, d2, d3] => { results := [.lit (.bool false)], args := [d1, d2, d3] }
  | _ => none }
def GaussLawsWrongFalsely : Prop := gaussLawsRow.holds Try.pinned (OpenSpec.ofChange gaussLawsWrong)

/-- 'soughlaw01.GaussTexts': WHATEVER THE INPUT: true; the input reads as it did. -/
def gaussTextsSpec : ChangeSpec := { name := "gaussTexts", fn := fun _ => fun
  | [d1, d2, d3] => { results := [.lit (.bool true)], args := [d1, d2, d3] }
  | _ => none }
def gaussTextsRow : OpenClaim := { program := "ytjjopjpchgajcaa", sum := "4bd2ba46e99106f1acbf0c9d4366ecbbc23d418b692c464d77cda9ae4d5be225", func := "sough/soughlaw01.GaussTexts", spec := "gaussTexts", recurses := true, apart := false }
def GaussTextsSaid : Prop := gaussTextsRow.holds Try.pinned (OpenSpec.ofChange gaussTextsSpec)

/-- ITS FALSE NEIGHBOUR: 'it returns false'. Refute it at one input. -/
def gaussTextsWrong : ChangeSpec := { name := "gaussTexts", fn := fun _ => fun
  | [d1, d2, d3] => { results := [.lit (.bool false)], args := [d1, d2, d3] }
  | _ => none }
def GaussTextsWrongFalsely : Prop := gaussTextsRow.holds Try.pinned (OpenSpec.ofChange gaussTextsWrong)

/-- 'soughlaw01.GaussOps': WHATEVER THE INPUT: true; the input reads as it did. -/
def gaussOpsSpec : ChangeSpec := { name := "gaussOps", fn := fun _ => fun
  | [d1, d2, d3] => { results := [.lit (.bool true)], args := [d1, d2, d3] }
  | _ => none }
def gaussOpsRow : OpenClaim := { program := "ytjjopjpchgajcaa", sum := "4bd2ba46e99106f1acbf0c9d4366ecbbc23d418b692c464d77cda9ae4d5be225", func := "sough/soughlaw01.GaussOps", spec := "gaussOps", recurses := true, apart := false }
def GaussOpsSaid : Prop := gaussOpsRow.holds Try.pinned (OpenSpec.ofChange gaussOpsSpec)

/-- ITS FALSE NEIGHBOUR: 'it returns false'. Refute it at one input. -/
def gaussOpsWrong : ChangeSpec := { name := "gaussOps", fn := fun _ => fun
  | [d1, d2, d3] => { results := [.lit (.bool false)], args := [d1, d2, d3] }
  | _ => none }
def GaussOpsWrongFalsely : Prop := gaussOpsRow.holds Try.pinned (OpenSpec.ofChange gaussOpsWrong)

/-- 'soughlaw11.ConstantOps': WHATEVER THE INPUT: true; the input reads as it did. -/
def constantOpsSpec : ChangeSpec := { name := "constantOps", fn := fun _ => fun
  | [d1, d2, d3] => { results := [.lit (.bool true)], args := [d1, d2, d3] }
  | _ => none }
def constantOpsRow : OpenClaim := { program := "ytjjopjpchgajcaa", sum := "4bd2ba46e99106f1acbf0c9d4366ecbbc23d418b692c464d77cda9ae4d5be225", func := "sough/soughlaw11.ConstantOps", spec := "constantOps", apart := false }
def ConstantOpsSaid : Prop := constantOpsRow.holds Try.pinned (OpenSpec.ofChange constantOpsSpec)

/-- ITS FALSE NEIGHBOUR: 'it returns false'. Refute it at one input. -/
def constantOpsWrong : ChangeSpec := { name := "constantOps", fn := fun _ => fun
  | [d1, d2, d3] => { results := [.lit (.bool false)], args := [d1, d2, d3] }
  | _ => none }
def ConstantOpsWrongFalsely : Prop := constantOpsRow.holds Try.pinned (OpenSpec.ofChange constantOpsWrong)

/-- 'soughlaw11.ConstantJoins': WHATEVER THE INPUT: true; the input reads as it did. -/
def constantJoinsSpec : ChangeSpec := { name := "constantJoins", fn := fun _ => fun
  | [d1, d2] => { results := [.lit (.bool true)], args := [d1, d2] }
  | _ => none }
def constantJoinsRow : OpenClaim := { program := "ytjjopjpchgajcaa", sum := "4bd2ba46e99106f1acbf0c9d4366ecbbc23d418b692c464d77cda9ae4d5be225", func := "sough/soughlaw11.ConstantJoins", spec := "constantJoins", apart := false }
def ConstantJoinsSaid : Prop := constantJoinsRow.holds Try.pinned (OpenSpec.ofChange constantJoinsSpec)

/-- ITS FALSE NEIGHBOUR: 'it returns false'. Refute it at one input. -/
def constantJoinsWrong : ChangeSpec := { name := "constantJoins", fn := fun _ => fun
  | [d1, d2] => { results := [.lit (.bool false)], args := [d1, d2] }
  | _ => none }
def ConstantJoinsWrongFalsely : Prop := constantJoinsRow.holds Try.pinned (OpenSpec.ofChange constantJoinsWrong)

/-- 'soughlaw11.ConstantLaws': WHATEVER THE INPUT: true; the input reads as it did. -/
def constantLawsSpec : ChangeSpec := { name := "constantLaws", fn := fun _ => fun
  | [d1, d2, d3, d4, d5] => { results := [.lit (.bool true)], args := [d1, d2, d3, d4, d5] }
  | _ => none }
def constantLawsRow : OpenClaim := { program := "ytjjopjpchgajcaa", sum := "4bd2ba46e99106f1acbf0c9d4366ecbbc23d418b692c464d77cda9ae4d5be225", func := "sough/soughlaw11.ConstantLaws", spec := "constantLaws", apart := false }
def ConstantLawsSaid : Prop := constantLawsRow.holds Try.pinned (OpenSpec.ofChange constantLawsSpec)

/-- ITS FALSE NEIGHBOUR: 'it returns false'. Refute it at one input. -/
def constantLawsWrong : ChangeSpec := { name := "constantLaws", fn := fun _ => fun
  | [d1, d2, d3, d4, d5] => { results := [.lit (.bool false)], args := [d1, d2, d3, d4, d5] }
  | _ => none }
def ConstantLawsWrongFalsely : Prop := constantLawsRow.holds Try.pinned (OpenSpec.ofChange constantLawsWrong)

/-- 'soughlaw11.ConstantWords': WHATEVER THE INPUT: true; the input reads as it did. -/
def constantWordsSpec : ChangeSpec := { name := "constantWords", fn := fun _ => fun
  | [d1, d2] => { results := [.lit (.bool true)], args := [d1, d2] }
  | _ => none }
def constantWordsRow : OpenClaim := { program := "ytjjopjpchgajcaa", sum := "4bd2ba46e99106f1acbf0c9d4366ecbbc23d418b692c464d77cda9ae4d5be225", func := "sough/soughlaw11.ConstantWords", spec := "constantWords", recurses := true, apart := false }
def ConstantWordsSaid : Prop := constantWordsRow.holds Try.pinned (OpenSpec.ofChange constantWordsSpec)

/-- ITS FALSE NEIGHBOUR: 'it returns false'. Refute it at one input. -/
def constantWordsWrong : ChangeSpec := { name := "constantWords", fn := fun _ => fun
  | [d1, d2] => { results := [.lit (.bool false)], args := [d1, d2] }
  | _ => none }
def ConstantWordsWrongFalsely : Prop := constantWordsRow.holds Try.pinned (OpenSpec.ofChange constantWordsWrong)

/-- 'soughlaw12.LatticeParts': WHATEVER THE INPUT: true; the input reads as it did. -/
def latticePartsSpec : ChangeSpec := { name := "latticeParts", fn := fun _ => fun
  | [d1, d2, d3] => { results := [.lit (.bool true)], args := [d1, d2, d3] }
  | _ => none }
def latticePartsRow : OpenClaim := { program := "ytjjopjpchgajcaa", sum := "4bd2ba46e99106f1acbf0c9d4366ecbbc23d418b692c464d77cda9ae4d5be225", func := "sough/soughlaw12.LatticeParts", spec := "latticeParts", unfollowed := true, recurses := true, apart := false }
def LatticePartsSaid : Prop := latticePartsRow.holds Try.pinned (OpenSpec.ofChange latticePartsSpec)

/-- ITS FALSE NEIGHBOUR: 'it returns false'. Refute it at one input. -/
def latticePartsWrong : ChangeSpec := { name := "latticeParts", fn := fun _ => fun
  | [d1, d2, d3] => { results := [.lit (.bool false)], args := [d1, d2, d3] }
  | _ => none }
def LatticePartsWrongFalsely : Prop := latticePartsRow.holds Try.pinned (OpenSpec.ofChange latticePartsWrong)

/-- 'soughlaw12.LatticeJoins': WHATEVER THE INPUT: true; the input reads as it did. -/
def latticeJoinsSpec : ChangeSpec := { name := "latticeJoins", fn := fun _ => fun
  | [d1, d2, d3, d4, d5, d6] => { results := [.lit (.bool true)], args := [d1, d2, d3, d4, d5, d6] }
  | _ => none }
def latticeJoinsRow : OpenClaim := { program := "ytjjopjpchgajcaa", sum := "4bd2ba46e99106f1acbf0c9d4366ecbbc23d418b692c464d77cda9ae4d5be225", func := "sough/soughlaw12.LatticeJoins", spec := "latticeJoins", unfollowed := true, recurses := true, apart := false }
def LatticeJoinsSaid : Prop := latticeJoinsRow.holds Try.pinned (OpenSpec.ofChange latticeJoinsSpec)

/-- ITS FALSE NEIGHBOUR: 'it returns false'. Refute it at one input. -/
def latticeJoinsWrong : ChangeSpec := { name := "latticeJoins", fn := fun _ => fun
  | [d1, d2, d3, d4, d5, d6] => { results := [.lit (.bool false)], args := [d1, d2, d3, d4, d5, d6] }
  | _ => none }
def LatticeJoinsWrongFalsely : Prop := latticeJoinsRow.holds Try.pinned (OpenSpec.ofChange latticeJoinsWrong)

/-- 'soughlaw12.LatticeLaws': WHATEVER THE INPUT: true; the input reads as it did. -/
def latticeLawsSpec : ChangeSpec := { name := "latticeLaws", fn := fun _ => fun
  | [d1, d2, d3, d4, d5] => { results := [.lit (.bool true)], args := [d1, d2, d3, d4, d5] }
  | _ => none }
def latticeLawsRow : OpenClaim := { program := "ytjjopjpchgajcaa", sum := "4bd2ba46e99106f1acbf0c9d4366ecbbc23d418b692c464d77cda9ae4d5be225", func := "sough/soughlaw12.LatticeLaws", spec := "latticeLaws", unfollowed := true, recurses := true, apart := false }
def LatticeLawsSaid : Prop := latticeLawsRow.holds Try.pinned (OpenSpec.ofChange latticeLawsSpec)

/-- ITS FALSE NEIGHBOUR: 'it returns false'. Refute it at one input. -/
def latticeLawsWrong : ChangeSpec := { name := "latticeLaws", fn := fun _ => fun
  | [d1, d2, d3, d4, d5] => { results := [.lit (.bool false)], args := [d1, d2, d3, d4, d5] }
  | _ => none }
def LatticeLawsWrongFalsely : Prop := latticeLawsRow.holds Try.pinned (OpenSpec.ofChange latticeLawsWrong)

/- THE SECOND FORM. 'bulk': how many values and letters a reading holds, each counted each time it is reached (what is shared counts as often as it is met; a slice's spare places count too). A statement '..UptoSaid' is the law's where the arguments, and the package variables that the reading takes, are together of bulk at most 1048576: NARROWER than '..Said'. Prove '..Said' where nothing that the law and all that it calls make is longer than what came in: it says more and counts as full. Else prove '..UptoSaid'. A law counts once. -/
mutual
def uptoBulk {H : Type} : DataW H → Nat
  | .lit (.string bytes) => bytes.length + 1
  | .lit _ => 1
  | .nil => 1
  | .ptr d => uptoBulk d + 1
  | .slice elems spare => uptoBulkAll elems + uptoBulkAll spare + 1
  | .agg parts => uptoBulkAll parts + 1
  | .iface _ d => uptoBulk d + 1
  | .map entries => uptoBulkEntries entries + 1
  | .held _ => 1
def uptoBulkAll {H : Type} : List (DataW H) → Nat
  | [] => 0
  | d :: r => uptoBulk d + uptoBulkAll r
def uptoBulkEntries {H : Type} : List (Lit × DataW H) → Nat
  | [] => 0
  | x :: r => uptoBulkEntry x + uptoBulkEntries r
def uptoBulkEntry {H : Type} : Lit × DataW H → Nat
  | (.string bytes, d) => bytes.length + uptoBulk d + 1
  | (_, d) => uptoBulk d + 1
 end
def uptoSmall : (H : Type) → List (DataW H) → Bool := fun _ ds => decide (uptoBulkAll ds ≤ 1048576)
def OpenSpec.upto (s : _root_.Go.ChangeSpec) : _root_.Go.OpenSpec := { _root_.Go.OpenSpec.ofChange s with cond := some uptoSmall }

/-- 'soughlaw01.GaussLaws', WHERE WHAT IT READS IS OF BULK AT MOST 1048576: true; the input reads as it did. -/
def gaussLawsUptoRow : OpenClaim := { program := "ytjjopjpchgajcaa", sum := "4bd2ba46e99106f1acbf0c9d4366ecbbc23d418b692c464d77cda9ae4d5be225", func := "sough/soughlaw01.GaussLaws", spec := "gaussLaws", recurses := true, apart := false, narrowed := true }
def GaussLawsUptoSaid : Prop := gaussLawsUptoRow.holds Try.pinned (OpenSpec.upto gaussLawsSpec)

/-- 'soughlaw01.GaussTexts', WHERE WHAT IT READS IS OF BULK AT MOST 1048576: true; the input reads as it did. -/
def gaussTextsUptoRow : OpenClaim := { program := "ytjjopjpchgajcaa", sum := "4bd2ba46e99106f1acbf0c9d4366ecbbc23d418b692c464d77cda9ae4d5be225", func := "sough/soughlaw01.GaussTexts", spec := "gaussTexts", recurses := true, apart := false, narrowed := true }
def GaussTextsUptoSaid : Prop := gaussTextsUptoRow.holds Try.pinned (OpenSpec.upto gaussTextsSpec)

/-- 'soughlaw01.GaussOps', WHERE WHAT IT READS IS OF BULK AT MOST 1048576: true; the input reads as it did. -/
def gaussOpsUptoRow : OpenClaim := { program := "ytjjopjpchgajcaa", sum := "4bd2ba46e99106f1acbf0c9d4366ecbbc23d418b692c464d77cda9ae4d5be225", func := "sough/soughlaw01.GaussOps", spec := "gaussOps", recurses := true, apart := false, narrowed := true }
def GaussOpsUptoSaid : Prop := gaussOpsUptoRow.holds Try.pinned (OpenSpec.upto gaussOpsSpec)

/-- 'soughlaw11.ConstantOps', WHERE WHAT IT READS IS OF BULK AT MOST 1048576: true; the input reads as it did. -/
def constantOpsUptoRow : OpenClaim := { program := "ytjjopjpchgajcaa", sum := "4bd2ba46e99106f1acbf0c9d4366ecbbc23d418b692c464d77cda9ae4d5be225", func := "sough/soughlaw11.ConstantOps", spec := "constantOps", apart := false, narrowed := true }
def ConstantOpsUptoSaid : Prop := constantOpsUptoRow.holds Try.pinned (OpenSpec.upto constantOpsSpec)

/-- 'soughlaw11.ConstantJoins', WHERE WHAT IT READS IS OF BULK AT MOST 1048576: true; the input reads as it did. -/
def constantJoinsUptoRow : OpenClaim := { program := "ytjjopjpchgajcaa", sum := "4bd2ba46e99106f1acbf0c9d4366ecbbc23d418b692c464d77cda9ae4d5be225", func := "sough/soughlaw11.ConstantJoins", spec := "constantJoins", apart := false, narrowed := true }
def ConstantJoinsUptoSaid : Prop := constantJoinsUptoRow.holds Try.pinned (OpenSpec.upto constantJoinsSpec)

/-- 'soughlaw11.ConstantLaws', WHERE WHAT IT READS IS OF BULK AT MOST 1048576: true; the input reads as it did. -/
def constantLawsUptoRow : OpenClaim := { program := "ytjjopjpchgajcaa", sum := "4bd2ba46e99106f1acbf0c9d4366ecbbc23d418b692c464d77cda9ae4d5be225", func := "sough/soughlaw11.ConstantLaws", spec := "constantLaws", apart := false, narrowed := true }
def ConstantLawsUptoSaid : Prop := constantLawsUptoRow.holds Try.pinned (OpenSpec.upto constantLawsSpec)

/-- 'soughlaw11.ConstantWords', WHERE WHAT IT READS IS OF BULK AT MOST 1048576: true; the input reads as it did. -/
def constantWordsUptoRow : OpenClaim := { program := "ytjjopjpchgajcaa", sum := "4bd2ba46e99106f1acbf0c9d4366ecbbc23d418b692c464d77cda9ae4d5be225", func := "sough/soughlaw11.ConstantWords", spec := "constantWords", recurses := true, apart := false, narrowed := true }
def ConstantWordsUptoSaid : Prop := constantWordsUptoRow.holds Try.pinned (OpenSpec.upto constantWordsSpec)

/-- 'soughlaw12.LatticeParts', WHERE WHAT IT READS IS OF BULK AT MOST 1048576: true; the input reads as it did. -/
def latticePartsUptoRow : OpenClaim := { program := "ytjjopjpchgajcaa", sum := "4bd2ba46e99106f1acbf0c9d4366ecbbc23d418b692c464d77cda9ae4d5be225", func := "sough/soughlaw12.LatticeParts", spec := "latticeParts", unfollowed := true, recurses := true, apart := false, narrowed := true }
def LatticePartsUptoSaid : Prop := latticePartsUptoRow.holds Try.pinned (OpenSpec.upto latticePartsSpec)

/-- 'soughlaw12.LatticeJoins', WHERE WHAT IT READS IS OF BULK AT MOST 1048576: true; the input reads as it did. -/
def latticeJoinsUptoRow : OpenClaim := { program := "ytjjopjpchgajcaa", sum := "4bd2ba46e99106f1acbf0c9d4366ecbbc23d418b692c464d77cda9ae4d5be225", func := "sough/soughlaw12.LatticeJoins", spec := "latticeJoins", unfollowed := true, recurses := true, apart := false, narrowed := true }
def LatticeJoinsUptoSaid : Prop := latticeJoinsUptoRow.holds Try.pinned (OpenSpec.upto latticeJoinsSpec)

/-- 'soughlaw12.LatticeLaws', WHERE WHAT IT READS IS OF BULK AT MOST 1048576: true; the input reads as it did. -/
def latticeLawsUptoRow : OpenClaim := { program := "ytjjopjpchgajcaa", sum := "4bd2ba46e99106f1acbf0c9d4366ecbbc23d418b692c464d77cda9ae4d5be225", func := "sough/soughlaw12.LatticeLaws", spec := "latticeLaws", unfollowed := true, recurses := true, apart := false, narrowed := true }
def LatticeLawsUptoSaid : Prop := latticeLawsUptoRow.holds Try.pinned (OpenSpec.upto latticeLawsSpec)

end Rows
end Go.Proofs.Ytjjopjpchgajcaa
