/-
  No cell of these rows narrows 'for every input' (looked for: loops, veiled, ifaces, maps, wideKeys, modest, calm, conditions, laid).
  DERIVED. THE GIVEN ROWS OF THIS SEAT. 5 by the template 'for every input the law returns true; each argument reads behind the call as it read before'; 0 by the template 'total and deterministic' (their statements: YtmnplnhblniimaaTotals.lean).
  GIVEN WITH THE SEED: the statements are not yours to turn. If you find one false, say at which input.
  Laid BY PROGRAM, IN A SANDBOX (cutbox-rows.mjs): the forced cells as the released guide's own fill.sh prints them over the translation aed0be99dcfd26d5… (all of the seat's roots in one cut). By AI agents, Wed Nov 11 2026. No macro, syntax, notation, axiom, sorry.
-/
import Derived.Test.YtmnplnhblniimaaChecked
import GoSem.Claim
import GoSem.ClaimJoined
import GoSem.ClaimMapViews
import Derived.JoinedTies
import Derived.KernelRfl
namespace Go.Proofs.Ytmnplnhblniimaa
/- THE CELL 'sum', in the pinned program and in every row, IS THE sha256 OF THE DUMP (.gsa) THAT YtmnplnhblniimaaProg.lean LOADS. Nothing in Lean hashes anything: it is a label: what it is worth is what the hold of that sum in a sandbox is worth. -/
noncomputable def Try.pinned : Pinned := { name := "ytmnplnhblniimaa", sum := "aed0be99dcfd26d59b1100a8c1f7916d1d54d5d61c76bc05ba0f0e65f3dc73d0", checked := Try.checked }
namespace Rows
def none {H : Type} : Left H := { results := [], args := [] }

/-- 'soughlaw03.GrammarPrograms': WHATEVER THE INPUT: true; the input reads as it did. -/
def grammarProgramsSpec : ChangeSpec := { name := "grammarPrograms", fn := fun _ => fun
  | [d] => { results := [.lit (.bool true)], args := [d] }
  | _ => none }
def grammarProgramsRow : OpenClaim := { program := "ytmnplnhblniimaa", sum := "aed0be99dcfd26d59b1100a8c1f7916d1d54d5d61c76bc05ba0f0e65f3dc73d0", func := "sough/soughlaw03.GrammarPrograms", spec := "grammarPrograms", unfollowed := true, recurses := true, apart := false }
def GrammarProgramsSaid : Prop := grammarProgramsRow.holds Try.pinned (OpenSpec.ofChange grammarProgramsSpec)

/-- ITS FALSE NEIGHBOUR: 'it returns false'. Refute it at one input. -/
def grammarProgramsWrong : ChangeSpec := { name := "grammarPrograms", fn := fun _ => fun
  | [d] => { results := [.lit (.bool false)], args := [d] }
  | _ => none }
def GrammarProgramsWrongFalsely : Prop := grammarProgramsRow.holds Try.pinned (OpenSpec.ofChange grammarProgramsWrong)

/-- 'soughlaw03.GrammarBlanks': WHATEVER THE INPUT: true; the input reads as it did. -/
def grammarBlanksSpec : ChangeSpec := { name := "grammarBlanks", fn := fun _ => fun
  | [d] => { results := [.lit (.bool true)], args := [d] }
  | _ => none }
def grammarBlanksRow : OpenClaim := { program := "ytmnplnhblniimaa", sum := "aed0be99dcfd26d59b1100a8c1f7916d1d54d5d61c76bc05ba0f0e65f3dc73d0", func := "sough/soughlaw03.GrammarBlanks", spec := "grammarBlanks", unfollowed := true, recurses := true, apart := false }
def GrammarBlanksSaid : Prop := grammarBlanksRow.holds Try.pinned (OpenSpec.ofChange grammarBlanksSpec)

/-- ITS FALSE NEIGHBOUR: 'it returns false'. Refute it at one input. -/
def grammarBlanksWrong : ChangeSpec := { name := "grammarBlanks", fn := fun _ => fun
  | [d] => { results := [.lit (.bool false)], args := [d] }
  | _ => none }
def GrammarBlanksWrongFalsely : Prop := grammarBlanksRow.holds Try.pinned (OpenSpec.ofChange grammarBlanksWrong)

/-- 'soughlaw03.GrammarExprs': WHATEVER THE INPUT: true; the input reads as it did. -/
def grammarExprsSpec : ChangeSpec := { name := "grammarExprs", fn := fun _ => fun
  | [d] => { results := [.lit (.bool true)], args := [d] }
  | _ => none }
def grammarExprsRow : OpenClaim := { program := "ytmnplnhblniimaa", sum := "aed0be99dcfd26d59b1100a8c1f7916d1d54d5d61c76bc05ba0f0e65f3dc73d0", func := "sough/soughlaw03.GrammarExprs", spec := "grammarExprs", unfollowed := true, recurses := true, apart := false }
def GrammarExprsSaid : Prop := grammarExprsRow.holds Try.pinned (OpenSpec.ofChange grammarExprsSpec)

/-- ITS FALSE NEIGHBOUR: 'it returns false'. Refute it at one input. -/
def grammarExprsWrong : ChangeSpec := { name := "grammarExprs", fn := fun _ => fun
  | [d] => { results := [.lit (.bool false)], args := [d] }
  | _ => none }
def GrammarExprsWrongFalsely : Prop := grammarExprsRow.holds Try.pinned (OpenSpec.ofChange grammarExprsWrong)

/-- 'soughlaw04.ProperParsed': WHATEVER THE INPUT: true; the input reads as it did. -/
def properParsedSpec : ChangeSpec := { name := "properParsed", fn := fun _ => fun
  | [d] => { results := [.lit (.bool true)], args := [d] }
  | _ => none }
def properParsedRow : OpenClaim := { program := "ytmnplnhblniimaa", sum := "aed0be99dcfd26d59b1100a8c1f7916d1d54d5d61c76bc05ba0f0e65f3dc73d0", func := "sough/soughlaw04.ProperParsed", spec := "properParsed", inPlace := ["slices.overlaps[string]"], unfollowed := true, recurses := true, apart := false }
def ProperParsedSaid : Prop := properParsedRow.holds Try.pinned (OpenSpec.ofChange properParsedSpec)

/-- ITS FALSE NEIGHBOUR: 'it returns false'. Refute it at one input. -/
def properParsedWrong : ChangeSpec := { name := "properParsed", fn := fun _ => fun
  | [d] => { results := [.lit (.bool false)], args := [d] }
  | _ => none }
def ProperParsedWrongFalsely : Prop := properParsedRow.holds Try.pinned (OpenSpec.ofChange properParsedWrong)

/-- 'soughlaw05.PrinterBack': WHATEVER THE INPUT: true; the input reads as it did. -/
def printerBackSpec : ChangeSpec := { name := "printerBack", fn := fun _ => fun
  | [d1, d2] => { results := [.lit (.bool true)], args := [d1, d2] }
  | _ => none }
def printerBackRow : OpenClaim := { program := "ytmnplnhblniimaa", sum := "aed0be99dcfd26d59b1100a8c1f7916d1d54d5d61c76bc05ba0f0e65f3dc73d0", func := "sough/soughlaw05.PrinterBack", spec := "printerBack", inPlace := ["slices.overlaps[string]", "internal/abi.NoEscape"], unfollowed := true, recurses := true, apart := false }
def PrinterBackSaid : Prop := printerBackRow.holds Try.pinned (OpenSpec.ofChange printerBackSpec)

/-- ITS FALSE NEIGHBOUR: 'it returns false'. Refute it at one input. -/
def printerBackWrong : ChangeSpec := { name := "printerBack", fn := fun _ => fun
  | [d1, d2] => { results := [.lit (.bool false)], args := [d1, d2] }
  | _ => none }
def PrinterBackWrongFalsely : Prop := printerBackRow.holds Try.pinned (OpenSpec.ofChange printerBackWrong)

/- THE SECOND FORM. 'bulk': how many values and letters a reading holds, each counted each time it is reached (what is shared counts as often as it is met; a slice's spare places count too). A statement '..UptoSaid' is the law's where the arguments, and the package variables that the reading takes, are together of bulk at most 1048576: NARROWER than '..Said'. Prove '..Said' where nothing that the law and all that it calls make is longer than what came in: it says more and counts as full. Else prove '..UptoSaid'. A law counts once. -/
mutual
def uptoBulk {H : Type} : DataW H → Nat
  | .lit (.string bytes) => bytes.length + 1
  | .lit _ => 1
  | .nil => 1
  | .ptr d => uptoBulk d + 1
  | .slice elems spare => uptoBulkAll elems + uptoBulkAll spare + 1
  | .agg parts => uptoBulkAll parts + 1
  | .iface _ d => uptoBulk d + 1
  | .map entries => uptoBulkEntries entries + 1
  | .held _ => 1
def uptoBulkAll {H : Type} : List (DataW H) → Nat
  | [] => 0
  | d :: r => uptoBulk d + uptoBulkAll r
def uptoBulkEntries {H : Type} : List (Lit × DataW H) → Nat
  | [] => 0
  | x :: r => uptoBulkEntry x + uptoBulkEntries r
def uptoBulkEntry {H : Type} : Lit × DataW H → Nat
  | (.string bytes, d) => bytes.length + uptoBulk d + 1
  | (_, d) => uptoBulk d + 1
 end
def uptoSmall : (H : Type) → List (DataW H) → Bool := fun _ ds => decide (uptoBulkAll ds ≤ 1048576)
def OpenSpec.upto (s : _root_.Go.ChangeSpec) : _root_.Go.OpenSpec := { _root_.Go.OpenSpec.ofChange s with cond := some uptoSmall }

/-- 'soughlaw03.GrammarPrograms', WHERE WHAT IT READS IS OF BULK AT MOST 1048576: true; the input reads as it did. -/
def grammarProgramsUptoRow : OpenClaim := { program := "ytmnplnhblniimaa", sum := "aed0be99dcfd26d59b1100a8c1f7916d1d54d5d61c76bc05ba0f0e65f3dc73d0", func := "sough/soughlaw03.GrammarPrograms", spec := "grammarPrograms", unfollowed := true, recurses := true, apart := false, narrowed := true }
def GrammarProgramsUptoSaid : Prop := grammarProgramsUptoRow.holds Try.pinned (OpenSpec.upto grammarProgramsSpec)

/-- 'soughlaw03.GrammarBlanks', WHERE WHAT IT READS IS OF BULK AT MOST 1048576: true; the input reads as it did. -/
def grammarBlanksUptoRow : OpenClaim := { program := "ytmnplnhblniimaa", sum := "aed0be99dcfd26d59b1100a8c1f7916d1d54d5d61c76bc05ba0f0e65f3dc73d0", func := "sough/soughlaw03.GrammarBlanks", spec := "grammarBlanks", unfollowed := true, recurses := true, apart := false, narrowed := true }
def GrammarBlanksUptoSaid : Prop := grammarBlanksUptoRow.holds Try.pinned (OpenSpec.upto grammarBlanksSpec)

/-- 'soughlaw03.GrammarExprs', WHERE WHAT IT READS IS OF BULK AT MOST 1048576: true; the input reads as it did. -/
def grammarExprsUptoRow : OpenClaim := { program := "ytmnplnhblniimaa", sum := "aed0be99dcfd26d59b1100a8c1f7916d1d54d5d61c76bc05ba0f0e65f3dc73d0", func := "sough/soughlaw03.GrammarExprs", spec := "grammarExprs", unfollowed := true, recurses := true, apart := false, narrowed := true }
def GrammarExprsUptoSaid : Prop := grammarExprsUptoRow.holds Try.pinned (OpenSpec.upto grammarExprsSpec)

/-- 'soughlaw04.ProperParsed', WHERE WHAT IT READS IS OF BULK AT MOST 1048576: true; the input reads as it did. -/
def properParsedUptoRow : OpenClaim := { program := "ytmnplnhblniimaa", sum := "aed0be99dcfd26d59b1100a8c1f7916d1d54d5d61c76bc05ba0f0e65f3dc73d0", func := "sough/soughlaw04.ProperParsed", spec := "properParsed", inPlace := ["slices.overlaps[string]"], unfollowed := true, recurses := true, apart := false, narrowed := true }
def ProperParsedUptoSaid : Prop := properParsedUptoRow.holds Try.pinned (OpenSpec.upto properParsedSpec)

/-- 'soughlaw05.PrinterBack', WHERE WHAT IT READS IS OF BULK AT MOST 1048576: true; the input reads as it did. -/
def printerBackUptoRow : OpenClaim := { program := "ytmnplnhblniimaa", sum := "aed0be99dcfd26d59b1100a8c1f7916d1d54d5d61c76bc05ba0f0e65f3dc73d0", func := "sough/soughlaw05.PrinterBack", spec := "printerBack", inPlace := ["slices.overlaps[string]", "internal/abi.NoEscape"], unfollowed := true, recurses := true, apart := false, narrowed := true }
def PrinterBackUptoSaid : Prop := printerBackUptoRow.holds Try.pinned (OpenSpec.upto printerBackSpec)

end Rows
end Go.Proofs.Ytmnplnhblniimaa
