/-
  No cell of these rows narrows 'for every input' (looked for: loops, veiled, ifaces, maps, wideKeys, modest, calm, conditions, laid).
  DERIVED. THE GIVEN ROWS OF THIS SEAT. 12 by the template 'for every input the law returns true; each argument reads behind the call as it read before'; 0 by the template 'total and deterministic' (their statements: YthmcenlkhfdhfaaTotals.lean).
  GIVEN WITH THE SEED: the statements are not yours to turn. If you find one false, say at which input.
  Laid BY PROGRAM, IN A SANDBOX (cutbox-rows.mjs): the forced cells as the released guide's own fill.sh prints them over the translation c8f0b648db157a6e… (all of the seat's roots in one cut). By AI agents, Wed Nov 11 2026. No macro, syntax, notation, axiom, sorry.
-/
import Derived.Test.YthmcenlkhfdhfaaChecked
import GoSem.Claim
import GoSem.ClaimJoined
import GoSem.ClaimMapViews
import Derived.JoinedTies
import Derived.KernelRfl
namespace Go.Proofs.Ythmcenlkhfdhfaa
/- THE CELL 'sum', in the pinned program and in every row, IS THE sha256 OF THE DUMP (.gsa) THAT YthmcenlkhfdhfaaProg.lean LOADS. Nothing in Lean hashes anything: it is a label: what it is worth is what the hold of that sum in a sandbox is worth. -/
noncomputable def Try.pinned : Pinned := { name := "ythmcenlkhfdhfaa", sum := "c8f0b648db157a6ee1b9364a0d542f6f291478b184f767dff5310a224dcfddb3", checked := Try.checked }
namespace Rows
def none {H : Type} : Left H := { results := [], args := [] }

/-- 'soughlaw05.PrinterParts': WHATEVER THE INPUT: true; the input reads as it did. -/
def printerPartsSpec : ChangeSpec := { name := "printerParts", fn := fun _ => fun
  | [d1, d2, d3, d4] => { results := [.lit (.bool true)], args := [d1, d2, d3, d4] }
  | _ => none }
def printerPartsRow : OpenClaim := { program := "ythmcenlkhfdhfaa", sum := "c8f0b648db157a6ee1b9364a0d542f6f291478b184f767dff5310a224dcfddb3", func := "sough/soughlaw05.PrinterParts", spec := "printerParts", recurses := true, apart := false }
def PrinterPartsSaid : Prop := printerPartsRow.holds Try.pinned (OpenSpec.ofChange printerPartsSpec)

/-- ITS FALSE NEIGHBOUR: 'it returns false'. Refute it at one input. -/
def printerPartsWrong : ChangeSpec := { name := "printerParts", fn := fun _ => fun
  | [d1, d2, d3, d4] => { results := [.lit (.bool false)], args := [d1, d2, d3, d4] }
  | _ => none }
def PrinterPartsWrongFalsely : Prop := printerPartsRow.holds Try.pinned (OpenSpec.ofChange printerPartsWrong)

/-- 'soughlaw02.TokenOf': WHATEVER THE INPUT: true; the input reads as it did. -/
def tokenOfSpec : ChangeSpec := { name := "tokenOf", fn := fun _ => fun
  | [d] => { results := [.lit (.bool true)], args := [d] }
  | _ => none }
def tokenOfRow : OpenClaim := { program := "ythmcenlkhfdhfaa", sum := "c8f0b648db157a6ee1b9364a0d542f6f291478b184f767dff5310a224dcfddb3", func := "sough/soughlaw02.TokenOf", spec := "tokenOf", apart := false }
def TokenOfSaid : Prop := tokenOfRow.holds Try.pinned (OpenSpec.ofChange tokenOfSpec)

/-- ITS FALSE NEIGHBOUR: 'it returns false'. Refute it at one input. -/
def tokenOfWrong : ChangeSpec := { name := "tokenOf", fn := fun _ => fun
  | [d] => { results := [.lit (.bool false)], args := [d] }
  | _ => none }
def TokenOfWrongFalsely : Prop := tokenOfRow.holds Try.pinned (OpenSpec.ofChange tokenOfWrong)

/-- 'soughlaw02.TokenShows': WHATEVER THE INPUT: true; the input reads as it did. -/
def tokenShowsSpec : ChangeSpec := { name := "tokenShows", fn := fun _ => fun
  | [d] => { results := [.lit (.bool true)], args := [d] }
  | _ => none }
def tokenShowsRow : OpenClaim := { program := "ythmcenlkhfdhfaa", sum := "c8f0b648db157a6ee1b9364a0d542f6f291478b184f767dff5310a224dcfddb3", func := "sough/soughlaw02.TokenShows", spec := "tokenShows", apart := false }
def TokenShowsSaid : Prop := tokenShowsRow.holds Try.pinned (OpenSpec.ofChange tokenShowsSpec)

/-- ITS FALSE NEIGHBOUR: 'it returns false'. Refute it at one input. -/
def tokenShowsWrong : ChangeSpec := { name := "tokenShows", fn := fun _ => fun
  | [d] => { results := [.lit (.bool false)], args := [d] }
  | _ => none }
def TokenShowsWrongFalsely : Prop := tokenShowsRow.holds Try.pinned (OpenSpec.ofChange tokenShowsWrong)

/-- 'soughlaw02.TokenBack': WHATEVER THE INPUT: true; the input reads as it did. -/
def tokenBackSpec : ChangeSpec := { name := "tokenBack", fn := fun _ => fun
  | [d] => { results := [.lit (.bool true)], args := [d] }
  | _ => none }
def tokenBackRow : OpenClaim := { program := "ythmcenlkhfdhfaa", sum := "c8f0b648db157a6ee1b9364a0d542f6f291478b184f767dff5310a224dcfddb3", func := "sough/soughlaw02.TokenBack", spec := "tokenBack", apart := false }
def TokenBackSaid : Prop := tokenBackRow.holds Try.pinned (OpenSpec.ofChange tokenBackSpec)

/-- ITS FALSE NEIGHBOUR: 'it returns false'. Refute it at one input. -/
def tokenBackWrong : ChangeSpec := { name := "tokenBack", fn := fun _ => fun
  | [d] => { results := [.lit (.bool false)], args := [d] }
  | _ => none }
def TokenBackWrongFalsely : Prop := tokenBackRow.holds Try.pinned (OpenSpec.ofChange tokenBackWrong)

/-- 'soughlaw04.ProperChecks': WHATEVER THE INPUT: true; the input reads as it did. -/
def properChecksSpec : ChangeSpec := { name := "properChecks", fn := fun _ => fun
  | [d] => { results := [.lit (.bool true)], args := [d] }
  | _ => none }
def properChecksRow : OpenClaim := { program := "ythmcenlkhfdhfaa", sum := "c8f0b648db157a6ee1b9364a0d542f6f291478b184f767dff5310a224dcfddb3", func := "sough/soughlaw04.ProperChecks", spec := "properChecks", inPlace := ["slices.overlaps[string]"], unfollowed := true, recurses := true, apart := false }
def ProperChecksSaid : Prop := properChecksRow.holds Try.pinned (OpenSpec.ofChange properChecksSpec)

/-- ITS FALSE NEIGHBOUR: 'it returns false'. Refute it at one input. -/
def properChecksWrong : ChangeSpec := { name := "properChecks", fn := fun _ => fun
  | [d] => { results := [.lit (.bool false)], args := [d] }
  | _ => none }
def ProperChecksWrongFalsely : Prop := properChecksRow.holds Try.pinned (OpenSpec.ofChange properChecksWrong)

/-- 'soughlaw03.GrammarPrograms': WHATEVER THE INPUT: true; the input reads as it did. -/
def grammarProgramsSpec : ChangeSpec := { name := "grammarPrograms", fn := fun _ => fun
  | [d] => { results := [.lit (.bool true)], args := [d] }
  | _ => none }
def grammarProgramsRow : OpenClaim := { program := "ythmcenlkhfdhfaa", sum := "c8f0b648db157a6ee1b9364a0d542f6f291478b184f767dff5310a224dcfddb3", func := "sough/soughlaw03.GrammarPrograms", spec := "grammarPrograms", unfollowed := true, recurses := true, apart := false }
def GrammarProgramsSaid : Prop := grammarProgramsRow.holds Try.pinned (OpenSpec.ofChange grammarProgramsSpec)

/-- ITS FALSE NEIGHBOUR: 'it returns false'. Refute it at one input. -/
def grammarProgramsWrong : ChangeSpec := { name := "grammarPrograms", fn := fun _ => fun
  | [d] => { results := [.lit (.bool false)], args := [d] }
  | _ => none }
def GrammarProgramsWrongFalsely : Prop := grammarProgramsRow.holds Try.pinned (OpenSpec.ofChange grammarProgramsWrong)

/-- 'soughlaw03.GrammarBlanks': WHATEVER THE INPUT: true; the input reads as it did. -/
def grammarBlanksSpec : ChangeSpec := { name := "grammarBlanks", fn := fun _ => fun
  | [d] => { results := [.lit (.bool true)], args := [d] }
  | _ => none }
def grammarBlanksRow : OpenClaim := { program := "ythmcenlkhfdhfaa", sum := "c8f0b648db157a6ee1b9364a0d542f6f291478b184f767dff5310a224dcfddb3", func := "sough/soughlaw03.GrammarBlanks", spec := "grammarBlanks", unfollowed := true, recurses := true, apart := false }
def GrammarBlanksSaid : Prop := grammarBlanksRow.holds Try.pinned (OpenSpec.ofChange grammarBlanksSpec)

/-- ITS FALSE NEIGHBOUR: 'it returns false'. Refute it at one input. -/
def grammarBlanksWrong : ChangeSpec := { name := "grammarBlanks", fn := fun _ => fun
  | [d] => { results := [.lit (.bool false)], args := [d] }
  | _ => none }
def GrammarBlanksWrongFalsely : Prop := grammarBlanksRow.holds Try.pinned (OpenSpec.ofChange grammarBlanksWrong)

/-- 'soughlaw03.GrammarExprs': WHATEVER THE INPUT: true; the input reads as it did. -/
def grammarExprsSpec : ChangeSpec := { name := "grammarExprs", fn := fun _ => fun
  | [d] => { results := [.lit (.bool true)], args := [d] }
  | _ => none }
def grammarExprsRow : OpenClaim := { program := "ythmcenlkhfdhfaa", sum := "c8f0b648db157a6ee1b9364a0d542f6f291478b184f767dff5310a224dcfddb3", func := "sough/soughlaw03.GrammarExprs", spec := "grammarExprs", unfollowed := true, recurses := true, apart := false }
def GrammarExprsSaid : Prop := grammarExprsRow.holds Try.pinned (OpenSpec.ofChange grammarExprsSpec)

/-- ITS FALSE NEIGHBOUR: 'it returns false'. Refute it at one input. -/
def grammarExprsWrong : ChangeSpec := { name := "grammarExprs", fn := fun _ => fun
  | [d] => { results := [.lit (.bool false)], args := [d] }
  | _ => none }
def GrammarExprsWrongFalsely : Prop := grammarExprsRow.holds Try.pinned (OpenSpec.ofChange grammarExprsWrong)

/-- 'soughlaw04.ProperSames': WHATEVER THE INPUT: true; the input reads as it did. -/
def properSamesSpec : ChangeSpec := { name := "properSames", fn := fun _ => fun
  | [d1, d2, d3] => { results := [.lit (.bool true)], args := [d1, d2, d3] }
  | _ => none }
def properSamesRow : OpenClaim := { program := "ythmcenlkhfdhfaa", sum := "c8f0b648db157a6ee1b9364a0d542f6f291478b184f767dff5310a224dcfddb3", func := "sough/soughlaw04.ProperSames", spec := "properSames", inPlace := ["slices.overlaps[string]"], unfollowed := true, recurses := true, apart := false }
def ProperSamesSaid : Prop := properSamesRow.holds Try.pinned (OpenSpec.ofChange properSamesSpec)

/-- ITS FALSE NEIGHBOUR: 'it returns false'. Refute it at one input. -/
def properSamesWrong : ChangeSpec := { name := "properSames", fn := fun _ => fun
  | [d1, d2, d3] => { results := [.lit (.bool false)], args := [d1, d2, d3] }
  | _ => none }
def ProperSamesWrongFalsely : Prop := properSamesRow.holds Try.pinned (OpenSpec.ofChange properSamesWrong)

/-- 'soughlaw05.PrinterPrograms': WHATEVER THE INPUT: true; the input reads as it did. -/
def printerProgramsSpec : ChangeSpec := { name := "printerPrograms", fn := fun _ => fun
  | [d] => { results := [.lit (.bool true)], args := [d] }
  | _ => none }
def printerProgramsRow : OpenClaim := { program := "ythmcenlkhfdhfaa", sum := "c8f0b648db157a6ee1b9364a0d542f6f291478b184f767dff5310a224dcfddb3", func := "sough/soughlaw05.PrinterPrograms", spec := "printerPrograms", inPlace := ["slices.overlaps[string]", "internal/abi.NoEscape"], unfollowed := true, recurses := true, apart := false }
def PrinterProgramsSaid : Prop := printerProgramsRow.holds Try.pinned (OpenSpec.ofChange printerProgramsSpec)

/-- ITS FALSE NEIGHBOUR: 'it returns false'. Refute it at one input. -/
def printerProgramsWrong : ChangeSpec := { name := "printerPrograms", fn := fun _ => fun
  | [d] => { results := [.lit (.bool false)], args := [d] }
  | _ => none }
def PrinterProgramsWrongFalsely : Prop := printerProgramsRow.holds Try.pinned (OpenSpec.ofChange printerProgramsWrong)

/-- 'soughlaw04.ProperParsed': WHATEVER THE INPUT: true; the input reads as it did. -/
def properParsedSpec : ChangeSpec := { name := "properParsed", fn := fun _ => fun
  | [d] => { results := [.lit (.bool true)], args := [d] }
  | _ => none }
def properParsedRow : OpenClaim := { program := "ythmcenlkhfdhfaa", sum := "c8f0b648db157a6ee1b9364a0d542f6f291478b184f767dff5310a224dcfddb3", func := "sough/soughlaw04.ProperParsed", spec := "properParsed", inPlace := ["slices.overlaps[string]"], unfollowed := true, recurses := true, apart := false }
def ProperParsedSaid : Prop := properParsedRow.holds Try.pinned (OpenSpec.ofChange properParsedSpec)

/-- ITS FALSE NEIGHBOUR: 'it returns false'. Refute it at one input. -/
def properParsedWrong : ChangeSpec := { name := "properParsed", fn := fun _ => fun
  | [d] => { results := [.lit (.bool false)], args := [d] }
  | _ => none }
def ProperParsedWrongFalsely : Prop := properParsedRow.holds Try.pinned (OpenSpec.ofChange properParsedWrong)

/-- 'soughlaw05.PrinterBack': WHATEVER THE INPUT: true; the input reads as it did. -/
def printerBackSpec : ChangeSpec := { name := "printerBack", fn := fun _ => fun
  | [d1, d2] => { results := [.lit (.bool true)], args := [d1, d2] }
  | _ => none }
def printerBackRow : OpenClaim := { program := "ythmcenlkhfdhfaa", sum := "c8f0b648db157a6ee1b9364a0d542f6f291478b184f767dff5310a224dcfddb3", func := "sough/soughlaw05.PrinterBack", spec := "printerBack", inPlace := ["slices.overlaps[string]", "internal/abi.NoEscape"], unfollowed := true, recurses := true, apart := false }
def PrinterBackSaid : Prop := printerBackRow.holds Try.pinned (OpenSpec.ofChange printerBackSpec)

/-- ITS FALSE NEIGHBOUR: 'it returns false'. Refute it at one input. -/
def printerBackWrong : ChangeSpec := { name := "printerBack", fn := fun _ => fun
  | [d1, d2] => { results := [.lit (.bool false)], args := [d1, d2] }
  | _ => none }
def PrinterBackWrongFalsely : Prop := printerBackRow.holds Try.pinned (OpenSpec.ofChange printerBackWrong)

/- THE SECOND FORM. 'bulk': how many values and letters a reading holds, each counted each time it is reached (what is shared counts as often as it is met; a slice's spare places count too). A statement '..UptoSaid' is the law's where the arguments, and the package variables that the reading takes, are together of bulk at most 1048576: NARROWER than '..Said'. Prove '..Said' where nothing that the law and all that it calls make is longer than what came in: it says more and counts as full. Else prove '..UptoSaid'. A law counts once. -/
mutual
def uptoBulk {H : Type} : DataW H → Nat
  | .lit (.string bytes) => bytes.length + 1
  | .lit _ => 1
  | .nil => 1
  | .ptr d => uptoBulk d + 1
  | .slice elems spare => uptoBulkAll elems + uptoBulkAll spare + 1
  | .agg parts => uptoBulkAll parts + 1
  | .iface _ d => uptoBulk d + 1
  | .map entries => uptoBulkEntries entries + 1
  | .held _ => 1
def uptoBulkAll {H : Type} : List (DataW H) → Nat
  | [] => 0
  | d :: r => uptoBulk d + uptoBulkAll r
def uptoBulkEntries {H : Type} : List (Lit × DataW H) → Nat
  | [] => 0
  | x :: r => uptoBulkEntry x + uptoBulkEntries r
def uptoBulkEntry {H : Type} : Lit × DataW H → Nat
  | (.string bytes, d) => bytes.length + uptoBulk d + 1
  | (_, d) => uptoBulk d + 1
 end
def uptoSmall : (H : Type) → List (DataW H) → Bool := fun _ ds => decide (uptoBulkAll ds ≤ 1048576)
def OpenSpec.upto (s : _root_.Go.ChangeSpec) : _root_.Go.OpenSpec := { _root_.Go.OpenSpec.ofChange s with cond := some uptoSmall }

/-- 'soughlaw05.PrinterParts', WHERE WHAT IT READS IS OF BULK AT MOST 1048576: true; the input reads as it did. -/
def printerPartsUptoRow : OpenClaim := { program := "ythmcenlkhfdhfaa", sum := "c8f0b648db157a6ee1b9364a0d542f6f291478b184f767dff5310a224dcfddb3", func := "sough/soughlaw05.PrinterParts", spec := "printerParts", recurses := true, apart := false, narrowed := true }
def PrinterPartsUptoSaid : Prop := printerPartsUptoRow.holds Try.pinned (OpenSpec.upto printerPartsSpec)

/-- 'soughlaw02.TokenOf', WHERE WHAT IT READS IS OF BULK AT MOST 1048576: true; the input reads as it did. -/
def tokenOfUptoRow : OpenClaim := { program := "ythmcenlkhfdhfaa", sum := "c8f0b648db157a6ee1b9364a0d542f6f291478b184f767dff5310a224dcfddb3", func := "sough/soughlaw02.TokenOf", spec := "tokenOf", apart := false, narrowed := true }
def TokenOfUptoSaid : Prop := tokenOfUptoRow.holds Try.pinned (OpenSpec.upto tokenOfSpec)

/-- 'soughlaw02.TokenShows', WHERE WHAT IT READS IS OF BULK AT MOST 1048576: true; the input reads as it did. -/
def tokenShowsUptoRow : OpenClaim := { program := "ythmcenlkhfdhfaa", sum := "c8f0b648db157a6ee1b9364a0d542f6f291478b184f767dff5310a224dcfddb3", func := "sough/soughlaw02.TokenShows", spec := "tokenShows", apart := false, narrowed := true }
def TokenShowsUptoSaid : Prop := tokenShowsUptoRow.holds Try.pinned (OpenSpec.upto tokenShowsSpec)

/-- 'soughlaw02.TokenBack', WHERE WHAT IT READS IS OF BULK AT MOST 1048576: true; the input reads as it did. -/
def tokenBackUptoRow : OpenClaim := { program := "ythmcenlkhfdhfaa", sum := "c8f0b648db157a6ee1b9364a0d542f6f291478b184f767dff5310a224dcfddb3", func := "sough/soughlaw02.TokenBack", spec := "tokenBack", apart := false, narrowed := true }
def TokenBackUptoSaid : Prop := tokenBackUptoRow.holds Try.pinned (OpenSpec.upto tokenBackSpec)

/-- 'soughlaw04.ProperChecks', WHERE WHAT IT READS IS OF BULK AT MOST 1048576: true; the input reads as it did. -/
def properChecksUptoRow : OpenClaim := { program := "ythmcenlkhfdhfaa", sum := "c8f0b648db157a6ee1b9364a0d542f6f291478b184f767dff5310a224dcfddb3", func := "sough/soughlaw04.ProperChecks", spec := "properChecks", inPlace := ["slices.overlaps[string]"], unfollowed := true, recurses := true, apart := false, narrowed := true }
def ProperChecksUptoSaid : Prop := properChecksUptoRow.holds Try.pinned (OpenSpec.upto properChecksSpec)

/-- 'soughlaw03.GrammarPrograms', WHERE WHAT IT READS IS OF BULK AT MOST 1048576: true; the input reads as it did. -/
def grammarProgramsUptoRow : OpenClaim := { program := "ythmcenlkhfdhfaa", sum := "c8f0b648db157a6ee1b9364a0d542f6f291478b184f767dff5310a224dcfddb3", func := "sough/soughlaw03.GrammarPrograms", spec := "grammarPrograms", unfollowed := true, recurses := true, apart := false, narrowed := true }
def GrammarProgramsUptoSaid : Prop := grammarProgramsUptoRow.holds Try.pinned (OpenSpec.upto grammarProgramsSpec)

/-- 'soughlaw03.GrammarBlanks', WHERE WHAT IT READS IS OF BULK AT MOST 1048576: true; the input reads as it did. -/
def grammarBlanksUptoRow : OpenClaim := { program := "ythmcenlkhfdhfaa", sum := "c8f0b648db157a6ee1b9364a0d542f6f291478b184f767dff5310a224dcfddb3", func := "sough/soughlaw03.GrammarBlanks", spec := "grammarBlanks", unfollowed := true, recurses := true, apart := false, narrowed := true }
def GrammarBlanksUptoSaid : Prop := grammarBlanksUptoRow.holds Try.pinned (OpenSpec.upto grammarBlanksSpec)

/-- 'soughlaw03.GrammarExprs', WHERE WHAT IT READS IS OF BULK AT MOST 1048576: true; the input reads as it did. -/
def grammarExprsUptoRow : OpenClaim := { program := "ythmcenlkhfdhfaa", sum := "c8f0b648db157a6ee1b9364a0d542f6f291478b184f767dff5310a224dcfddb3", func := "sough/soughlaw03.GrammarExprs", spec := "grammarExprs", unfollowed := true, recurses := true, apart := false, narrowed := true }
def GrammarExprsUptoSaid : Prop := grammarExprsUptoRow.holds Try.pinned (OpenSpec.upto grammarExprsSpec)

/-- 'soughlaw04.ProperSames', WHERE WHAT IT READS IS OF BULK AT MOST 1048576: true; the input reads as it did. -/
def properSamesUptoRow : OpenClaim := { program := "ythmcenlkhfdhfaa", sum := "c8f0b648db157a6ee1b9364a0d542f6f291478b184f767dff5310a224dcfddb3", func := "sough/soughlaw04.ProperSames", spec := "properSames", inPlace := ["slices.overlaps[string]"], unfollowed := true, recurses := true, apart := false, narrowed := true }
def ProperSamesUptoSaid : Prop := properSamesUptoRow.holds Try.pinned (OpenSpec.upto properSamesSpec)

/-- 'soughlaw05.PrinterPrograms', WHERE WHAT IT READS IS OF BULK AT MOST 1048576: true; the input reads as it did. -/
def printerProgramsUptoRow : OpenClaim := { program := "ythmcenlkhfdhfaa", sum := "c8f0b648db157a6ee1b9364a0d542f6f291478b184f767dff5310a224dcfddb3", func := "sough/soughlaw05.PrinterPrograms", spec := "printerPrograms", inPlace := ["slices.overlaps[string]", "internal/abi.NoEscape"], unfollowed := true, recurses := true, apart := false, narrowed := true }
def PrinterProgramsUptoSaid : Prop := printerProgramsUptoRow.holds Try.pinned (OpenSpec.upto printerProgramsSpec)

/-- 'soughlaw04.ProperParsed', WHERE WHAT IT READS IS OF BULK AT MOST 1048576: true; the input reads as it did. -/
def properParsedUptoRow : OpenClaim := { program := "ythmcenlkhfdhfaa", sum := "c8f0b648db157a6ee1b9364a0d542f6f291478b184f767dff5310a224dcfddb3", func := "sough/soughlaw04.ProperParsed", spec := "properParsed", inPlace := ["slices.overlaps[string]"], unfollowed := true, recurses := true, apart := false, narrowed := true }
def ProperParsedUptoSaid : Prop := properParsedUptoRow.holds Try.pinned (OpenSpec.upto properParsedSpec)

/-- 'soughlaw05.PrinterBack', WHERE WHAT IT READS IS OF BULK AT MOST 1048576: true; the input reads as it did. -/
def printerBackUptoRow : OpenClaim := { program := "ythmcenlkhfdhfaa", sum := "c8f0b648db157a6ee1b9364a0d542f6f291478b184f767dff5310a224dcfddb3", func := "sough/soughlaw05.PrinterBack", spec := "printerBack", inPlace := ["slices.overlaps[string]", "internal/abi.NoEscape"], unfollowed := true, recurses := true, apart := false, narrowed := true }
def PrinterBackUptoSaid : Prop := printerBackUptoRow.holds Try.pinned (OpenSpec.upto printerBackSpec)

end Rows
end Go.Proofs.Ythmcenlkhfdhfaa
