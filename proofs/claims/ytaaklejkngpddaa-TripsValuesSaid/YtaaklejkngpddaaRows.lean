/-
  No cell of these rows narrows 'for every input' (looked for: loops, veiled, ifaces, maps, wideKeys, modest, calm, conditions, laid).
  DERIVED. THE GIVEN ROWS OF THIS SEAT. 6 by the template 'for every input the law returns true; each argument reads behind the call as it read before'; 0 by the template 'total and deterministic' (their statements: YtaaklejkngpddaaTotals.lean).
  GIVEN WITH THE SEED: the statements are not yours to turn. If you find one false, say at which input.
  Laid BY PROGRAM, IN A SANDBOX (cutbox-rows.mjs): the forced cells as the released guide's own fill.sh prints them over the translation 3f7b6e5e808dcb55… (all of the seat's roots in one cut). By AI agents, Wed Nov 11 2026. No macro, syntax, notation, axiom, sorry.
-/
import Derived.Test.YtaaklejkngpddaaChecked
import GoSem.Claim
import GoSem.ClaimJoined
import GoSem.ClaimMapViews
import Derived.JoinedTies
import Derived.KernelRfl
namespace Go.Proofs.Ytaaklejkngpddaa
/- THE CELL 'sum', in the pinned program and in every row, IS THE sha256 OF THE DUMP (.gsa) THAT YtaaklejkngpddaaProg.lean LOADS. Nothing in Lean hashes anything: it is a label: what it is worth is what the hold of that sum in a sandbox is worth. -/
noncomputable def Try.pinned : Pinned := { name := "ytaaklejkngpddaa", sum := "3f7b6e5e808dcb55e047634a191c29aaf544a08b23318e225c15a680944dff36", checked := Try.checked }
namespace Rows
def none {H : Type} : Left H := { results := [], args := [] }

/-- 'soughlaw08.ExecParts': WHATEVER THE INPUT: true; the input reads as it did. -/
def execPartsSpec : ChangeSpec := { name := "execParts", fn := fun _ => fun
  | [d1, d2, d3] => { results := [.lit (.bool true)], args := [d1, d2, d3] }
  | _ => none }
def execPartsRow : OpenClaim := { program := "ytaaklejkngpddaa", sum := "3f7b6e5e808dcb55e047634a191c29aaf544a08b23318e225c15a680944dff36", func := "sough/soughlaw08.ExecParts", spec := "execParts", inPlace := ["slices.overlaps[string]"], unfollowed := true, recurses := true, plainKeys := false, apart := false }
def ExecPartsSaid : Prop := execPartsRow.holds Try.pinned (OpenSpec.ofChange execPartsSpec)

/-- ITS FALSE NEIGHBOUR: 'it returns false'. Refute it at one input. -/
def execPartsWrong : ChangeSpec := { name := "execParts", fn := fun _ => fun
  | [d1, d2, d3] => { results := [.lit (.bool false)], args := [d1, d2, d3] }
  | _ => none }
def ExecPartsWrongFalsely : Prop := execPartsRow.holds Try.pinned (OpenSpec.ofChange execPartsWrong)

/-- 'soughlaw08.ExecRuns': WHATEVER THE INPUT: true; the input reads as it did. -/
def execRunsSpec : ChangeSpec := { name := "execRuns", fn := fun _ => fun
  | [d1, d2, d3, d4, d5, d6] => { results := [.lit (.bool true)], args := [d1, d2, d3, d4, d5, d6] }
  | _ => none }
def execRunsRow : OpenClaim := { program := "ytaaklejkngpddaa", sum := "3f7b6e5e808dcb55e047634a191c29aaf544a08b23318e225c15a680944dff36", func := "sough/soughlaw08.ExecRuns", spec := "execRuns", inPlace := ["slices.overlaps[string]"], unfollowed := true, recurses := true, plainKeys := false, apart := false }
def ExecRunsSaid : Prop := execRunsRow.holds Try.pinned (OpenSpec.ofChange execRunsSpec)

/-- ITS FALSE NEIGHBOUR: 'it returns false'. Refute it at one input. -/
def execRunsWrong : ChangeSpec := { name := "execRuns", fn := fun _ => fun
  | [d1, d2, d3, d4, d5, d6] => { results := [.lit (.bool false)], args := [d1, d2, d3, d4, d5, d6] }
  | _ => none }
def ExecRunsWrongFalsely : Prop := execRunsRow.holds Try.pinned (OpenSpec.ofChange execRunsWrong)

/-- 'soughlaw08.ExecBegins': WHATEVER THE INPUT: true; the input reads as it did. -/
def execBeginsSpec : ChangeSpec := { name := "execBegins", fn := fun _ => fun
  | [d1, d2, d3, d4] => { results := [.lit (.bool true)], args := [d1, d2, d3, d4] }
  | _ => none }
def execBeginsRow : OpenClaim := { program := "ytaaklejkngpddaa", sum := "3f7b6e5e808dcb55e047634a191c29aaf544a08b23318e225c15a680944dff36", func := "sough/soughlaw08.ExecBegins", spec := "execBegins", inPlace := ["slices.overlaps[string]"], unfollowed := true, recurses := true, plainKeys := false, apart := false }
def ExecBeginsSaid : Prop := execBeginsRow.holds Try.pinned (OpenSpec.ofChange execBeginsSpec)

/-- ITS FALSE NEIGHBOUR: 'it returns false'. Refute it at one input. -/
def execBeginsWrong : ChangeSpec := { name := "execBegins", fn := fun _ => fun
  | [d1, d2, d3, d4] => { results := [.lit (.bool false)], args := [d1, d2, d3, d4] }
  | _ => none }
def ExecBeginsWrongFalsely : Prop := execBeginsRow.holds Try.pinned (OpenSpec.ofChange execBeginsWrong)

/-- 'soughlaw08.ExecBlocks': WHATEVER THE INPUT: true; the input reads as it did. -/
def execBlocksSpec : ChangeSpec := { name := "execBlocks", fn := fun _ => fun
  | [d1, d2, d3, d4, d5] => { results := [.lit (.bool true)], args := [d1, d2, d3, d4, d5] }
  | _ => none }
def execBlocksRow : OpenClaim := { program := "ytaaklejkngpddaa", sum := "3f7b6e5e808dcb55e047634a191c29aaf544a08b23318e225c15a680944dff36", func := "sough/soughlaw08.ExecBlocks", spec := "execBlocks", inPlace := ["slices.overlaps[string]"], unfollowed := true, recurses := true, plainKeys := false, apart := false }
def ExecBlocksSaid : Prop := execBlocksRow.holds Try.pinned (OpenSpec.ofChange execBlocksSpec)

/-- ITS FALSE NEIGHBOUR: 'it returns false'. Refute it at one input. -/
def execBlocksWrong : ChangeSpec := { name := "execBlocks", fn := fun _ => fun
  | [d1, d2, d3, d4, d5] => { results := [.lit (.bool false)], args := [d1, d2, d3, d4, d5] }
  | _ => none }
def ExecBlocksWrongFalsely : Prop := execBlocksRow.holds Try.pinned (OpenSpec.ofChange execBlocksWrong)

/-- 'soughlaw09.TripsBlocks': WHATEVER THE INPUT: true; the input reads as it did. -/
def tripsBlocksSpec : ChangeSpec := { name := "tripsBlocks", fn := fun _ => fun
  | [d] => { results := [.lit (.bool true)], args := [d] }
  | _ => none }
def tripsBlocksRow : OpenClaim := { program := "ytaaklejkngpddaa", sum := "3f7b6e5e808dcb55e047634a191c29aaf544a08b23318e225c15a680944dff36", func := "sough/soughlaw09.TripsBlocks", spec := "tripsBlocks", inPlace := ["slices.overlaps[string]"], unfollowed := true, recurses := true, plainKeys := false, apart := false }
def TripsBlocksSaid : Prop := tripsBlocksRow.holds Try.pinned (OpenSpec.ofChange tripsBlocksSpec)

/-- ITS FALSE NEIGHBOUR: 'it returns false'. Refute it at one input. -/
def tripsBlocksWrong : ChangeSpec := { name := "tripsBlocks", fn := fun _ => fun
  | [d] => { results := [.lit (.bool false)], args := [d] }
  | _ => none }
def TripsBlocksWrongFalsely : Prop := tripsBlocksRow.holds Try.pinned (OpenSpec.ofChange tripsBlocksWrong)

/-- 'soughlaw09.TripsValues': WHATEVER THE INPUT: true; the input reads as it did. -/
def tripsValuesSpec : ChangeSpec := { name := "tripsValues", fn := fun _ => fun
  | [d1, d2, d3] => { results := [.lit (.bool true)], args := [d1, d2, d3] }
  | _ => none }
def tripsValuesRow : OpenClaim := { program := "ytaaklejkngpddaa", sum := "3f7b6e5e808dcb55e047634a191c29aaf544a08b23318e225c15a680944dff36", func := "sough/soughlaw09.TripsValues", spec := "tripsValues", inPlace := ["slices.overlaps[string]"], unfollowed := true, recurses := true, plainKeys := false, apart := false }
def TripsValuesSaid : Prop := tripsValuesRow.holds Try.pinned (OpenSpec.ofChange tripsValuesSpec)

/-- ITS FALSE NEIGHBOUR: 'it returns false'. Refute it at one input. -/
def tripsValuesWrong : ChangeSpec := { name := "tripsValues", fn := fun _ => fun
  | [d1, d2, d3] => { results := [.lit (.bool false)], args := [d1, d2, d3] }
  | _ => none }
def TripsValuesWrongFalsely : Prop := tripsValuesRow.holds Try.pinned (OpenSpec.ofChange tripsValuesWrong)

/- THE SECOND FORM. 'bulk': how many values and letters a reading holds, each counted each time it is reached (what is shared counts as often as it is met; a slice's spare places count too). A statement '..UptoSaid' is the law's where the arguments, and the package variables that the reading takes, are together of bulk at most 1048576: NARROWER than '..Said'. Prove '..Said' where nothing that the law and all that it calls make is longer than what came in: it says more and counts as full. Else prove '..UptoSaid'. A law counts once. -/
mutual
def uptoBulk {H : Type} : DataW H → Nat
  | .lit (.string bytes) => bytes.length + 1
  | .lit _ => 1
  | .nil => 1
  | .ptr d => uptoBulk d + 1
  | .slice elems spare => uptoBulkAll elems + uptoBulkAll spare + 1
  | .agg parts => uptoBulkAll parts + 1
  | .iface _ d => uptoBulk d + 1
  | .map entries => uptoBulkEntries entries + 1
  | .held _ => 1
def uptoBulkAll {H : Type} : List (DataW H) → Nat
  | [] => 0
  | d :: r => uptoBulk d + uptoBulkAll r
def uptoBulkEntries {H : Type} : List (Lit × DataW H) → Nat
  | [] => 0
  | x :: r => uptoBulkEntry x + uptoBulkEntries r
def uptoBulkEntry {H : Type} : Lit × DataW H → Nat
  | (.string bytes, d) => bytes.length + uptoBulk d + 1
  | (_, d) => uptoBulk d + 1
 end
def uptoSmall : (H : Type) → List (DataW H) → Bool := fun _ ds => decide (uptoBulkAll ds ≤ 1048576)
def OpenSpec.upto (s : _root_.Go.ChangeSpec) : _root_.Go.OpenSpec := { _root_.Go.OpenSpec.ofChange s with cond := some uptoSmall }

/-- 'soughlaw08.ExecParts', WHERE WHAT IT READS IS OF BULK AT MOST 1048576: true; the input reads as it did. -/
def execPartsUptoRow : OpenClaim := { program := "ytaaklejkngpddaa", sum := "3f7b6e5e808dcb55e047634a191c29aaf544a08b23318e225c15a680944dff36", func := "sough/soughlaw08.ExecParts", spec := "execParts", inPlace := ["slices.overlaps[string]"], unfollowed := true, recurses := true, plainKeys := false, apart := false, narrowed := true }
def ExecPartsUptoSaid : Prop := execPartsUptoRow.holds Try.pinned (OpenSpec.upto execPartsSpec)

/-- 'soughlaw08.ExecRuns', WHERE WHAT IT READS IS OF BULK AT MOST 1048576: true; the input reads as it did. -/
def execRunsUptoRow : OpenClaim := { program := "ytaaklejkngpddaa", sum := "3f7b6e5e808dcb55e047634a191c29aaf544a08b23318e225c15a680944dff36", func := "sough/soughlaw08.ExecRuns", spec := "execRuns", inPlace := ["slices.overlaps[string]"], unfollowed := true, recurses := true, plainKeys := false, apart := false, narrowed := true }
def ExecRunsUptoSaid : Prop := execRunsUptoRow.holds Try.pinned (OpenSpec.upto execRunsSpec)

/-- 'soughlaw08.ExecBegins', WHERE WHAT IT READS IS OF BULK AT MOST 1048576: true; the input reads as it did. -/
def execBeginsUptoRow : OpenClaim := { program := "ytaaklejkngpddaa", sum := "3f7b6e5e808dcb55e047634a191c29aaf544a08b23318e225c15a680944dff36", func := "sough/soughlaw08.ExecBegins", spec := "execBegins", inPlace := ["slices.overlaps[string]"], unfollowed := true, recurses := true, plainKeys := false, apart := false, narrowed := true }
def ExecBeginsUptoSaid : Prop := execBeginsUptoRow.holds Try.pinned (OpenSpec.upto execBeginsSpec)

/-- 'soughlaw08.ExecBlocks', WHERE WHAT IT READS IS OF BULK AT MOST 1048576: true; the input reads as it did. -/
def execBlocksUptoRow : OpenClaim := { program := "ytaaklejkngpddaa", sum := "3f7b6e5e808dcb55e047634a191c29aaf544a08b23318e225c15a680944dff36", func := "sough/soughlaw08.ExecBlocks", spec := "execBlocks", inPlace := ["slices.overlaps[string]"], unfollowed := true, recurses := true, plainKeys := false, apart := false, narrowed := true }
def ExecBlocksUptoSaid : Prop := execBlocksUptoRow.holds Try.pinned (OpenSpec.upto execBlocksSpec)

/-- 'soughlaw09.TripsBlocks', WHERE WHAT IT READS IS OF BULK AT MOST 1048576: true; the input reads as it did. -/
def tripsBlocksUptoRow : OpenClaim := { program := "ytaaklejkngpddaa", sum := "3f7b6e5e808dcb55e047634a191c29aaf544a08b23318e225c15a680944dff36", func := "sough/soughlaw09.TripsBlocks", spec := "tripsBlocks", inPlace := ["slices.overlaps[string]"], unfollowed := true, recurses := true, plainKeys := false, apart := false, narrowed := true }
def TripsBlocksUptoSaid : Prop := tripsBlocksUptoRow.holds Try.pinned (OpenSpec.upto tripsBlocksSpec)

/-- 'soughlaw09.TripsValues', WHERE WHAT IT READS IS OF BULK AT MOST 1048576: true; the input reads as it did. -/
def tripsValuesUptoRow : OpenClaim := { program := "ytaaklejkngpddaa", sum := "3f7b6e5e808dcb55e047634a191c29aaf544a08b23318e225c15a680944dff36", func := "sough/soughlaw09.TripsValues", spec := "tripsValues", inPlace := ["slices.overlaps[string]"], unfollowed := true, recurses := true, plainKeys := false, apart := false, narrowed := true }
def TripsValuesUptoSaid : Prop := tripsValuesUptoRow.holds Try.pinned (OpenSpec.upto tripsValuesSpec)

end Rows
end Go.Proofs.Ytaaklejkngpddaa
