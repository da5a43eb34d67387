/-
  No cell of these rows narrows 'for every input' (looked for: loops, veiled, ifaces, maps, wideKeys, modest, calm, conditions, laid).
  DERIVED. THE GIVEN ROWS OF THIS SEAT. 4 by the template 'for every input the law returns true; each argument reads behind the call as it read before'; 0 by the template 'total and deterministic' (their statements: YtjjmoibnmdbpeaaTotals.lean).
  GIVEN WITH THE SEED: the statements are not yours to turn. If you find one false, say at which input.
  Laid BY PROGRAM, IN A SANDBOX (cutbox-rows.mjs): the forced cells as the released guide's own fill.sh prints them over the translation 3a3289fe1c0e1727… (all of the seat's roots in one cut). By AI agents, Wed Nov 11 2026. No macro, syntax, notation, axiom, sorry.
-/
import Derived.Test.YtjjmoibnmdbpeaaChecked
import GoSem.Claim
import GoSem.ClaimJoined
import GoSem.ClaimMapViews
import Derived.JoinedTies
import Derived.KernelRfl
namespace Go.Proofs.Ytjjmoibnmdbpeaa
/- THE CELL 'sum', in the pinned program and in every row, IS THE sha256 OF THE DUMP (.gsa) THAT YtjjmoibnmdbpeaaProg.lean LOADS. Nothing in Lean hashes anything: it is a label: what it is worth is what the hold of that sum in a sandbox is worth. -/
noncomputable def Try.pinned : Pinned := { name := "ytjjmoibnmdbpeaa", sum := "3a3289fe1c0e1727a1f7e650909886cc2592dbd48f4635df79ac838af6abe481", checked := Try.checked }
namespace Rows
def none {H : Type} : Left H := { results := [], args := [] }

/-- 'soughlaw32.LayoutPlaces': WHATEVER THE INPUT: true; the input reads as it did. -/
def layoutPlacesSpec : ChangeSpec := { name := "layoutPlaces", fn := fun _ => fun
  | [d1, d2, d3, d4] => { results := [.lit (.bool true)], args := [d1, d2, d3, d4] }
  | _ => none }
def layoutPlacesRow : OpenClaim := { program := "ytjjmoibnmdbpeaa", sum := "3a3289fe1c0e1727a1f7e650909886cc2592dbd48f4635df79ac838af6abe481", func := "sough/soughlaw32.LayoutPlaces", spec := "layoutPlaces", unfollowed := true, recurses := true, plainKeys := false, apart := false }
def LayoutPlacesSaid : Prop := layoutPlacesRow.holds Try.pinned (OpenSpec.ofChange layoutPlacesSpec)

/-- ITS FALSE NEIGHBOUR: 'it returns false'. Refute it at one input. -/
def layoutPlacesWrong : ChangeSpec := { name := "layoutPlaces", fn := fun _ => fun
  | [d1, d2, d3, d4] => { results := [.lit (.bool false)], args := [d1, d2, d3, d4] }
  | _ => none }
def LayoutPlacesWrongFalsely : Prop := layoutPlacesRow.holds Try.pinned (OpenSpec.ofChange layoutPlacesWrong)

/-- 'soughlaw32.LayoutParts': WHATEVER THE INPUT: true; the input reads as it did. -/
def layoutPartsSpec : ChangeSpec := { name := "layoutParts", fn := fun _ => fun
  | [d1, d2, d3] => { results := [.lit (.bool true)], args := [d1, d2, d3] }
  | _ => none }
def layoutPartsRow : OpenClaim := { program := "ytjjmoibnmdbpeaa", sum := "3a3289fe1c0e1727a1f7e650909886cc2592dbd48f4635df79ac838af6abe481", func := "sough/soughlaw32.LayoutParts", spec := "layoutParts", unfollowed := true, recurses := true, plainKeys := false, apart := false }
def LayoutPartsSaid : Prop := layoutPartsRow.holds Try.pinned (OpenSpec.ofChange layoutPartsSpec)

/-- ITS FALSE NEIGHBOUR: 'it returns false'. Refute it at one input. -/
def layoutPartsWrong : ChangeSpec := { name := "layoutParts", fn := fun _ => fun
  | [d1, d2, d3] => { results := [.lit (.bool false)], args := [d1, d2, d3] }
  | _ => none }
def LayoutPartsWrongFalsely : Prop := layoutPartsRow.holds Try.pinned (OpenSpec.ofChange layoutPartsWrong)

/-- 'soughlaw06.TablesNames': WHATEVER THE INPUT: true; the input reads as it did. -/
def tablesNamesSpec : ChangeSpec := { name := "tablesNames", fn := fun _ => fun
  | [d] => { results := [.lit (.bool true)], args := [d] }
  | _ => none }
def tablesNamesRow : OpenClaim := { program := "ytjjmoibnmdbpeaa", sum := "3a3289fe1c0e1727a1f7e650909886cc2592dbd48f4635df79ac838af6abe481", func := "sough/soughlaw06.TablesNames", spec := "tablesNames", inPlace := ["slices.overlaps[string]"], unfollowed := true, recurses := true, plainKeys := false, apart := false }
def TablesNamesSaid : Prop := tablesNamesRow.holds Try.pinned (OpenSpec.ofChange tablesNamesSpec)

/-- ITS FALSE NEIGHBOUR: 'it returns false'. Refute it at one input. -/
def tablesNamesWrong : ChangeSpec := { name := "tablesNames", fn := fun _ => fun
  | [d] => { results := [.lit (.bool false)], args := [d] }
  | _ => none }
def TablesNamesWrongFalsely : Prop := tablesNamesRow.holds Try.pinned (OpenSpec.ofChange tablesNamesWrong)

/-- 'soughlaw05.PrinterPrograms': WHATEVER THE INPUT: true; the input reads as it did. -/
def printerProgramsSpec : ChangeSpec := { name := "printerPrograms", fn := fun _ => fun
  | [d] => { results := [.lit (.bool true)], args := [d] }
  | _ => none }
def printerProgramsRow : OpenClaim := { program := "ytjjmoibnmdbpeaa", sum := "3a3289fe1c0e1727a1f7e650909886cc2592dbd48f4635df79ac838af6abe481", func := "sough/soughlaw05.PrinterPrograms", spec := "printerPrograms", inPlace := ["slices.overlaps[string]", "internal/abi.NoEscape"], unfollowed := true, recurses := true, plainKeys := false, apart := false }
def PrinterProgramsSaid : Prop := printerProgramsRow.holds Try.pinned (OpenSpec.ofChange printerProgramsSpec)

/-- ITS FALSE NEIGHBOUR: 'it returns false'. Refute it at one input. -/
def printerProgramsWrong : ChangeSpec := { name := "printerPrograms", fn := fun _ => fun
  | [d] => { results := [.lit (.bool false)], args := [d] }
  | _ => none }
def PrinterProgramsWrongFalsely : Prop := printerProgramsRow.holds Try.pinned (OpenSpec.ofChange printerProgramsWrong)

/- THE SECOND FORM. 'bulk': how many values and letters a reading holds, each counted each time it is reached (what is shared counts as often as it is met; a slice's spare places count too). A statement '..UptoSaid' is the law's where the arguments, and the package variables that the reading takes, are together of bulk at most 1048576: NARROWER than '..Said'. Prove '..Said' where nothing that the law and all that it calls make is longer than what came in: it says more and counts as full. Else prove '..UptoSaid'. A law counts once. -/
mutual
def uptoBulk {H : Type} : DataW H → Nat
  | .lit (.string bytes) => bytes.length + 1
  | .lit _ => 1
  | .nil => 1
  | .ptr d => uptoBulk d + 1
  | .slice elems spare => uptoBulkAll elems + uptoBulkAll spare + 1
  | .agg parts => uptoBulkAll parts + 1
  | .iface _ d => uptoBulk d + 1
  | .map entries => uptoBulkEntries entries + 1
  | .held _ => 1
def uptoBulkAll {H : Type} : List (DataW H) → Nat
  | [] => 0
  | d :: r => uptoBulk d + uptoBulkAll r
def uptoBulkEntries {H : Type} : List (Lit × DataW H) → Nat
  | [] => 0
  | x :: r => uptoBulkEntry x + uptoBulkEntries r
def uptoBulkEntry {H : Type} : Lit × DataW H → Nat
  | (.string bytes, d) => bytes.length + uptoBulk d + 1
  | (_, d) => uptoBulk d + 1
 end
def uptoSmall : (H : Type) → List (DataW H) → Bool := fun _ ds => decide (uptoBulkAll ds ≤ 1048576)
def OpenSpec.upto (s : _root_.Go.ChangeSpec) : _root_.Go.OpenSpec := { _root_.Go.OpenSpec.ofChange s with cond := some uptoSmall }

/-- 'soughlaw32.LayoutPlaces', WHERE WHAT IT READS IS OF BULK AT MOST 1048576: true; the input reads as it did. -/
def layoutPlacesUptoRow : OpenClaim := { program := "ytjjmoibnmdbpeaa", sum := "3a3289fe1c0e1727a1f7e650909886cc2592dbd48f4635df79ac838af6abe481", func := "sough/soughlaw32.LayoutPlaces", spec := "layoutPlaces", unfollowed := true, recurses := true, plainKeys := false, apart := false, narrowed := true }
def LayoutPlacesUptoSaid : Prop := layoutPlacesUptoRow.holds Try.pinned (OpenSpec.upto layoutPlacesSpec)

/-- 'soughlaw32.LayoutParts', WHERE WHAT IT READS IS OF BULK AT MOST 1048576: true; the input reads as it did. -/
def layoutPartsUptoRow : OpenClaim := { program := "ytjjmoibnmdbpeaa", sum := "3a3289fe1c0e1727a1f7e650909886cc2592dbd48f4635df79ac838af6abe481", func := "sough/soughlaw32.LayoutParts", spec := "layoutParts", unfollowed := true, recurses := true, plainKeys := false, apart := false, narrowed := true }
def LayoutPartsUptoSaid : Prop := layoutPartsUptoRow.holds Try.pinned (OpenSpec.upto layoutPartsSpec)

/-- 'soughlaw06.TablesNames', WHERE WHAT IT READS IS OF BULK AT MOST 1048576: true; the input reads as it did. -/
def tablesNamesUptoRow : OpenClaim := { program := "ytjjmoibnmdbpeaa", sum := "3a3289fe1c0e1727a1f7e650909886cc2592dbd48f4635df79ac838af6abe481", func := "sough/soughlaw06.TablesNames", spec := "tablesNames", inPlace := ["slices.overlaps[string]"], unfollowed := true, recurses := true, plainKeys := false, apart := false, narrowed := true }
def TablesNamesUptoSaid : Prop := tablesNamesUptoRow.holds Try.pinned (OpenSpec.upto tablesNamesSpec)

/-- 'soughlaw05.PrinterPrograms', WHERE WHAT IT READS IS OF BULK AT MOST 1048576: true; the input reads as it did. -/
def printerProgramsUptoRow : OpenClaim := { program := "ytjjmoibnmdbpeaa", sum := "3a3289fe1c0e1727a1f7e650909886cc2592dbd48f4635df79ac838af6abe481", func := "sough/soughlaw05.PrinterPrograms", spec := "printerPrograms", inPlace := ["slices.overlaps[string]", "internal/abi.NoEscape"], unfollowed := true, recurses := true, plainKeys := false, apart := false, narrowed := true }
def PrinterProgramsUptoSaid : Prop := printerProgramsUptoRow.holds Try.pinned (OpenSpec.upto printerProgramsSpec)

end Rows
end Go.Proofs.Ytjjmoibnmdbpeaa
