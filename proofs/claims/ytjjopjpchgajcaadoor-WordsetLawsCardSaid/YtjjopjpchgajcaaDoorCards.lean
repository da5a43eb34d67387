/-
  DERIVED. GIVEN WITH THE SEED: THE CARDS: each row of YtjjopjpchgajcaaDoorRows.lean that lists a variable, with what it lists TIED to the program's text (the seventh form; the later family's looks); each row that meets fmt, with fmt's text TOLD by the authors' own Lean function (tested against real Go, not proved from fmt's source: count such statements apart). THE CARD IS WHAT COUNTS. Prove the row's statement (the work); the ties are given (YtjjopjpchgajcaaDoorTie.lean); close each card by the builder's one call (the guide's Derived/Test/ToyasCard.lean, 'card_holds'). Laid BY PROGRAM, IN A SANDBOX (cutbox-door.mjs). By AI agents, Wed Nov 11 2026. No macro, syntax, notation, axiom, sorry.
-/
import Derived.Test.YtjjopjpchgajcaaDoorRows
import GoSem.ClaimSeven
namespace Go.Proofs.YtjjopjpchgajcaaDoor
namespace Rows

/-- THE TIED CARD OF 'soughlaw10.WordsetMakes'. -/
def wordsetMakesCard : Claim7 := { stood := { row := wordsetMakesRow, standIns := [], harness := (true, "884adf1e7b70ac2a8d9394d3752155317034fb691ba30364829134395172247a"), looks := false }, kinds := [], alts := [], laidByText := true, laidKinds := [.data], laidTests := true, laidLooks := .later }
def WordsetMakesCardSaid : Prop := Claim7.holds Tryd.pinned (.plain (OpenSpec.ofChange wordsetMakesSpec)) wordsetMakesCard

/-- THE TIED CARD OF 'soughlaw10.WordsetLaws'. -/
def wordsetLawsCard : Claim7 := { stood := { row := wordsetLawsRow, standIns := [], harness := (true, "884adf1e7b70ac2a8d9394d3752155317034fb691ba30364829134395172247a"), looks := false }, kinds := [], alts := [], laidByText := true, laidKinds := [.data], laidTests := true, laidLooks := .later }
def WordsetLawsCardSaid : Prop := Claim7.holds Tryd.pinned (.plain (OpenSpec.ofChange wordsetLawsSpec)) wordsetLawsCard

/-- THE TIED CARD OF 'soughlaw10.WordsetAsks'. -/
def wordsetAsksCard : Claim7 := { stood := { row := wordsetAsksRow, standIns := [], harness := (true, "884adf1e7b70ac2a8d9394d3752155317034fb691ba30364829134395172247a"), looks := false }, kinds := [], alts := [], laidByText := true, laidKinds := [.data], laidTests := true, laidLooks := .later }
def WordsetAsksCardSaid : Prop := Claim7.holds Tryd.pinned (.plain (OpenSpec.ofChange wordsetAsksSpec)) wordsetAsksCard

/-- THE SECOND FORM's CARD OF 'soughlaw10.WordsetMakes'. -/
def wordsetMakesUptoCard : Claim7 := { stood := { row := wordsetMakesUptoRow, standIns := [], harness := (true, "884adf1e7b70ac2a8d9394d3752155317034fb691ba30364829134395172247a"), looks := false }, kinds := [], alts := [], laidByText := true, laidKinds := [.data], laidTests := true, laidLooks := .later }
def WordsetMakesUptoCardSaid : Prop := Claim7.holds Tryd.pinned (.plain (OpenSpec.upto wordsetMakesSpec)) wordsetMakesUptoCard

/-- THE SECOND FORM's CARD OF 'soughlaw10.WordsetLaws'. -/
def wordsetLawsUptoCard : Claim7 := { stood := { row := wordsetLawsUptoRow, standIns := [], harness := (true, "884adf1e7b70ac2a8d9394d3752155317034fb691ba30364829134395172247a"), looks := false }, kinds := [], alts := [], laidByText := true, laidKinds := [.data], laidTests := true, laidLooks := .later }
def WordsetLawsUptoCardSaid : Prop := Claim7.holds Tryd.pinned (.plain (OpenSpec.upto wordsetLawsSpec)) wordsetLawsUptoCard

/-- THE SECOND FORM's CARD OF 'soughlaw10.WordsetAsks'. -/
def wordsetAsksUptoCard : Claim7 := { stood := { row := wordsetAsksUptoRow, standIns := [], harness := (true, "884adf1e7b70ac2a8d9394d3752155317034fb691ba30364829134395172247a"), looks := false }, kinds := [], alts := [], laidByText := true, laidKinds := [.data], laidTests := true, laidLooks := .later }
def WordsetAsksUptoCardSaid : Prop := Claim7.holds Tryd.pinned (.plain (OpenSpec.upto wordsetAsksSpec)) wordsetAsksUptoCard
end Rows
end Go.Proofs.YtjjopjpchgajcaaDoor
