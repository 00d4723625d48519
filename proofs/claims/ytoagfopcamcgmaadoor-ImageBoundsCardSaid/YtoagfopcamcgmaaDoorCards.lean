/-
  DERIVED. GIVEN WITH THE SEED: THE CARDS: each row of YtoagfopcamcgmaaDoorRows.lean that lists a variable, with what it lists TIED to the program's text (the seventh form; the later family's looks); each row that meets fmt, with fmt's text TOLD by the authors' own Lean function (tested against real Go, not proved from fmt's source: count such statements apart). THE CARD IS WHAT COUNTS. Prove the row's statement (the work); the ties are given (YtoagfopcamcgmaaDoorTie.lean); close each card by the builder's one call (the guide's Derived/Test/ToyasCard.lean, 'card_holds'). Laid BY PROGRAM, IN A SANDBOX (cutbox-door.mjs). By AI agents, Wed Nov 11 2026. No macro, syntax, notation, axiom, sorry.
-/
import Derived.Test.YtoagfopcamcgmaaDoorRows
import GoSem.ClaimSeven
namespace Go.Proofs.YtoagfopcamcgmaaDoor
namespace Rows

/-- THE TIED CARD OF 'overburdenlaw08.ImageBounds'. -/
def imageBoundsCard : Claim7 := { stood := { row := imageBoundsRow, standIns := [], harness := (true, "0c8be2472c8547e033b347dcd875f45e1648a7e85674050e57c53520d9e77b86"), looks := true }, kinds := [], alts := [], laidByText := true, laidKinds := [.data, .data, .data], laidTests := true, laidLooks := .later }
def ImageBoundsCardSaid : Prop := Claim7.holds Tryd.pinned (.plain (OpenSpec.ofChange imageBoundsSpec)) imageBoundsCard

/-- THE SECOND FORM's CARD OF 'overburdenlaw08.ImageBounds'. -/
def imageBoundsUptoCard : Claim7 := { stood := { row := imageBoundsUptoRow, standIns := [], harness := (true, "0c8be2472c8547e033b347dcd875f45e1648a7e85674050e57c53520d9e77b86"), looks := true }, kinds := [], alts := [], laidByText := true, laidKinds := [.data, .data, .data], laidTests := true, laidLooks := .later }
def ImageBoundsUptoCardSaid : Prop := Claim7.holds Tryd.pinned (.plain (OpenSpec.upto imageBoundsSpec)) imageBoundsUptoCard
end Rows
end Go.Proofs.YtoagfopcamcgmaaDoor
