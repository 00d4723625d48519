/-
  DERIVED. GIVEN WITH THE SEED: THE CARDS: each row of YtaocbfhokadppaaDoorRows.lean that lists a variable, with what it lists TIED to the program's text (the seventh form; the later family's looks); each row that meets fmt, with fmt's text TOLD by the authors' own Lean function (tested against real Go, not proved from fmt's source: count such statements apart). THE CARD IS WHAT COUNTS. Prove the row's statement (the work); the ties are given (YtaocbfhokadppaaDoorTie.lean); close each card by the builder's one call (the guide's Derived/Test/ToyasCard.lean, 'card_holds'). Laid BY PROGRAM, IN A SANDBOX (cutbox-door.mjs). By AI agents, Wed Nov 11 2026. No macro, syntax, notation, axiom, sorry.
-/
import Derived.Test.YtaocbfhokadppaaDoorRows
import GoSem.ClaimSeven
namespace Go.Proofs.YtaocbfhokadppaaDoor
namespace Rows

/-- THE TIED CARD OF 'overburdenlaw08.ImageHolds'. -/
def imageHoldsCard : Claim7 := { stood := { row := imageHoldsRow, standIns := [], harness := (true, "2abb65aaf58d46ddb9d76372f790f74680a425b50451d2e890d898c8e1a95298"), looks := true }, kinds := [], alts := [], laidByText := true, laidKinds := [.data, .data, .data], laidTests := true, laidLooks := .later }
def ImageHoldsCardSaid : Prop := Claim7.holds Tryd.pinned (.plain (OpenSpec.ofChange imageHoldsSpec)) imageHoldsCard

/-- THE TIED CARD OF 'overburdenlaw08.ImageEither'. -/
def imageEitherCard : Claim7 := { stood := { row := imageEitherRow, standIns := [], harness := (true, "2abb65aaf58d46ddb9d76372f790f74680a425b50451d2e890d898c8e1a95298"), looks := true }, kinds := [], alts := [], laidByText := true, laidKinds := [.data, .data, .data], laidTests := true, laidLooks := .later }
def ImageEitherCardSaid : Prop := Claim7.holds Tryd.pinned (.plain (OpenSpec.ofChange imageEitherSpec)) imageEitherCard

/-- THE TIED CARD OF 'overburdenlaw08.ImageRefutes'. -/
def imageRefutesCard : Claim7 := { stood := { row := imageRefutesRow, standIns := [], harness := (true, "2abb65aaf58d46ddb9d76372f790f74680a425b50451d2e890d898c8e1a95298"), looks := true }, kinds := [], alts := [], laidByText := true, laidKinds := [.data, .data, .data], laidTests := true, laidLooks := .later }
def ImageRefutesCardSaid : Prop := Claim7.holds Tryd.pinned (.plain (OpenSpec.ofChange imageRefutesSpec)) imageRefutesCard

/-- THE TIED CARD OF 'overburdenlaw08.ImageChecks'. -/
def imageChecksCard : Claim7 := { stood := { row := imageChecksRow, standIns := [], harness := (true, "2abb65aaf58d46ddb9d76372f790f74680a425b50451d2e890d898c8e1a95298"), looks := true }, kinds := [], alts := [], laidByText := true, laidKinds := [.data, .data, .data], laidTests := true, laidLooks := .later }
def ImageChecksCardSaid : Prop := Claim7.holds Tryd.pinned (.plain (OpenSpec.ofChange imageChecksSpec)) imageChecksCard

/-- THE SECOND FORM's CARD OF 'overburdenlaw08.ImageHolds'. -/
def imageHoldsUptoCard : Claim7 := { stood := { row := imageHoldsUptoRow, standIns := [], harness := (true, "2abb65aaf58d46ddb9d76372f790f74680a425b50451d2e890d898c8e1a95298"), looks := true }, kinds := [], alts := [], laidByText := true, laidKinds := [.data, .data, .data], laidTests := true, laidLooks := .later }
def ImageHoldsUptoCardSaid : Prop := Claim7.holds Tryd.pinned (.plain (OpenSpec.upto imageHoldsSpec)) imageHoldsUptoCard

/-- THE SECOND FORM's CARD OF 'overburdenlaw08.ImageEither'. -/
def imageEitherUptoCard : Claim7 := { stood := { row := imageEitherUptoRow, standIns := [], harness := (true, "2abb65aaf58d46ddb9d76372f790f74680a425b50451d2e890d898c8e1a95298"), looks := true }, kinds := [], alts := [], laidByText := true, laidKinds := [.data, .data, .data], laidTests := true, laidLooks := .later }
def ImageEitherUptoCardSaid : Prop := Claim7.holds Tryd.pinned (.plain (OpenSpec.upto imageEitherSpec)) imageEitherUptoCard

/-- THE SECOND FORM's CARD OF 'overburdenlaw08.ImageRefutes'. -/
def imageRefutesUptoCard : Claim7 := { stood := { row := imageRefutesUptoRow, standIns := [], harness := (true, "2abb65aaf58d46ddb9d76372f790f74680a425b50451d2e890d898c8e1a95298"), looks := true }, kinds := [], alts := [], laidByText := true, laidKinds := [.data, .data, .data], laidTests := true, laidLooks := .later }
def ImageRefutesUptoCardSaid : Prop := Claim7.holds Tryd.pinned (.plain (OpenSpec.upto imageRefutesSpec)) imageRefutesUptoCard

/-- THE SECOND FORM's CARD OF 'overburdenlaw08.ImageChecks'. -/
def imageChecksUptoCard : Claim7 := { stood := { row := imageChecksUptoRow, standIns := [], harness := (true, "2abb65aaf58d46ddb9d76372f790f74680a425b50451d2e890d898c8e1a95298"), looks := true }, kinds := [], alts := [], laidByText := true, laidKinds := [.data, .data, .data], laidTests := true, laidLooks := .later }
def ImageChecksUptoCardSaid : Prop := Claim7.holds Tryd.pinned (.plain (OpenSpec.upto imageChecksSpec)) imageChecksUptoCard
end Rows
end Go.Proofs.YtaocbfhokadppaaDoor
