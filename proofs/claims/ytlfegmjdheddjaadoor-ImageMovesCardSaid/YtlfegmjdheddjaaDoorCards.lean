/-
  DERIVED. GIVEN WITH THE SEED: THE CARDS: each row of YtlfegmjdheddjaaDoorRows.lean that lists a variable, with what it lists TIED to the program's text (the seventh form; the later family's looks); each row that meets fmt, with fmt's text TOLD by the authors' own Lean function (tested against real Go, not proved from fmt's source: count such statements apart). THE CARD IS WHAT COUNTS. Prove the row's statement (the work); the ties are given (YtlfegmjdheddjaaDoorTie.lean); close each card by the builder's one call (the guide's Derived/Test/ToyasCard.lean, 'card_holds'). Laid BY PROGRAM, IN A SANDBOX (cutbox-door.mjs). By AI agents, Wed Nov 11 2026. No macro, syntax, notation, axiom, sorry.
-/
import Derived.Test.YtlfegmjdheddjaaDoorRows
import GoSem.ClaimSeven
namespace Go.Proofs.YtlfegmjdheddjaaDoor
namespace Rows

/-- THE TIED CARD OF 'overburdenlaw08.ImageRefutes'. -/
def imageRefutesCard : Claim7 := { stood := { row := imageRefutesRow, standIns := [], harness := (true, "2982b373241353629960842eaf754da53a684779c8c30ac9f9ea09a3607e5d1b"), looks := true }, kinds := [], alts := [], laidByText := true, laidKinds := [.data, .data, .data], laidTests := true, laidLooks := .later }
def ImageRefutesCardSaid : Prop := Claim7.holds Tryd.pinned (.plain (OpenSpec.ofChange imageRefutesSpec)) imageRefutesCard

/-- THE TIED CARD OF 'overburdenlaw08.ImageUnknown'. -/
def imageUnknownCard : Claim7 := { stood := { row := imageUnknownRow, standIns := [], harness := (true, "2982b373241353629960842eaf754da53a684779c8c30ac9f9ea09a3607e5d1b"), looks := true }, kinds := [], alts := [], laidByText := true, laidKinds := [.data, .data, .data], laidTests := true, laidLooks := .later }
def ImageUnknownCardSaid : Prop := Claim7.holds Tryd.pinned (.plain (OpenSpec.ofChange imageUnknownSpec)) imageUnknownCard

/-- THE TIED CARD OF 'overburdenlaw08.ImageFree'. -/
def imageFreeCard : Claim7 := { stood := { row := imageFreeRow, standIns := [], harness := (true, "2982b373241353629960842eaf754da53a684779c8c30ac9f9ea09a3607e5d1b"), looks := true }, kinds := [], alts := [], laidByText := true, laidKinds := [.data, .data, .data], laidTests := true, laidLooks := .later }
def ImageFreeCardSaid : Prop := Claim7.holds Tryd.pinned (.plain (OpenSpec.ofChange imageFreeSpec)) imageFreeCard

/-- THE TIED CARD OF 'overburdenlaw08.ImageEpochs'. -/
def imageEpochsCard : Claim7 := { stood := { row := imageEpochsRow, standIns := [], harness := (true, "2982b373241353629960842eaf754da53a684779c8c30ac9f9ea09a3607e5d1b"), looks := true }, kinds := [], alts := [], laidByText := true, laidKinds := [.data, .data, .data], laidTests := true, laidLooks := .later }
def ImageEpochsCardSaid : Prop := Claim7.holds Tryd.pinned (.plain (OpenSpec.ofChange imageEpochsSpec)) imageEpochsCard

/-- THE TIED CARD OF 'overburdenlaw08.ImageMoves'. -/
def imageMovesCard : Claim7 := { stood := { row := imageMovesRow, standIns := [], harness := (true, "2982b373241353629960842eaf754da53a684779c8c30ac9f9ea09a3607e5d1b"), looks := true }, kinds := [], alts := [], laidByText := true, laidKinds := [.data, .data, .data], laidTests := true, laidLooks := .later }
def ImageMovesCardSaid : Prop := Claim7.holds Tryd.pinned (.plain (OpenSpec.ofChange imageMovesSpec)) imageMovesCard

/-- THE TIED CARD OF 'overburdenlaw08.ImageMerges'. -/
def imageMergesCard : Claim7 := { stood := { row := imageMergesRow, standIns := [], harness := (true, "2982b373241353629960842eaf754da53a684779c8c30ac9f9ea09a3607e5d1b"), looks := true }, kinds := [], alts := [], laidByText := true, laidKinds := [.data, .data, .data], laidTests := true, laidLooks := .later }
def ImageMergesCardSaid : Prop := Claim7.holds Tryd.pinned (.plain (OpenSpec.ofChange imageMergesSpec)) imageMergesCard

/-- THE TIED CARD OF 'overburdenlaw08.ImageMerged'. -/
def imageMergedCard : Claim7 := { stood := { row := imageMergedRow, standIns := [], harness := (true, "2982b373241353629960842eaf754da53a684779c8c30ac9f9ea09a3607e5d1b"), looks := true }, kinds := [], alts := [], laidByText := true, laidKinds := [.data, .data, .data], laidTests := true, laidLooks := .later }
def ImageMergedCardSaid : Prop := Claim7.holds Tryd.pinned (.plain (OpenSpec.ofChange imageMergedSpec)) imageMergedCard

/-- THE SECOND FORM's CARD OF 'overburdenlaw08.ImageRefutes'. -/
def imageRefutesUptoCard : Claim7 := { stood := { row := imageRefutesUptoRow, standIns := [], harness := (true, "2982b373241353629960842eaf754da53a684779c8c30ac9f9ea09a3607e5d1b"), looks := true }, kinds := [], alts := [], laidByText := true, laidKinds := [.data, .data, .data], laidTests := true, laidLooks := .later }
def ImageRefutesUptoCardSaid : Prop := Claim7.holds Tryd.pinned (.plain (OpenSpec.upto imageRefutesSpec)) imageRefutesUptoCard

/-- THE SECOND FORM's CARD OF 'overburdenlaw08.ImageUnknown'. -/
def imageUnknownUptoCard : Claim7 := { stood := { row := imageUnknownUptoRow, standIns := [], harness := (true, "2982b373241353629960842eaf754da53a684779c8c30ac9f9ea09a3607e5d1b"), looks := true }, kinds := [], alts := [], laidByText := true, laidKinds := [.data, .data, .data], laidTests := true, laidLooks := .later }
def ImageUnknownUptoCardSaid : Prop := Claim7.holds Tryd.pinned (.plain (OpenSpec.upto imageUnknownSpec)) imageUnknownUptoCard

/-- THE SECOND FORM's CARD OF 'overburdenlaw08.ImageFree'. -/
def imageFreeUptoCard : Claim7 := { stood := { row := imageFreeUptoRow, standIns := [], harness := (true, "2982b373241353629960842eaf754da53a684779c8c30ac9f9ea09a3607e5d1b"), looks := true }, kinds := [], alts := [], laidByText := true, laidKinds := [.data, .data, .data], laidTests := true, laidLooks := .later }
def ImageFreeUptoCardSaid : Prop := Claim7.holds Tryd.pinned (.plain (OpenSpec.upto imageFreeSpec)) imageFreeUptoCard

/-- THE SECOND FORM's CARD OF 'overburdenlaw08.ImageEpochs'. -/
def imageEpochsUptoCard : Claim7 := { stood := { row := imageEpochsUptoRow, standIns := [], harness := (true, "2982b373241353629960842eaf754da53a684779c8c30ac9f9ea09a3607e5d1b"), looks := true }, kinds := [], alts := [], laidByText := true, laidKinds := [.data, .data, .data], laidTests := true, laidLooks := .later }
def ImageEpochsUptoCardSaid : Prop := Claim7.holds Tryd.pinned (.plain (OpenSpec.upto imageEpochsSpec)) imageEpochsUptoCard

/-- THE SECOND FORM's CARD OF 'overburdenlaw08.ImageMoves'. -/
def imageMovesUptoCard : Claim7 := { stood := { row := imageMovesUptoRow, standIns := [], harness := (true, "2982b373241353629960842eaf754da53a684779c8c30ac9f9ea09a3607e5d1b"), looks := true }, kinds := [], alts := [], laidByText := true, laidKinds := [.data, .data, .data], laidTests := true, laidLooks := .later }
def ImageMovesUptoCardSaid : Prop := Claim7.holds Tryd.pinned (.plain (OpenSpec.upto imageMovesSpec)) imageMovesUptoCard

/-- THE SECOND FORM's CARD OF 'overburdenlaw08.ImageMerges'. -/
def imageMergesUptoCard : Claim7 := { stood := { row := imageMergesUptoRow, standIns := [], harness := (true, "2982b373241353629960842eaf754da53a684779c8c30ac9f9ea09a3607e5d1b"), looks := true }, kinds := [], alts := [], laidByText := true, laidKinds := [.data, .data, .data], laidTests := true, laidLooks := .later }
def ImageMergesUptoCardSaid : Prop := Claim7.holds Tryd.pinned (.plain (OpenSpec.upto imageMergesSpec)) imageMergesUptoCard

/-- THE SECOND FORM's CARD OF 'overburdenlaw08.ImageMerged'. -/
def imageMergedUptoCard : Claim7 := { stood := { row := imageMergedUptoRow, standIns := [], harness := (true, "2982b373241353629960842eaf754da53a684779c8c30ac9f9ea09a3607e5d1b"), looks := true }, kinds := [], alts := [], laidByText := true, laidKinds := [.data, .data, .data], laidTests := true, laidLooks := .later }
def ImageMergedUptoCardSaid : Prop := Claim7.holds Tryd.pinned (.plain (OpenSpec.upto imageMergedSpec)) imageMergedUptoCard
end Rows
end Go.Proofs.YtlfegmjdheddjaaDoor
