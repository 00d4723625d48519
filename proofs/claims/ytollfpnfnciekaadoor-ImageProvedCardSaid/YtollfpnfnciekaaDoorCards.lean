/-
  DERIVED. GIVEN WITH THE SEED: THE CARDS: each row of YtollfpnfnciekaaDoorRows.lean that lists a variable, with what it lists TIED to the program's text (the seventh form; the later family's looks); each row that meets fmt, with fmt's text TOLD by the authors' own Lean function (tested against real Go, not proved from fmt's source: count such statements apart). THE CARD IS WHAT COUNTS. Prove the row's statement (the work); the ties are given (YtollfpnfnciekaaDoorTie.lean); close each card by the builder's one call (the guide's Derived/Test/ToyasCard.lean, 'card_holds'). Laid BY PROGRAM, IN A SANDBOX (cutbox-door.mjs). By AI agents, Wed Nov 11 2026. No macro, syntax, notation, axiom, sorry.
-/
import Derived.Test.YtollfpnfnciekaaDoorRows
import GoSem.ClaimSeven
namespace Go.Proofs.YtollfpnfnciekaaDoor
namespace Rows

/-- THE TIED CARD OF 'overburdenlaw08.ImageMore'. -/
def imageMoreCard : Claim7 := { stood := { row := imageMoreRow, standIns := [], harness := (true, "0d7cf9943cf214743c53ff2c678d988cff608217ad9ca91474ba877128e6299a"), looks := true }, kinds := [], alts := [], laidByText := true, laidKinds := [.data, .data, .data], laidTests := true, laidLooks := .later }
def ImageMoreCardSaid : Prop := Claim7.holds Tryd.pinned (.plain (OpenSpec.ofChange imageMoreSpec)) imageMoreCard

/-- THE TIED CARD OF 'overburdenlaw08.ImageTrue'. -/
def imageTrueCard : Claim7 := { stood := { row := imageTrueRow, standIns := [], harness := (true, "0d7cf9943cf214743c53ff2c678d988cff608217ad9ca91474ba877128e6299a"), looks := true }, kinds := [], alts := [], laidByText := true, laidKinds := [.data, .data, .data], laidTests := true, laidLooks := .later }
def ImageTrueCardSaid : Prop := Claim7.holds Tryd.pinned (.plain (OpenSpec.ofChange imageTrueSpec)) imageTrueCard

/-- THE TIED CARD OF 'overburdenlaw08.ImageWitness'. -/
def imageWitnessCard : Claim7 := { stood := { row := imageWitnessRow, standIns := [], harness := (true, "0d7cf9943cf214743c53ff2c678d988cff608217ad9ca91474ba877128e6299a"), looks := true }, kinds := [], alts := [], laidByText := true, laidKinds := [.data, .data, .data], laidTests := true, laidLooks := .later }
def ImageWitnessCardSaid : Prop := Claim7.holds Tryd.pinned (.plain (OpenSpec.ofChange imageWitnessSpec)) imageWitnessCard

/-- THE TIED CARD OF 'overburdenlaw08.ImageProved'. -/
def imageProvedCard : Claim7 := { stood := { row := imageProvedRow, standIns := [], harness := (true, "0d7cf9943cf214743c53ff2c678d988cff608217ad9ca91474ba877128e6299a"), looks := true }, kinds := [], alts := [], laidByText := true, laidKinds := [.data, .data, .data], laidTests := true, laidLooks := .later }
def ImageProvedCardSaid : Prop := Claim7.holds Tryd.pinned (.plain (OpenSpec.ofChange imageProvedSpec)) imageProvedCard

/-- THE TIED CARD OF 'overburdenlaw08.ImageSums'. -/
def imageSumsCard : Claim7 := { stood := { row := imageSumsRow, standIns := [], harness := (true, "0d7cf9943cf214743c53ff2c678d988cff608217ad9ca91474ba877128e6299a"), looks := true }, kinds := [], alts := [], laidByText := true, laidKinds := [.data, .data, .data], laidTests := true, laidLooks := .later }
def ImageSumsCardSaid : Prop := Claim7.holds Tryd.pinned (.plain (OpenSpec.ofChange imageSumsSpec)) imageSumsCard

/-- THE TIED CARD OF 'overburdenlaw08.ImageVoid'. -/
def imageVoidCard : Claim7 := { stood := { row := imageVoidRow, standIns := [], harness := (true, "0d7cf9943cf214743c53ff2c678d988cff608217ad9ca91474ba877128e6299a"), looks := true }, kinds := [], alts := [], laidByText := true, laidKinds := [.data, .data, .data], laidTests := true, laidLooks := .later }
def ImageVoidCardSaid : Prop := Claim7.holds Tryd.pinned (.plain (OpenSpec.ofChange imageVoidSpec)) imageVoidCard

/-- THE SECOND FORM's CARD OF 'overburdenlaw08.ImageMore'. -/
def imageMoreUptoCard : Claim7 := { stood := { row := imageMoreUptoRow, standIns := [], harness := (true, "0d7cf9943cf214743c53ff2c678d988cff608217ad9ca91474ba877128e6299a"), looks := true }, kinds := [], alts := [], laidByText := true, laidKinds := [.data, .data, .data], laidTests := true, laidLooks := .later }
def ImageMoreUptoCardSaid : Prop := Claim7.holds Tryd.pinned (.plain (OpenSpec.upto imageMoreSpec)) imageMoreUptoCard

/-- THE SECOND FORM's CARD OF 'overburdenlaw08.ImageTrue'. -/
def imageTrueUptoCard : Claim7 := { stood := { row := imageTrueUptoRow, standIns := [], harness := (true, "0d7cf9943cf214743c53ff2c678d988cff608217ad9ca91474ba877128e6299a"), looks := true }, kinds := [], alts := [], laidByText := true, laidKinds := [.data, .data, .data], laidTests := true, laidLooks := .later }
def ImageTrueUptoCardSaid : Prop := Claim7.holds Tryd.pinned (.plain (OpenSpec.upto imageTrueSpec)) imageTrueUptoCard

/-- THE SECOND FORM's CARD OF 'overburdenlaw08.ImageWitness'. -/
def imageWitnessUptoCard : Claim7 := { stood := { row := imageWitnessUptoRow, standIns := [], harness := (true, "0d7cf9943cf214743c53ff2c678d988cff608217ad9ca91474ba877128e6299a"), looks := true }, kinds := [], alts := [], laidByText := true, laidKinds := [.data, .data, .data], laidTests := true, laidLooks := .later }
def ImageWitnessUptoCardSaid : Prop := Claim7.holds Tryd.pinned (.plain (OpenSpec.upto imageWitnessSpec)) imageWitnessUptoCard

/-- THE SECOND FORM's CARD OF 'overburdenlaw08.ImageProved'. -/
def imageProvedUptoCard : Claim7 := { stood := { row := imageProvedUptoRow, standIns := [], harness := (true, "0d7cf9943cf214743c53ff2c678d988cff608217ad9ca91474ba877128e6299a"), looks := true }, kinds := [], alts := [], laidByText := true, laidKinds := [.data, .data, .data], laidTests := true, laidLooks := .later }
def ImageProvedUptoCardSaid : Prop := Claim7.holds Tryd.pinned (.plain (OpenSpec.upto imageProvedSpec)) imageProvedUptoCard

/-- THE SECOND FORM's CARD OF 'overburdenlaw08.ImageSums'. -/
def imageSumsUptoCard : Claim7 := { stood := { row := imageSumsUptoRow, standIns := [], harness := (true, "0d7cf9943cf214743c53ff2c678d988cff608217ad9ca91474ba877128e6299a"), looks := true }, kinds := [], alts := [], laidByText := true, laidKinds := [.data, .data, .data], laidTests := true, laidLooks := .later }
def ImageSumsUptoCardSaid : Prop := Claim7.holds Tryd.pinned (.plain (OpenSpec.upto imageSumsSpec)) imageSumsUptoCard

/-- THE SECOND FORM's CARD OF 'overburdenlaw08.ImageVoid'. -/
def imageVoidUptoCard : Claim7 := { stood := { row := imageVoidUptoRow, standIns := [], harness := (true, "0d7cf9943cf214743c53ff2c678d988cff608217ad9ca91474ba877128e6299a"), looks := true }, kinds := [], alts := [], laidByText := true, laidKinds := [.data, .data, .data], laidTests := true, laidLooks := .later }
def ImageVoidUptoCardSaid : Prop := Claim7.holds Tryd.pinned (.plain (OpenSpec.upto imageVoidSpec)) imageVoidUptoCard
end Rows
end Go.Proofs.YtollfpnfnciekaaDoor
