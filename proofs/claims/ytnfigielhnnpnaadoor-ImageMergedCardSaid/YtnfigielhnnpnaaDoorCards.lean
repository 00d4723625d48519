/-
  DERIVED. GIVEN WITH THE SEED: THE CARDS: each row of YtnfigielhnnpnaaDoorRows.lean that lists a variable, with what it lists TIED to the program's text (the seventh form; the later family's looks); each row that meets fmt, with fmt's text TOLD by the authors' own Lean function (tested against real Go, not proved from fmt's source: count such statements apart). THE CARD IS WHAT COUNTS. Prove the row's statement (the work); the ties are given (YtnfigielhnnpnaaDoorTie.lean); close each card by the builder's one call (the guide's Derived/Test/ToyasCard.lean, 'card_holds'). Laid BY PROGRAM, IN A SANDBOX (cutbox-door.mjs). By AI agents, Wed Nov 11 2026. No macro, syntax, notation, axiom, sorry.
-/
import Derived.Test.YtnfigielhnnpnaaDoorRows
import GoSem.ClaimSeven
namespace Go.Proofs.YtnfigielhnnpnaaDoor
namespace Rows

/-- THE TIED CARD OF 'overburdenlaw08.ImageMerges'. -/
def imageMergesCard : Claim7 := { stood := { row := imageMergesRow, standIns := [], harness := (true, "c809a24f7c169364b9655a913332ce9b729bfa363e3e572200c500783d14bff4"), looks := true }, kinds := [], alts := [], laidByText := true, laidKinds := [.data, .data, .data], laidTests := true, laidLooks := .later }
def ImageMergesCardSaid : Prop := Claim7.holds Tryd.pinned (.plain (OpenSpec.ofChange imageMergesSpec)) imageMergesCard

/-- THE TIED CARD OF 'overburdenlaw08.ImageMerged'. -/
def imageMergedCard : Claim7 := { stood := { row := imageMergedRow, standIns := [], harness := (true, "c809a24f7c169364b9655a913332ce9b729bfa363e3e572200c500783d14bff4"), looks := true }, kinds := [], alts := [], laidByText := true, laidKinds := [.data, .data, .data], laidTests := true, laidLooks := .later }
def ImageMergedCardSaid : Prop := Claim7.holds Tryd.pinned (.plain (OpenSpec.ofChange imageMergedSpec)) imageMergedCard

/-- THE SECOND FORM's CARD OF 'overburdenlaw08.ImageMerges'. -/
def imageMergesUptoCard : Claim7 := { stood := { row := imageMergesUptoRow, standIns := [], harness := (true, "c809a24f7c169364b9655a913332ce9b729bfa363e3e572200c500783d14bff4"), looks := true }, kinds := [], alts := [], laidByText := true, laidKinds := [.data, .data, .data], laidTests := true, laidLooks := .later }
def ImageMergesUptoCardSaid : Prop := Claim7.holds Tryd.pinned (.plain (OpenSpec.upto imageMergesSpec)) imageMergesUptoCard

/-- THE SECOND FORM's CARD OF 'overburdenlaw08.ImageMerged'. -/
def imageMergedUptoCard : Claim7 := { stood := { row := imageMergedUptoRow, standIns := [], harness := (true, "c809a24f7c169364b9655a913332ce9b729bfa363e3e572200c500783d14bff4"), looks := true }, kinds := [], alts := [], laidByText := true, laidKinds := [.data, .data, .data], laidTests := true, laidLooks := .later }
def ImageMergedUptoCardSaid : Prop := Claim7.holds Tryd.pinned (.plain (OpenSpec.upto imageMergedSpec)) imageMergedUptoCard
end Rows
end Go.Proofs.YtnfigielhnnpnaaDoor
