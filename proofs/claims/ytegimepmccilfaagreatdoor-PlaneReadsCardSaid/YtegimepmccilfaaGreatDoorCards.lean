/-
  DERIVED. GIVEN WITH THE SEED: THE CARDS: each row of YtegimepmccilfaaGreatDoorRows.lean that lists a variable, with what it lists TIED to the program's text (the seventh form; the later family's looks); each row that meets fmt, with fmt's text TOLD by the authors' own Lean function (tested against real Go, not proved from fmt's source: count such statements apart). THE CARD IS WHAT COUNTS. Prove the row's statement (the work); the ties are given (YtegimepmccilfaaGreatDoorTie.lean); close each card by the builder's one call (the guide's Derived/Test/ToyasCard.lean, 'card_holds'). Laid BY PROGRAM, IN A SANDBOX (cutbox-door.mjs). By AI agents, Wed Nov 11 2026. No macro, syntax, notation, axiom, sorry.
-/
import Derived.Test.YtegimepmccilfaaGreatDoorRows
import GoSem.ClaimSeven
namespace Go.Proofs.YtegimepmccilfaaGreatDoor
namespace Rows

/-- THE TIED CARD OF 'overburdenlaw01.PlaneFiles'. -/
def planeFilesCard : Claim7 := { stood := { row := planeFilesRow, standIns := [], harness := (true, "b5dbdd7b8ee3d4ee2fd29a67b216cef9cbac555ed42fdcc0d8042936b29ded5f"), looks := true }, kinds := [], alts := [], laidByText := true, laidKinds := [.data, .data, .data, .data, .sentinel, .sentinel, .pinned], laidTests := true, laidLooks := .later }
def PlaneFilesCardSaid : Prop := Claim7.holds Tryz.pinned (.plain (OpenSpec.ofChange planeFilesSpec)) planeFilesCard

/-- THE TIED CARD OF 'overburdenlaw01.PlaneReads'. -/
def planeReadsCard : Claim7 := { stood := { row := planeReadsRow, standIns := [], harness := (true, "b5dbdd7b8ee3d4ee2fd29a67b216cef9cbac555ed42fdcc0d8042936b29ded5f"), looks := true }, kinds := [], alts := [], laidByText := true, laidKinds := [.data, .data, .data, .data, .sentinel, .sentinel, .pinned], laidTests := true, laidLooks := .later }
def PlaneReadsCardSaid : Prop := Claim7.holds Tryz.pinned (.plain (OpenSpec.ofChange planeReadsSpec)) planeReadsCard

/-- THE SECOND FORM's CARD OF 'overburdenlaw01.PlaneFiles'. -/
def planeFilesUptoCard : Claim7 := { stood := { row := planeFilesUptoRow, standIns := [], harness := (true, "b5dbdd7b8ee3d4ee2fd29a67b216cef9cbac555ed42fdcc0d8042936b29ded5f"), looks := true }, kinds := [], alts := [], laidByText := true, laidKinds := [.data, .data, .data, .data, .sentinel, .sentinel, .pinned], laidTests := true, laidLooks := .later }
def PlaneFilesUptoCardSaid : Prop := Claim7.holds Tryz.pinned (.plain (OpenSpec.upto planeFilesSpec)) planeFilesUptoCard

/-- THE SECOND FORM's CARD OF 'overburdenlaw01.PlaneReads'. -/
def planeReadsUptoCard : Claim7 := { stood := { row := planeReadsUptoRow, standIns := [], harness := (true, "b5dbdd7b8ee3d4ee2fd29a67b216cef9cbac555ed42fdcc0d8042936b29ded5f"), looks := true }, kinds := [], alts := [], laidByText := true, laidKinds := [.data, .data, .data, .data, .sentinel, .sentinel, .pinned], laidTests := true, laidLooks := .later }
def PlaneReadsUptoCardSaid : Prop := Claim7.holds Tryz.pinned (.plain (OpenSpec.upto planeReadsSpec)) planeReadsUptoCard
end Rows
end Go.Proofs.YtegimepmccilfaaGreatDoor
