/-
  DERIVED. GIVEN WITH THE SEED: THE CARDS: each row of YtkdopjkdokgipaaGreatDoorRows.lean that lists a variable, with what it lists TIED to the program's text (the seventh form; the later family's looks); each row that meets fmt, with fmt's text TOLD by the authors' own Lean function (tested against real Go, not proved from fmt's source: count such statements apart). THE CARD IS WHAT COUNTS. Prove the row's statement (the work); the ties are given (YtkdopjkdokgipaaGreatDoorTie.lean); close each card by the builder's one call (the guide's Derived/Test/ToyasCard.lean, 'card_holds'). Laid BY PROGRAM, IN A SANDBOX (cutbox-door.mjs). By AI agents, Wed Nov 11 2026. No macro, syntax, notation, axiom, sorry.
-/
import Derived.Test.YtkdopjkdokgipaaGreatDoorRows
import GoSem.ClaimSeven
namespace Go.Proofs.YtkdopjkdokgipaaGreatDoor
namespace Rows

/-- THE TIED CARD OF 'overburdenlaw08.ImageShines'. -/
def imageShinesCard : Claim7 := { stood := { row := imageShinesRow, standIns := [], harness := (true, "ff7f32352764ccb7e4d9469891e318c5a33e3259899b64a251579a310566024a"), looks := true }, kinds := [], alts := [], laidByText := true, laidKinds := [.data, .data, .data], laidTests := true, laidLooks := .later }
def ImageShinesCardSaid : Prop := Claim7.holds Tryz.pinned (.plain (OpenSpec.ofChange imageShinesSpec)) imageShinesCard

/-- THE TIED CARD OF 'overburdenlaw08.ImageSeen'. -/
def imageSeenCard : Claim7 := { stood := { row := imageSeenRow, standIns := [], harness := (true, "ff7f32352764ccb7e4d9469891e318c5a33e3259899b64a251579a310566024a"), looks := true }, kinds := [], alts := [], laidByText := true, laidKinds := [.data, .data, .data], laidTests := true, laidLooks := .later }
def ImageSeenCardSaid : Prop := Claim7.holds Tryz.pinned (.plain (OpenSpec.ofChange imageSeenSpec)) imageSeenCard

/-- THE SECOND FORM's CARD OF 'overburdenlaw08.ImageShines'. -/
def imageShinesUptoCard : Claim7 := { stood := { row := imageShinesUptoRow, standIns := [], harness := (true, "ff7f32352764ccb7e4d9469891e318c5a33e3259899b64a251579a310566024a"), looks := true }, kinds := [], alts := [], laidByText := true, laidKinds := [.data, .data, .data], laidTests := true, laidLooks := .later }
def ImageShinesUptoCardSaid : Prop := Claim7.holds Tryz.pinned (.plain (OpenSpec.upto imageShinesSpec)) imageShinesUptoCard

/-- THE SECOND FORM's CARD OF 'overburdenlaw08.ImageSeen'. -/
def imageSeenUptoCard : Claim7 := { stood := { row := imageSeenUptoRow, standIns := [], harness := (true, "ff7f32352764ccb7e4d9469891e318c5a33e3259899b64a251579a310566024a"), looks := true }, kinds := [], alts := [], laidByText := true, laidKinds := [.data, .data, .data], laidTests := true, laidLooks := .later }
def ImageSeenUptoCardSaid : Prop := Claim7.holds Tryz.pinned (.plain (OpenSpec.upto imageSeenSpec)) imageSeenUptoCard
end Rows
end Go.Proofs.YtkdopjkdokgipaaGreatDoor
