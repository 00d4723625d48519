/-
  No cell of these rows narrows 'for every input' (looked for: loops, veiled, ifaces, maps, wideKeys, modest, calm, conditions, laid).
  DERIVED. THE GIVEN ROWS OF THIS SEAT. 12 by the template 'for every input the law returns true; each argument reads behind the call as it read before'; 0 by the template 'total and deterministic' (their statements: YtgcepjminlapiaaTotals.lean).
  GIVEN WITH THE SEED: the statements are not yours to turn. If you find one false, say at which input.
  Laid BY PROGRAM, IN A SANDBOX (cutbox-rows.mjs): the forced cells as the released guide's own fill.sh prints them over the translation 5b6282405c12e51c… (all of the seat's roots in one cut). By AI agents, Wed Nov 11 2026. No macro, syntax, notation, axiom, sorry.
-/
import Derived.Test.YtgcepjminlapiaaChecked
import GoSem.Claim
import GoSem.ClaimJoined
import GoSem.ClaimMapViews
import Derived.JoinedTies
import Derived.KernelRfl
namespace Go.Proofs.Ytgcepjminlapiaa
/- THE CELL 'sum', in the pinned program and in every row, IS THE sha256 OF THE DUMP (.gsa) THAT YtgcepjminlapiaaProg.lean LOADS. Nothing in Lean hashes anything: it is a label: what it is worth is what the hold of that sum in a sandbox is worth. -/
noncomputable def Try.pinned : Pinned := { name := "ytgcepjminlapiaa", sum := "5b6282405c12e51c473649bce4e3cc2d6f23c9b7c41370ecf0eccf712c99ea17", checked := Try.checked }
namespace Rows
def none {H : Type} : Left H := { results := [], args := [] }

/-- 'overburdenlaw01.PlaneGates': WHATEVER THE INPUT: true; the input reads as it did. -/
def planeGatesSpec : ChangeSpec := { name := "planeGates", fn := fun _ => fun
  | [d1, d2] => { results := [.lit (.bool true)], args := [d1, d2] }
  | _ => none }
def planeGatesRow : OpenClaim := { program := "ytgcepjminlapiaa", sum := "5b6282405c12e51c473649bce4e3cc2d6f23c9b7c41370ecf0eccf712c99ea17", func := "overburden/overburdenlaw01.PlaneGates", spec := "planeGates", unfollowed := true, recurses := true, apart := false }
def PlaneGatesSaid : Prop := planeGatesRow.holds Try.pinned (OpenSpec.ofChange planeGatesSpec)

/-- ITS FALSE NEIGHBOUR: 'it returns false'. Refute it at one input. -/
def planeGatesWrong : ChangeSpec := { name := "planeGates", fn := fun _ => fun
  | [d1, d2] => { results := [.lit (.bool false)], args := [d1, d2] }
  | _ => none }
def PlaneGatesWrongFalsely : Prop := planeGatesRow.holds Try.pinned (OpenSpec.ofChange planeGatesWrong)

/-- 'overburdenlaw01.PlaneTrue': WHATEVER THE INPUT: true; the input reads as it did. -/
def planeTrueSpec : ChangeSpec := { name := "planeTrue", fn := fun _ => fun
  | [d1, d2, d3, d4] => { results := [.lit (.bool true)], args := [d1, d2, d3, d4] }
  | _ => none }
def planeTrueRow : OpenClaim := { program := "ytgcepjminlapiaa", sum := "5b6282405c12e51c473649bce4e3cc2d6f23c9b7c41370ecf0eccf712c99ea17", func := "overburden/overburdenlaw01.PlaneTrue", spec := "planeTrue", unfollowed := true, recurses := true, apart := false }
def PlaneTrueSaid : Prop := planeTrueRow.holds Try.pinned (OpenSpec.ofChange planeTrueSpec)

/-- ITS FALSE NEIGHBOUR: 'it returns false'. Refute it at one input. -/
def planeTrueWrong : ChangeSpec := { name := "planeTrue", fn := fun _ => fun
  | [d1, d2, d3, d4] => { results := [.lit (.bool false)], args := [d1, d2, d3, d4] }
  | _ => none }
def PlaneTrueWrongFalsely : Prop := planeTrueRow.holds Try.pinned (OpenSpec.ofChange planeTrueWrong)

/-- 'overburdenlaw01.PlaneSees': WHATEVER THE INPUT: true; the input reads as it did. -/
def planeSeesSpec : ChangeSpec := { name := "planeSees", fn := fun _ => fun
  | [d1, d2, d3, d4] => { results := [.lit (.bool true)], args := [d1, d2, d3, d4] }
  | _ => none }
def planeSeesRow : OpenClaim := { program := "ytgcepjminlapiaa", sum := "5b6282405c12e51c473649bce4e3cc2d6f23c9b7c41370ecf0eccf712c99ea17", func := "overburden/overburdenlaw01.PlaneSees", spec := "planeSees", unfollowed := true, recurses := true, apart := false }
def PlaneSeesSaid : Prop := planeSeesRow.holds Try.pinned (OpenSpec.ofChange planeSeesSpec)

/-- ITS FALSE NEIGHBOUR: 'it returns false'. Refute it at one input. -/
def planeSeesWrong : ChangeSpec := { name := "planeSees", fn := fun _ => fun
  | [d1, d2, d3, d4] => { results := [.lit (.bool false)], args := [d1, d2, d3, d4] }
  | _ => none }
def PlaneSeesWrongFalsely : Prop := planeSeesRow.holds Try.pinned (OpenSpec.ofChange planeSeesWrong)

/-- 'overburdenlaw01.PlaneFired': WHATEVER THE INPUT: true; the input reads as it did. -/
def planeFiredSpec : ChangeSpec := { name := "planeFired", fn := fun _ => fun
  | [d1, d2, d3, d4, d5] => { results := [.lit (.bool true)], args := [d1, d2, d3, d4, d5] }
  | _ => none }
def planeFiredRow : OpenClaim := { program := "ytgcepjminlapiaa", sum := "5b6282405c12e51c473649bce4e3cc2d6f23c9b7c41370ecf0eccf712c99ea17", func := "overburden/overburdenlaw01.PlaneFired", spec := "planeFired", unfollowed := true, recurses := true, apart := false }
def PlaneFiredSaid : Prop := planeFiredRow.holds Try.pinned (OpenSpec.ofChange planeFiredSpec)

/-- ITS FALSE NEIGHBOUR: 'it returns false'. Refute it at one input. -/
def planeFiredWrong : ChangeSpec := { name := "planeFired", fn := fun _ => fun
  | [d1, d2, d3, d4, d5] => { results := [.lit (.bool false)], args := [d1, d2, d3, d4, d5] }
  | _ => none }
def PlaneFiredWrongFalsely : Prop := planeFiredRow.holds Try.pinned (OpenSpec.ofChange planeFiredWrong)

/-- 'overburdenlaw01.PlaneChecks': WHATEVER THE INPUT: true; the input reads as it did. -/
def planeChecksSpec : ChangeSpec := { name := "planeChecks", fn := fun _ => fun
  | [d1, d2] => { results := [.lit (.bool true)], args := [d1, d2] }
  | _ => none }
def planeChecksRow : OpenClaim := { program := "ytgcepjminlapiaa", sum := "5b6282405c12e51c473649bce4e3cc2d6f23c9b7c41370ecf0eccf712c99ea17", func := "overburden/overburdenlaw01.PlaneChecks", spec := "planeChecks", unfollowed := true, recurses := true, apart := false }
def PlaneChecksSaid : Prop := planeChecksRow.holds Try.pinned (OpenSpec.ofChange planeChecksSpec)

/-- ITS FALSE NEIGHBOUR: 'it returns false'. Refute it at one input. -/
def planeChecksWrong : ChangeSpec := { name := "planeChecks", fn := fun _ => fun
  | [d1, d2] => { results := [.lit (.bool false)], args := [d1, d2] }
  | _ => none }
def PlaneChecksWrongFalsely : Prop := planeChecksRow.holds Try.pinned (OpenSpec.ofChange planeChecksWrong)

/-- 'overburdenlaw01.PlaneAligns': WHATEVER THE INPUT: true; the input reads as it did. -/
def planeAlignsSpec : ChangeSpec := { name := "planeAligns", fn := fun _ => fun
  | [d1, d2, d3, d4] => { results := [.lit (.bool true)], args := [d1, d2, d3, d4] }
  | _ => none }
def planeAlignsRow : OpenClaim := { program := "ytgcepjminlapiaa", sum := "5b6282405c12e51c473649bce4e3cc2d6f23c9b7c41370ecf0eccf712c99ea17", func := "overburden/overburdenlaw01.PlaneAligns", spec := "planeAligns", unfollowed := true, recurses := true, apart := false }
def PlaneAlignsSaid : Prop := planeAlignsRow.holds Try.pinned (OpenSpec.ofChange planeAlignsSpec)

/-- ITS FALSE NEIGHBOUR: 'it returns false'. Refute it at one input. -/
def planeAlignsWrong : ChangeSpec := { name := "planeAligns", fn := fun _ => fun
  | [d1, d2, d3, d4] => { results := [.lit (.bool false)], args := [d1, d2, d3, d4] }
  | _ => none }
def PlaneAlignsWrongFalsely : Prop := planeAlignsRow.holds Try.pinned (OpenSpec.ofChange planeAlignsWrong)

/-- 'overburdenlaw01.PlaneTimes': WHATEVER THE INPUT: true; the input reads as it did. -/
def planeTimesSpec : ChangeSpec := { name := "planeTimes", fn := fun _ => fun
  | [d1, d2] => { results := [.lit (.bool true)], args := [d1, d2] }
  | _ => none }
def planeTimesRow : OpenClaim := { program := "ytgcepjminlapiaa", sum := "5b6282405c12e51c473649bce4e3cc2d6f23c9b7c41370ecf0eccf712c99ea17", func := "overburden/overburdenlaw01.PlaneTimes", spec := "planeTimes", unfollowed := true, recurses := true, apart := false }
def PlaneTimesSaid : Prop := planeTimesRow.holds Try.pinned (OpenSpec.ofChange planeTimesSpec)

/-- ITS FALSE NEIGHBOUR: 'it returns false'. Refute it at one input. -/
def planeTimesWrong : ChangeSpec := { name := "planeTimes", fn := fun _ => fun
  | [d1, d2] => { results := [.lit (.bool false)], args := [d1, d2] }
  | _ => none }
def PlaneTimesWrongFalsely : Prop := planeTimesRow.holds Try.pinned (OpenSpec.ofChange planeTimesWrong)

/-- 'overburdenlaw01.PlanePacks': WHATEVER THE INPUT: true; the input reads as it did. -/
def planePacksSpec : ChangeSpec := { name := "planePacks", fn := fun _ => fun
  | [d] => { results := [.lit (.bool true)], args := [d] }
  | _ => none }
def planePacksRow : OpenClaim := { program := "ytgcepjminlapiaa", sum := "5b6282405c12e51c473649bce4e3cc2d6f23c9b7c41370ecf0eccf712c99ea17", func := "overburden/overburdenlaw01.PlanePacks", spec := "planePacks", unfollowed := true, recurses := true, apart := false }
def PlanePacksSaid : Prop := planePacksRow.holds Try.pinned (OpenSpec.ofChange planePacksSpec)

/-- ITS FALSE NEIGHBOUR: 'it returns false'. Refute it at one input. -/
def planePacksWrong : ChangeSpec := { name := "planePacks", fn := fun _ => fun
  | [d] => { results := [.lit (.bool false)], args := [d] }
  | _ => none }
def PlanePacksWrongFalsely : Prop := planePacksRow.holds Try.pinned (OpenSpec.ofChange planePacksWrong)

/-- 'overburdenlaw01.PlaneUnpacks': WHATEVER THE INPUT: true; the input reads as it did. -/
def planeUnpacksSpec : ChangeSpec := { name := "planeUnpacks", fn := fun _ => fun
  | [d] => { results := [.lit (.bool true)], args := [d] }
  | _ => none }
def planeUnpacksRow : OpenClaim := { program := "ytgcepjminlapiaa", sum := "5b6282405c12e51c473649bce4e3cc2d6f23c9b7c41370ecf0eccf712c99ea17", func := "overburden/overburdenlaw01.PlaneUnpacks", spec := "planeUnpacks", unfollowed := true, recurses := true, apart := false }
def PlaneUnpacksSaid : Prop := planeUnpacksRow.holds Try.pinned (OpenSpec.ofChange planeUnpacksSpec)

/-- ITS FALSE NEIGHBOUR: 'it returns false'. Refute it at one input. -/
def planeUnpacksWrong : ChangeSpec := { name := "planeUnpacks", fn := fun _ => fun
  | [d] => { results := [.lit (.bool false)], args := [d] }
  | _ => none }
def PlaneUnpacksWrongFalsely : Prop := planeUnpacksRow.holds Try.pinned (OpenSpec.ofChange planeUnpacksWrong)

/-- 'overburdenlaw01.PlaneSpoilt': WHATEVER THE INPUT: true; the input reads as it did. -/
def planeSpoiltSpec : ChangeSpec := { name := "planeSpoilt", fn := fun _ => fun
  | [d1, d2, d3] => { results := [.lit (.bool true)], args := [d1, d2, d3] }
  | _ => none }
def planeSpoiltRow : OpenClaim := { program := "ytgcepjminlapiaa", sum := "5b6282405c12e51c473649bce4e3cc2d6f23c9b7c41370ecf0eccf712c99ea17", func := "overburden/overburdenlaw01.PlaneSpoilt", spec := "planeSpoilt", unfollowed := true, recurses := true, apart := false }
def PlaneSpoiltSaid : Prop := planeSpoiltRow.holds Try.pinned (OpenSpec.ofChange planeSpoiltSpec)

/-- ITS FALSE NEIGHBOUR: 'it returns false'. Refute it at one input. -/
def planeSpoiltWrong : ChangeSpec := { name := "planeSpoilt", fn := fun _ => fun
  | [d1, d2, d3] => { results := [.lit (.bool false)], args := [d1, d2, d3] }
  | _ => none }
def PlaneSpoiltWrongFalsely : Prop := planeSpoiltRow.holds Try.pinned (OpenSpec.ofChange planeSpoiltWrong)

/-- 'overburdenlaw01.PlaneEvents': WHATEVER THE INPUT: true; the input reads as it did. -/
def planeEventsSpec : ChangeSpec := { name := "planeEvents", fn := fun _ => fun
  | [d1, d2] => { results := [.lit (.bool true)], args := [d1, d2] }
  | _ => none }
def planeEventsRow : OpenClaim := { program := "ytgcepjminlapiaa", sum := "5b6282405c12e51c473649bce4e3cc2d6f23c9b7c41370ecf0eccf712c99ea17", func := "overburden/overburdenlaw01.PlaneEvents", spec := "planeEvents", unfollowed := true, recurses := true, apart := false }
def PlaneEventsSaid : Prop := planeEventsRow.holds Try.pinned (OpenSpec.ofChange planeEventsSpec)

/-- ITS FALSE NEIGHBOUR: 'it returns false'. Refute it at one input. -/
def planeEventsWrong : ChangeSpec := { name := "planeEvents", fn := fun _ => fun
  | [d1, d2] => { results := [.lit (.bool false)], args := [d1, d2] }
  | _ => none }
def PlaneEventsWrongFalsely : Prop := planeEventsRow.holds Try.pinned (OpenSpec.ofChange planeEventsWrong)

/-- 'overburdenlaw01.PlaneTogether': WHATEVER THE INPUT: true; the input reads as it did. -/
def planeTogetherSpec : ChangeSpec := { name := "planeTogether", fn := fun _ => fun
  | [d1, d2, d3, d4, d5] => { results := [.lit (.bool true)], args := [d1, d2, d3, d4, d5] }
  | _ => none }
def planeTogetherRow : OpenClaim := { program := "ytgcepjminlapiaa", sum := "5b6282405c12e51c473649bce4e3cc2d6f23c9b7c41370ecf0eccf712c99ea17", func := "overburden/overburdenlaw01.PlaneTogether", spec := "planeTogether", unfollowed := true, recurses := true, apart := false }
def PlaneTogetherSaid : Prop := planeTogetherRow.holds Try.pinned (OpenSpec.ofChange planeTogetherSpec)

/-- ITS FALSE NEIGHBOUR: 'it returns false'. Refute it at one input. -/
def planeTogetherWrong : ChangeSpec := { name := "planeTogether", fn := fun _ => fun
  | [d1, d2, d3, d4, d5] => { results := [.lit (.bool false)], args := [d1, d2, d3, d4, d5] }
  | _ => none }
def PlaneTogetherWrongFalsely : Prop := planeTogetherRow.holds Try.pinned (OpenSpec.ofChange planeTogetherWrong)

/- THE SECOND FORM. 'bulk': how many values and letters a reading holds, each counted each time it is reached (what is shared counts as often as it is met; a slice's spare places count too). A statement '..UptoSaid' is the law's where the arguments, and the package variables that the reading takes, are together of bulk at most 1048576: NARROWER than '..Said'. Prove '..Said' where nothing that the law and all that it calls make is longer than what came in: it says more and counts as full. Else prove '..UptoSaid'. A law counts once. -/
mutual
def uptoBulk {H : Type} : DataW H → Nat
  | .lit (.string bytes) => bytes.length + 1
  | .lit _ => 1
  | .nil => 1
  | .ptr d => uptoBulk d + 1
  | .slice elems spare => uptoBulkAll elems + uptoBulkAll spare + 1
  | .agg parts => uptoBulkAll parts + 1
  | .iface _ d => uptoBulk d + 1
  | .map entries => uptoBulkEntries entries + 1
  | .held _ => 1
def uptoBulkAll {H : Type} : List (DataW H) → Nat
  | [] => 0
  | d :: r => uptoBulk d + uptoBulkAll r
def uptoBulkEntries {H : Type} : List (Lit × DataW H) → Nat
  | [] => 0
  | x :: r => uptoBulkEntry x + uptoBulkEntries r
def uptoBulkEntry {H : Type} : Lit × DataW H → Nat
  | (.string bytes, d) => bytes.length + uptoBulk d + 1
  | (_, d) => uptoBulk d + 1
 end
def uptoSmall : (H : Type) → List (DataW H) → Bool := fun _ ds => decide (uptoBulkAll ds ≤ 1048576)
def OpenSpec.upto (s : _root_.Go.ChangeSpec) : _root_.Go.OpenSpec := { _root_.Go.OpenSpec.ofChange s with cond := some uptoSmall }

/-- 'overburdenlaw01.PlaneGates', WHERE WHAT IT READS IS OF BULK AT MOST 1048576: true; the input reads as it did. -/
def planeGatesUptoRow : OpenClaim := { program := "ytgcepjminlapiaa", sum := "5b6282405c12e51c473649bce4e3cc2d6f23c9b7c41370ecf0eccf712c99ea17", func := "overburden/overburdenlaw01.PlaneGates", spec := "planeGates", unfollowed := true, recurses := true, apart := false, narrowed := true }
def PlaneGatesUptoSaid : Prop := planeGatesUptoRow.holds Try.pinned (OpenSpec.upto planeGatesSpec)

/-- 'overburdenlaw01.PlaneTrue', WHERE WHAT IT READS IS OF BULK AT MOST 1048576: true; the input reads as it did. -/
def planeTrueUptoRow : OpenClaim := { program := "ytgcepjminlapiaa", sum := "5b6282405c12e51c473649bce4e3cc2d6f23c9b7c41370ecf0eccf712c99ea17", func := "overburden/overburdenlaw01.PlaneTrue", spec := "planeTrue", unfollowed := true, recurses := true, apart := false, narrowed := true }
def PlaneTrueUptoSaid : Prop := planeTrueUptoRow.holds Try.pinned (OpenSpec.upto planeTrueSpec)

/-- 'overburdenlaw01.PlaneSees', WHERE WHAT IT READS IS OF BULK AT MOST 1048576: true; the input reads as it did. -/
def planeSeesUptoRow : OpenClaim := { program := "ytgcepjminlapiaa", sum := "5b6282405c12e51c473649bce4e3cc2d6f23c9b7c41370ecf0eccf712c99ea17", func := "overburden/overburdenlaw01.PlaneSees", spec := "planeSees", unfollowed := true, recurses := true, apart := false, narrowed := true }
def PlaneSeesUptoSaid : Prop := planeSeesUptoRow.holds Try.pinned (OpenSpec.upto planeSeesSpec)

/-- 'overburdenlaw01.PlaneFired', WHERE WHAT IT READS IS OF BULK AT MOST 1048576: true; the input reads as it did. -/
def planeFiredUptoRow : OpenClaim := { program := "ytgcepjminlapiaa", sum := "5b6282405c12e51c473649bce4e3cc2d6f23c9b7c41370ecf0eccf712c99ea17", func := "overburden/overburdenlaw01.PlaneFired", spec := "planeFired", unfollowed := true, recurses := true, apart := false, narrowed := true }
def PlaneFiredUptoSaid : Prop := planeFiredUptoRow.holds Try.pinned (OpenSpec.upto planeFiredSpec)

/-- 'overburdenlaw01.PlaneChecks', WHERE WHAT IT READS IS OF BULK AT MOST 1048576: true; the input reads as it did. -/
def planeChecksUptoRow : OpenClaim := { program := "ytgcepjminlapiaa", sum := "5b6282405c12e51c473649bce4e3cc2d6f23c9b7c41370ecf0eccf712c99ea17", func := "overburden/overburdenlaw01.PlaneChecks", spec := "planeChecks", unfollowed := true, recurses := true, apart := false, narrowed := true }
def PlaneChecksUptoSaid : Prop := planeChecksUptoRow.holds Try.pinned (OpenSpec.upto planeChecksSpec)

/-- 'overburdenlaw01.PlaneAligns', WHERE WHAT IT READS IS OF BULK AT MOST 1048576: true; the input reads as it did. -/
def planeAlignsUptoRow : OpenClaim := { program := "ytgcepjminlapiaa", sum := "5b6282405c12e51c473649bce4e3cc2d6f23c9b7c41370ecf0eccf712c99ea17", func := "overburden/overburdenlaw01.PlaneAligns", spec := "planeAligns", unfollowed := true, recurses := true, apart := false, narrowed := true }
def PlaneAlignsUptoSaid : Prop := planeAlignsUptoRow.holds Try.pinned (OpenSpec.upto planeAlignsSpec)

/-- 'overburdenlaw01.PlaneTimes', WHERE WHAT IT READS IS OF BULK AT MOST 1048576: true; the input reads as it did. -/
def planeTimesUptoRow : OpenClaim := { program := "ytgcepjminlapiaa", sum := "5b6282405c12e51c473649bce4e3cc2d6f23c9b7c41370ecf0eccf712c99ea17", func := "overburden/overburdenlaw01.PlaneTimes", spec := "planeTimes", unfollowed := true, recurses := true, apart := false, narrowed := true }
def PlaneTimesUptoSaid : Prop := planeTimesUptoRow.holds Try.pinned (OpenSpec.upto planeTimesSpec)

/-- 'overburdenlaw01.PlanePacks', WHERE WHAT IT READS IS OF BULK AT MOST 1048576: true; the input reads as it did. -/
def planePacksUptoRow : OpenClaim := { program := "ytgcepjminlapiaa", sum := "5b6282405c12e51c473649bce4e3cc2d6f23c9b7c41370ecf0eccf712c99ea17", func := "overburden/overburdenlaw01.PlanePacks", spec := "planePacks", unfollowed := true, recurses := true, apart := false, narrowed := true }
def PlanePacksUptoSaid : Prop := planePacksUptoRow.holds Try.pinned (OpenSpec.upto planePacksSpec)

/-- 'overburdenlaw01.PlaneUnpacks', WHERE WHAT IT READS IS OF BULK AT MOST 1048576: true; the input reads as it did. -/
def planeUnpacksUptoRow : OpenClaim := { program := "ytgcepjminlapiaa", sum := "5b6282405c12e51c473649bce4e3cc2d6f23c9b7c41370ecf0eccf712c99ea17", func := "overburden/overburdenlaw01.PlaneUnpacks", spec := "planeUnpacks", unfollowed := true, recurses := true, apart := false, narrowed := true }
def PlaneUnpacksUptoSaid : Prop := planeUnpacksUptoRow.holds Try.pinned (OpenSpec.upto planeUnpacksSpec)

/-- 'overburdenlaw01.PlaneSpoilt', WHERE WHAT IT READS IS OF BULK AT MOST 1048576: true; the input reads as it did. -/
def planeSpoiltUptoRow : OpenClaim := { program := "ytgcepjminlapiaa", sum := "5b6282405c12e51c473649bce4e3cc2d6f23c9b7c41370ecf0eccf712c99ea17", func := "overburden/overburdenlaw01.PlaneSpoilt", spec := "planeSpoilt", unfollowed := true, recurses := true, apart := false, narrowed := true }
def PlaneSpoiltUptoSaid : Prop := planeSpoiltUptoRow.holds Try.pinned (OpenSpec.upto planeSpoiltSpec)

/-- 'overburdenlaw01.PlaneEvents', WHERE WHAT IT READS IS OF BULK AT MOST 1048576: true; the input reads as it did. -/
def planeEventsUptoRow : OpenClaim := { program := "ytgcepjminlapiaa", sum := "5b6282405c12e51c473649bce4e3cc2d6f23c9b7c41370ecf0eccf712c99ea17", func := "overburden/overburdenlaw01.PlaneEvents", spec := "planeEvents", unfollowed := true, recurses := true, apart := false, narrowed := true }
def PlaneEventsUptoSaid : Prop := planeEventsUptoRow.holds Try.pinned (OpenSpec.upto planeEventsSpec)

/-- 'overburdenlaw01.PlaneTogether', WHERE WHAT IT READS IS OF BULK AT MOST 1048576: true; the input reads as it did. -/
def planeTogetherUptoRow : OpenClaim := { program := "ytgcepjminlapiaa", sum := "5b6282405c12e51c473649bce4e3cc2d6f23c9b7c41370ecf0eccf712c99ea17", func := "overburden/overburdenlaw01.PlaneTogether", spec := "planeTogether", unfollowed := true, recurses := true, apart := false, narrowed := true }
def PlaneTogetherUptoSaid : Prop := planeTogetherUptoRow.holds Try.pinned (OpenSpec.upto planeTogetherSpec)

end Rows
end Go.Proofs.Ytgcepjminlapiaa
