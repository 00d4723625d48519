/- Dead channels in plain terms. -/
import Derived.Test.YtegimepmccilfaaGreatDoorPlaneE
import Derived.Test.YtegimepmccilfaaGreatDoorHitData
namespace Go.Proofs.YtegimepmccilfaaGreatDoor
open Go.RowKit
set_option linter.unusedVariables false
set_option linter.unusedSimpArgs false
/-- some dead channel is c -/
def deadIs (p : PR) (c : Int) : Bool := !allUpto p.en (fun j => !(p.es j == c))
theorem deadIs_yes {p : PR} {c : Int} {k : Nat} (hk : k < p.en) (h : p.es k = c) : true = deadIs p c := by
  rw [deadIs, allUpto_false hk (by simp [h])]; rfl
theorem deadIs_no {p : PR} {c : Int} {k : Nat} (hk : k = p.en) (h : ∀ j, j < k → ¬ p.es j = c) : false = deadIs p c := by
  subst hk; rw [deadIs, allUpto_true (fun j hj => by simp [h j hj])]; rfl
theorem deadIs_iff {p : PR} {c : Int} : deadIs p c = true ↔ ∃ j, j < p.en ∧ p.es j = c := by
  simp [deadIs, allUpto]
end Go.Proofs.YtegimepmccilfaaGreatDoor
