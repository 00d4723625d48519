/- Planes are loaded and stored as one. -/
import Derived.Test.YtegimepmccilfaaGreatDoorProg
import Derived.Test.YtegimepmccilfaaGreatDoorWide
import Derived.KernelRfl
namespace Go.Proofs.YtegimepmccilfaaGreatDoor
set_option linter.unusedVariables false
set_option linter.unusedSimpArgs false
open Go.RowKit
theorem size_plane : (Tryz.prog.info? 42).map (·.size) = some 15 := by kernel_rfl
theorem size_placed : (Tryz.prog.info? 84).map (·.size) = some 16 := by kernel_rfl
theorem load_plane : LoadLaw15 Tryz.prog 42 := exec_load15 (P := Tryz.prog) (t := 42) Tryz.underlying42 rfl size_plane
theorem load_placed : LoadLaw16 Tryz.prog 84 := exec_load16 (P := Tryz.prog) (t := 84) Tryz.underlying84 rfl size_placed
theorem store_plane : StoreLaw15 Tryz.prog 42 := exec_store15 (P := Tryz.prog) (t := 42) size_plane
theorem store_placed : StoreLaw16 Tryz.prog 84 := exec_store16 (P := Tryz.prog) (t := 84) size_placed
theorem oneCell_int (k : IntKind) (n : Int) : (Value.int k n).oneCell' = true := rfl
theorem oneCell_slice (a : Option Addr) (n c : Nat) : (Value.slice a n c).oneCell' = true := rfl
attribute [go_sem ↓] load_plane load_placed store_plane store_placed
attribute [go_sem] setCells_alloc_last setCells_alloc_other oneCell_int oneCell_slice List.all_toArray List.all_cons List.all_nil
end Go.Proofs.YtegimepmccilfaaGreatDoor
