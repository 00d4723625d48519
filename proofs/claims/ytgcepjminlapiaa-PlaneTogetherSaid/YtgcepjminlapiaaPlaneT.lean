/- Planes are loaded and stored as one. -/
import Derived.Test.YtgcepjminlapiaaProg
import Derived.Test.YtgcepjminlapiaaWide
import Derived.KernelRfl
namespace Go.Proofs.Ytgcepjminlapiaa
set_option linter.unusedVariables false
set_option linter.unusedSimpArgs false
open Go.RowKit
theorem size_plane : (Try.prog.info? 49).map (·.size) = some 15 := by kernel_rfl
theorem size_placed : (Try.prog.info? 93).map (·.size) = some 16 := by kernel_rfl
theorem load_plane : LoadLaw15 Try.prog 49 := exec_load15 (P := Try.prog) (t := 49) Try.underlying49 rfl size_plane
theorem load_placed : LoadLaw16 Try.prog 93 := exec_load16 (P := Try.prog) (t := 93) Try.underlying93 rfl size_placed
theorem store_plane : StoreLaw15 Try.prog 49 := exec_store15 (P := Try.prog) (t := 49) size_plane
theorem store_placed : StoreLaw16 Try.prog 93 := exec_store16 (P := Try.prog) (t := 93) size_placed
theorem oneCell_int (k : IntKind) (n : Int) : (Value.int k n).oneCell' = true := rfl
theorem oneCell_slice (a : Option Addr) (n c : Nat) : (Value.slice a n c).oneCell' = true := rfl
attribute [go_sem ↓] load_plane load_placed store_plane store_placed
attribute [go_sem] setCells_alloc_last setCells_alloc_other oneCell_int oneCell_slice List.all_toArray List.all_cons List.all_nil
end Go.Proofs.Ytgcepjminlapiaa
