/- The statements' Example. -/
import Derived.Test.YtegimepmccilfaaGreatDoorPlaneT
import Derived.Test.YtegimepmccilfaaGreatDoorGateData
import Derived.Test.YtegimepmccilfaaGreatDoorWide2
import Derived.Test.YtegimepmccilfaaGreatDoorPlDead
namespace Go.Proofs.YtegimepmccilfaaGreatDoor
open Go.RowKit
set_option linter.unusedVariables false
set_option linter.unusedSimpArgs false
def exP (b d : Nat) (i : Nat) : PR :=
  if i = 0 then { kind := 1, view := 1, z := 0, first := 0, pitch := 100, strips := 10, spill := 5, olo := -2, ohi := 3, clo := 10, chi := 20, jitter := 4, least := 7, da := none, dn := 0, dc := 0, ea := some ⟨b, 0, none⟩, en := 1, ec := 1, ds := fun _ => ⟨0, 0, 0⟩, es := fun _ => 4 }
  else { kind := 2, view := 1, z := 500, first := 50, pitch := 100, strips := 9, spill := 0, olo := 0, ohi := 0, clo := 0, chi := 0, jitter := 2, least := 0, da := some ⟨d, 0, none⟩, dn := 3, dc := 3, ea := none, en := 0, ec := 0, ds := fun j => if j = 0 then ⟨0, 0, 2⟩ else if j = 1 then ⟨10, 10, 15⟩ else ⟨40, 40, 50⟩, es := fun _ => 0 }
theorem heapE_old {w : World} {o : Obj} {i : Nat} (h : i < w.heap.size) : (w.alloc o).heap[i]? = w.heap[i]? := Below.heap_alloc w o i h
theorem heapE_new {w : World} {o : Obj} {i : Nat} (h : i = w.heap.size) : (w.alloc o).heap[i]? = some o := by subst h; exact heap_alloc_new w o
theorem exPlanes {W : World} {k : Nat} (h1 : ∀ j, W.cell? ⟨k + 1, j, none⟩ = (#[.int .i64 4] : Array Value)[j]?) (h2 : ∀ j, W.cell? ⟨k + 1 + 1, j, none⟩ = (#[.int .i64 0, .int .i64 0, .int .i64 2, .int .i64 10, .int .i64 10, .int .i64 15, .int .i64 40, .int .i64 40, .int .i64 50] : Array Value)[j]?)
    (h3 : ∀ j, W.cell? ⟨k + 1 + 1 + 1, j, none⟩ = (#[.int .i64 1, .int .i64 1, .int .i64 0, .int .i64 0, .int .i64 100, .int .i64 10, .int .i64 5, .int .i64 (-2), .int .i64 3, .int .i64 10, .int .i64 20, .int .i64 4, .int .i64 7, .slice none 0 0, .slice (some ⟨k + 1, 0, none⟩) 1 1, .int .i64 2, .int .i64 1, .int .i64 500, .int .i64 50, .int .i64 100, .int .i64 9, .int .i64 0, .int .i64 0, .int .i64 0, .int .i64 0, .int .i64 0, .int .i64 2, .int .i64 0, .slice (some ⟨k + 1 + 1, 0, none⟩) 3 3, .slice none 0 0] : Array Value)[j]?) (hz : k + 1 + 1 + 1 < W.heap.size) :
    Planes W.heap.size W (some ⟨k + 1 + 1 + 1, 0, none⟩) 2 (exP (k + 1) (k + 1 + 1)) := by
  refine ⟨by decide, .inr ⟨k + 1 + 1 + 1, 0, rfl, hz, fun i hi => ?_⟩⟩
  by_cases h0 : i = 0
  · subst h0
    refine ⟨⟨h3 0, h3 1, h3 2, h3 3, h3 4, h3 5, h3 6, h3 7, h3 8, h3 9, h3 10, h3 11, h3 12, h3 13, h3 14⟩, (show (0 : Nat) ≤ maxLen by decide), (show (1 : Nat) ≤ maxLen by decide), .inl rfl, .inr ⟨k + 1, 0, rfl, by omega, fun i hi => ?_⟩⟩
    obtain rfl : i = 0 := by simp [exP] at hi; omega
    exact h1 0
  · obtain rfl : i = 1 := by omega
    refine ⟨⟨h3 15, h3 16, h3 17, h3 18, h3 19, h3 20, h3 21, h3 22, h3 23, h3 24, h3 25, h3 26, h3 27, h3 28, h3 29⟩, (show (3 : Nat) ≤ maxLen by decide), (show (0 : Nat) ≤ maxLen by decide), .inr ⟨k + 1 + 1, 0, rfl, by omega, fun i hi => ?_⟩, .inl rfl⟩
    have hi3 : i < 3 := hi
    by_cases e0 : i = 0
    · subst e0; exact ⟨h2 0, h2 1, h2 2⟩
    · by_cases e1 : i = 1
      · subst e1; exact ⟨h2 3, h2 4, h2 5⟩
      · obtain rfl : i = 2 := by omega
        exact ⟨h2 6, h2 7, h2 8⟩
set_option maxRecDepth 100000 in
set_option maxHeartbeats 1000000 in
theorem Example_any (w : World) :
    Calls Tryz.prog 14 #[] w fun e w' => ∃ b d, ∃ a, e = .returned (setupV a 2 2) ∧ Planes w'.heap.size w' a 2 (exP b d) ∧ Below w.heap.size w w' := by
  go_enter Tryz.func14, Tryz.ntmps14
  go_wp2
  refine bodyPost_ret (v := setupV (some ⟨w.heap.size + 1 + 1 + 1, 0, none⟩) 2 2) (by simp [results, Tryz.results14, go_sem]) rfl ⟨w.heap.size + 1, w.heap.size + 1 + 1, _, rfl, ?_, ?_⟩
  · refine exPlanes (fun j => ?_) (fun j => ?_) (fun j => ?_) (by simp)
    · exact cell_of_row _ _ _ _ _ _ ((heapE_old (by simp)).trans ((heapE_old (by simp)).trans (heapE_new (by simp))))
    · exact cell_of_row _ _ _ _ _ _ ((heapE_old (by simp)).trans (heapE_new (by simp)))
    · exact cell_of_row _ _ _ _ _ _ (heapE_new (by simp))
  · exact ((((Below.refl _ _).alloc (Nat.le_refl _) _).alloc (by simp) _).alloc (by simp; omega) _).alloc (by simp; omega) _
end Go.Proofs.YtegimepmccilfaaGreatDoor
