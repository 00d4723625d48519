/- The walk of unpack's deferred function where reading was given up. -/
import Derived.Test.YtgcepjminlapiaaPackF
import Derived.Test.YtgcepjminlapiaaHitsLaw
namespace Go.Proofs.Ytgcepjminlapiaa
open Go.RowKit
set_option linter.unusedVariables false
set_option linter.unusedSimpArgs false
set_option maxRecDepth 100000 in
set_option maxHeartbeats 1000000 in
theorem catch_wrong (hb ob : Nat) (v : Value) (w : World) (hne : hb ≠ ob) (hh : w.heap[hb]? = some (.cells #[v] 65)) (ho : w.heap[ob]? = some (.cells #[.bool false] 4)) (hv : ∃ a n c, v = .slice a n c) :
    CallsD Try.prog 88 #[.pointer (some ⟨hb, 0, none⟩), .pointer (some ⟨ob, 0, none⟩)] (.panicking wrongP) w fun e u' w' => e = .returned (.tuple #[]) ∧ u' = .panicking [{ v := .iface 139 (.agg #[]), recovered := true }] ∧ w'.heap[hb]? = some (.cells #[.slice none 0 0] 65) ∧ w'.heap[ob]? = some (.cells #[.bool false] 4) ∧ (∀ B W, B ≤ hb → B ≤ ob → Below B W w → Below B W w') := by
  obtain ⟨va, vn, vc, rfl⟩ := hv
  have c1 : w.cell? ⟨hb, 0, none⟩ = some (.slice va vn vc) := cell_of_row _ _ _ _ _ _ hh
  have c2 : w.frozen? ⟨hb, 0, none⟩ = false := frozen_of_row _ _ _ _ _ hh
  have c3 : w.cell? ⟨ob, 0, none⟩ = some (.bool false) := cell_of_row _ _ _ _ _ _ ho
  have c4 : w.frozen? ⟨ob, 0, none⟩ = false := frozen_of_row _ _ _ _ _ ho
  have l1 : hb < w.heap.size := (Array.getElem?_eq_some_iff.1 hh).1
  have l2 : ob < w.heap.size := (Array.getElem?_eq_some_iff.1 ho).1
  have hta : ∀ w : World, (Instr.typeAssert (.iface 139 (.agg #[])) 20 139 true).run Try.prog w = .ok (.tuple #[.agg #[], .bool true]) w := fun _ => by kernel_rfl
  have hnot : ∀ (x : Bool) (w : World), (Op.unary .not (.bool x)).run Try.prog w = .ok (.bool (!x)) w := fun _ _ => rfl
  refine callsD_of_wpS Try.func88 rfl fun c₀ cs hu => ?_
  apply wpS_seq
  apply wpS_region
  simp [wpOpsS, go_sem, recoverD, hu, Try.ntmps88, Exit.thenS]
  apply wpS_seq
  apply wpS_region
  simp [wpOpsS, go_sem, Exit.thenS, Array.replicate]
  refine wpS_cond (t := true) (by simp [Act.eval]) ?_
  simp only [if_true]
  refine wpS_of_wp ?_
  go_wp2
  have g1 := (heap_setCell_other (w.setCell ⟨hb, 0, none⟩ (.slice none 0 0)) ⟨ob, 0, none⟩ hb (.bool false) hne).trans (heap_setCell_same w hb 0 _ _ (.slice none 0 0) hh)
  have g2 := heap_setCell_same (w.setCell ⟨hb, 0, none⟩ (.slice none 0 0)) ob 0 _ _ (.bool false) ((heap_setCell_other w ⟨hb, 0, none⟩ ob (.slice none 0 0) (Ne.symm hne)).trans ho)
  have g3 : ∀ o, (((w.setCell ⟨hb, 0, none⟩ (.slice none 0 0)).setCell ⟨ob, 0, none⟩ (.bool false)).alloc o).heap[hb]? = some (.cells #[.slice none 0 0] 65) := fun o => (heapQ_old (by simpa using l1)).trans g1
  have g4 : ∀ o, (((w.setCell ⟨hb, 0, none⟩ (.slice none 0 0)).setCell ⟨ob, 0, none⟩ (.bool false)).alloc o).heap[ob]? = some (.cells #[.bool false] 4) := fun o => (heapQ_old (by simpa using l2)).trans g2
  have g5 : ∀ o, (∀ (B : Nat) (W : World), B ≤ hb → B ≤ ob → Below B W w → Below B W (((w.setCell ⟨hb, 0, none⟩ (.slice none 0 0)).setCell ⟨ob, 0, none⟩ (.bool false)).alloc o)) := fun o B W h1 h2 h3 => ((h3.setCell (p := ⟨hb, 0, none⟩) h1 _).setCell (p := ⟨ob, 0, none⟩) h2 _).alloc (by simp; omega) o
  have G := And.intro (g3 (.cells #[] 139)) (And.intro (g4 (.cells #[] 139)) (g5 (.cells #[] 139)))
  clear g1 g2 g3 g4 g5 hta hnot c1 c2 c3 c4 hh ho
  generalize ((w.setCell ⟨hb, 0, none⟩ (.slice none 0 0)).setCell ⟨ob, 0, none⟩ (.bool false)).alloc (.cells #[] 139) = w9 at *
  have GH := Lib.hid G
  clear G
  simp [bodyPostS, results, Try.results88]
  exact GH.out
end Go.Proofs.Ytgcepjminlapiaa
