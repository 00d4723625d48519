/- Texts put together: ImKnown0, ImEx, ImProof2. -/
import Derived.Test.YtkdopjkdokgipaaGreatDoorGkA
import Derived.Test.YtkdopjkdokgipaaGreatDoorImPrint
import Derived.Test.YtkdopjkdokgipaaGreatDoorImRefB
import Derived.Test.YtkdopjkdokgipaaGreatDoorImHolds
namespace Go.Proofs.YtkdopjkdokgipaaGreatDoor
open Go.RowKit
set_option linter.unusedVariables false
set_option linter.unusedSimpArgs false
/-- the cells of M (z = 0) and N (z = 1) -/
def ssM (z : Int) (i : Nat) : SV := if i = 0 then ⟨0, 3⟩ else if i = 1 then ⟨0, 3⟩ else if i = 2 then ⟨z, 2⟩ else ⟨0, 4⟩
def bsM (c0 w0 c1 w1 : Option Addr) (i : Nat) : BM := if i = 0 then ⟨c0, 2, 2, w0, 2, 2, 5, 6, fun k => if k = 0 then 0 else 1, fun k => if k = 0 then 1 else 1⟩ else ⟨c1, 2, 2, w1, 2, 2, 0, 3, fun k => if k = 0 then 1 else 2, fun k => if k = 0 then 1 else 2⟩
theorem known_M (c0 w0 c1 w1 : Option Addr) : checkN 4 (ssM 0) 2 (bsM c0 w0 c1 w1) = 0 ∧ (allF 4 (ssM 0) 2 (bsM c0 w0 c1 w1)).length = 15 ∧ (∃ t, allF 4 (ssM 0) 2 (bsM c0 w0 c1 w1) = [2, 3, 0, 0] :: t) ∧ (bnd (fun f => fOf f 0) (allF 4 (ssM 0) 2 (bsM c0 w0 c1 w1)) = ⟨2, 3⟩ ∧ bnd (fun f => fOf f 1) (allF 4 (ssM 0) 2 (bsM c0 w0 c1 w1)) = ⟨2, 3⟩ ∧ bnd (fun f => fOf f 2) (allF 4 (ssM 0) 2 (bsM c0 w0 c1 w1)) = ⟨0, 0⟩ ∧ bnd (fun f => fOf f 3) (allF 4 (ssM 0) 2 (bsM c0 w0 c1 w1)) = ⟨0, 4⟩) :=
  ⟨by kernel_rfl, by kernel_rfl, ⟨(allF 4 (ssM 0) 2 (bsM c0 w0 c1 w1)).tail, by kernel_rfl⟩, by kernel_rfl, by kernel_rfl, by kernel_rfl, by kernel_rfl⟩
theorem known_N (c0 w0 c1 w1 : Option Addr) : checkN 4 (ssM 1) 2 (bsM c0 w0 c1 w1) = 0 ∧ allF 4 (ssM 1) 2 (bsM c0 w0 c1 w1) = [] ∧ (prfF 4 (ssM 1) 2 (bsM c0 w0 c1 w1)).length = 9 := ⟨by kernel_rfl, by kernel_rfl, by kernel_rfl⟩
theorem known_P (c0 w0 c1 w1 : Option Addr) : checkF 4 (ssM 0) 2 (bsM c0 w0 c1 w1) (inB 2 1 40) = 0 ∧ picT (freeC (ssM 0) 2 (bsM c0 w0 c1 w1) (allF 4 (ssM 0) 2 (bsM c0 w0 c1 w1))) (fun i => bnd (fun f => fOf f i) (allF 4 (ssM 0) 2 (bsM c0 w0 c1 w1))) 4 2 4 = [50, 45, 51, 32, 50, 45, 51, 10, 48, 32, 63, 10] := ⟨by kernel_rfl, by kernel_rfl⟩
/-- the three epochs -/
def imK (ca : Option Addr) (cc : Nat) (b0 c0 w0 b2 c2 w2 : Option Addr) (i : Nat) : IM :=
  if i = 0 then ⟨ca, 1, cc, b0, 1, 1, fun _ => ⟨0, 9⟩, fun _ => ⟨c0, 1, 1, w0, 1, 1, 2, 3, fun _ => 0, fun _ => 1⟩⟩
  else if i = 1 then ⟨ca, 1, cc, none, 0, 0, fun _ => ⟨0, 9⟩, fun _ => ⟨none, 0, 0, none, 0, 0, 0, 0, fun _ => 0, fun _ => 0⟩⟩
  else ⟨ca, 1, cc, b2, 1, 1, fun _ => ⟨0, 9⟩, fun _ => ⟨c2, 1, 1, w2, 1, 1, 8, 8, fun _ => 0, fun _ => 1⟩⟩
theorem below3 {p : Nat → Prop} (h0 : p 0) (h1 : p 1) (h2 : p 2) : ∀ i, i < 3 → p i
  | 0, _ => h0
  | 1, _ => h1
  | 2, _ => h2
  | i + 3, h => by omega
theorem ne_nil_of_len {α : Type} {l : List α} (h : l.isEmpty = false) : l ≠ [] := by
  intro e; subst e; cases h
theorem known_mov (ca : Option Addr) (cc : Nat) (b0 c0 w0 b2 c2 w2 : Option Addr) : MovOk 3 1 (imK ca cc b0 c0 w0 b2 c2 w2) :=
  ⟨by omega, by omega, below3 (by kernel_rfl) (by kernel_rfl) (by kernel_rfl), below3 rfl rfl rfl, below3 (by kernel_rfl) (by kernel_rfl) (by kernel_rfl), below3 (ne_nil_of_len (by kernel_rfl)) (ne_nil_of_len (by kernel_rfl)) (ne_nil_of_len (by kernel_rfl))⟩
theorem known_calm (ca : Option Addr) (cc : Nat) (b0 c0 w0 b2 c2 w2 : Option Addr) : calmF 1 (fun i => (imK ca cc b0 c0 w0 b2 c2 w2 i).F) 3 = 3 := by kernel_rfl
theorem known_hist (ca : Option Addr) (cc : Nat) (b0 c0 w0 b2 c2 w2 : Option Addr) : (∀ i, i < 3 → histF 1 3 (fun i => (imK ca cc b0 c0 w0 b2 c2 w2 i).F) 3 i ≠ []) ∧ bnd (fun f => fOf f 0) (histF 1 3 (fun i => (imK ca cc b0 c0 w0 b2 c2 w2 i).F) 3 1) = ⟨5, 6⟩ :=
  ⟨below3 (ne_nil_of_len (by kernel_rfl)) (ne_nil_of_len (by kernel_rfl)) (ne_nil_of_len (by kernel_rfl)), by kernel_rfl⟩
end Go.Proofs.YtkdopjkdokgipaaGreatDoor
namespace Go.Proofs.YtkdopjkdokgipaaGreatDoor
open Go.RowKit
set_option linter.unusedVariables false
set_option linter.unusedSimpArgs false
/-- where M or N lies -/
structure MAt (z : Int) (k : Nat) (W : World) : Prop where
  h1 : W.heap[k + 1]? = some (.cells #[.int .i64 0, .int .i64 3, .int .i64 0, .int .i64 3, .int .i64 z, .int .i64 2, .int .i64 0, .int .i64 4] 28)
  h2 : W.heap[k + 1 + 1]? = some (.cells #[.int .i64 0, .int .i64 1] 3)
  h3 : W.heap[k + 1 + 1 + 1]? = some (.cells #[.int .i64 1, .int .i64 1] 3)
  h4 : W.heap[k + 1 + 1 + 1 + 1]? = some (.cells #[.int .i64 1, .int .i64 2] 3)
  h5 : W.heap[k + 1 + 1 + 1 + 1 + 1]? = some (.cells #[.int .i64 1, .int .i64 2] 3)
  h6 : W.heap[k + 1 + 1 + 1 + 1 + 1 + 1]? = some (.cells #[.slice (some ⟨k + 1 + 1, 0, none⟩) 2 2, .slice (some ⟨k + 1 + 1 + 1, 0, none⟩) 2 2, .int .i64 5, .int .i64 6, .slice (some ⟨k + 1 + 1 + 1 + 1, 0, none⟩) 2 2, .slice (some ⟨k + 1 + 1 + 1 + 1 + 1, 0, none⟩) 2 2, .int .i64 0, .int .i64 3] 31)
abbrev bsK (k : Nat) : Nat → BM := bsM (some ⟨k + 1 + 1, 0, none⟩) (some ⟨k + 1 + 1 + 1, 0, none⟩) (some ⟨k + 1 + 1 + 1 + 1, 0, none⟩) (some ⟨k + 1 + 1 + 1 + 1 + 1, 0, none⟩)
abbrev imgK (k : Nat) : Value := imageV (some ⟨k + 1, 0, none⟩) 4 4 (some ⟨k + 1 + 1 + 1 + 1 + 1 + 1, 0, none⟩) 2 2
theorem ints2 {W : World} {b : Nat} {x y : Int} {g : Nat → Int} (h : W.heap[b]? = some (.cells #[.int .i64 x, .int .i64 y] 3)) (h0 : g 0 = x) (h1 : g 1 = y) : Ints W.heap.size W (some ⟨b, 0, none⟩) 2 g := by
  refine .inr ⟨b, 0, rfl, (Array.getElem?_eq_some_iff.1 h).1, fun i hi => ?_⟩
  have hc := fun j => cell_of_row _ b j _ _ _ h
  by_cases e : i = 0
  · subst e; rw [h0]; exact hc 0
  · obtain rfl : i = 1 := by omega
    rw [h1]; exact hc 1
section
variable {z : Int} {k : Nat} {W W' : World}
theorem MAt.spans (h : MAt z k W) : Spans W.heap.size W (some ⟨k + 1, 0, none⟩) 4 (ssM z) := by
  refine ⟨by decide, .inr ⟨k + 1, 0, rfl, (Array.getElem?_eq_some_iff.1 h.h1).1, fun i hi => ?_⟩⟩
  have hc := fun j => cell_of_row _ _ j _ _ _ h.h1
  by_cases e0 : i = 0
  · subst e0; exact ⟨hc 0, hc 1⟩
  by_cases e1 : i = 1
  · subst e1; exact ⟨hc 2, hc 3⟩
  by_cases e2 : i = 2
  · subst e2; exact ⟨hc 4, hc 5⟩
  obtain rfl : i = 3 := by omega
  exact ⟨hc 6, hc 7⟩
theorem MAt.beams (h : MAt z k W) : Beams W.heap.size W (some ⟨k + 1 + 1 + 1 + 1 + 1 + 1, 0, none⟩) 2 (bsK k) := by
  refine ⟨by decide, .inr ⟨_, 0, rfl, (Array.getElem?_eq_some_iff.1 h.h6).1, fun i hi => ?_⟩⟩
  have hc := fun j => cell_of_row _ _ j _ _ _ h.h6
  by_cases e0 : i = 0
  · subst e0
    exact ⟨⟨hc 0, hc 1, hc 2, hc 3⟩, (show 2 ≤ maxLen by decide), (show 2 ≤ maxLen by decide), ints2 h.h2 rfl rfl, ints2 h.h3 rfl rfl⟩
  obtain rfl : i = 1 := by omega
  exact ⟨⟨hc 4, hc 5, hc 6, hc 7⟩, (show 2 ≤ maxLen by decide), (show 2 ≤ maxLen by decide), ints2 h.h4 rfl rfl, ints2 h.h5 rfl rfl⟩
theorem MAt.lt (h : MAt z k W) : k + 1 + 1 + 1 + 1 + 1 + 1 < W.heap.size := (Array.getElem?_eq_some_iff.1 h.h6).1
theorem MAt.keep (h : MAt z k W) (hb : ∀ b, b < W.heap.size → W'.heap[b]? = W.heap[b]?) : MAt z k W' := by
  have hl := h.lt
  exact ⟨(hb _ (by omega)).trans h.h1, (hb _ (by omega)).trans h.h2, (hb _ (by omega)).trans h.h3, (hb _ (by omega)).trans h.h4, (hb _ (by omega)).trans h.h5, (hb _ (by omega)).trans h.h6⟩
theorem MAt.step (h : MAt z k W) (hb : Below W.heap.size W W') : MAt z k W' := h.keep (fun b hl => hb.block b hl)
theorem MAt.set (h : MAt z k W) {x j : Nat} (hx : x < k + 1) (u : Value) : MAt z k (W.setCell ⟨x, j, none⟩ u) :=
  ⟨(heap_setCell_other W ⟨x, j, none⟩ _ u (by show k + 1 ≠ x; omega)).trans h.h1, (heap_setCell_other W ⟨x, j, none⟩ _ u (by show k + 1 + 1 ≠ x; omega)).trans h.h2, (heap_setCell_other W ⟨x, j, none⟩ _ u (by show k + 1 + 1 + 1 ≠ x; omega)).trans h.h3, (heap_setCell_other W ⟨x, j, none⟩ _ u (by show k + 1 + 1 + 1 + 1 ≠ x; omega)).trans h.h4, (heap_setCell_other W ⟨x, j, none⟩ _ u (by show k + 1 + 1 + 1 + 1 + 1 ≠ x; omega)).trans h.h5, (heap_setCell_other W ⟨x, j, none⟩ _ u (by show k + 1 + 1 + 1 + 1 + 1 + 1 ≠ x; omega)).trans h.h6⟩
theorem MAt.one (h : MAt 0 k W) : MAt 1 k (W.setCell ⟨k + 1, 4, none⟩ (.int .i64 1)) :=
  ⟨heap_setCell_same W _ 4 _ _ _ h.h1, (heap_setCell_other W ⟨k + 1, 4, none⟩ _ _ (by show k + 1 + 1 ≠ k + 1; omega)).trans h.h2, (heap_setCell_other W ⟨k + 1, 4, none⟩ _ _ (by show k + 1 + 1 + 1 ≠ k + 1; omega)).trans h.h3, (heap_setCell_other W ⟨k + 1, 4, none⟩ _ _ (by show k + 1 + 1 + 1 + 1 ≠ k + 1; omega)).trans h.h4, (heap_setCell_other W ⟨k + 1, 4, none⟩ _ _ (by show k + 1 + 1 + 1 + 1 + 1 ≠ k + 1; omega)).trans h.h5, (heap_setCell_other W ⟨k + 1, 4, none⟩ _ _ (by show k + 1 + 1 + 1 + 1 + 1 + 1 ≠ k + 1; omega)).trans h.h6⟩
end
theorem heapM_old {w : World} {o : Obj} {i : Nat} {x : Option Obj} (h : i < w.heap.size) (hx : w.heap[i]? = x) : (w.alloc o).heap[i]? = x := (Below.heap_alloc w o i h).trans hx
theorem heapM_new {w : World} {o : Obj} {i : Nat} (h : i = w.heap.size) : (w.alloc o).heap[i]? = some o := by subst h; exact heap_alloc_new w o
set_option maxRecDepth 100000 in
set_option maxHeartbeats 2000000 in
theorem M_any (w : World) : Calls Tryz.prog 20 #[] w fun e w' => e = .returned (imgK w.heap.size) ∧ MAt 0 w.heap.size w' ∧ Below w.heap.size w w' := by
  go_enter Tryz.func20, Tryz.ntmps20
  go_wp2
  refine bodyPost_ret (v := imgK w.heap.size) (by simp [results, Tryz.results20, go_sem]) rfl ⟨rfl, ⟨?_, ?_, ?_, ?_, ?_, ?_⟩, ?_⟩
  · exact heapM_old (by simp) (heapM_old (by simp) (heapM_old (by simp) (heapM_old (by simp) (heapM_old (by simp) (heapM_new (by simp))))))
  · exact heapM_old (by simp) (heapM_old (by simp) (heapM_old (by simp) (heapM_old (by simp) (heapM_new (by simp)))))
  · exact heapM_old (by simp) (heapM_old (by simp) (heapM_old (by simp) (heapM_new (by simp))))
  · exact heapM_old (by simp) (heapM_old (by simp) (heapM_new (by simp)))
  · exact heapM_old (by simp) (heapM_new (by simp))
  · exact heapM_new (by simp)
  exact (((((((Below.refl _ _).alloc (Nat.le_refl _) _).alloc (by simp) _).alloc (by simp; omega) _).alloc (by simp; omega) _).alloc (by simp; omega) _).alloc (by simp; omega) _).alloc (by simp; omega) _
set_option maxRecDepth 100000 in
set_option maxHeartbeats 2000000 in
theorem N_any (w : World) : Calls Tryz.prog 25 #[] w fun e w' => ∃ k, e = .returned (imgK k) ∧ MAt 1 k w' ∧ w.heap.size ≤ k ∧ Below w.heap.size w w' := by
  go_enter Tryz.func25, Tryz.ntmps25
  go_upto_region 2 with (go_at_call 20; refine (M_any _).mono ?_; rintro e w2 ⟨rfl, hM, hb⟩)
  have hz0 : (w.alloc (.cells #[.slice none 0 0, .slice none 0 0] 50)).heap.size = w.heap.size + 1 := by simp
  have HB := Lib.hid ((alloc_below w (.cells #[.slice none 0 0, .slice none 0 0] 50)).trans (hb.mono (by omega)))
  have HN := Lib.hid ((hb.block w.heap.size (by omega)).trans (heap_alloc_new w (.cells #[.slice none 0 0, .slice none 0 0] 50)))
  rw [hz0] at hM
  have hl := hM.lt
  have hc : ∀ j, (w2.alloc (.cells #[.slice (some ⟨w.heap.size + 1 + 1, 0, none⟩) 4 4, .slice (some ⟨w.heap.size + 1 + 1 + 1 + 1 + 1 + 1 + 1, 0, none⟩) 2 2] 50)).cell? ⟨w2.heap.size, j, none⟩ = (#[.slice (some ⟨w.heap.size + 1 + 1, 0, none⟩) 4 4, .slice (some ⟨w.heap.size + 1 + 1 + 1 + 1 + 1 + 1 + 1, 0, none⟩) 2 2] : Array Value)[j]? := fun j => cell_of_row _ _ _ _ _ _ (heap_alloc_new w2 _)
  have c0 := (hc 0).trans (show _ = some (Value.slice (some ⟨w.heap.size + 1 + 1, 0, none⟩) 4 4) from rfl)
  have c1 := (hc 1).trans (show _ = some (Value.slice (some ⟨w.heap.size + 1 + 1 + 1 + 1 + 1 + 1 + 1, 0, none⟩) 2 2) from rfl)
  have HM3 := Lib.hid (hM.step (alloc_below w2 (.cells #[.slice (some ⟨w.heap.size + 1 + 1, 0, none⟩) 4 4, .slice (some ⟨w.heap.size + 1 + 1 + 1 + 1 + 1 + 1 + 1, 0, none⟩) 2 2] 50)))
  have hz3 : (w2.alloc (.cells #[.slice (some ⟨w.heap.size + 1 + 1, 0, none⟩) 4 4, .slice (some ⟨w.heap.size + 1 + 1 + 1 + 1 + 1 + 1 + 1, 0, none⟩) 2 2] 50)).heap.size = w2.heap.size + 1 := by simp
  have HB3 := Lib.hid (HB.out.trans ((alloc_below w2 (.cells #[.slice (some ⟨w.heap.size + 1 + 1, 0, none⟩) 4 4, .slice (some ⟨w.heap.size + 1 + 1 + 1 + 1 + 1 + 1 + 1, 0, none⟩) 2 2] 50)).mono HB.out.size))
  have HNV := Lib.hid (((alloc_below w2 (.cells #[.slice (some ⟨w.heap.size + 1 + 1, 0, none⟩) 4 4, .slice (some ⟨w.heap.size + 1 + 1 + 1 + 1 + 1 + 1 + 1, 0, none⟩) 2 2] 50)).block w.heap.size (by omega)).trans HN.out)
  clear hc hM hb hz0
  generalize World.alloc w2 _ = V at *
  have HX0 := Lib.hid (HM3.out.h1)
  have x0 := cell_of_row _ _ 4 _ _ _ HM3.out.h1
  have f0 := frozen_of_row _ _ 4 _ _ HM3.out.h1
  go_upto_region 3 with (fail)
  have HM4 := Lib.hid HM3.out.one
  have HB4 := Lib.hid (HB3.out.setCell (p := ⟨w.heap.size + 1 + 1, 4, none⟩) (by show w.heap.size ≤ w.heap.size + 1 + 1; omega) (.int .i64 1))
  have hV4 := heap_setCell_other V ⟨w.heap.size + 1 + 1, 4, none⟩ w2.heap.size (.int .i64 1) (by show w2.heap.size ≠ w.heap.size + 1 + 1; omega)
  have d0 := (World.cell?_of_block (a := ⟨w2.heap.size, 0, none⟩) hV4).trans c0
  have d1 := (World.cell?_of_block (a := ⟨w2.heap.size, 1, none⟩) hV4).trans c1
  have HN4 := Lib.hid ((heap_setCell_other V ⟨w.heap.size + 1 + 1, 4, none⟩ w.heap.size (.int .i64 1) (by show w.heap.size ≠ w.heap.size + 1 + 1; omega)).trans HNV.out)
  have hz4 : (V.setCell ⟨w.heap.size + 1 + 1, 4, none⟩ (.int .i64 1)).heap.size = V.heap.size := by simp
  clear c0 c1 x0 f0 HX0 HM3 HB3 hV4 HNV HN HB
  generalize World.setCell V _ _ = V4 at *
  have e0 := cell_of_row _ _ 0 _ _ _ HN4.out
  have e1 := cell_of_row _ _ 1 _ _ _ HN4.out
  have g0 := frozen_of_row _ _ 0 _ _ HN4.out
  have g1 := frozen_of_row _ _ 1 _ _ HN4.out
  go_wp2
  have r1 : ((V4.setCell ⟨w.heap.size, 0, none⟩ (.slice (some ⟨w.heap.size + 1 + 1, 0, none⟩) 4 4)).setCell ⟨w.heap.size, 1, none⟩ (.slice (some ⟨w.heap.size + 1 + 1 + 1 + 1 + 1 + 1 + 1, 0, none⟩) 2 2)).heap[w.heap.size]? = some (.cells #[.slice (some ⟨w.heap.size + 1 + 1, 0, none⟩) 4 4, .slice (some ⟨w.heap.size + 1 + 1 + 1 + 1 + 1 + 1 + 1, 0, none⟩) 2 2] 50) := heap_setCell_same _ _ 1 _ _ _ (heap_setCell_same V4 w.heap.size 0 _ _ _ HN4.out)
  have HM5 := Lib.hid ((HM4.out.set (j := 0) (by omega : w.heap.size < w.heap.size + 1 + 1) (.slice (some ⟨w.heap.size + 1 + 1, 0, none⟩) 4 4)).set (j := 1) (by omega : w.heap.size < w.heap.size + 1 + 1) (.slice (some ⟨w.heap.size + 1 + 1 + 1 + 1 + 1 + 1 + 1, 0, none⟩) 2 2))
  have HB5 := Lib.hid ((HB4.out.setCell (p := ⟨w.heap.size, 0, none⟩) (Nat.le_refl _) (.slice (some ⟨w.heap.size + 1 + 1, 0, none⟩) 4 4)).setCell (p := ⟨w.heap.size, 1, none⟩) (Nat.le_refl _) (.slice (some ⟨w.heap.size + 1 + 1 + 1 + 1 + 1 + 1 + 1, 0, none⟩) 2 2))
  clear HM4 HB4 HN4 e0 e1 g0 g1 d0 d1
  generalize World.setCell (World.setCell V4 _ _) _ _ = V5 at *
  have e0 := (cell_of_row _ _ 0 _ _ _ r1).trans (show _ = some (Value.slice (some ⟨w.heap.size + 1 + 1, 0, none⟩) 4 4) from rfl)
  have e1 := (cell_of_row _ _ 1 _ _ _ r1).trans (show _ = some (Value.slice (some ⟨w.heap.size + 1 + 1 + 1 + 1 + 1 + 1 + 1, 0, none⟩) 2 2) from rfl)
  refine bodyPost_ret (v := imgK (w.heap.size + 1)) (by simp [results, Tryz.results25, go_sem, e0, e1]) rfl ⟨w.heap.size + 1, rfl, HM5.out, by omega, HB5.out⟩
end Go.Proofs.YtkdopjkdokgipaaGreatDoor
namespace Go.Proofs.YtkdopjkdokgipaaGreatDoor
open Go.RowKit
set_option linter.unusedVariables false
set_option linter.unusedSimpArgs false
theorem holdsF_fuel {n m : Nat} {bs : Nat → BM} {len : Nat} {ns : Nat → NM} : ∀ k box i, 0 < holdsF n m bs len ns k box i → ∀ k', holdsF n m bs len ns k box i ≤ i + k' → holdsF n m bs len ns k' box i = holdsF n m bs len ns k box i
  | 0, box, i, h, _, _ => by rw [holdsF] at h; omega
  | k + 1, box, i, h, k', hk => by
    obtain ⟨j, rfl⟩ : ∃ j, k' = j + 1 := by
      rcases holdsF_le (n := n) (m := m) (bs := bs) (len := len) (ns := ns) (k + 1) box i with h1 | h1
      · omega
      · exact ⟨k' - 1, by omega⟩
    rw [holdsF] at h hk ⊢
    rw [holdsF]
    by_cases h1 : len ≤ i
    · rw [if_pos h1, if_pos h1]
    · rw [if_neg h1] at h hk ⊢
      rw [if_neg h1]
      by_cases h2 : (ns i).cell = -1
      · rw [if_pos h2, if_pos h2]
      · rw [if_neg h2] at h hk ⊢
        rw [if_neg h2]
        by_cases h3 : cutB n box (ns i) = true
        · rw [if_pos h3] at h hk ⊢
          rw [if_pos h3]
          by_cases h4 : 0 < holdsF n m bs len ns k (setBox box (ns i).cell.toNat ⟨(box (ns i).cell.toNat).lo, (ns i).at_⟩) (i + 1) ∧ (holdsF n m bs len ns k (setBox box (ns i).cell.toNat ⟨(box (ns i).cell.toNat).lo, (ns i).at_⟩) (i + 1) : Int) = (ns i).right
          · rw [if_pos h4] at h hk ⊢
            have hb := holdsF_le (n := n) (m := m) (bs := bs) (len := len) (ns := ns) k (setBox box (ns i).cell.toNat ⟨(ns i).at_ + 1, (box (ns i).cell.toNat).hi⟩) (holdsF n m bs len ns k (setBox box (ns i).cell.toNat ⟨(box (ns i).cell.toNat).lo, (ns i).at_⟩) (i + 1))
            have ha := holdsF_le (n := n) (m := m) (bs := bs) (len := len) (ns := ns) k (setBox box (ns i).cell.toNat ⟨(box (ns i).cell.toNat).lo, (ns i).at_⟩) (i + 1)
            have e1 := holdsF_fuel k (setBox box (ns i).cell.toNat ⟨(box (ns i).cell.toNat).lo, (ns i).at_⟩) (i + 1) h4.1 j (by omega)
            have e2 := holdsF_fuel k (setBox box (ns i).cell.toNat ⟨(ns i).at_ + 1, (box (ns i).cell.toNat).hi⟩) (holdsF n m bs len ns k (setBox box (ns i).cell.toNat ⟨(box (ns i).cell.toNat).lo, (ns i).at_⟩) (i + 1)) h j (by omega)
            rw [e1, if_pos h4, e2]
          · rw [if_neg h4] at h
            omega
        · rw [if_neg h3] at h
          omega
theorem nv_is {x : NM} {v : NV} (h : x.nv = v) : x.is v := by
  subst h
  exact ⟨rfl, rfl, rfl, listT_len.symm, fun i hi => (listT_get hi).symm⟩
/-- the nodes of a list -/
def nodesL (L : List NM) (i : Nat) : NM := L.getD i nm0
theorem refute_holds {n m : Nat} {ss : Nat → SV} {bs : Nat → BM} (hC : checkN n ss m bs = 0) (hA : allF n ss m bs = []) {L : List NM} (hL : L.map NM.nv = prfF n ss m bs) (h4 : L.length ≤ 4000) : holdsB n ss m bs L.length (nodesL L) = true := by
  have hS := checkN_shape hC
  have hlen : (prfF n ss m bs).length = L.length := by rw [← hL, List.length_map]
  have hpos := prf_pos hS (halved_all hS hA) 0
  have h1 := prf_holds hS (len := L.length) (ns := nodesL L) _ ss 0 (halved_all hS hA) (by rw [Nat.zero_add]; exact Nat.le_of_eq hlen) (fun j hj => by
    have hj2 : j < L.length := by rw [← hlen]; exact hj
    refine ⟨(L[j]).nv, ?_, ?_⟩
    · show (prfF n ss m bs)[j]? = _
      rw [← hL, List.getElem?_map, List.getElem?_eq_getElem hj2]; rfl
    · rw [Nat.zero_add]
      have : nodesL L j = L[j] := by unfold nodesL; rw [List.getD_eq_getElem?_getD, List.getElem?_eq_getElem hj2]; rfl
      rw [this]
      exact nv_is rfl)
  rw [Nat.zero_add] at h1
  change holdsF n m bs L.length (nodesL L) _ ss 0 = (prfF n ss m bs).length at h1
  change 1 ≤ (prfF n ss m bs).length at hpos
  have h2 := holdsF_fuel _ ss 0 (by rw [h1]; exact hpos) (L.length + 1) (by rw [h1]; omega)
  unfold holdsB
  rw [h2, h1, hlen, decide_eq_true hC, decide_eq_true h4, decide_eq_true (show 0 < L.length by omega)]
  simp
theorem outAt_nodes {base ob m : Nat} {a : Option Addr} {c : Nat} {W : World} {L : List NM} (h : OutAt base ob m (.slice a L.length c) W L) (hm : m ≤ maxLen) : Nodes W.heap.size W a L.length (nodesL L) := by
  by_cases hl : L.length = 0
  · exact .inl hl
  obtain ⟨g, rfl, h1, h2⟩ := own_at h.own (by omega)
  refine .inr ⟨g, 0, rfl, h2, fun i hi => ?_⟩
  have hc : ∀ r, r < 4 → W.cell? ⟨g, 0 + i * 4 + r, none⟩ = (nodesL L i).cells[r]? := fun r hr => by
    rw [Nat.zero_add, h.own.cellAt (i * 4 + r) (by omega)]
    exact nmC_get L i r nm0 hi hr
  have hmem : nodesL L i ∈ L := by
    unfold nodesL
    rw [List.getD_eq_getElem?_getD, List.getElem?_eq_getElem hi]
    exact List.getElem_mem hi
  refine ⟨⟨hc 0 (by omega), hc 1 (by omega), hc 2 (by omega), hc 3 (by omega)⟩, ?_⟩
  rcases h.times _ hmem with ⟨e1, e2, e3⟩ | ⟨b, e1, e2, e3, e4, e5, e6⟩
  · rw [e2]; exact ⟨Nat.zero_le _, .inl rfl⟩
  · rw [e2, e1]
    exact ⟨hm, .inr ⟨b, 0, rfl, e6.lt, fun k hk => by rw [Nat.zero_add]; exact e6.cell hk⟩⟩
end Go.Proofs.YtkdopjkdokgipaaGreatDoor
