/- Rows of truth values; rows pushed onto rows. -/
import Derived.Test.YtgcepjminlapiaaEvF
namespace Go.Proofs.Ytgcepjminlapiaa
open Go.RowKit
set_option linter.unusedVariables false
set_option linter.unusedSimpArgs false
/-- a row of truth values -/
def BR (W : World) (b m : Nat) (f : Nat → Bool) : Prop := ∃ cur, W.heap[b]? = some (.cells cur 4) ∧ cur.size = m ∧ ∀ j, j < m → cur[j]? = some (.bool (f j))
theorem BR.lt {W : World} {b m : Nat} {f : Nat → Bool} (h : BR W b m f) : b < W.heap.size := by obtain ⟨cur, h1, _⟩ := h; exact (Array.getElem?_eq_some_iff.1 h1).1
theorem BR.cell {W : World} {b m : Nat} {f : Nat → Bool} (h : BR W b m f) {j : Nat} (hj : j < m) : W.cell? ⟨b, j, none⟩ = some (.bool (f j)) := by
  obtain ⟨cur, h1, _, h2⟩ := h
  exact (cell_of_row _ _ _ _ _ _ h1).trans (h2 j hj)
theorem BR.frozen {W : World} {b m : Nat} {f : Nat → Bool} (h : BR W b m f) (j : Nat) : W.frozen? ⟨b, j, none⟩ = false := by
  obtain ⟨cur, h1, _, h2⟩ := h
  exact frozen_of_row _ _ _ _ _ h1
theorem BR.block {W W' : World} {b m : Nat} {f : Nat → Bool} (h : BR W b m f) (hb : W'.heap[b]? = W.heap[b]?) : BR W' b m f := by
  obtain ⟨cur, h1, h2, h3⟩ := h
  exact ⟨cur, hb.trans h1, h2, h3⟩
theorem BR.step {W W' : World} {b m : Nat} {f : Nat → Bool} (h : BR W b m f) (hb : Below W.heap.size W W') : BR W' b m f := h.block (hb.block b h.lt)
theorem BR.alloc {W : World} {b m : Nat} {f : Nat → Bool} (h : BR W b m f) (o : Obj) : BR (W.alloc o) b m f := h.block (heapQ_old h.lt)
theorem BR.drew {W : World} {b m : Nat} {f : Nat → Bool} (h : BR W b m f) : BR W.drew b m f := h
theorem BR.drewN {W : World} {b m : Nat} {f : Nat → Bool} (h : BR W b m f) (n : Nat) : BR (W.drewN n) b m f := h
theorem BR.grown {W W' : World} {b m : Nat} {f : Nat → Bool} {r : Option Nat} (h : BR W b m f) (hg : W.grownBy W' r) (hn : some b ≠ r) : BR W' b m f := h.block (hg.block b h.lt hn)
theorem BR.set {W : World} {b m i : Nat} {f : Nat → Bool} (h : BR W b m f) (hi : i < m) : BR (W.setCell ⟨b, i, none⟩ (.bool true)) b m (setG f i) := by
  obtain ⟨cur, h1, h2, h3⟩ := h
  refine ⟨cur.setIfInBounds i (.bool true), heap_setCell_same W b i _ _ _ h1, by simpa using h2, fun j hj => ?_⟩
  by_cases e : j = i
  · subst e
    rw [Array.getElem?_setIfInBounds_self_of_lt (by omega)]
    simp [setG]
  · rw [Array.getElem?_setIfInBounds_ne (Ne.symm e), h3 j hj]
    simp [setG, e]
theorem BR.other {W : World} {b m x j : Nat} {f : Nat → Bool} (h : BR W b m f) (hn : x ≠ b) (u : Value) : BR (W.setCell ⟨x, j, none⟩ u) b m f := h.block (heap_setCell_other W ⟨x, j, none⟩ b u (Ne.symm hn))
theorem BR.congr {W : World} {b m : Nat} {f g : Nat → Bool} (h : BR W b m f) (e : ∀ j, j < m → f j = g j) : BR W b m g := by
  obtain ⟨cur, h1, h2, h3⟩ := h
  exact ⟨cur, h1, h2, fun j hj => by rw [← e j hj]; exact h3 j hj⟩
theorem madeCells_bool (n : Nat) : ∀ j, j < n → (madeCells #[Value.bool false] n)[j]? = some (.bool false) := by
  intro j hj
  have : (madeCells #[Value.bool false] n).toList = List.replicate n (.bool false) := toList_madeCells_one _ _
  rw [← Array.getElem?_toList, this]
  simp [hj]
theorem BR.made (W : World) (m : Nat) : BR (W.alloc (.cells (madeCells #[.bool false] m) 4)) W.heap.size m (fun _ => false) := by
  refine ⟨_, heapQ_new rfl, ?_, fun j hj => madeCells_bool m j hj⟩
  have : (madeCells #[Value.bool false] m).toList = List.replicate m (.bool false) := toList_madeCells_one _ _
  have := congrArg List.length this
  simpa using this
theorem info_bool : (Try.prog.info? 4).map (fun i => (i.zero, i.size, i.bytes)) = some (some (.bool false), 1, 1) := by kernel_rfl
theorem own_off' {W : World} {base : Nat} {e t : TypeId} {s : Nat} {v : Value} {n : Nat} {xs : List Value} {g : Nat} {cur : Array Value} {f : Nat × Nat} (h : W.ownsRow base e s v n xs) (hg : W.heap[g]? = some (.cells cur t f)) (ht : e ≠ t) : v.ownBlock ≠ some g := by
  rcases h.2 with ⟨rfl, _⟩ | ⟨g', cap', cur', rfl, _, hg', _⟩
  · simp [Value.ownBlock]
  · simp only [Value.ownBlock, ne_eq, Option.some.injEq]
    intro e'
    subst e'
    rw [hg] at hg'
    injection hg' with hg'
    injection hg' with _ h _
    exact ht h.symm
section
variable {W0 : World} {rows : List Row} {v : Value} {W W' : World}
theorem ER.step (h : ER W0 rows v W) (hb : Below W.heap.size W W') : ER W0 rows v W' := ⟨h.below.trans (hb.mono h.below.size), own_below h.outer hb, fun r hr => own_below (h.inner r hr) hb, h.apart⟩
/-- a store into a row of truth values -/
theorem ER.bset {b m j : Nat} {f : Nat → Bool} (h : ER W0 rows v W) (hb : BR W b m f) (hB : W0.heap.size ≤ b) (u : Value) : ER W0 rows v (W.setCell ⟨b, j, none⟩ u) := by
  obtain ⟨cur, h1, _, _⟩ := hb
  exact ⟨h.below.setCell (p := ⟨b, j, none⟩) hB u, ownsRow_setCell_other h.outer (own_off' h.outer h1 (by decide)) u, fun r hr => ownsRow_setCell_other (h.inner r hr) (own_off' (h.inner r hr) h1 (by decide)) u, h.apart⟩
theorem ER.push (h : ER W0 rows v W) {r : Row} {v' : Value} (hi : W.ownsRow W0.heap.size 3 1 (rowV r) r.1.length (nC r.1)) (hx : ∀ s ∈ rows, s.2.1 ≠ r.2.1)
    (ho : W'.ownsRow W0.heap.size 47 1 v' (rows.length + 1) (rowsC rows ++ [rowV r])) (hg : W.grownBy W' v.ownBlock) : ER W0 (rows ++ [r]) v' W' := by
  have keep : ∀ r : Row, W.ownsRow W0.heap.size 3 1 (rowV r) r.1.length (nC r.1) → W'.ownsRow W0.heap.size 3 1 (rowV r) r.1.length (nC r.1) := fun r hr =>
    hr.kept hg (own_ne hr h.outer (by decide))
  refine ⟨h.below.grown hg h.below.size (fun g e => (h.outer.lt g e).1), ?_, ?_, ?_⟩
  · rw [rowsC_append, List.length_append]; exact ho
  · intro s hs
    rcases List.mem_append.1 hs with hs | hs
    · exact keep s (h.inner s hs)
    · simp at hs
      subst hs
      exact keep s hi
  · rw [List.pairwise_append]
    refine ⟨h.apart, by simp, fun s hs t ht => ?_⟩
    simp at ht
    subst ht
    exact hx s hs
theorem ER.lists {oa : Option Addr} {n oc : Nat} (h : ER W0 rows (.slice oa n oc) W) : Lists W.heap.size W oa (rows.map (·.1)) := by
  by_cases h0 : rows.length = 0
  · exact .inl (by simpa using h0)
  · obtain ⟨ob, rfl, h1, h2⟩ := own_at h.outer (by omega)
    have hn : n = rows.length := by
      obtain ⟨a, c, e⟩ := own_len h.outer
      injection e with _ e _
    subst hn
    refine .inr ⟨ob, 0, rfl, h2, fun j l hl => ?_⟩
    rw [List.getElem?_map] at hl
    obtain ⟨r, hr, rfl⟩ := Option.map_eq_some_iff.1 hl
    have hj : j < rows.length := (List.getElem?_eq_some_iff.1 hr).1
    have hi := h.inner r (List.mem_of_getElem? hr)
    refine ⟨r.2.1, r.2.2, ?_, (h.lt (List.mem_of_getElem? hr)).2, fun i hil => ?_⟩
    · rw [Nat.zero_add, h.outer.cellAt j (by omega), rowsC, List.getElem?_map, hr]; rfl
    · exact (World.ownsRow.cellAt hi i (by omega)).trans (nC_get hil)
end
end Go.Proofs.Ytgcepjminlapiaa
