/- Rows that a call owns; rows of spans; what the program's types are. -/
import Derived.Test.YtkdopjkdokgipaaGreatDoorImA
import Derived.Deep.OwnRows
import Derived.Deep.AppendLies
import Derived.Deep.RegionLaw
import Derived.Deep.RegionHeld3
import Derived.BigRegion
import Derived.OneCell
namespace Go.Proofs.YtkdopjkdokgipaaGreatDoor
open Go.RowKit
set_option linter.unusedVariables false
set_option linter.unusedSimpArgs false
theorem own_below {w w' : World} {base : Nat} {e : TypeId} {k : Nat} {v : Value} {n : Nat} {xs : List Value} (h : w.ownsRow base e k v n xs) (hb : Below w.heap.size w w') : w'.ownsRow base e k v n xs := by
  refine h.kept (row := none) ⟨hb.os, hb.tape, hb.output, hb.size, fun i hi _ => hb.block i hi⟩ ?_
  cases v.ownBlock <;> simp
theorem own_ne {w : World} {b1 b2 : Nat} {e1 e2 : TypeId} {k1 k2 : Nat} {v1 v2 : Value} {n1 n2 : Nat} {x1 x2 : List Value} (h1 : w.ownsRow b1 e1 k1 v1 n1 x1) (h2 : w.ownsRow b2 e2 k2 v2 n2 x2) (he : e1 ≠ e2) : v1.ownBlock = none ∨ v1.ownBlock ≠ v2.ownBlock := by
  rcases h1.2 with ⟨rfl, _⟩ | ⟨g, cap, cur, rfl, _, hg, _⟩
  · exact .inl rfl
  · right
    rcases h2.2 with ⟨rfl, _⟩ | ⟨g', cap', cur', rfl, _, hg', _⟩
    · simp [Value.ownBlock]
    · simp only [Value.ownBlock, ne_eq, Option.some.injEq]
      intro e
      subst e
      rw [hg] at hg'
      injection hg' with hg'
      injection hg' with _ h _
      exact he h
theorem own_base {w : World} {b1 b2 : Nat} {e : TypeId} {k : Nat} {v : Value} {n : Nat} {xs : List Value} (h : w.ownsRow b1 e k v n xs) (hb : b2 ≤ b1) : w.ownsRow b2 e k v n xs := by
  refine ⟨h.1, ?_⟩
  rcases h.2 with h | ⟨g, cap, cur, hv, hg, hr⟩
  · exact .inl h
  · exact .inr ⟨g, cap, cur, hv, by omega, hr⟩
theorem own_len {w : World} {base : Nat} {e : TypeId} {k : Nat} {v : Value} {n : Nat} {xs : List Value} (h : w.ownsRow base e k v n xs) : ∃ a c, v = .slice a n c := by
  rcases h.2 with ⟨rfl, rfl⟩ | ⟨g, cap, cur, rfl, _⟩
  · exact ⟨none, 0, rfl⟩
  · exact ⟨_, _, rfl⟩
theorem addr_add (b o j : Nat) : (⟨b, o, none⟩ : Addr).add j = ⟨b, o + j, none⟩ := by unfold Addr.add; split <;> simp_all
theorem cells_new {w : World} {t : TypeId} {xs : List Value} : ∀ j u, xs[j]? = some u → (w.alloc (.cells xs.toArray t)).cell? ((⟨w.heap.size, 0, none⟩ : Addr).add j) = some u := by
  intro j u h
  rw [addr_add, Nat.zero_add]
  exact (cell_of_row _ _ _ _ _ _ (heap_alloc_new _ _)).trans (by simpa using h)
theorem own_off {W : World} {base : Nat} {e t : TypeId} {s : Nat} {v : Value} {n : Nat} {xs : List Value} {g : Nat} {cur : Array Value} {f : Nat × Nat} (h : W.ownsRow base e s v n xs) (hg : W.heap[g]? = some (.cells cur t f)) (ht : e ≠ t) : v.ownBlock ≠ some g := by
  rcases h.2 with ⟨rfl, _⟩ | ⟨g', cap', cur', rfl, _, hg', _⟩
  · simp [Value.ownBlock]
  · simp only [Value.ownBlock, ne_eq, Option.some.injEq]
    intro e'
    subst e'
    rw [hg] at hg'
    injection hg' with hg'
    injection hg' with _ h _
    exact ht h.symm
theorem own_at {w : World} {base : Nat} {e : TypeId} {k : Nat} {a : Option Addr} {n m c : Nat} {xs : List Value} (h : w.ownsRow base e k (.slice a m c) n xs) (hn : 0 < n) : ∃ g, a = some ⟨g, 0, none⟩ ∧ base ≤ g ∧ g < w.heap.size := by
  obtain ⟨g, cap, hv, h1, h2⟩ := h.form hn
  injection hv with e1 e2 e3
  exact ⟨g, e1, h1, h2⟩

/-- a row of spans in a block of its own -/
def SR (t : TypeId) (W : World) (b m : Nat) (f : Nat → SV) : Prop := ∃ cur, W.heap[b]? = some (.cells cur t) ∧ cur.size = m * 2 ∧ ∀ j, j < m → cur[j * 2]? = some (.int .i64 (f j).lo) ∧ cur[j * 2 + 1]? = some (.int .i64 (f j).hi)
section
variable {t : TypeId} {W W' : World} {b m : Nat} {f : Nat → SV}
theorem SR.lt (h : SR t W b m f) : b < W.heap.size := by obtain ⟨cur, h1, _⟩ := h; exact (Array.getElem?_eq_some_iff.1 h1).1
theorem SR.cell (h : SR t W b m f) {j : Nat} (hj : j < m) : W.cell? ⟨b, j * 2, none⟩ = some (.int .i64 (f j).lo) ∧ W.cell? ⟨b, j * 2 + 1, none⟩ = some (.int .i64 (f j).hi) := by
  obtain ⟨cur, h1, _, h2⟩ := h
  exact ⟨(cell_of_row _ _ _ _ _ _ h1).trans (h2 j hj).1, (cell_of_row _ _ _ _ _ _ h1).trans (h2 j hj).2⟩
theorem SR.frozen (h : SR t W b m f) (j : Nat) : W.frozen? ⟨b, j, none⟩ = false := by
  obtain ⟨cur, h1, _, h2⟩ := h
  exact frozen_of_row _ _ _ _ _ h1
theorem SR.block (h : SR t W b m f) (hb : W'.heap[b]? = W.heap[b]?) : SR t W' b m f := by
  obtain ⟨cur, h1, h2, h3⟩ := h
  exact ⟨cur, hb.trans h1, h2, h3⟩
theorem SR.step (h : SR t W b m f) (hb : Below W.heap.size W W') : SR t W' b m f := h.block (hb.block b h.lt)
theorem SR.alloc (h : SR t W b m f) (o : Obj) : SR t (W.alloc o) b m f := h.block (Below.heap_alloc W o b h.lt)
theorem SR.set (h : SR t W b m f) {i : Nat} (hi : i < m) (x y : Int) : SR t ((W.setCell ⟨b, i * 2, none⟩ (.int .i64 x)).setCell ⟨b, i * 2 + 1, none⟩ (.int .i64 y)) b m (fun j => if j = i then ⟨x, y⟩ else f j) := by
  obtain ⟨cur, h1, h2, h3⟩ := h
  refine ⟨(cur.setIfInBounds (i * 2) (.int .i64 x)).setIfInBounds (i * 2 + 1) (.int .i64 y), heap_setCell_same _ b _ _ _ _ (heap_setCell_same W b _ _ _ _ h1), by simpa using h2, fun j hj => ?_⟩
  by_cases e : j = i
  · subst e
    refine ⟨?_, ?_⟩
    · rw [Array.getElem?_setIfInBounds_ne (by omega), Array.getElem?_setIfInBounds_self_of_lt (by omega)]
      simp
    · rw [Array.getElem?_setIfInBounds_self_of_lt (by simp; omega)]
      simp
  · refine ⟨?_, ?_⟩
    · rw [Array.getElem?_setIfInBounds_ne (by omega), Array.getElem?_setIfInBounds_ne (by omega), (h3 j hj).1]
      simp [e]
    · rw [Array.getElem?_setIfInBounds_ne (by omega), Array.getElem?_setIfInBounds_ne (by omega), (h3 j hj).2]
      simp [e]
theorem SR.other (h : SR t W b m f) {x j : Nat} (hn : x ≠ b) (u : Value) : SR t (W.setCell ⟨x, j, none⟩ u) b m f := h.block (heap_setCell_other W ⟨x, j, none⟩ b u (Ne.symm hn))
theorem SR.congr {g : Nat → SV} (h : SR t W b m f) (e : ∀ j, j < m → f j = g j) : SR t W b m g := by
  obtain ⟨cur, h1, h2, h3⟩ := h
  exact ⟨cur, h1, h2, fun j hj => by rw [← e j hj]; exact h3 j hj⟩
theorem SR.spansR {R : Nat → Prop} (h : SR t W b m f) (hR : R b) : SpansR R W (some ⟨b, 0, none⟩) m f := .inr ⟨b, 0, rfl, hR, h.lt, fun i hi => by rw [Nat.zero_add]; exact h.cell hi⟩
theorem SR.made (W : World) (t : TypeId) (m : Nat) : SR t (W.alloc (.cells (madeCells #[.int .i64 0, .int .i64 0] (m * 2)) t)) W.heap.size m (fun _ => ⟨0, 0⟩) := by
  have e : ∀ j, j < m * 2 → (madeCells #[Value.int .i64 0, .int .i64 0] (m * 2))[j]? = some (.int .i64 0) := by
    intro j hj
    unfold madeCells
    simp [hj]
    have h := Nat.mod_lt j (show 0 < 2 by omega)
    have : j % 2 = 0 ∨ j % 2 = 1 := by omega
    rcases this with h | h <;> simp [h]
  refine ⟨_, heap_alloc_new W _, ?_, fun j hj => ⟨e _ (by omega), e _ (by omega)⟩⟩
  unfold madeCells
  simp
end
theorem info_int : (Tryz.prog.info? 3).map (fun i => (i.zero, i.size, i.bytes)) = some (some (.int .i64 0), 1, 8) := by kernel_rfl
theorem info_span : (Tryz.prog.info? 28).map (fun i => (i.zero, i.size, i.bytes)) = some (some (.agg #[.int .i64 0, .int .i64 0]), 2, 16) := by kernel_rfl
theorem info_ints : (Tryz.prog.info? 24).map (fun i => (i.zero, i.size, i.bytes)) = some (some (.slice none 0 0), 1, 24) := by kernel_rfl
theorem info_spans : (Tryz.prog.info? 46).map (fun i => (i.zero, i.size, i.bytes)) = some (some (.slice none 0 0), 1, 24) := by kernel_rfl
/-- make of numbers, of spans: the whole world behind it -/
theorem make_ints (n : Nat) (hn : n ≤ 1000000) (W : World) : (Instr.makeSlice 24 (.int .i64 (n : Int)) (.int .i64 (n : Int))).run Tryz.prog W = .ok (.slice (some ⟨W.heap.size, 0, none⟩) n n) (W.alloc (.cells (madeCells #[.int .i64 0] n) 3)) := by
  obtain ⟨i0, hi, hz0, hz1, hz2⟩ := info_parts info_int
  have := run_make (P := Tryz.prog) W 24 3 i0 _ Tryz.underlying24 hi hz0 .i64 .i64 (n : Int) (n : Int) (by omega) (Int.le_refl _) (by rw [hz2]; omega) (by omega)
  rw [hz1, show (Value.int .i64 0).cells = #[.int .i64 0] from rfl] at this
  simpa using this
theorem make_spans (n : Nat) (hn : n ≤ 1000000) (W : World) : (Instr.makeSlice 46 (.int .i64 (n : Int)) (.int .i64 (n : Int))).run Tryz.prog W = .ok (.slice (some ⟨W.heap.size, 0, none⟩) n n) (W.alloc (.cells (madeCells #[.int .i64 0, .int .i64 0] (n * 2)) 28)) := by
  obtain ⟨i0, hi, hz0, hz1, hz2⟩ := info_parts info_span
  have := run_make (P := Tryz.prog) W 46 28 i0 _ Tryz.underlying46 hi hz0 .i64 .i64 (n : Int) (n : Int) (by omega) (Int.le_refl _) (by rw [hz2]; omega) (by omega)
  rw [hz1, show (Value.agg #[.int .i64 0, .int .i64 0]).cells = #[.int .i64 0, .int .i64 0] by kernel_rfl] at this
  simpa using this
end Go.Proofs.YtkdopjkdokgipaaGreatDoor
