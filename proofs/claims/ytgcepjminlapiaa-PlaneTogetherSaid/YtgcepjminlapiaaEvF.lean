/- slices.Sort by its contract; the events, each sorted. -/
import Derived.Test.YtgcepjminlapiaaRowOwn
import Derived.Test.YtgcepjminlapiaaPlaneQ
import Derived.OneCell
import Derived.Deep.AppendLies
import Derived.Test.YtgcepjminlapiaaEventsLaw
import Derived.Test.YtgcepjminlapiaaShelf
import Derived.Shelf.Sort.Plain
namespace Go.Proofs.Ytgcepjminlapiaa
open Go.RowKit
set_option linter.unusedVariables false
set_option linter.unusedSimpArgs false
theorem own_at {w : World} {base : Nat} {e : TypeId} {k : Nat} {a : Option Addr} {n m c : Nat} {xs : List Value} (h : w.ownsRow base e k (.slice a m c) n xs) (hn : 0 < n) : ∃ g, a = some ⟨g, 0, none⟩ ∧ base ≤ g ∧ g < w.heap.size := by
  obtain ⟨g, cap, hv, h1, h2⟩ := h.form hn
  injection hv with e1 e2 e3
  exact ⟨g, e1, h1, h2⟩
/-- the numbers of an event, and where they lie: block and room -/
abbrev Row := List Nat × Nat × Nat
def rowV (r : Row) : Value := .slice (some ⟨r.2.1, 0, none⟩) r.1.length r.2.2
def rowsC (rows : List Row) : List Value := rows.map rowV
def nC (c : List Nat) : List Value := c.map fun (n : Nat) => .int .i64 (n : Int)
theorem nC_append (a b : List Nat) : nC (a ++ b) = nC a ++ nC b := by simp [nC]
theorem rowsC_append (a b : List Row) : rowsC (a ++ b) = rowsC a ++ rowsC b := by simp [rowsC]
theorem rowsC_last (rs : List Row) (c : List Nat) (g cap : Nat) : (rowsC (rs ++ [(c, g, cap)]))[rs.length]? = some (.slice (some ⟨g, 0, none⟩) c.length cap) := by
  rw [rowsC_append, List.getElem?_append_right (by simp [rowsC])]
  simp [rowsC, rowV]
structure ER (W0 : World) (rows : List Row) (v : Value) (W : World) : Prop where
  below : Below W0.heap.size W0 W
  outer : W.ownsRow W0.heap.size 47 1 v rows.length (rowsC rows)
  inner : ∀ r ∈ rows, W.ownsRow W0.heap.size 3 1 (rowV r) r.1.length (nC r.1)
  apart : rows.Pairwise (fun a b => a.2.1 ≠ b.2.1)
theorem ER.start (W0 : World) : ER W0 [] (.slice none 0 0) W0 := ⟨Below.refl _ _, World.ownsRow_nil _ _ _ _, fun r h => by simp at h, List.Pairwise.nil⟩
section
variable {W0 : World} {rows : List Row} {v : Value} {W W' : World}
theorem ER.drew (h : ER W0 rows v W) : ER W0 rows v W.drew := ⟨h.below.drew, h.outer, h.inner, h.apart⟩
theorem ER.drewN (h : ER W0 rows v W) (n : Nat) : ER W0 rows v (W.drewN n) := ⟨below_drewN h.below n, h.outer, h.inner, h.apart⟩
theorem ER.alloc (h : ER W0 rows v W) (o : Obj) : ER W0 rows v (W.alloc o) := ⟨h.below.alloc h.below.size o, h.outer.alloc o, fun r hr => (h.inner r hr).alloc o, h.apart⟩
theorem ER.lt (h : ER W0 rows v W) {r : Row} (hr : r ∈ rows) : W0.heap.size ≤ r.2.1 ∧ r.2.1 < W.heap.size := (h.inner r hr).lt r.2.1 rfl
/-- an event more: its number in the block x -/
theorem ER.new (h : ER W0 rows v W) {x i : Nat} {v' : Value} (hi : W.ownsRow W0.heap.size 3 1 (.slice (some ⟨x, 0, none⟩) 1 1) 1 [.int .i64 (i : Int)]) (hx : ∀ r ∈ rows, r.2.1 ≠ x)
    (ho : W'.ownsRow W0.heap.size 47 1 v' (rows.length + 1) (rowsC rows ++ [.slice (some ⟨x, 0, none⟩) 1 1])) (hg : W.grownBy W' v.ownBlock) : ER W0 (rows ++ [([i], x, 1)]) v' W' := by
  have keep : ∀ r : Row, W.ownsRow W0.heap.size 3 1 (rowV r) r.1.length (nC r.1) → W'.ownsRow W0.heap.size 3 1 (rowV r) r.1.length (nC r.1) := fun r hr =>
    hr.kept hg (own_ne hr h.outer (by decide))
  refine ⟨h.below.grown hg h.below.size (fun g e => (h.outer.lt g e).1), ?_, ?_, ?_⟩
  · rw [rowsC_append, List.length_append]; exact ho
  · intro r hr
    rcases List.mem_append.1 hr with hr | hr
    · exact keep r (h.inner r hr)
    · simp at hr
      subst hr
      exact keep ([i], x, 1) hi
  · rw [List.pairwise_append]
    refine ⟨h.apart, by simp, fun r hr s hs => ?_⟩
    simp at hs
    subst hs
    exact hx r hr
/-- a number more in the last event -/
theorem ER.join {rs : List Row} {c : List Nat} {g cap g' cap' i : Nat} {ob oc : Nat} (h : ER W0 (rs ++ [(c, g, cap)]) (.slice (some ⟨ob, 0, none⟩) (rs.length + 1) oc) W)
    (ho : W'.ownsRow W0.heap.size 3 1 (.slice (some ⟨g', 0, none⟩) (c.length + 1) cap') (c.length + 1) (nC c ++ [.int .i64 (i : Int)])) (hg : W.grownBy W' (some g)) (hw : some g = some g' ∨ g' = W.heap.size) :
    ER W0 (rs ++ [(c ++ [i], g', cap')]) (.slice (some ⟨ob, 0, none⟩) (rs.length + 1) oc) (W'.setCell ⟨ob, rs.length, none⟩ (.slice (some ⟨g', 0, none⟩) (c.length + 1) cap')) ∧ W'.ownsRow W0.heap.size 47 1 (.slice (some ⟨ob, 0, none⟩) (rs.length + 1) oc) (rs.length + 1) (rowsC (rs ++ [(c, g, cap)])) := by
  have hlast := h.inner (c, g, cap) (by simp)
  have hout : W.ownsRow W0.heap.size 47 1 (.slice (some ⟨ob, 0, none⟩) (rs.length + 1) oc) (rs.length + 1) (rowsC (rs ++ [(c, g, cap)])) := by have := h.outer; rw [List.length_append] at this; exact this
  have hout2 : W'.ownsRow W0.heap.size 47 1 (.slice (some ⟨ob, 0, none⟩) (rs.length + 1) oc) (rs.length + 1) (rowsC (rs ++ [(c, g, cap)])) := hout.kept hg (own_ne hout hlast (by decide))
  have hap := h.apart
  rw [List.pairwise_append] at hap
  have hobne : ∀ {V : World} {r : Row}, V.ownsRow W0.heap.size 3 1 (rowV r) r.1.length (nC r.1) → V.ownsRow W0.heap.size 47 1 (.slice (some ⟨ob, 0, none⟩) (rs.length + 1) oc) (rs.length + 1) (rowsC (rs ++ [(c, g, cap)])) → (rowV r).ownBlock ≠ some ob := fun {V r} h1 h2 => by
    rcases own_ne h1 h2 (by decide) with e | e
    · simp [rowV, Value.ownBlock] at e
    · simpa [Value.ownBlock] using e
  have hnew : W'.ownsRow W0.heap.size 3 1 (rowV (c ++ [i], g', cap')) (c ++ [i]).length (nC (c ++ [i])) := by
    unfold rowV
    rw [nC_append]
    simp only [List.length_append, List.length_cons, List.length_nil]
    exact ho
  refine ⟨⟨?_, ?_, ?_, ?_⟩, hout2⟩
  · exact (h.below.grown hg h.below.size (fun k e => by injection e with e; rw [← e]; exact (hlast.lt g rfl).1)).setCell (p := ⟨ob, rs.length, none⟩) (hout.lt ob rfl).1 _
  · have := (hout2.stored rs.length (.slice (some ⟨g', 0, none⟩) (c.length + 1) cap')).1
    rw [List.length_append]
    have e : rowsC (rs ++ [(c ++ [i], g', cap')]) = (rowsC (rs ++ [(c, g, cap)])).set rs.length (.slice (some ⟨g', 0, none⟩) (c.length + 1) cap') := by
      rw [rowsC_append, rowsC_append]
      have hl : rs.length = (rowsC rs).length := by simp [rowsC]
      rw [hl, List.set_append_right _ _ (Nat.le_refl _)]
      simp [rowsC, rowV]
    rw [e]
    exact this
  · intro r hr
    rcases List.mem_append.1 hr with hr | hr
    · have h1 := h.inner r (List.mem_append_left _ hr)
      have hne := hap.2.2 r hr (c, g, cap) (by simp)
      have h2 : W'.ownsRow W0.heap.size 3 1 (rowV r) r.1.length (nC r.1) := h1.kept hg (.inr (by simp [rowV, Value.ownBlock]; exact hne))
      exact ownsRow_setCell_other h2 (hobne h2 hout2) _
    · simp at hr
      subst hr
      exact ownsRow_setCell_other hnew (hobne hnew hout2) _
  · rw [List.pairwise_append]
    refine ⟨hap.1, by simp, fun r hr s hs => ?_⟩
    simp at hs
    subst hs
    have hlt := (h.lt (List.mem_append_left _ hr)).2
    rcases hw with e | e
    · injection e with e
      rw [← e]; exact hap.2.2 r hr (c, g, cap) (by simp)
    · show r.2.1 ≠ g'
      omega
end
theorem ofNats_get {c : List Nat} {i : Nat} (h : i < c.length) : (ofNats c).toArray[i]! = (c.getD i 0 : Int) := by
  rw [getElem!_pos _ i (by simpa [ofNats] using h)]
  simp [ofNats, h]
theorem sortRow_any (g cap m : Nat) (c : List Nat) (W : World) (hg : g < W.heap.size) (hl : c.length ≤ 2000) (hc : ∀ i ∈ c, i < m) (hnd : c.Nodup) (hH : ∀ i, i < c.length → W.cell? ⟨g, i, none⟩ = some (.int .i64 ((c.getD i 0 : Nat) : Int)) ∧ W.frozen? ⟨g, i, none⟩ = false) :
    Calls Try.prog 76 #[.slice (some ⟨g, 0, none⟩) c.length cap] W fun e w' => e = .returned (.tuple #[]) ∧ W.grownBy w' (some g) ∧ ∀ i, i < c.length → w'.cell? ⟨g, i, none⟩ = some (.int .i64 (((byNumber m c).getD i 0 : Nat) : Int)) := by
  have hlen : (ofNats c).length = c.length := by simp [ofNats]
  have hHo : Go.Sort.Holds (Value.int .i64) W g 0 (ofNats c).toArray := fun j hj => by
    have hj' : j < c.length := by simpa [ofNats] using hj
    rw [Nat.zero_add, ofNats_get hj']
    exact hH j hj'
  have hcon := Any.slices_Sort_int Try.laysSort g 0 cap (ofNats c) W hHo hg (by rw [hlen]; omega)
  rw [hlen] at hcon
  change Calls Try.prog 76 _ _ _ at hcon
  refine hcon.mono fun e w' ⟨he, n, os, hw⟩ => ⟨he, ?_, ?_⟩
  · rw [hw]
    refine ⟨rfl, rfl, rfl, by simp [Go.Sort.grow, Go.Sort.putRow, Go.Sort.mapBlock, Go.Sort.ahead], fun k hk hn => ?_⟩
    rw [Go.Sort.heap_grow_old _ _ (by simpa [Go.Sort.putRow, Go.Sort.mapBlock, Go.Sort.ahead] using hk)]
    have hn' : ¬ g = k := fun e => hn (by rw [e])
    simp [Go.Sort.putRow, Go.Sort.mapBlock, Go.Sort.ahead, Array.getElem?_modify, hn']
  · intro i hi
    rw [hw, sort_byNumber hc hnd]
    have hl2 := byNumber_len hc hnd
    have hz : g < (Go.Sort.putRow (Value.int .i64) (Go.Sort.ahead W n) g 0 (ofNats (byNumber m c)).toArray).heap.size := by simpa [Go.Sort.putRow, Go.Sort.mapBlock, Go.Sort.ahead] using hg
    rw [Go.Sort.cell?_grow _ _ _ hz]
    have := Go.Sort.cell?_putRow (Value.int .i64) (Go.Sort.ahead W n) g 0 (ofNats c).toArray (ofNats (byNumber m c)).toArray (Go.Sort.holds_ahead _ _ _ _ _ _ hHo) (by simp [ofNats, hl2]) i (by simp [ofNats, hl2]; exact hi)
    rw [Nat.zero_add] at this
    rw [this, ofNats_get (by omega)]
/-- the events, the first q of which are sorted -/
structure LS (W0 : World) (rows : List Row) (m ob q : Nat) (W : World) : Prop where
  below : Below W0.heap.size W0 W
  ob0 : W0.heap.size ≤ ob
  ob1 : ob < W.heap.size
  outer : ∀ j r, rows[j]? = some r → W.cell? ⟨ob, j, none⟩ = some (rowV r)
  lt : ∀ r ∈ rows, W0.heap.size ≤ r.2.1 ∧ r.2.1 < W.heap.size ∧ r.2.1 ≠ ob
  apart : rows.Pairwise (fun a b => a.2.1 ≠ b.2.1)
  one : ∀ j r, rows[j]? = some r → j < q → ∀ i, i < r.1.length → W.cell? ⟨r.2.1, i, none⟩ = some (.int .i64 (((byNumber m r.1).getD i 0 : Nat) : Int))
  two : ∀ j r, rows[j]? = some r → q ≤ j → ∀ i, i < r.1.length → W.cell? ⟨r.2.1, i, none⟩ = some (.int .i64 ((r.1.getD i 0 : Nat) : Int)) ∧ W.frozen? ⟨r.2.1, i, none⟩ = false
theorem nC_get {c : List Nat} {i : Nat} (h : i < c.length) : (nC c)[i]? = some (.int .i64 ((c.getD i 0 : Nat) : Int)) := by
  rw [nC, List.getElem?_map, List.getElem?_eq_getElem h, List.getD_eq_getElem?_getD, List.getElem?_eq_getElem h]; rfl
theorem ER.sorted0 {W0 W : World} {rows : List Row} {ob oc m : Nat} (h : ER W0 rows (.slice (some ⟨ob, 0, none⟩) rows.length oc) W) (hn : 0 < rows.length) : LS W0 rows m ob 0 W := by
  have hob := h.outer.lt ob rfl
  refine ⟨h.below, hob.1, hob.2, fun j r hr => ?_, fun r hr => ?_, h.apart, fun j r hr hj => by omega, fun j r hr hj i hi => ?_⟩
  · have hj : j < rows.length := (List.getElem?_eq_some_iff.1 hr).1
    rw [h.outer.cellAt j (by omega), rowsC, List.getElem?_map, hr]; rfl
  · have h1 := h.lt hr
    refine ⟨h1.1, h1.2, fun e => ?_⟩
    rcases own_ne (h.inner r hr) h.outer (by decide) with e2 | e2
    · simp [rowV, Value.ownBlock] at e2
    · simp [rowV, Value.ownBlock] at e2; exact e2 e
  · have h1 := h.inner r (List.mem_of_getElem? hr)
    exact ⟨(World.ownsRow.cellAt h1 i (by omega)).trans (nC_get hi), World.ownsRow.frozenAt h1 i⟩
theorem LS.step {W0 W W' : World} {rows : List Row} {m ob q : Nat} {r : Row} (h : LS W0 rows m ob q W) (hr : rows[q]? = some r) (hg : W.grownBy W' (some r.2.1)) (hc : ∀ i, i < r.1.length → W'.cell? ⟨r.2.1, i, none⟩ = some (.int .i64 (((byNumber m r.1).getD i 0 : Nat) : Int))) : LS W0 rows m ob (q + 1) W' := by
  have hlr := h.lt r (List.mem_of_getElem? hr)
  have hz := hg.size
  have hcell : ∀ b o, b < W.heap.size → b ≠ r.2.1 → W'.cell? ⟨b, o, none⟩ = W.cell? ⟨b, o, none⟩ := fun b o hb hn => World.cell?_of_block (hg.block b hb (by simpa using hn))
  have hfro : ∀ b o, b < W.heap.size → b ≠ r.2.1 → W'.frozen? ⟨b, o, none⟩ = W.frozen? ⟨b, o, none⟩ := fun b o hb hn => World.frozen?_of_block (hg.block b hb (by simpa using hn))
  have hne : ∀ j s, rows[j]? = some s → j ≠ q → s.2.1 ≠ r.2.1 := fun j s hs hj => by
    have hap := List.pairwise_iff_getElem.1 h.apart
    obtain ⟨hj1, hj2⟩ := List.getElem?_eq_some_iff.1 hs
    obtain ⟨hq1, hq2⟩ := List.getElem?_eq_some_iff.1 hr
    rcases Nat.lt_or_gt_of_ne hj with e | e
    · have := hap j q hj1 hq1 e; rw [hj2, hq2] at this; exact this
    · have := hap q j hq1 hj1 e; rw [hj2, hq2] at this; exact Ne.symm this
  refine ⟨h.below.grown hg h.below.size (fun k e => by injection e with e; rw [← e]; exact hlr.1), h.ob0, by have := h.ob1; omega, fun j s hs => ?_, fun s hs => ?_, h.apart, fun j s hs hj i hi => ?_, fun j s hs hj i hi => ?_⟩
  · rw [hcell ob j h.ob1 (Ne.symm hlr.2.2)]; exact h.outer j s hs
  · have := h.lt s hs; exact ⟨this.1, by omega, this.2.2⟩
  · by_cases e : j = q
    · subst e
      rw [hr] at hs
      injection hs with hs
      subst hs
      exact hc i hi
    · rw [hcell _ _ (h.lt s (List.mem_of_getElem? hs)).2.1 (hne j s hs e)]; exact h.one j s hs (by omega) i hi
  · have e : j ≠ q := by omega
    rw [hcell _ _ (h.lt s (List.mem_of_getElem? hs)).2.1 (hne j s hs e), hfro _ _ (h.lt s (List.mem_of_getElem? hs)).2.1 (hne j s hs e)]
    exact h.two j s hs (by omega) i hi
/-- lists of numbers in memory -/
def Lists (B : Nat) (W : World) (a : Option Addr) (ls : List (List Nat)) : Prop :=
  ls.length = 0 ∨ ∃ b off, a = some ⟨b, off, none⟩ ∧ b < B ∧ ∀ j l, ls[j]? = some l → ∃ g c, W.cell? ⟨b, off + j, none⟩ = some (.slice (some ⟨g, 0, none⟩) l.length c) ∧ g < B ∧ ∀ i, i < l.length → W.cell? ⟨g, i, none⟩ = some (.int .i64 ((l.getD i 0 : Nat) : Int))
theorem LS.lists {W0 W : World} {rows : List Row} {m ob q : Nat} (h : LS W0 rows m ob q W) (hq : rows.length ≤ q) (hb : ∀ r ∈ rows, (byNumber m r.1).length = r.1.length) : Lists W.heap.size W (some ⟨ob, 0, none⟩) (rows.map fun r => byNumber m r.1) := by
  refine .inr ⟨ob, 0, rfl, h.ob1, fun j l hl => ?_⟩
  rw [List.getElem?_map] at hl
  obtain ⟨r, hr, rfl⟩ := Option.map_eq_some_iff.1 hl
  have hj : j < rows.length := (List.getElem?_eq_some_iff.1 hr).1
  have hbl := hb r (List.mem_of_getElem? hr)
  refine ⟨r.2.1, r.2.2, ?_, (h.lt r (List.mem_of_getElem? hr)).2.1, fun i hi => h.one j r hr (by omega) i (by omega)⟩
  rw [Nat.zero_add, h.outer j r hr, rowV, hbl]
end Go.Proofs.Ytgcepjminlapiaa
