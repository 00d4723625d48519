/- Setups with other offsets and clocks as data. No program here. -/
import Derived.Test.YtgcepjminlapiaaAlignA
import Derived.Test.YtgcepjminlapiaaRowOwn
import Derived.Test.YtgcepjminlapiaaOpenP
namespace Go.Proofs.Ytgcepjminlapiaa
open Go.RowKit
set_option linter.unusedVariables false
set_option linter.unusedSimpArgs false
/-- a plane with other spans, its slices elsewhere -/
def alnPR (p : PR) (o c : SV) (A : Option Addr × Nat × Option Addr × Nat) : PR := { p with olo := o.lo, ohi := o.hi, clo := c.lo, chi := c.hi, da := A.1, dc := A.2.1, ea := A.2.2.1, ec := A.2.2.2 }
def alnA (ps : Nat → PR) (os cs : Nat → SV) (A : Nat → Option Addr × Nat × Option Addr × Nat) (i : Nat) : PR := alnPR (ps i) (os i) (cs i) (A i)
def alnQ (ps : Nat → PR) (os cs : Nat → SV) (i : Nat) : PR := alnPR (ps i) (os i) (cs i) ((ps i).da, (ps i).dc, (ps i).ea, (ps i).ec)
theorem alnA_same (ps : Nat → PR) (os cs : Nat → SV) (A : Nat → Option Addr × Nat × Option Addr × Nat) (i : Nat) : PSame (alnQ ps os cs i) (alnA ps os cs A i) :=
  ⟨rfl, rfl, rfl, rfl, rfl, rfl, rfl, rfl, rfl, rfl, rfl, rfl, rfl, rfl, rfl, rfl, rfl⟩
theorem properB_A (ps : Nat → PR) (os cs : Nat → SV) (A : Nat → Option Addr × Nat × Option Addr × Nat) (i : Nat) : properB (alnA ps os cs A i) = properB (alnQ ps os cs i) := rfl
theorem checkB_A (n : Nat) (ps : Nat → PR) (os cs : Nat → SV) (A : Nat → Option Addr × Nat × Option Addr × Nat) : checkB n (alnA ps os cs A) = checkB n (alnQ ps os cs) := by
  have : planeAt (alnA ps os cs A) = planeAt (alnQ ps os cs) := funext fun j => rfl
  rw [checkB, checkB, this]
def narAt (p : PR) (o c : SV) : Bool := decide (p.olo ≤ o.lo) && (decide (o.hi ≤ p.ohi) && (decide (p.clo ≤ c.lo) && decide (c.hi ≤ p.chi)))
def narB (ps : Nat → PR) (os cs : Nat → SV) : Nat → Bool
  | 0 => true
  | k + 1 => narB ps os cs k && narAt (ps k) (os k) (cs k)
theorem narAt_iff {p : PR} {o c : SV} : narAt p o c = true ↔ p.olo ≤ o.lo ∧ o.hi ≤ p.ohi ∧ p.clo ≤ c.lo ∧ c.hi ≤ p.chi := by simp [narAt]
theorem narB_iff {ps : Nat → PR} {os cs : Nat → SV} : ∀ {n : Nat}, narB ps os cs n = true ↔ ∀ i, i < n → narAt (ps i) (os i) (cs i) = true
  | 0 => by simp [narB]
  | n + 1 => by
    rw [narB, Bool.and_eq_true, narB_iff]
    exact ⟨fun h i hi => by (by_cases e : i = n; subst e; exact h.2; exact h.1 i (by omega)), fun h => ⟨fun i hi => h i (by omega), h n (by omega)⟩⟩
theorem narB_no {ps : Nat → PR} {os cs : Nat → SV} {n i : Nat} (hi : i < n) (h : narAt (ps i) (os i) (cs i) = false) : narB ps os cs n = false := by
  cases e : narB ps os cs n
  · rfl
  · rw [narB_iff] at e; rw [e i hi] at h; cases h
def alignE (n : Nat) (ps : Nat → PR) (on : Nat) (os : Nat → SV) (cn : Nat) (cs : Nat → SV) : Int :=
  if on = n ∧ cn = n then (if checkB n (alnQ ps os cs) = true then (if narB ps os cs n = true then 0 else 7) else 2) else 2
def AlignedRes (w : World) (n : Nat) (Q : Nat → PR) (E : Int) (e : Ending) (w' : World) : Prop :=
  ∃ (m : Nat) (a : Option Addr) (c : Nat) (qs : Nat → PR), e = .returned (.tuple #[.agg #[.slice a m c], .int .i64 E]) ∧ (E = 0 → m = n ∧ Planes w'.heap.size w' a m qs ∧ ∀ i, i < m → PSame (Q i) (qs i)) ∧ (¬ E = 0 → m = 0 ∧ a = none ∧ c = 0) ∧ Below w.heap.size w w'
theorem aligned_err {w w' : World} {n : Nat} {Q : Nat → PR} {E F : Int} (h : F = E) (h0 : ¬ E = 0) (hb : Below w.heap.size w w') : AlignedRes w n Q F (.returned (.tuple #[.agg #[.slice none 0 0], .int .i64 E])) w' :=
  ⟨0, none, 0, fun _ => zeroPR, by rw [h], fun e => absurd (h.symm.trans e) h0, fun _ => ⟨rfl, rfl, rfl⟩, hb⟩
theorem properB_dn {p : PR} (h : properB p = true) : p.dn ≤ 50 ∧ p.en ≤ 100 := by
  simp only [properB, Bool.and_eq_true] at h
  obtain ⟨_, _, hk, hd⟩ := h
  constructor
  · by_cases e : p.kind = 2
    · rw [kindB, if_pos e] at hk
      simp only [tubesB, Bool.and_eq_true, withinB_iff] at hk
      omega
    · rw [kindB, if_neg e] at hk
      have : (p.dn : Int) = 0 := by simpa using hk
      omega
  · simp only [deadsB, Bool.and_eq_true, decide_eq_true_eq] at hd
    omega
theorem Spans.up {B B' : Nat} {w : World} {a : Option Addr} {n : Nat} {ss : Nat → SV} (h : Spans B w a n ss) (hb : B ≤ B') : Spans B' w a n ss := by
  refine ⟨h.1, ?_⟩
  rcases h.2 with h | ⟨b, off, ha, hB, hc⟩
  · exact .inl h
  · exact .inr ⟨b, off, ha, by omega, hc⟩
theorem Spans.get {B : Nat} {w : World} {a : Option Addr} {n : Nat} {ss : Nat → SV} (h : Spans B w a n ss) {i : Nat} (hi : i < n) : ∃ b off, a = some ⟨b, off, none⟩ ∧ b < B ∧ w.cell? ⟨b, off + i * 2, none⟩ = some (.int .i64 (ss i).lo) ∧ w.cell? ⟨b, off + i * 2 + 1, none⟩ = some (.int .i64 (ss i).hi) := by
  rcases h.2 with h | ⟨b, off, ha, hB, hc⟩
  · omega
  · exact ⟨b, off, ha, hB, (hc i hi).1, (hc i hi).2⟩
/-! the boxes of Aligned: the setup's, the result's, and out's -/
abbrev AB (a : Option Addr) (n c : Nat) (w wx : World) : Prop := wx.cell? ⟨w.heap.size, 0, none⟩ = some (.slice a n c) ∧ wx.cell? ⟨w.heap.size + 1, 0, none⟩ = some (.slice none 0 0) ∧ wx.frozen? ⟨w.heap.size + 1, 0, none⟩ = false ∧ w.heap.size < wx.heap.size ∧ w.heap.size + 1 < wx.heap.size ∧ Below w.heap.size w wx
theorem AB_start {a : Option Addr} {n c : Nat} {w : World} {t t' : TypeId} : AB a n c w ((w.alloc (.cells #[.slice a n c] t)).alloc (.cells #[.slice none 0 0] t')) :=
  ⟨cell_of_row _ _ _ _ _ _ (heapQ_2_0 _ _ _), cell_of_row _ _ _ _ _ _ (heapQ_2_1 _ _ _), by go_simp, by simp; omega, by simp, ((Below.refl _ _).alloc (Nat.le_refl _) _).alloc (by simp) _⟩
theorem AB_step {a : Option Addr} {n c : Nat} {w W wy : World} (h : AB a n c w W) (hb : Below W.heap.size W wy) : AB a n c w wy := by
  obtain ⟨h1, h2, h3, h4, h5, h6⟩ := h
  obtain ⟨hc, hf⟩ := bcell hb
  have := hb.size
  exact ⟨(hc _ _ h4).trans h1, (hc _ _ h5).trans h2, (hf _ _ h5).trans h3, by omega, by omega, h6.trans (hb.mono (by omega))⟩
/-- the planes that lie in 'out' after k rounds -/
structure AL (ps : Nat → PR) (os cs : Nat → SV) (tp td ti : TypeId) (x8 k : Nat) (v : Value) (A : Nat → Option Addr × Nat × Option Addr × Nat) (wr : World) : Prop where
  lt : x8 < wr.heap.size
  box : wr.cell? ⟨x8, 0, none⟩ = some v
  free : wr.frozen? ⟨x8, 0, none⟩ = false
  row : wr.ownsRow (x8 + 1) tp 15 v k (pCells (alnA ps os cs A) k)
  dr : ∀ i, i < k → wr.ownsRow (x8 + 1) td 3 (.slice (A i).1 (ps i).dn (A i).2.1) (ps i).dn (dCells (ps i).ds (ps i).dn)
  de : ∀ i, i < k → wr.ownsRow (x8 + 1) ti 1 (.slice (A i).2.2.1 (ps i).en (A i).2.2.2) (ps i).en (iCells (ps i).es (ps i).en)
theorem AL.planes {ps : Nat → PR} {os cs : Nat → SV} {tp td ti : TypeId} {x8 k : Nat} {v : Value} {A : Nat → Option Addr × Nat × Option Addr × Nat} {wr : World} (h : AL ps os cs tp td ti x8 k v A wr) (hk : k ≤ maxLen) (hn : ∀ i, i < k → (ps i).dn ≤ maxLen ∧ (ps i).en ≤ maxLen) :
    ∃ a c, v = .slice a k c ∧ Planes wr.heap.size wr a k (alnA ps os cs A) := by
  obtain ⟨a, c, rfl⟩ := own_len h.row
  exact ⟨a, c, rfl, (own_planes h.row hk (fun i hi => ⟨(hn i hi).1, (hn i hi).2, (own_drifts (h.dr i hi)).2, (own_ints (h.de i hi)).2⟩)).2⟩
theorem AL.step {ps : Nat → PR} {os cs : Nat → SV} {tp td ti : TypeId} {x8 k : Nat} {v v' : Value} {A : Nat → Option Addr × Nat × Option Addr × Nat} {wr wx w6 : World} (h : AL ps os cs tp td ti x8 k v A wr) (htd : tp ≠ td) (hti : tp ≠ ti) (B4 : Option Addr × Nat × Option Addr × Nat) (hb : Below wr.heap.size wr wx) (o : Obj)
    (hd : wx.ownsRow (x8 + 1) td 3 (.slice B4.1 (ps k).dn B4.2.1) (ps k).dn (dCells (ps k).ds (ps k).dn)) (he : wx.ownsRow (x8 + 1) ti 1 (.slice B4.2.2.1 (ps k).en B4.2.2.2) (ps k).en (iCells (ps k).es (ps k).en))
    (hg : (wx.alloc o).grownBy w6 v.ownBlock) (hr : w6.ownsRow (x8 + 1) tp 15 v' (k + 1) (pCells (alnA ps os cs A) k ++ (alnPR (ps k) (os k) (cs k) B4).cells)) :
    AL ps os cs tp td ti x8 (k + 1) v' (fun i => if i = k then B4 else A i) (w6.setCell ⟨x8, 0, none⟩ v') := by
  have hx : x8 < wx.heap.size := Nat.lt_of_lt_of_le h.lt hb.size
  have hrow : wx.ownsRow (x8 + 1) tp 15 v k (pCells (alnA ps os cs A) k) := own_below h.row hb
  have hv : ∀ g, v.ownBlock = some g → x8 + 1 ≤ g := fun g hg => (hrow.lt g hg).1
  have hne : some x8 ≠ v.ownBlock := fun e => by have := hv x8 e.symm; omega
  have hsz : wx.heap.size + 1 ≤ w6.heap.size := by have := hg.size; simpa using this
  have hx8 : w6.heap[x8]? = wx.heap[x8]? := (hg.block x8 (by simp; omega) hne).trans (Below.heap_alloc wx o x8 hx)
  have hx8' : w6.heap[x8]? = wr.heap[x8]? := hx8.trans (hb.block x8 h.lt)
  have keep : ∀ {t : TypeId} {m : Nat} {u : Value} {n : Nat} {xs : List Value}, tp ≠ t → wx.ownsRow (x8 + 1) t m u n xs → (w6.setCell ⟨x8, 0, none⟩ v').ownsRow (x8 + 1) t m u n xs := fun ht hu =>
    ownsRow_setCell_below ((hu.alloc o).kept hg (own_ne (hu.alloc o) (hrow.alloc o) (Ne.symm ht))) (by show x8 < x8 + 1; omega) _
  refine ⟨by simp [World.setCell]; omega, ?_, ?_, ?_, ?_, ?_⟩
  · refine World.cell?_setCell_same' _ _ _ ?_
    rw [World.cell?_of_block (w := wr) (a := ⟨x8, 0, none⟩) hx8', h.box]; rfl
  · rw [World.frozen?_setCell, World.frozen?_of_block (w := wr) (a := ⟨x8, 0, none⟩) hx8']; exact h.free
  · have e : pCells (alnA ps os cs (fun i => if i = k then B4 else A i)) (k + 1) = pCells (alnA ps os cs A) k ++ (alnPR (ps k) (os k) (cs k) B4).cells := by
      rw [pCells, flatN, flatN_congr k (g := fun i => (alnA ps os cs A i).cells) (fun i hi => by simp [alnA, show ¬ i = k by omega])]
      simp [alnA, pCells]
    rw [e]
    exact ownsRow_setCell_below hr (by show x8 < x8 + 1; omega) _
  · intro i hi
    by_cases e : i = k
    · subst e; simp only [if_true]; exact keep htd hd
    · simp only [if_neg e]; exact keep htd (own_below (h.dr i (by omega)) hb)
  · intro i hi
    by_cases e : i = k
    · subst e; simp only [if_true]; exact keep hti he
    · simp only [if_neg e]; exact keep hti (own_below (h.de i (by omega)) hb)
theorem AL.start {ps : Nat → PR} {os cs : Nat → SV} {tp td ti t : TypeId} {w : World} (A : Nat → Option Addr × Nat × Option Addr × Nat) : AL ps os cs tp td ti w.heap.size 0 (.slice none 0 0) A (w.alloc (.cells #[.slice none 0 0] t)) :=
  ⟨by simp, by go_simp, by go_simp, World.ownsRow_nil _ _ _ _, fun i hi => by omega, fun i hi => by omega⟩
theorem AL.at6 {ps : Nat → PR} {os cs : Nat → SV} {tp td ti : TypeId} {x8 k : Nat} {v : Value} {A : Nat → Option Addr × Nat × Option Addr × Nat} {wr wx w6 : World} (h : AL ps os cs tp td ti x8 k v A wr) (hb : Below wr.heap.size wr wx) (o : Obj) (hg : (wx.alloc o).grownBy w6 v.ownBlock) :
    w6.cell? ⟨x8, 0, none⟩ = some v ∧ w6.frozen? ⟨x8, 0, none⟩ = false ∧ x8 < w6.heap.size ∧ Below x8 wr w6 := by
  have hx : x8 < wx.heap.size := Nat.lt_of_lt_of_le h.lt hb.size
  have hrow : wx.ownsRow (x8 + 1) tp 15 v k (pCells (alnA ps os cs A) k) := own_below h.row hb
  have hv : ∀ g, v.ownBlock = some g → x8 + 1 ≤ g := fun g hg => (hrow.lt g hg).1
  have hne : some x8 ≠ v.ownBlock := fun e => by have := hv x8 e.symm; omega
  have hsz : wx.heap.size + 1 ≤ w6.heap.size := by have := hg.size; simpa using this
  have hx8 : w6.heap[x8]? = wx.heap[x8]? := (hg.block x8 (by simp; omega) hne).trans (Below.heap_alloc wx o x8 hx)
  have hx8' : w6.heap[x8]? = wr.heap[x8]? := hx8.trans (hb.block x8 h.lt)
  refine ⟨?_, ?_, by omega, ((hb.mono (Nat.le_of_lt h.lt)).alloc (by omega) o).grown hg (by simp; omega) (fun g hg => by have := hv g hg; omega)⟩
  · rw [World.cell?_of_block (w := wr) (a := ⟨x8, 0, none⟩) hx8', h.box]
  · rw [World.frozen?_of_block (w := wr) (a := ⟨x8, 0, none⟩) hx8']; exact h.free
theorem AL.planesS {ps : Nat → PR} {os cs : Nat → SV} {tp td ti : TypeId} {x8 k m c : Nat} {a : Option Addr} {A : Nat → Option Addr × Nat × Option Addr × Nat} {wr wz : World} (h : AL ps os cs tp td ti x8 k (.slice a m c) A wr) (hk : k ≤ maxLen) (hn : ∀ i, i < k → (ps i).dn ≤ maxLen ∧ (ps i).en ≤ maxLen) (hb : Below wr.heap.size wr wz) {p : Addr} (hp : p.block < x8 + 1) (u : Value) :
    Planes (wz.setCell p u).heap.size (wz.setCell p u) a k (alnA ps os cs A) :=
  (own_planes (ownsRow_setCell_below (own_below h.row hb) hp u) hk (fun i hi => ⟨(hn i hi).1, (hn i hi).2, (own_drifts (ownsRow_setCell_below (own_below (h.dr i hi) hb) hp u)).2, (own_ints (ownsRow_setCell_below (own_below (h.de i hi) hb) hp u)).2⟩)).2
theorem AB_low {a : Option Addr} {n c : Nat} {w W wy : World} (h : AB a n c w W) (hb : Below (w.heap.size + 2) W wy) : AB a n c w wy := by
  obtain ⟨h1, h2, h3, h4, h5, h6⟩ := h
  obtain ⟨hc, hf⟩ := bcell hb
  have := hb.size
  exact ⟨(hc _ _ (by omega)).trans h1, (hc _ _ (by omega)).trans h2, (hf _ _ (by omega)).trans h3, by omega, by omega, h6.trans (hb.mono (by omega))⟩
theorem cells_new {w : World} {t : TypeId} {xs : List Value} : ∀ j u, xs[j]? = some u → (w.alloc (.cells xs.toArray t)).cell? ((⟨w.heap.size, 0, none⟩ : Addr).add j) = some u := by
  intro j u h
  rw [addr_add, Nat.zero_add]
  exact (cell_of_row _ _ _ _ _ _ (heapQ_new rfl)).trans (by simpa using h)
theorem pcells_one {p : PR} : ∀ u ∈ p.cells, u.oneCell' = true := by
  intro u hu
  simp only [PR.cells, List.mem_cons, List.not_mem_nil, or_false] at hu
  rcases hu with rfl | rfl | rfl | rfl | rfl | rfl | rfl | rfl | rfl | rfl | rfl | rfl | rfl | rfl | rfl <;> rfl
end Go.Proofs.Ytgcepjminlapiaa
