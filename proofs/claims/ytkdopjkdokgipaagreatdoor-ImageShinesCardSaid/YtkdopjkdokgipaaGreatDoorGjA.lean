/- Texts put together: ImPrv0, ImMov0. -/
import Derived.Test.YtkdopjkdokgipaaGreatDoorGiA
import Derived.Deep.AppendLies
import Derived.OneCell
import Derived.Test.YtkdopjkdokgipaaGreatDoorGhA
import Derived.Test.YtkdopjkdokgipaaGreatDoorGcA
namespace Go.Proofs.YtkdopjkdokgipaaGreatDoor
open Go.RowKit
set_option linter.unusedVariables false
set_option linter.unusedSimpArgs false
def NM.cells (x : NM) : List Value := [.int .i64 x.cell, .int .i64 x.at_, .int .i64 x.right, .slice x.ta x.tn x.tc]
/-- the cells of some nodes -/
def nmC : List NM → List Value
  | [] => []
  | x :: t => x.cells ++ nmC t
theorem nmC_append : ∀ (a b : List NM), nmC (a ++ b) = nmC a ++ nmC b
  | [], b => rfl
  | h :: t, b => by rw [List.cons_append, nmC, nmC, nmC_append t b, List.append_assoc]
theorem nmC_one (x : NM) : nmC [x] = x.cells := by simp [nmC]
theorem nmC_len : ∀ (l : List NM), (nmC l).length = l.length * 4
  | [] => rfl
  | h :: t => by rw [nmC, List.length_append, nmC_len t]; simp [NM.cells]; omega
theorem nmC_get : ∀ (l : List NM) (i r : Nat) (z : NM), i < l.length → r < 4 → (nmC l)[i * 4 + r]? = (l.getD i z).cells[r]?
  | [], i, r, z, hi, _ => by simp at hi
  | h :: t, 0, r, z, hi, hr => by
    rw [nmC, List.getElem?_append_left (by simp [NM.cells]; omega)]
    simp
  | h :: t, i + 1, r, z, hi, hr => by
    have e : (i + 1) * 4 + r = i * 4 + r + 4 := by omega
    rw [nmC, List.getElem?_append_right (by simp [NM.cells]; omega), e]
    have : i * 4 + r + 4 - h.cells.length = i * 4 + r := by simp [NM.cells]
    rw [this, nmC_get t i r z (by simpa using hi) hr]
    simp
/-- four cells set: one node set -/
theorem nmC_mid (a b : List NM) (x y : NM) : ((((nmC (a ++ x :: b)).set (a.length * 4) (.int .i64 y.cell)).set (a.length * 4 + 1) (.int .i64 y.at_)).set (a.length * 4 + 2) (.int .i64 y.right)).set (a.length * 4 + 3) (.slice y.ta y.tn y.tc) = nmC (a ++ y :: b) := by
  rw [nmC_append, nmC_append, nmC, nmC]
  have hl := nmC_len a
  rw [List.set_append_right _ _ (by omega), List.set_append_right _ _ (by omega), List.set_append_right _ _ (by omega), List.set_append_right _ _ (by omega)]
  rw [hl, Nat.sub_self, show a.length * 4 + 1 - a.length * 4 = 1 by omega, show a.length * 4 + 2 - a.length * 4 = 2 by omega, show a.length * 4 + 3 - a.length * 4 = 3 by omega]
  rfl
def nm0 : NM := ⟨0, 0, 0, none, 0, 0, fun _ => 0⟩
theorem nm_one {x : NM} : ∀ u ∈ x.cells, u.oneCell' = true := by
  intro u hu
  simp [NM.cells] at hu
  rcases hu with rfl | rfl | rfl | rfl <;> rfl
theorem own_set {w : World} {base : Nat} {e : TypeId} {k n c g : Nat} {xs : List Value} (h : w.ownsRow base e k (.slice (some ⟨g, 0, none⟩) n c) n xs) {j : Nat} (hj : j < n * k) (u : Value) : (w.setCell ⟨g, j, none⟩ u).ownsRow base e k (.slice (some ⟨g, 0, none⟩) n c) n (xs.set j u) := by
  refine ⟨by rw [List.length_set]; exact h.1, ?_⟩
  rcases h.2 with ⟨hv, _⟩ | ⟨g', cap, cur, hv, h1, h2, h3, h4, h5, h6⟩
  · injection hv with q; cases q
  · injection hv with q1 q2 q3
    injection q1 with q1
    injection q1 with q1
    subst q1 q3
    refine .inr ⟨g, c, _, rfl, h1, heap_setCell_same w g j _ _ u h2, h3, h4, by simpa using h5, ?_⟩
    rw [← h6]
    simp [List.take_set]
/-! ### what is kept -/
theorem set_frame (W : World) (a : Addr) (u : Value) : Below 0 W (W.setCell a u) := (Below.refl 0 W).setCell (Nat.zero_le _) u
/-- all blocks are kept but the box of 'out' and the row that lies in it -/
structure KO (ob : Nat) (v : Value) (W : World) (v' : Value) (W' : World) : Prop where
  os : W'.os = W.os
  tape : W'.tape = W.tape
  output : W'.output = W.output
  size : W.heap.size ≤ W'.heap.size
  block : ∀ b, b < W.heap.size → b ≠ ob → v.ownBlock ≠ some b → W'.heap[b]? = W.heap[b]?
  own : v'.ownBlock = v.ownBlock ∨ ∀ g, v'.ownBlock = some g → W.heap.size ≤ g
theorem KO.refl (ob : Nat) (v : Value) (W : World) : KO ob v W v W := ⟨rfl, rfl, rfl, Nat.le_refl _, fun _ _ _ _ => rfl, .inl rfl⟩
theorem KO.of_below {ob : Nat} {v : Value} {W W' : World} (h : Below W.heap.size W W') : KO ob v W v W' := ⟨h.os, h.tape, h.output, h.size, fun b hb _ _ => h.block b hb, .inl rfl⟩
/-- a block that is none of 'out' -/
def Safe (ob : Nat) (v : Value) (W : World) (b : Nat) : Prop := b < W.heap.size ∧ b ≠ ob ∧ v.ownBlock ≠ some b
theorem KO.safe {ob : Nat} {v v' : Value} {W W' : World} (h : KO ob v W v' W') {b : Nat} (hs : Safe ob v W b) : Safe ob v' W' b := by
  obtain ⟨h1, h2, h3⟩ := hs
  refine ⟨by have := h.size; omega, h2, fun e => ?_⟩
  rcases h.own with q | q
  · exact h3 (q ▸ e)
  · have := q b e; omega
theorem KO.kept {ob : Nat} {v v' : Value} {W W' : World} (h : KO ob v W v' W') {b : Nat} (hs : Safe ob v W b) : W'.heap[b]? = W.heap[b]? := h.block b hs.1 hs.2.1 hs.2.2
theorem KO.cell {ob : Nat} {v v' : Value} {W W' : World} (h : KO ob v W v' W') {b o : Nat} (hs : Safe ob v W b) : W'.cell? ⟨b, o, none⟩ = W.cell? ⟨b, o, none⟩ := World.cell?_of_block (h.kept hs)
theorem KO.trans {ob : Nat} {v v1 v2 : Value} {W W1 W2 : World} (h : KO ob v W v1 W1) (k : KO ob v1 W1 v2 W2) : KO ob v W v2 W2 := by
  refine ⟨k.os.trans h.os, k.tape.trans h.tape, k.output.trans h.output, Nat.le_trans h.size k.size, fun b h1 h2 h3 => ?_, ?_⟩
  · have hs := h.safe ⟨h1, h2, h3⟩
    exact (k.kept hs).trans (h.block b h1 h2 h3)
  · rcases k.own with q | q
    · rcases h.own with p | p
      · exact .inl (q.trans p)
      · exact .inr (fun g e => p g (q ▸ e))
    · exact .inr (fun g e => Nat.le_trans h.size (q g e))
theorem KO.below {ob B : Nat} {v v' : Value} {W W' : World} (h : KO ob v W v' W') (h1 : B ≤ ob) (h2 : ∀ g, v.ownBlock = some g → B ≤ g) (h3 : B ≤ W.heap.size) : Below B W W' :=
  ⟨h.os, h.tape, h.output, h.size, fun b hb => h.block b (by omega) (by omega) (fun e => by have := h2 b e; omega)⟩
/-- where the numbers of a node lie -/
def TimesIn (base ob m : Nat) (v : Value) (W : World) (x : NM) : Prop := (x.ta = none ∧ x.tn = 0 ∧ x.tc = 0) ∨ ∃ b, x.ta = some ⟨b, 0, none⟩ ∧ x.tn = m ∧ x.tc = m ∧ base ≤ b ∧ Safe ob v W b ∧ IR 3 W b m x.ts
theorem TimesIn.step {base ob m : Nat} {v v' : Value} {W W' : World} {x : NM} (h : TimesIn base ob m v W x) (k : KO ob v W v' W') : TimesIn base ob m v' W' x := by
  rcases h with h | ⟨b, h1, h2, h3, h4, h5, h6⟩
  · exact .inl h
  · exact .inr ⟨b, h1, h2, h3, h4, k.safe h5, h6.block (k.kept h5)⟩
/-- 'out' holds the nodes L -/
structure OutAt (base ob m : Nat) (v : Value) (W : World) (L : List NM) : Prop where
  obox : W.heap[ob]? = some (.cells #[v] 64)
  own : W.ownsRow base 76 4 v L.length (nmC L)
  le : base ≤ ob
  times : ∀ x ∈ L, TimesIn base ob m v W x
section
variable {base ob m : Nat} {v v' : Value} {W W' : World} {L : List NM}
theorem OutAt.lt (h : OutAt base ob m v W L) : ob < W.heap.size := (Array.getElem?_eq_some_iff.1 h.obox).1
theorem OutAt.off (h : OutAt base ob m v W L) : v.ownBlock ≠ some ob := own_off h.own h.obox (by decide)
theorem OutAt.form (h : OutAt base ob m v W L) : ∃ a c, v = .slice a L.length c := own_len h.own
theorem OutAt.cell (h : OutAt base ob m v W L) : W.cell? ⟨ob, 0, none⟩ = some v := cell_of_row _ _ _ _ _ _ h.obox
theorem OutAt.frozen (h : OutAt base ob m v W L) : W.frozen? ⟨ob, 0, none⟩ = false := frozen_of_row _ _ _ _ _ h.obox
theorem OutAt.below (h : OutAt base ob m v W L) (hb : Below W.heap.size W W') : OutAt base ob m v W' L :=
  ⟨(hb.block _ h.lt).trans h.obox, own_below h.own hb, h.le, fun x hx => (h.times x hx).step (KO.of_below hb)⟩
/-- a node more -/
theorem OutAt.push (h : OutAt base ob m v W L) {x : NM} (hx : TimesIn base ob m v W x) {g cap : Nat} (ho : W'.ownsRow base 76 4 (.slice (some ⟨g, 0, none⟩) (L.length + 1) cap) (L.length + 1) (nmC L ++ x.cells)) (hg : W.grownBy W' v.ownBlock) (hat : v.ownBlock = some g ∨ g = W.heap.size) :
    W'.heap[ob]? = some (.cells #[v] 64) ∧ KO ob v W (.slice (some ⟨g, 0, none⟩) (L.length + 1) cap) (W'.setCell ⟨ob, 0, none⟩ (.slice (some ⟨g, 0, none⟩) (L.length + 1) cap)) ∧ OutAt base ob m (.slice (some ⟨g, 0, none⟩) (L.length + 1) cap) (W'.setCell ⟨ob, 0, none⟩ (.slice (some ⟨g, 0, none⟩) (L.length + 1) cap)) (L ++ [x]) := by
  have e1 : W'.heap[ob]? = some (.cells #[v] 64) := (hg.block _ h.lt (Ne.symm h.off)).trans h.obox
  have k : KO ob v W (.slice (some ⟨g, 0, none⟩) (L.length + 1) cap) (W'.setCell ⟨ob, 0, none⟩ (.slice (some ⟨g, 0, none⟩) (L.length + 1) cap)) := by
    refine ⟨?_, ?_, ?_, by simpa using hg.size, fun b h1 h2 h3 => ?_, ?_⟩
    · exact (set_frame W' ⟨ob, 0, none⟩ _).os.trans hg.os
    · exact (set_frame W' ⟨ob, 0, none⟩ _).tape.trans hg.tape
    · exact (set_frame W' ⟨ob, 0, none⟩ _).output.trans hg.output
    · exact (heap_setCell_other W' ⟨ob, 0, none⟩ b _ h2).trans (hg.block b h1 (Ne.symm h3))
    · rcases hat with q | q
      · exact .inl q.symm
      · right
        intro g' e
        simp only [Value.ownBlock, Option.some.injEq] at e
        omega
  refine ⟨e1, k, heap_setCell_same W' ob 0 _ _ _ e1, ?_, h.le, fun y hy => ?_⟩
  · rw [nmC_append, nmC_one, List.length_append]
    exact ownsRow_setCell_other ho (own_off ho e1 (by decide)) _
  · rw [List.mem_append, List.mem_singleton] at hy
    rcases hy with hy | rfl
    · exact (h.times y hy).step k
    · exact hx.step k
/-- a node set -/
theorem OutAt.put {a b : List NM} {x y : NM} {g c : Nat} (h : OutAt base ob m (.slice (some ⟨g, 0, none⟩) (a ++ x :: b).length c) W (a ++ x :: b)) (hy : TimesIn base ob m (.slice (some ⟨g, 0, none⟩) (a ++ x :: b).length c) W y) :
    KO ob (.slice (some ⟨g, 0, none⟩) (a ++ x :: b).length c) W (.slice (some ⟨g, 0, none⟩) (a ++ x :: b).length c) ((((W.setCell ⟨g, a.length * 4, none⟩ (.int .i64 y.cell)).setCell ⟨g, a.length * 4 + 1, none⟩ (.int .i64 y.at_)).setCell ⟨g, a.length * 4 + 2, none⟩ (.int .i64 y.right)).setCell ⟨g, a.length * 4 + 3, none⟩ (.slice y.ta y.tn y.tc)) ∧
      OutAt base ob m (.slice (some ⟨g, 0, none⟩) (a ++ x :: b).length c) ((((W.setCell ⟨g, a.length * 4, none⟩ (.int .i64 y.cell)).setCell ⟨g, a.length * 4 + 1, none⟩ (.int .i64 y.at_)).setCell ⟨g, a.length * 4 + 2, none⟩ (.int .i64 y.right)).setCell ⟨g, a.length * 4 + 3, none⟩ (.slice y.ta y.tn y.tc)) (a ++ y :: b) := by
  have hoff : ob ≠ g := fun e => h.off (by simp [Value.ownBlock, e])
  have hl : (a ++ y :: b).length = (a ++ x :: b).length := by simp
  have hj : ∀ r, r < 4 → a.length * 4 + r < (a ++ x :: b).length * 4 := fun r hr => by simp; omega
  have k : KO ob (.slice (some ⟨g, 0, none⟩) (a ++ x :: b).length c) W (.slice (some ⟨g, 0, none⟩) (a ++ x :: b).length c) ((((W.setCell ⟨g, a.length * 4, none⟩ (.int .i64 y.cell)).setCell ⟨g, a.length * 4 + 1, none⟩ (.int .i64 y.at_)).setCell ⟨g, a.length * 4 + 2, none⟩ (.int .i64 y.right)).setCell ⟨g, a.length * 4 + 3, none⟩ (.slice y.ta y.tn y.tc)) := by
    have f4 := (((set_frame W ⟨g, a.length * 4, none⟩ (.int .i64 y.cell)).trans (set_frame _ ⟨g, a.length * 4 + 1, none⟩ (.int .i64 y.at_))).trans (set_frame _ ⟨g, a.length * 4 + 2, none⟩ (.int .i64 y.right))).trans (set_frame _ ⟨g, a.length * 4 + 3, none⟩ (.slice y.ta y.tn y.tc))
    refine ⟨f4.os, f4.tape, f4.output, f4.size, fun b' h1 h2 h3 => ?_, .inl rfl⟩
    have hne : b' ≠ g := fun e => h3 (by simp [Value.ownBlock, e])
    rw [heap_setCell_other _ ⟨g, a.length * 4 + 3, none⟩ b' _ hne, heap_setCell_other _ ⟨g, a.length * 4 + 2, none⟩ b' _ hne, heap_setCell_other _ ⟨g, a.length * 4 + 1, none⟩ b' _ hne, heap_setCell_other _ ⟨g, a.length * 4, none⟩ b' _ hne]
  refine ⟨k, ?_, ?_, h.le, fun z hz => ?_⟩
  · rw [heap_setCell_other _ ⟨g, a.length * 4 + 3, none⟩ ob _ hoff, heap_setCell_other _ ⟨g, a.length * 4 + 2, none⟩ ob _ hoff, heap_setCell_other _ ⟨g, a.length * 4 + 1, none⟩ ob _ hoff, heap_setCell_other _ ⟨g, a.length * 4, none⟩ ob _ hoff]
    exact h.obox
  · rw [hl, ← nmC_mid a b x y]
    exact own_set (own_set (own_set (own_set h.own (by have := hj 0 (by omega); omega) _) (hj 1 (by omega)) _) (hj 2 (by omega)) _) (hj 3 (by omega)) _
  · rw [List.mem_append, List.mem_cons] at hz
    rcases hz with hz | rfl | hz
    · exact (h.times z (by simp [hz])).step k
    · exact hy.step k
    · exact (h.times z (by simp [hz])).step k
end
/-- a node as the law has it -/
def NM.nv (x : NM) : NV := ⟨x.cell, x.at_, x.right, listT x.tn x.ts⟩
end Go.Proofs.YtkdopjkdokgipaaGreatDoor
namespace Go.Proofs.YtkdopjkdokgipaaGreatDoor
open Go.RowKit
set_option linter.unusedVariables false
set_option linter.unusedSimpArgs false
/-- an image: where its lists lie, what they hold -/
structure IM where
  ca : Option Addr
  cn : Nat
  cc : Nat
  ba : Option Addr
  bn : Nat
  bc : Nat
  ss : Nat → SV
  bs : Nat → BM
def IM.F (x : IM) : List (List Int) := allF x.cn x.ss x.bn x.bs
/-- a slice of images -/
def Imgs (B : Nat) (w : World) (a : Option Addr) (t : Nat) (im : Nat → IM) : Prop :=
  t ≤ maxLen ∧ (t = 0 ∨ ∃ b off, a = some ⟨b, off, none⟩ ∧ b < B ∧ ∀ i, i < t → w.cell? ⟨b, off + i * 2, none⟩ = some (.slice (im i).ca (im i).cn (im i).cc) ∧ w.cell? ⟨b, off + i * 2 + 1, none⟩ = some (.slice (im i).ba (im i).bn (im i).bc) ∧ Spans B w (im i).ca (im i).cn (im i).ss ∧ Beams B w (im i).ba (im i).bn (im i).bs)
theorem Imgs.below {B : Nat} {w w' : World} {a : Option Addr} {t : Nat} {im : Nat → IM} (h : Imgs B w a t im) (hb : Below B w w') : Imgs B w' a t im := by
  refine ⟨h.1, ?_⟩
  rcases h.2 with h | ⟨b, off, ha, hB, hc⟩
  · exact .inl h
  · refine .inr ⟨b, off, ha, hB, fun i hi => ?_⟩
    obtain ⟨h1, h2, h3, h4⟩ := hc i hi
    exact ⟨((bcell hb).1 _ _ hB).trans h1, ((bcell hb).1 _ _ hB).trans h2, h3.below hb, h4.below hb⟩
theorem Imgs.up {B B' : Nat} {w : World} {a : Option Addr} {t : Nat} {im : Nat → IM} (h : Imgs B w a t im) (hb : B ≤ B') : Imgs B' w a t im := by
  refine ⟨h.1, ?_⟩
  rcases h.2 with h | ⟨b, off, ha, hB, hc⟩
  · exact .inl h
  · refine .inr ⟨b, off, ha, by omega, fun i hi => ?_⟩
    obtain ⟨h1, h2, h3, h4⟩ := hc i hi
    exact ⟨h1, h2, h3.up hb, h4.up hb⟩
theorem Imgs.get {B : Nat} {w : World} {a : Option Addr} {t : Nat} {im : Nat → IM} (h : Imgs B w a t im) {i : Nat} (hi : i < t) : ∃ b off, a = some ⟨b, off, none⟩ ∧ b < B ∧ w.cell? ⟨b, off + i * 2, none⟩ = some (.slice (im i).ca (im i).cn (im i).cc) ∧ w.cell? ⟨b, off + i * 2 + 1, none⟩ = some (.slice (im i).ba (im i).bn (im i).bc) ∧ Spans B w (im i).ca (im i).cn (im i).ss ∧ Beams B w (im i).ba (im i).bn (im i).bs := by
  rcases h.2 with h | ⟨b, off, ha, hB, hc⟩
  · omega
  · obtain ⟨h1, h2, h3, h4⟩ := hc i hi
    exact ⟨b, off, ha, hB, h1, h2, h3, h4⟩
/-- a row of values -/
def VR (t : TypeId) (W : World) (b m : Nat) (f : Nat → Value) : Prop := ∃ cur, W.heap[b]? = some (.cells cur t) ∧ cur.size = m ∧ ∀ j, j < m → cur[j]? = some (f j)
section
variable {t : TypeId} {W W' : World} {b m : Nat} {f : Nat → Value}
theorem VR.lt (h : VR t W b m f) : b < W.heap.size := by obtain ⟨cur, h1, _⟩ := h; exact (Array.getElem?_eq_some_iff.1 h1).1
theorem VR.cell (h : VR t W b m f) {j : Nat} (hj : j < m) : W.cell? ⟨b, j, none⟩ = some (f j) := by
  obtain ⟨cur, h1, _, h2⟩ := h
  exact (cell_of_row _ _ _ _ _ _ h1).trans (h2 j hj)
theorem VR.frozen (h : VR t W b m f) (j : Nat) : W.frozen? ⟨b, j, none⟩ = false := by
  obtain ⟨cur, h1, _, h2⟩ := h
  exact frozen_of_row _ _ _ _ _ h1
theorem VR.block (h : VR t W b m f) (hb : W'.heap[b]? = W.heap[b]?) : VR t W' b m f := by
  obtain ⟨cur, h1, h2, h3⟩ := h
  exact ⟨cur, hb.trans h1, h2, h3⟩
theorem VR.step (h : VR t W b m f) (hb : Below W.heap.size W W') : VR t W' b m f := h.block (hb.block b h.lt)
theorem VR.alloc (h : VR t W b m f) (o : Obj) : VR t (W.alloc o) b m f := h.block (Below.heap_alloc W o b h.lt)
theorem VR.set (h : VR t W b m f) {i : Nat} (hi : i < m) (x : Value) : VR t (W.setCell ⟨b, i, none⟩ x) b m (fun j => if j = i then x else f j) := by
  obtain ⟨cur, h1, h2, h3⟩ := h
  refine ⟨cur.setIfInBounds i x, heap_setCell_same W b i _ _ _ h1, by simpa using h2, fun j hj => ?_⟩
  by_cases e : j = i
  · subst e
    rw [Array.getElem?_setIfInBounds_self_of_lt (by omega)]
    simp
  · rw [Array.getElem?_setIfInBounds_ne (Ne.symm e), h3 j hj]
    simp [e]
theorem VR.congr {g : Nat → Value} (h : VR t W b m f) (e : ∀ j, j < m → f j = g j) : VR t W b m g := by
  obtain ⟨cur, h1, h2, h3⟩ := h
  exact ⟨cur, h1, h2, fun j hj => by rw [← e j hj]; exact h3 j hj⟩
theorem VR.made (W : World) (t : TypeId) (m : Nat) (z : Value) (hz : z.cells = #[z]) : VR t (W.alloc (.cells (madeCells #[z] m) t)) W.heap.size m (fun _ => z) := by
  have e : (madeCells #[z] m).toList = List.replicate m z := toList_madeCells_one _ _
  refine ⟨_, heap_alloc_new W _, ?_, fun j hj => ?_⟩
  · have := congrArg List.length e
    simpa using this
  · rw [← Array.getElem?_toList, e]
    simp [hj]
end
theorem own_keep {w w' : World} {base : Nat} {e : TypeId} {k : Nat} {v : Value} {n : Nat} {xs : List Value} (h : w.ownsRow base e k v n xs) (hk : ∀ g, v.ownBlock = some g → w'.heap[g]? = w.heap[g]?) : w'.ownsRow base e k v n xs := by
  refine ⟨h.1, ?_⟩
  rcases h.2 with h | ⟨g, cap, cur, hv, h1, h2, h3⟩
  · exact .inl h
  · exact .inr ⟨g, cap, cur, hv, h1, (hk g (by rw [hv]; rfl)).trans h2, h3⟩
/-- numbers that lie in blocks of X -/
def IntsX (X : Nat → Prop) (w : World) (a : Option Addr) (n : Nat) (xs : Nat → Int) : Prop :=
  n = 0 ∨ ∃ b off, a = some ⟨b, off, none⟩ ∧ X b ∧ ∀ i, i < n → w.cell? ⟨b, off + i, none⟩ = some (.int .i64 (xs i))
theorem IntsX.keep {X X' : Nat → Prop} {w w' : World} {a : Option Addr} {n : Nat} {xs : Nat → Int} (h : IntsX X w a n xs) (hw : ∀ b, X b → X' b) (hk : ∀ b, X b → w'.heap[b]? = w.heap[b]?) : IntsX X' w' a n xs := by
  rcases h with h | ⟨b, off, ha, hB, hc⟩
  · exact .inl h
  · exact .inr ⟨b, off, ha, hw b hB, fun i hi => (World.cell?_of_block (hk b hB)).trans (hc i hi)⟩
theorem IntsX.ints {X : Nat → Prop} {w : World} {a : Option Addr} {n : Nat} {xs : Nat → Int} (h : IntsX X w a n xs) : IntsR X w a n xs := by
  rcases h with h | ⟨b, off, ha, hB, hc⟩
  · exact .inl h
  · by_cases h0 : n = 0
    · exact .inl h0
    · exact .inr ⟨b, off, ha, hB, World.block_lt_of_cell? w _ (hc 0 (by omega)), hc⟩
/-- a list of fields that grows, clone by clone -/
structure GrowX (X : Nat → Prop) (ob base n : Nat) (v : Value) (l : List (List Int)) (cs : List Value) (W : World) : Prop where
  own : W.ownsRow base 24 1 v l.length cs
  mine : ∀ g, v.ownBlock = some g → X g
  rows : ∀ k, k < l.length → ∃ ra rc, cs[k]? = some (.slice ra n rc) ∧ IntsX (fun b => X b ∧ b ≠ ob ∧ v.ownBlock ≠ some b) W ra n (fOf (l.getD k []))
theorem GrowX.keep {X X' : Nat → Prop} {ob base n : Nat} {v : Value} {l : List (List Int)} {cs : List Value} {W W' : World} (h : GrowX X ob base n v l cs W) (hw : ∀ b, X b → X' b) (hk : ∀ b, X b → b ≠ ob → W'.heap[b]? = W.heap[b]?) (ho : v.ownBlock ≠ some ob) : GrowX X' ob base n v l cs W' :=
  ⟨own_keep h.own (fun g hg => hk g (h.mine g hg) (fun e => ho (by rw [hg, e]))), fun g hg => hw g (h.mine g hg), fun k hkl => by
    obtain ⟨ra, rc, h1, h2⟩ := h.rows k hkl
    exact ⟨ra, rc, h1, h2.keep (fun b hb => ⟨hw b hb.1, hb.2⟩) (fun b hb => hk b hb.1 hb.2.1)⟩⟩
/-- a field more -/
theorem GrowX.push {R X O : Nat → Prop} {ob base n t i : Nat} {f : Nat → Value} {v : Value} {l : List (List Int)} {cs : List Value} {W W3 W5 : World} {g : List Int} {gA gc g1 p1 : Nat} {o : Obj}
    (hm : Mine R X O W) (hx : X ob) (hvr : VR 138 W ob t f) (hi : i < t) (hvo : v.ownBlock ≠ some ob) (hgr : GrowX X ob base n v l cs W)
    (h3 : Below W.heap.size W W3) (hc : W3.ownsRow W.heap.size 3 1 (.slice (some ⟨gA, 0, none⟩) n gc) n (iC (fOf g) n)) (hA1 : W.heap.size ≤ gA) (hA2 : gA < W3.heap.size)
    (h5 : W5.ownsRow base 24 1 (.slice (some ⟨g1, 0, none⟩) (l.length + 1) p1) (l.length + 1) (cs ++ [.slice (some ⟨gA, 0, none⟩) n gc])) (hg : (W3.alloc o).grownBy W5 v.ownBlock) (hat : v.ownBlock = some g1 ∨ g1 = (W3.alloc o).heap.size) :
    ∃ X', BodyStep X W (W5.setCell ⟨ob, i, none⟩ (.slice (some ⟨g1, 0, none⟩) (l.length + 1) p1)) X' ∧ X' ob ∧ VR 138 (W5.setCell ⟨ob, i, none⟩ (.slice (some ⟨g1, 0, none⟩) (l.length + 1) p1)) ob t (fun j => if j = i then .slice (some ⟨g1, 0, none⟩) (l.length + 1) p1 else f j) ∧ (Value.slice (some ⟨g1, 0, none⟩) (l.length + 1) p1).ownBlock ≠ some ob ∧
      GrowX X' ob base n (.slice (some ⟨g1, 0, none⟩) (l.length + 1) p1) (l ++ [g]) (cs ++ [.slice (some ⟨gA, 0, none⟩) n gc]) (W5.setCell ⟨ob, i, none⟩ (.slice (some ⟨g1, 0, none⟩) (l.length + 1) p1)) := by
  have hob : ob < W.heap.size := hm.lt hx
  have hz3 := h3.size
  have hz4 : (W3.alloc o).heap.size = W3.heap.size + 1 := by simp
  have hz5 := hg.size
  have hv : ∀ b, v.ownBlock = some b → b < W.heap.size := fun b hb => hm.lt (hgr.mine b hb)
  have hg1 : g1 ≠ ob := by
    rcases hat with h | h
    · intro e; subst e; exact hvo h
    · omega
  have hgA : gA ≠ g1 := by
    rcases hat with h | h
    · have := hv g1 h; omega
    · omega
  have keep5 : ∀ b, b < W3.heap.size → v.ownBlock ≠ some b → b ≠ ob → (W5.setCell ⟨ob, i, none⟩ (.slice (some ⟨g1, 0, none⟩) (l.length + 1) p1)).heap[b]? = W3.heap[b]? := fun b h1 h2 h4 =>
    (heap_setCell_other W5 ⟨ob, i, none⟩ b _ h4).trans ((hg.block b (by omega) (Ne.symm h2)).trans (Below.heap_alloc W3 o b h1))
  have keep : ∀ b, b < W.heap.size → v.ownBlock ≠ some b → b ≠ ob → (W5.setCell ⟨ob, i, none⟩ (.slice (some ⟨g1, 0, none⟩) (l.length + 1) p1)).heap[b]? = W.heap[b]? := fun b h1 h2 h4 => (keep5 b (by omega) h2 h4).trans (h3.block b h1)
  have ho5 : W5.heap[ob]? = W.heap[ob]? := (hg.block ob (by omega) (Ne.symm hvo)).trans ((Below.heap_alloc W3 o ob (by omega)).trans (h3.block ob hob))
  have hvr6 := (hvr.block ho5).set hi (.slice (some ⟨g1, 0, none⟩) (l.length + 1) p1)
  have hfr : Below 0 W5 (W5.setCell ⟨ob, i, none⟩ (.slice (some ⟨g1, 0, none⟩) (l.length + 1) p1)) := set_frame W5 ⟨ob, i, none⟩ (.slice (some ⟨g1, 0, none⟩) (l.length + 1) p1)
  have hcl : (cs ++ [Value.slice (some ⟨gA, 0, none⟩) n gc]).length = l.length + 1 := by have := h5.1; omega
  have hcs : cs.length = l.length := by simpa using hcl
  obtain ⟨g', cap', cur', hv', _, hg5, _⟩ : ∃ g' cap cur, (Value.slice (some ⟨g1, 0, none⟩) (l.length + 1) p1) = .slice (some ⟨g', 0, none⟩) (l.length + 1) cap ∧ base ≤ g' ∧ W5.heap[g']? = some (.cells cur 24) ∧ True := by
    rcases h5.2 with ⟨h, _⟩ | ⟨g', cap, cur, hv, h1, h2, _⟩
    · cases h
    · exact ⟨g', cap, cur, hv, h1, h2, trivial⟩
  have eg : g1 = g' := by injection hv' with e _ _; injection e with e; injection e
  subst eg
  have hg6 : (W5.setCell ⟨ob, i, none⟩ (.slice (some ⟨g1, 0, none⟩) (l.length + 1) p1)).heap[g1]? = some (.cells cur' 24) := (heap_setCell_other W5 ⟨ob, i, none⟩ g1 _ hg1).trans hg5
  obtain ⟨gcur, hgA3⟩ : ∃ cur, W3.heap[gA]? = some (.cells cur 3) := by
    rcases hc.2 with ⟨h, _⟩ | ⟨g', cap, cur, hv, h1, h2, _⟩
    · cases h
    · injection hv with e _ _; injection e with e; injection e with e; subst e; exact ⟨cur, h2⟩
  have hgA6 : (W5.setCell ⟨ob, i, none⟩ (.slice (some ⟨g1, 0, none⟩) (l.length + 1) p1)).heap[gA]? = W3.heap[gA]? := keep5 gA hA2 (fun e => by have := hv gA e; omega) (by omega)
  refine ⟨fun b => (X b ∧ v.ownBlock ≠ some b) ∨ b = gA ∨ b = g1, ⟨hfr.os.trans (hg.os.trans h3.os), hfr.tape.trans (hg.tape.trans h3.tape), hfr.output.trans (hg.output.trans h3.output), Nat.le_trans (show W.heap.size ≤ W5.heap.size by omega) hfr.size, fun b h1 h2 => keep b h1 (fun e => h2 (hgr.mine b e)) (fun e => h2 (e ▸ hx)), fun b hb => ?_, fun b hb => ?_⟩, .inl ⟨hx, hvo⟩, hvr6, fun e => hg1 (by simpa [Value.ownBlock] using e), ?_, fun b hb => .inr (.inr (by simpa [Value.ownBlock] using hb.symm)), fun k hk => ?_⟩
  · rcases hb with h | h | h
    · exact .inl h.1
    · exact .inr (by omega)
    · subst h
      rcases hat with h | h
      · exact .inl (hgr.mine _ h)
      · exact .inr (by omega)
  · rcases hb with ⟨h1, h2⟩ | h | h
    · by_cases e : b = ob
      · subst e
        obtain ⟨cur, hcur, _⟩ := hvr6
        exact ⟨_, hcur, rfl⟩
      · obtain ⟨u, k1, k2⟩ := hm.cells b h1
        exact ⟨u, (keep b (hm.lt h1) h2 e).trans k1, k2⟩
    · subst h; exact ⟨_, hgA6.trans hgA3, rfl⟩
    · subst h; exact ⟨_, hg6, rfl⟩
  · rw [List.length_append, List.length_singleton]
    exact own_keep h5 (fun b hb => heap_setCell_other W5 ⟨ob, i, none⟩ b _ (fun e => hg1 (by simp only [Value.ownBlock, Option.some.injEq] at hb; exact hb.trans e)))
  · rw [List.length_append, List.length_singleton] at hk
    by_cases e : k < l.length
    · obtain ⟨ra, rc, k1, k2⟩ := hgr.rows k e
      refine ⟨ra, rc, by rw [List.getElem?_append_left (by omega)]; exact k1, ?_⟩
      rw [List.getD_eq_getElem?_getD, List.getElem?_append_left e, ← List.getD_eq_getElem?_getD]
      refine k2.keep (fun b hb => ⟨.inl ⟨hb.1, hb.2.2⟩, hb.2.1, fun e => ?_⟩) (fun b hb => keep b (hm.lt hb.1) hb.2.2 hb.2.1)
      simp only [Value.ownBlock, Option.some.injEq] at e
      subst e
      rcases hat with h | h
      · exact hb.2.2 h
      · have := hm.lt hb.1; omega
    · have ek : k = l.length := by omega
      refine ⟨some ⟨gA, 0, none⟩, gc, by rw [List.getElem?_append_right (by omega), show k - cs.length = 0 by omega]; rfl, ?_⟩
      rw [List.getD_eq_getElem?_getD, List.getElem?_append_right (by omega), show k - l.length = 0 by omega]
      refine .inr ⟨gA, 0, rfl, ⟨.inr (.inl rfl), by omega, fun e => hgA (by simpa [Value.ownBlock] using e.symm)⟩, fun j hj => ?_⟩
      rw [Nat.zero_add]
      refine (World.cell?_of_block hgA6).trans ((hc.cellAt j (by omega)).trans ?_)
      rw [iC_get hj]
      rfl
/-- rows of fields that lie elsewhere than in a block -/
def FldO (ob : Nat) (W : World) (n : Nat) (v : Value) (l : List (List Int)) : Prop := ∃ a c, v = .slice a l.length c ∧ RowsR (fun b => b ≠ ob) W a l.length n (fun k => fOf (l.getD k []))
theorem cell_isCells {W : World} {b o : Nat} {v : Value} (h : W.cell? ⟨b, o, none⟩ = some v) : ∃ u, W.heap[b]? = some u ∧ u.isCells = true := by
  unfold World.cell? at h
  cases hb : W.heap[b]? with
  | none => simp [hb] at h
  | some u =>
    cases u with
    | cells cur t f => exact ⟨_, rfl, rfl⟩
    | _ => simp [hb] at h
theorem FldO.keeps {ob : Nat} {W W' : World} {n : Nat} {v : Value} {l : List (List Int)} (h : FldO ob W n v l) (hr : ∀ b, b < W.heap.size → b ≠ ob → (∃ u, W.heap[b]? = some u ∧ u.isCells = true) → W'.heap[b]? = W.heap[b]?) (hz : W.heap.size ≤ W'.heap.size) : FldO ob W' n v l := by
  obtain ⟨a, c, h1, h2⟩ := h
  refine ⟨a, c, h1, ?_⟩
  rcases h2 with h | ⟨b, off, ha, hB, hz2, hc⟩
  · exact .inl h
  · by_cases hl : l.length = 0
    · exact .inl hl
    · refine .inr ⟨b, off, ha, hB, by omega, fun i hi => ?_⟩
      obtain ⟨ra, rc, k1, k2⟩ := hc i hi
      refine ⟨ra, rc, (World.cell?_of_block (hr b hz2 hB (cell_isCells k1))).trans k1, ?_⟩
      rcases k2 with h | ⟨b2, off2, ha2, hB2, hz3, hc2⟩
      · exact .inl h
      · by_cases hn : n = 0
        · exact .inl hn
        · exact .inr ⟨b2, off2, ha2, hB2, by omega, fun i hi => (World.cell?_of_block (hr b2 hz3 hB2 (cell_isCells (hc2 0 (by omega))))).trans (hc2 i hi)⟩
theorem FldO.rests {ob : Nat} {W W' : World} {n : Nat} {v : Value} {l : List (List Int)} (h : FldO ob W n v l) (hr : ∀ b, b < W.heap.size → b ≠ ob → W'.heap[b]? = W.heap[b]?) (hz : W.heap.size ≤ W'.heap.size) : FldO ob W' n v l := h.keeps (fun b h1 h2 _ => hr b h1 h2) hz
theorem FldO.flds {ob : Nat} {W : World} {n : Nat} {v : Value} {l : List (List Int)} (h : FldO ob W n v l) : ∃ a c, v = .slice a l.length c ∧ Flds W.heap.size W a n l := by
  obtain ⟨a, c, h1, h2⟩ := h
  refine ⟨a, c, h1, ?_⟩
  rcases h2 with h | ⟨b, off, ha, hB, hz2, hc⟩
  · exact .inl (List.eq_nil_of_length_eq_zero h)
  · refine .inr ⟨b, off, ha, hz2, fun i hi => ?_⟩
    obtain ⟨ra, rc, k1, k2⟩ := hc i hi
    exact ⟨ra, rc, k1, k2.ints⟩
theorem GrowX.fldO {X : Nat → Prop} {ob base n : Nat} {v : Value} {l : List (List Int)} {cs : List Value} {W : World} (h : GrowX X ob base n v l cs W) (ho : v.ownBlock ≠ some ob) : FldO ob W n v l := by
  obtain ⟨a, c, rfl⟩ := own_len h.own
  refine ⟨a, c, rfl, ?_⟩
  by_cases hl : l.length = 0
  · exact .inl hl
  · obtain ⟨g, rfl, h1, h2⟩ := own_at h.own (by omega)
    refine .inr ⟨g, 0, rfl, fun e => ho (by rw [e]; rfl), h2, fun i hi => ?_⟩
    obtain ⟨ra, rc, k1, k2⟩ := h.rows i hi
    refine ⟨ra, rc, ?_, k2.ints.weak (fun b hb => hb.2.1)⟩
    rw [Nat.zero_add, h.own.cellAt i (by omega)]
    exact k1
/-- lists of fields, in a row -/
def AllAt (W : World) (ob t n : Nat) (L : Nat → List (List Int)) : Prop := ∃ vals, VR 138 W ob t vals ∧ ∀ j, j < t → FldO ob W n (vals j) (L j)
/-- how many fields there may be -/
theorem allF_le {n : Nat} {ss : Nat → SV} {m : Nat} {bs : Nat → BM} (hS : Shape n ss m bs) {K : Int} (hK : longB n ss K = false) : ((allF n ss m bs).length : Int) ≤ K := by
  have h1 := enumF_len (n := n) (ss := ss) (ag := fun f => agreesB m bs (fOf f)) n []
  have h2 := prodR_eq (n := n) (ss := ss) (fun i hi => (hS.span i hi).2.1) n (Nat.le_refl _)
  rw [Nat.sub_self] at h2
  have h4 := of_decide_eq_false hK
  have h5 : prodN ss 0 = 1 := rfl
  rw [h5, Int.mul_one] at h2
  unfold allF
  omega
theorem allF_dense {n : Nat} {ss : Nat → SV} {m : Nat} {bs : Nat → BM} (hS : Shape n ss m bs) : DenseL n (allF n ss m bs) := fun f hf c hc => by
  have := (allF_mem.1 hf).2.2 c hc
  have := hS.span c hc
  omega
/-- loops over fields that are behind a function: their marks -/
def marksOf (ds : List Nat) : List Deferred := ds.map fun D => { target := .collected D, args := #[] }
theorem leave_marks {P : Program} {fn : Func} {R : Ending → World → Prop} {tmps : Array Value} {n : Nat} {v : Value} : ∀ (ds : List Nat) (W : World), ds.Nodup → (∀ D ∈ ds, W.heap[D]? = some (.deferred (some []))) →
    (∀ W', W'.os = W.os → W'.tape = W.tape → W'.output = W.output → W'.heap.size = W.heap.size → (∀ b, b ∉ ds → W'.heap[b]? = W.heap[b]?) → (results fn tmps).run P W' = .ok v W' ∧ R (.returned v) W') → LeavesInM Fence.wide n P fn tmps R (marksOf ds) .returning W
  | [], W, _, _, h => by
    obtain ⟨h1, h2⟩ := h W rfl rfl rfl rfl (fun _ _ => rfl)
    exact ⟨_, h1, h2⟩
  | D :: ds, W, hn, hm, h => by
    refine ⟨by simp, .inl ⟨D, _, rfl, run_takeDeferred (hm D (by simp)), ?_⟩⟩
    obtain ⟨hn1, hn2⟩ := List.nodup_cons.1 hn
    refine leave_marks (v := v) ds _ hn2 (fun D' hD' => ?_) (fun W' h1 h2 h3 h4 h5 => ?_)
    · exact (World.putObj_heap_other (fun e => hn1 (by rw [← e]; exact hD'))).trans (hm D' (List.mem_cons_of_mem _ hD'))
    · refine h W' h1 h2 h3 (by simpa using h4) (fun b hb => ?_)
      rw [List.mem_cons, not_or] at hb
      exact (h5 b hb.2).trans (World.putObj_heap_other hb.1)
end Go.Proofs.YtkdopjkdokgipaaGreatDoor
