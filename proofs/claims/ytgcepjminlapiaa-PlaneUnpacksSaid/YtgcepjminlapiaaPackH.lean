/- What unpack holds while it reads: its boxes, the hits that it owns, the bytes still to be read. -/
import Derived.Test.YtgcepjminlapiaaPackG
import Derived.OneCell
namespace Go.Proofs.Ytgcepjminlapiaa
open Go.RowKit
set_option linter.unusedVariables false
set_option linter.unusedSimpArgs false
def HV.cells (h : HV) : List Value := [.int .i64 h.plane, .int .i64 h.channel, .int .i64 h.many, .int .i64 h.drift, .int .i64 h.charge, .int .i64 h.time]
/-- the cells of some hits -/
def hC : List HV → List Value
  | [] => []
  | h :: t => h.cells ++ hC t
theorem hC_append : ∀ (a b : List HV), hC (a ++ b) = hC a ++ hC b
  | [], b => rfl
  | h :: t, b => by rw [List.cons_append, hC, hC, hC_append t b, List.append_assoc]
theorem hC_one (h : HV) : hC [h] = h.cells := by simp [hC]
theorem hC_len : ∀ (l : List HV), (hC l).length = l.length * 6
  | [] => rfl
  | h :: t => by rw [hC, List.length_append, hC_len t]; simp [HV.cells]; omega
theorem hC_get : ∀ (l : List HV) (i r : Nat) (z : HV), i < l.length → r < 6 → (hC l)[i * 6 + r]? = (l.getD i z).cells[r]?
  | [], i, r, z, hi, _ => by simp at hi
  | h :: t, 0, r, z, hi, hr => by
    rw [hC, List.getElem?_append_left (by simp [HV.cells]; omega)]
    simp
  | h :: t, i + 1, r, z, hi, hr => by
    have e : (i + 1) * 6 + r = i * 6 + r + 6 := by omega
    rw [hC, List.getElem?_append_right (by simp [HV.cells]; omega), e]
    have : i * 6 + r + 6 - h.cells.length = i * 6 + r := by simp [HV.cells]
    rw [this, hC_get t i r z (by simpa using hi) hr]
    simp
def hv0 : HV := ⟨0, 0, 0, 0, 0, 0⟩
theorem own_hits {w : World} {base : Nat} {e : TypeId} {a : Option Addr} {m c n : Nat} {L : List HV} (h : w.ownsRow base e 6 (.slice a m c) n (hC L)) (hn : n ≤ maxLen) : m = n ∧ n = L.length ∧ Hits w.heap.size w a n (fun i => L.getD i hv0) := by
  have hl : n = L.length := by have := h.1; rw [hC_len] at this; omega
  rcases h.2 with ⟨hv, h0⟩ | ⟨g, cap, cur, hv, hb, hg, hnc, hcm, hcs, htake⟩
  · injection hv with h1 h2 h3
    exact ⟨by omega, hl, hn, .inl h0⟩
  · injection hv with h1 h2 h3
    refine ⟨h2, hl, hn, .inr ⟨g, 0, h1, (Array.getElem?_eq_some_iff.1 hg).1, fun i hi => ?_⟩⟩
    have key : ∀ r, r < 6 → w.cell? ⟨g, 0 + i * 6 + r, none⟩ = (L.getD i hv0).cells[r]? := fun r hr => by
      rw [Nat.zero_add, cell_of_row w g _ cur e (0, 0) hg, ← hC_get L i r hv0 (by omega) hr, ← htake, List.getElem?_take_of_lt (by omega)]
      simp
    exact ⟨key 0 (by omega), key 1 (by omega), key 2 (by omega), key 3 (by omega), key 4 (by omega), key 5 (by omega)⟩
/-- what does not change while unpack reads -/
structure UC (w : World) (hb ob pb b off C : Nat) (l : List Nat) : Prop where
  bytes : ∀ x ∈ l, x < 256
  room : l.length + 2 ≤ C
  most : C ≤ maxLen
  lt : b < w.heap.size
  h : w.heap.size ≤ hb
  o : w.heap.size ≤ ob
  p : w.heap.size ≤ pb
  hp : hb ≠ pb
  op : ob ≠ pb
  ho : hb ≠ ob
  cells : ∀ i, i < l.length → w.cell? ⟨b, off + i, none⟩ = some (.int .u8 ((l.getD i 0 : Nat) : Int))
/-- what unpack holds: the hits L in v, the bytes from place k on -/
structure US (w : World) (hb ob pb b off C : Nat) (l : List Nat) (L : List HV) (v : Value) (k : Nat) (W : World) : Prop where
  below : Below w.heap.size w W
  own : W.ownsRow w.heap.size 26 6 v L.length (hC L)
  hbox : W.heap[hb]? = some (.cells #[v] 65)
  obox : W.heap[ob]? = some (.cells #[.bool false] 4)
  pbox : W.heap[pb]? = some (restAt b off l.length C k)
  le : k ≤ l.length
/-- the block of hits that unpack owns is none of the others -/
theorem own_off {W : World} {base : Nat} {e t : TypeId} {s : Nat} {v : Value} {n : Nat} {xs : List Value} {g : Nat} {cur : Array Value} {f : Nat × Nat} (h : W.ownsRow base e s v n xs) (hg : W.heap[g]? = some (.cells cur t f)) (ht : e ≠ t) : v.ownBlock ≠ some g := by
  rcases h.2 with ⟨rfl, _⟩ | ⟨g', cap', cur', rfl, _, hg', _⟩
  · simp [Value.ownBlock]
  · simp only [Value.ownBlock, ne_eq, Option.some.injEq]
    intro e'
    subst e'
    rw [hg] at hg'
    injection hg' with hg'
    injection hg' with _ h _
    exact ht h.symm
section
variable {w : World} {hb ob pb b off C : Nat} {l : List Nat} {L : List HV} {v : Value} {k k' x : Nat} {W W' : World}
theorem US.alloc (h : US w hb ob pb b off C l L v k W) (o : Obj) : US w hb ob pb b off C l L v k (W.alloc o) :=
  ⟨h.below.alloc h.below.size o, h.own.alloc o, (heapQ_old (Array.getElem?_eq_some_iff.1 h.hbox).1).trans h.hbox, (heapQ_old (Array.getElem?_eq_some_iff.1 h.obox).1).trans h.obox, (heapQ_old (Array.getElem?_eq_some_iff.1 h.pbox).1).trans h.pbox, h.le⟩
theorem US.take (c : UC w hb ob pb b off C l) (h : US w hb ob pb b off C l L v k W) (hg : W.grownBy W' (some pb)) (hp : W'.heap[pb]? = some (restAt b off l.length C k')) (hk : k' ≤ l.length) : US w hb ob pb b off C l L v k' W' :=
  ⟨h.below.grown hg h.below.size (fun g e => by injection e with e; rw [← e]; exact c.p), h.own.kept hg (.inr (own_off h.own h.pbox (by decide))), (hg.block _ (Array.getElem?_eq_some_iff.1 h.hbox).1 (by simpa using c.hp)).trans h.hbox, (hg.block _ (Array.getElem?_eq_some_iff.1 h.obox).1 (by simpa using c.op)).trans h.obox, hp, hk⟩
theorem US.calls (c : UC w hb ob pb b off C l) (h : US w hb ob pb b off C l L v k W) : Calls Try.prog 89 #[.pointer (some ⟨pb, 0, none⟩)] W (TakeRes pb b off C l k W) :=
  take_any pb b off C l k W c.bytes c.room c.most h.le (by have := c.lt; have := c.p; omega) (Nat.lt_of_lt_of_le c.lt h.below.size) (fun i hi => ((bcell h.below).1 _ _ c.lt).trans (c.cells i hi)) h.pbox
theorem US.ok (c : UC w hb ob pb b off C l) (h : US w hb ob pb b off C l L v k W) (ht : tkP l k = some (x, k')) : Calls Try.prog 89 #[.pointer (some ⟨pb, 0, none⟩)] W fun e W' => e = .returned (.int .i64 (x : Int)) ∧ US w hb ob pb b off C l L v k' W' ∧ W.grownBy W' (some pb) :=
  (h.calls c).mono fun e W' ⟨hg, hr⟩ => by
    rw [ht] at hr
    exact ⟨hr.1, h.take c hg hr.2 (tkP_fits c.bytes ht).2.2, hg⟩
/-- what is left where reading was given up -/
structure UP (w : World) (hb ob : Nat) (v : Value) (W : World) : Prop where
  below : Below w.heap.size w W
  hbox : W.heap[hb]? = some (.cells #[v] 65)
  obox : W.heap[ob]? = some (.cells #[.bool false] 4)
theorem US.bad (c : UC w hb ob pb b off C l) (h : US w hb ob pb b off C l L v k W) (ht : tkP l k = none) : Calls Try.prog 89 #[.pointer (some ⟨pb, 0, none⟩)] W fun e W' => e = .panicked wrongP ∧ UP w hb ob v W' :=
  (h.calls c).mono fun e W' ⟨hg, hr⟩ => by
    rw [ht] at hr
    exact ⟨hr, h.below.grown hg h.below.size (fun g e => by injection e with e; rw [← e]; exact c.p), (hg.block _ (Array.getElem?_eq_some_iff.1 h.hbox).1 (by simpa using c.hp)).trans h.hbox, (hg.block _ (Array.getElem?_eq_some_iff.1 h.obox).1 (by simpa using c.op)).trans h.obox⟩
/-- a store into a box of the round's own -/
theorem US.box (c : UC w hb ob pb b off C l) (h : US w hb ob pb b off C l L v k W) {hx j : Nat} (u : Value) (h1 : hx ≠ hb) (h2 : hx ≠ ob) (h3 : hx ≠ pb) (h4 : w.heap.size ≤ hx) (h5 : v.ownBlock ≠ some hx) : US w hb ob pb b off C l L v k (W.setCell ⟨hx, j, none⟩ u) :=
  ⟨h.below.setCell (p := ⟨hx, j, none⟩) h4 u, ownsRow_setCell_other h.own h5 u, (heap_setCell_other W ⟨hx, j, none⟩ hb u (Ne.symm h1)).trans h.hbox, (heap_setCell_other W ⟨hx, j, none⟩ ob u (Ne.symm h2)).trans h.obox, (heap_setCell_other W ⟨hx, j, none⟩ pb u (Ne.symm h3)).trans h.pbox, h.le⟩
/-- a hit more -/
theorem US.app (c : UC w hb ob pb b off C l) (h : US w hb ob pb b off C l L v k W) {q : HV} {v' : Value} (ho : W'.ownsRow w.heap.size 26 6 v' (L.length + 1) (hC L ++ q.cells)) (hg : W.grownBy W' v.ownBlock) :
    W'.heap[hb]? = some (.cells #[v] 65) ∧ US w hb ob pb b off C l (L ++ [q]) v' k (W'.setCell ⟨hb, 0, none⟩ v') := by
  have kt := KeepT.own h.own hg
  have e1 : W'.heap[hb]? = some (.cells #[v] 65) := (kt.2 _ (Array.getElem?_eq_some_iff.1 h.hbox).1 (fun cur f => by rw [h.hbox]; intro e; injection e with e; injection e with _ e; exact absurd e (by decide))).trans h.hbox
  have e2 : W'.heap[ob]? = some (.cells #[.bool false] 4) := (kt.2 _ (Array.getElem?_eq_some_iff.1 h.obox).1 (fun cur f => by rw [h.obox]; intro e; injection e with e; injection e with _ e; exact absurd e (by decide))).trans h.obox
  have e3 : W'.heap[pb]? = some (restAt b off l.length C k) := (kt.2 _ (Array.getElem?_eq_some_iff.1 h.pbox).1 (fun cur f => by rw [h.pbox]; intro e; injection e with e; injection e with _ e; exact absurd e (by decide))).trans h.pbox
  refine ⟨e1, ?_, ?_, heap_setCell_same W' hb 0 _ _ v' e1, (heap_setCell_other W' ⟨hb, 0, none⟩ ob v' (Ne.symm c.ho)).trans e2, (heap_setCell_other W' ⟨hb, 0, none⟩ pb v' (Ne.symm c.hp)).trans e3, h.le⟩
  · exact (h.below.grown hg h.below.size (fun g e => (h.own.lt g e).1)).setCell (p := ⟨hb, 0, none⟩) c.h v'
  · have hl : (L ++ [q]).length = L.length + 1 := by simp
    rw [hC_append, hC_one, hl]
    exact ownsRow_setCell_other ho (own_off ho e1 (by decide)) v'
theorem US.cells (h : US w hb ob pb b off C l L v k W) : W.cell? ⟨hb, 0, none⟩ = some v ∧ W.frozen? ⟨hb, 0, none⟩ = false ∧ W.cell? ⟨ob, 0, none⟩ = some (.bool false) ∧ W.frozen? ⟨ob, 0, none⟩ = false ∧ W.cell? ⟨pb, 0, none⟩ = some (.slice (some ⟨b, off + k, none⟩) (l.length - k) (C - k)) :=
  ⟨cell_of_row _ _ _ _ _ _ h.hbox, frozen_of_row _ _ _ _ _ h.hbox, cell_of_row _ _ _ _ _ _ h.obox, frozen_of_row _ _ _ _ _ h.obox, cell_of_row _ _ _ _ _ _ h.pbox⟩
end
end Go.Proofs.Ytgcepjminlapiaa
