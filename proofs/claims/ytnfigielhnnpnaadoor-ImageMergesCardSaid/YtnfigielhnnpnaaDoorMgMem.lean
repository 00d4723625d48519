/- A row of beams that a call owns and that grows by append; the beams' lists lie elsewhere. -/
import Derived.Test.YtnfigielhnnpnaaDoorRefAl0
namespace Go.Proofs.YtnfigielhnnpnaaDoor
open Go.RowKit
set_option linter.unusedVariables false
set_option linter.unusedSimpArgs false
theorem mg_info_beam : (Tryd.prog.info? 57).map (fun i => (i.zero, i.size, i.bytes)) = some (some (.agg #[.slice none 0 0, .slice none 0 0, .int .i64 0, .int .i64 0]), 4, 64) := by kernel_rfl
theorem mg_beam_one {ca : Option Addr} {cn cc : Nat} {wa : Option Addr} {wn wc : Nat} {lo hi : Int} : ∀ u ∈ [Value.slice ca cn cc, .slice wa wn wc, .int .i64 lo, .int .i64 hi], u.oneCell' = true := by
  intro u hu
  simp at hu
  rcases hu with rfl | rfl | rfl | rfl <;> rfl
/-- a beam without the places of its lists -/
def BM.strip (p : BM) : BM := ⟨none, p.cn, 0, none, p.wn, 0, p.lo, p.hi, p.cs, p.ws⟩
def bm0 : BM := ⟨none, 0, 0, none, 0, 0, 0, 0, fun _ => 0, fun _ => 0⟩
def BM.cells (p : BM) : List Value := [.slice p.ca p.cn p.cc, .slice p.wa p.wn p.wc, .int .i64 p.lo, .int .i64 p.hi]
def bmC : List BM → List Value
  | [] => []
  | x :: t => x.cells ++ bmC t
theorem bmC_append : ∀ (a b : List BM), bmC (a ++ b) = bmC a ++ bmC b
  | [], b => rfl
  | h :: t, b => by rw [List.cons_append, bmC, bmC, bmC_append t b, List.append_assoc]
theorem bmC_one (x : BM) : bmC [x] = x.cells := by simp [bmC]
theorem bmC_len : ∀ (l : List BM), (bmC l).length = l.length * 4
  | [] => rfl
  | h :: t => by rw [bmC, List.length_append, bmC_len t]; simp [BM.cells]; omega
theorem bmC_get : ∀ (l : List BM) (i r : Nat) (z : BM), i < l.length → r < 4 → (bmC l)[i * 4 + r]? = (l.getD i z).cells[r]?
  | [], i, r, z, h, _ => by simp at h
  | h :: t, 0, r, z, _, hr => by
    rw [bmC, List.getElem?_append_left (by simp [BM.cells]; omega)]
    simp
  | h :: t, i + 1, r, z, hi, hr => by
    have e : (i + 1) * 4 + r - 4 = i * 4 + r := by omega
    rw [bmC, List.getElem?_append_right (by simp [BM.cells]; omega)]
    have : h.cells.length = 4 := rfl
    rw [this, e, bmC_get t i r z (by simpa using hi) hr]
    simp
/-- numbers that lie in a block of their own -/
def NL (base : Nat) (v : Value) (W : World) (a : Option Addr) (n : Nat) (f : Nat → Int) : Prop := n ≤ maxLen ∧ (n = 0 ∨ ∃ b, a = some ⟨b, 0, none⟩ ∧ base ≤ b ∧ b < W.heap.size ∧ v.ownBlock ≠ some b ∧ ∀ i, i < n → W.cell? ⟨b, i, none⟩ = some (.int .i64 (f i)))
structure BO (base : Nat) (v : Value) (W : World) (L : List BM) : Prop where
  own : W.ownsRow base 57 4 v L.length (bmC L)
  lists : ∀ p ∈ L, NL base v W p.ca p.cn p.cs ∧ NL base v W p.wa p.wn p.ws
section
variable {base : Nat} {v v' : Value} {W W' : World} {L : List BM} {a : Option Addr} {n : Nat} {f : Nat → Int}
theorem NL.keep (h : NL base v W a n f) (hz : W.heap.size ≤ W'.heap.size) (hk : ∀ b, b < W.heap.size → v.ownBlock ≠ some b → W'.heap[b]? = W.heap[b]?) (hv : ∀ b, b < W.heap.size → v.ownBlock ≠ some b → v'.ownBlock ≠ some b) : NL base v' W' a n f := by
  refine ⟨h.1, ?_⟩
  rcases h.2 with h | ⟨b, h1, h2, h3, h4, h5⟩
  · exact .inl h
  · exact .inr ⟨b, h1, h2, by omega, hv b h3 h4, fun i hi => (World.cell?_of_block (hk b h3 h4)).trans (h5 i hi)⟩
theorem NL.ints (h : NL base v W a n f) : Ints W.heap.size W a n f := by
  rcases h.2 with h | ⟨b, h1, h2, h3, h4, h5⟩
  · exact .inl h
  · exact .inr ⟨b, 0, h1, h3, fun i hi => by rw [Nat.zero_add]; exact h5 i hi⟩
theorem BO.step (h : BO base v W L) (hb : Below W.heap.size W W') : BO base v W' L :=
  ⟨own_below h.own hb, fun x hx => ⟨(h.lists x hx).1.keep hb.size (fun b h1 _ => hb.block b h1) (fun _ _ h => h), (h.lists x hx).2.keep hb.size (fun b h1 _ => hb.block b h1) (fun _ _ h => h)⟩⟩
theorem BO.ownlt (h : BO base v W L) : ∀ b, v.ownBlock = some b → base ≤ b ∧ b < W.heap.size := fun b hb => h.own.lt b hb
theorem BO.nil (base : Nat) (W : World) : BO base (.slice none 0 0) W [] := ⟨World.ownsRow_nil _ _ _ _, fun x hx => by cases hx⟩
/-- a beam more -/
theorem BO.push {W3 W5 : World} {x : BM} {g cap : Nat} {o : Obj} (h : BO base v W L) (hbase : base ≤ W.heap.size) (h3 : Below W.heap.size W W3)
    (hx1 : x.cn ≤ maxLen ∧ (x.cn = 0 ∨ ∃ b, x.ca = some ⟨b, 0, none⟩ ∧ W.heap.size ≤ b ∧ b < W3.heap.size ∧ ∀ i, i < x.cn → W3.cell? ⟨b, i, none⟩ = some (.int .i64 (x.cs i))))
    (hx2 : x.wn ≤ maxLen ∧ (x.wn = 0 ∨ ∃ b, x.wa = some ⟨b, 0, none⟩ ∧ W.heap.size ≤ b ∧ b < W3.heap.size ∧ ∀ i, i < x.wn → W3.cell? ⟨b, i, none⟩ = some (.int .i64 (x.ws i))))
    (ho : W5.ownsRow base 57 4 (.slice (some ⟨g, 0, none⟩) (L.length + 1) cap) (L.length + 1) (bmC L ++ x.cells)) (hg : (W3.alloc o).grownBy W5 v.ownBlock) (hat : v.ownBlock = some g ∨ g = (W3.alloc o).heap.size) :
    BO base (.slice (some ⟨g, 0, none⟩) (L.length + 1) cap) W5 (L ++ [x]) ∧ W.grownBy W5 v.ownBlock ∧ ((Value.slice (some ⟨g, 0, none⟩) (L.length + 1) cap).ownBlock = v.ownBlock ∨ ∃ b, (Value.slice (some ⟨g, 0, none⟩) (L.length + 1) cap).ownBlock = some b ∧ W.heap.size ≤ b) := by
  have hz3 := h3.size
  have hz4 : (W3.alloc o).heap.size = W3.heap.size + 1 := by simp
  have hz5 := hg.size
  have hol := h.ownlt
  have keep3 : ∀ b, b < W3.heap.size → v.ownBlock ≠ some b → W5.heap[b]? = W3.heap[b]? := fun b h1 h2 => (hg.block b (by omega) (Ne.symm h2)).trans (Below.heap_alloc W3 o b h1)
  have keep : ∀ b, b < W.heap.size → v.ownBlock ≠ some b → W5.heap[b]? = W.heap[b]? := fun b h1 h2 => (keep3 b (by omega) h2).trans (h3.block b h1)
  have hnv : ∀ b, b < W.heap.size → v.ownBlock ≠ some b → (Value.slice (some ⟨g, 0, none⟩) (L.length + 1) cap).ownBlock ≠ some b := fun b h1 h2 e => by
    have e' : g = b := by simpa [Value.ownBlock] using e
    rcases hat with q | q
    · exact h2 (by rw [q, e'])
    · omega
  have hnew : ∀ (a : Option Addr) (n : Nat) (f : Nat → Int), (n ≤ maxLen ∧ (n = 0 ∨ ∃ b, a = some ⟨b, 0, none⟩ ∧ W.heap.size ≤ b ∧ b < W3.heap.size ∧ ∀ i, i < n → W3.cell? ⟨b, i, none⟩ = some (.int .i64 (f i)))) → NL base (.slice (some ⟨g, 0, none⟩) (L.length + 1) cap) W5 a n f := fun a n f hh => by
    refine ⟨hh.1, ?_⟩
    rcases hh.2 with e | ⟨b, h1, h2, h4, h5⟩
    · exact .inl e
    · have hne : v.ownBlock ≠ some b := fun e => by have := (hol b e).2; omega
      refine .inr ⟨b, h1, by omega, by omega, fun e => ?_, fun i hi => (World.cell?_of_block (keep3 b h4 hne)).trans (h5 i hi)⟩
      have e' : g = b := by simpa [Value.ownBlock] using e
      rcases hat with q | q
      · exact hne (by rw [q, e'])
      · omega
  refine ⟨⟨?_, fun y hy => ?_⟩, ⟨hg.os.trans h3.os, hg.tape.trans h3.tape, hg.output.trans h3.output, by omega, fun b h1 h2 => keep b h1 (Ne.symm h2)⟩, ?_⟩
  · rw [bmC_append, bmC_one, List.length_append, List.length_singleton]
    exact ho
  · rw [List.mem_append, List.mem_singleton] at hy
    rcases hy with hy | rfl
    · exact ⟨(h.lists y hy).1.keep (by omega) keep hnv, (h.lists y hy).2.keep (by omega) keep hnv⟩
    · exact ⟨hnew _ _ _ hx1, hnew _ _ _ hx2⟩
  · rcases hat with q | q
    · exact .inl (by rw [q]; rfl)
    · exact .inr ⟨g, rfl, by omega⟩
def beamL (L : List BM) (i : Nat) : BM := L.getD i bm0
theorem beamL_mem {i : Nat} (hi : i < L.length) : beamL L i ∈ L := by
  unfold beamL
  rw [List.getD_eq_getElem?_getD, List.getElem?_eq_getElem hi]
  exact List.getElem_mem hi
/-- the beams as they lie in memory -/
theorem BO.beams {oa : Option Addr} {oc : Nat} (h : BO base (.slice oa L.length oc) W L) (hm : L.length ≤ maxLen) : Beams W.heap.size W oa L.length (beamL L) := by
  refine ⟨hm, ?_⟩
  by_cases hl : L.length = 0
  · exact .inl hl
  obtain ⟨g, rfl, h1, h2⟩ := own_at h.own (by omega)
  refine .inr ⟨g, 0, rfl, h2, fun i hi => ?_⟩
  have hc : ∀ r, r < 4 → W.cell? ⟨g, 0 + i * 4 + r, none⟩ = (beamL L i).cells[r]? := fun r hr => by
    rw [Nat.zero_add, h.own.cellAt (i * 4 + r) (by omega)]
    exact bmC_get L i r bm0 hi hr
  obtain ⟨q1, q2⟩ := h.lists _ (beamL_mem hi)
  exact ⟨⟨hc 0 (by omega), hc 1 (by omega), hc 2 (by omega), hc 3 (by omega)⟩, q1.1, q2.1, q1.ints, q2.ints⟩
end
end Go.Proofs.YtnfigielhnnpnaaDoor
