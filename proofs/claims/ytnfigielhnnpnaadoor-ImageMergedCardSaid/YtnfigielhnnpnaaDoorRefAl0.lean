/- A list of fields that a call owns and that grows by append; its rows lie elsewhere. No program here. -/
import Derived.Test.YtnfigielhnnpnaaDoorGjA
namespace Go.Proofs.YtnfigielhnnpnaaDoor
open Go.RowKit
set_option linter.unusedVariables false
set_option linter.unusedSimpArgs false
structure OutF (base n : Nat) (v : Value) (L : List (List Int)) (cs : List Value) (W : World) : Prop where
  own : W.ownsRow base 37 1 v L.length cs
  rows : ∀ k, k < L.length → ∃ ra rc, cs[k]? = some (.slice ra n rc) ∧ IntsX (fun b => base ≤ b ∧ b < W.heap.size ∧ v.ownBlock ≠ some b) W ra n (fOf (L.getD k []))
theorem OutF.ownlt {base n : Nat} {v : Value} {L : List (List Int)} {cs : List Value} {W : World} (h : OutF base n v L cs W) : ∀ b, v.ownBlock = some b → base ≤ b ∧ b < W.heap.size := fun b hb => by
  rcases h.own.2 with ⟨hv, _⟩ | ⟨g, cap, cur, hv, h1, h2, _⟩
  · rw [hv] at hb; cases hb
  · rw [hv] at hb
    have : g = b := by simpa [Value.ownBlock] using hb
    subst this
    exact ⟨h1, (Array.getElem?_eq_some_iff.1 h2).1⟩
theorem OutF.step {base n : Nat} {v : Value} {L : List (List Int)} {cs : List Value} {W W' : World} (h : OutF base n v L cs W) (hb : Below W.heap.size W W') : OutF base n v L cs W' :=
  ⟨own_below h.own hb, fun k hk => by
    obtain ⟨ra, rc, h1, h2⟩ := h.rows k hk
    exact ⟨ra, rc, h1, h2.keep (fun b h => ⟨h.1, Nat.lt_of_lt_of_le h.2.1 hb.size, h.2.2⟩) (fun b h => hb.block b h.2.1)⟩⟩
theorem OutF.nil (base n : Nat) (W : World) : OutF base n (.slice none 0 0) [] [] W := ⟨World.ownsRow_nil _ _ _ _, fun k hk => by simp at hk⟩
/-- a field more -/
theorem OutF.push {base n : Nat} {v : Value} {L : List (List Int)} {cs : List Value} {W W3 W5 : World} {g : List Int} {gA gc g1 p1 : Nat} {o : Obj} (h : OutF base n v L cs W) (hbase : base ≤ W.heap.size)
    (h3 : Below W.heap.size W W3) (hc : W3.ownsRow W.heap.size 3 1 (.slice (some ⟨gA, 0, none⟩) n gc) n (iC (fOf g) n)) (hA1 : W.heap.size ≤ gA) (hA2 : gA < W3.heap.size)
    (h5 : W5.ownsRow base 37 1 (.slice (some ⟨g1, 0, none⟩) (L.length + 1) p1) (L.length + 1) (cs ++ [.slice (some ⟨gA, 0, none⟩) n gc])) (hg : (W3.alloc o).grownBy W5 v.ownBlock) (hat : v.ownBlock = some g1 ∨ g1 = (W3.alloc o).heap.size) :
    OutF base n (.slice (some ⟨g1, 0, none⟩) (L.length + 1) p1) (L ++ [g]) (cs ++ [.slice (some ⟨gA, 0, none⟩) n gc]) W5 ∧ W.grownBy W5 v.ownBlock := by
  have hz3 := h3.size
  have hz4 : (W3.alloc o).heap.size = W3.heap.size + 1 := by simp
  have hz5 := hg.size
  have hol := h.ownlt
  have hcs : cs.length = L.length := by have := h.own.1; omega
  have hgA : gA ≠ g1 := by
    rcases hat with e | e
    · have := (hol g1 e).2; omega
    · omega
  have keep : ∀ b, b < W3.heap.size → v.ownBlock ≠ some b → W5.heap[b]? = W3.heap[b]? := fun b h1 h2 => (hg.block b (by omega) (Ne.symm h2)).trans (Below.heap_alloc W3 o b h1)
  refine ⟨⟨by rw [List.length_append, List.length_singleton]; exact h5, fun k hk => ?_⟩, hg.os.trans h3.os, hg.tape.trans h3.tape, hg.output.trans h3.output, by omega, fun b h1 h2 => (keep b (by omega) (fun e => h2 e.symm)).trans (h3.block b h1)⟩
  rw [List.length_append, List.length_singleton] at hk
  by_cases e : k < L.length
  · obtain ⟨ra, rc, h1, h2⟩ := h.rows k e
    refine ⟨ra, rc, by rw [List.getElem?_append_left (by omega)]; exact h1, ?_⟩
    rw [List.getD_eq_getElem?_getD, List.getElem?_append_left e, ← List.getD_eq_getElem?_getD]
    refine h2.keep (fun b h => ⟨h.1, by have := h.2.1; omega, fun e => ?_⟩) (fun b h => (keep b (by have := h.2.1; omega) h.2.2).trans (h3.block b h.2.1))
    have e' : g1 = b := by simpa [Value.ownBlock] using e
    rcases hat with q | q
    · exact h.2.2 (by rw [q, e'])
    · have := h.2.1; omega
  · have ek : k = L.length := by omega
    refine ⟨some ⟨gA, 0, none⟩, gc, by rw [List.getElem?_append_right (by omega), show k - cs.length = 0 by omega]; rfl, ?_⟩
    rw [List.getD_eq_getElem?_getD, List.getElem?_append_right (by omega), show k - L.length = 0 by omega]
    refine .inr ⟨gA, 0, rfl, ⟨by omega, by omega, fun e => hgA (by simpa [Value.ownBlock] using e.symm)⟩, fun j hj => ?_⟩
    have hne : v.ownBlock ≠ some gA := fun e => by have := (hol gA e).2; omega
    rw [Nat.zero_add]
    refine (World.cell?_of_block (keep gA hA2 hne)).trans ((hc.cellAt j (by omega)).trans ?_)
    rw [iC_get hj]
    rfl
theorem OutF.flds {base n : Nat} {v : Value} {L : List (List Int)} {cs : List Value} {W : World} (h : OutF base n v L cs W) : ∃ a c, v = .slice a L.length c ∧ Flds W.heap.size W a n L := by
  obtain ⟨a, c, rfl⟩ := own_len h.own
  refine ⟨a, c, rfl, ?_⟩
  by_cases hl : L = []
  · exact .inl hl
  · have hp : 0 < L.length := List.length_pos_iff.2 hl
    obtain ⟨g, rfl, h1, h2⟩ := own_at h.own hp
    refine .inr ⟨g, 0, rfl, h2, fun i hi => ?_⟩
    obtain ⟨ra, rc, k1, k2⟩ := h.rows i hi
    refine ⟨ra, rc, by rw [Nat.zero_add, h.own.cellAt i (by omega)]; exact k1, ?_⟩
    rcases k2 with k2 | ⟨b, off, e1, e2, e3⟩
    · exact .inl k2
    · exact .inr ⟨b, off, e1, e2.2.1, e3⟩
/-- what follows from the blocks that are kept -/
theorem grown_trans {V W W' : World} {v v' : Option Nat} (h1 : V.grownBy W v) (h2 : W.grownBy W' v') (hv : v' = v ∨ ∃ b, v' = some b ∧ V.heap.size ≤ b) : V.grownBy W' v :=
  ⟨h2.os.trans h1.os, h2.tape.trans h1.tape, h2.output.trans h1.output, Nat.le_trans h1.size h2.size, fun b hb hn => by
    refine (h2.block b (Nat.lt_of_lt_of_le hb h1.size) (fun e => ?_)).trans (h1.block b hb hn)
    rcases hv with q | ⟨b', q, hb'⟩
    · exact hn (e.trans q)
    · rw [q] at e; injection e with e; omega⟩
theorem grown_alloc {W V : World} {v : Option Nat} {o : Obj} (h : (W.alloc o).grownBy V v) : W.grownBy V v :=
  ⟨h.os, h.tape, h.output, Nat.le_trans (by simp) h.size, fun b hb hn => (h.block b (by simp; omega) hn).trans (Below.heap_alloc W o b hb)⟩
theorem dens_take {s : SV} {k : Nat} (hk : k < densN s) : (dens s).take (k + 1) = (dens s).take k ++ [s.lo + (k : Int)] := by
  have hl : k < (dens s).length := by simpa [dens, densN] using hk
  rw [List.take_add_one, List.getElem?_eq_getElem hl]
  simp [dens]
theorem iC_snoc (pre : List Int) (d : Int) : iC (fOf pre) pre.length ++ [.int .i64 d] = iC (fOf (pre ++ [d])) (pre.length + 1) := by
  apply List.ext_getElem?
  intro j
  by_cases h : j < pre.length
  · rw [List.getElem?_append_left (by rw [iC_len]; exact h), iC_get h, iC_get (by omega)]
    congr 2
    unfold fOf
    rw [List.getD_eq_getElem?_getD, List.getD_eq_getElem?_getD, List.getElem?_append_left h]
  · rw [List.getElem?_append_right (by rw [iC_len]; omega), iC_len]
    by_cases h2 : j = pre.length
    · subst h2
      rw [Nat.sub_self, iC_get (by omega)]
      unfold fOf
      rw [List.getD_eq_getElem?_getD, List.getElem?_append_right (Nat.le_refl _), Nat.sub_self]
      rfl
    · rw [List.getElem?_eq_none_iff.2 (by simp; omega), List.getElem?_eq_none_iff.2 (by rw [iC_len]; omega)]
end Go.Proofs.YtnfigielhnnpnaaDoor
