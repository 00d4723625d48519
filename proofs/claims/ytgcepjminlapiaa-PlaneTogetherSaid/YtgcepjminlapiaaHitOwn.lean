/- Rows of hits that a call owns. -/
import Derived.Test.YtgcepjminlapiaaRowOwn
import Derived.Test.YtgcepjminlapiaaHitRows
import Derived.Test.YtgcepjminlapiaaPlaneT
namespace Go.Proofs.Ytgcepjminlapiaa
open Go.RowKit
set_option linter.unusedVariables false
set_option linter.unusedSimpArgs false
def HV.cells (h : HV) : List Value := [.int .i64 h.plane, .int .i64 h.channel, .int .i64 h.many, .int .i64 h.drift, .int .i64 h.charge, .int .i64 h.time]
/-- the cells of some hits -/
def hC : List HV → List Value
  | [] => []
  | h :: t => h.cells ++ hC t
theorem hC_append : ∀ (a b : List HV), hC (a ++ b) = hC a ++ hC b
  | [], b => rfl
  | h :: t, b => by rw [List.cons_append, hC, hC, hC_append t b, List.append_assoc]
theorem hC_one (h : HV) : hC [h] = h.cells := by simp [hC]
theorem hC_len : ∀ (l : List HV), (hC l).length = l.length * 6
  | [] => rfl
  | h :: t => by rw [hC, List.length_append, hC_len t]; simp [HV.cells]; omega
theorem hC_get : ∀ (l : List HV) (i r : Nat) (z : HV), i < l.length → r < 6 → (hC l)[i * 6 + r]? = (l.getD i z).cells[r]?
  | [], i, r, z, hi, _ => by simp at hi
  | h :: t, 0, r, z, hi, hr => by
    rw [hC, List.getElem?_append_left (by simp [HV.cells]; omega)]
    simp
  | h :: t, i + 1, r, z, hi, hr => by
    have e : (i + 1) * 6 + r = i * 6 + r + 6 := by omega
    rw [hC, List.getElem?_append_right (by simp [HV.cells]; omega), e]
    have : i * 6 + r + 6 - h.cells.length = i * 6 + r := by simp [HV.cells]
    rw [this, hC_get t i r z (by simpa using hi) hr]
    simp
def hv0 : HV := ⟨0, 0, 0, 0, 0, 0⟩
theorem own_hits {w : World} {base : Nat} {e : TypeId} {a : Option Addr} {m c n : Nat} {L : List HV} (h : w.ownsRow base e 6 (.slice a m c) n (hC L)) (hn : n ≤ maxLen) : m = n ∧ n = L.length ∧ Hits w.heap.size w a n (fun i => L.getD i hv0) := by
  have hl : n = L.length := by have := h.1; rw [hC_len] at this; omega
  rcases h.2 with ⟨hv, h0⟩ | ⟨g, cap, cur, hv, hb, hg, hnc, hcm, hcs, htake⟩
  · injection hv with h1 h2 h3
    exact ⟨by omega, hl, hn, .inl h0⟩
  · injection hv with h1 h2 h3
    refine ⟨h2, hl, hn, .inr ⟨g, 0, h1, (Array.getElem?_eq_some_iff.1 hg).1, fun i hi => ?_⟩⟩
    have key : ∀ r, r < 6 → w.cell? ⟨g, 0 + i * 6 + r, none⟩ = (L.getD i hv0).cells[r]? := fun r hr => by
      rw [Nat.zero_add, cell_of_row w g _ cur e (0, 0) hg, ← hC_get L i r hv0 (by omega) hr, ← htake, List.getElem?_take_of_lt (by omega)]
      simp
    exact ⟨key 0 (by omega), key 1 (by omega), key 2 (by omega), key 3 (by omega), key 4 (by omega), key 5 (by omega)⟩
/-- the block of hits that unpack owns is none of the others -/
theorem own_off {W : World} {base : Nat} {e t : TypeId} {s : Nat} {v : Value} {n : Nat} {xs : List Value} {g : Nat} {cur : Array Value} {f : Nat × Nat} (h : W.ownsRow base e s v n xs) (hg : W.heap[g]? = some (.cells cur t f)) (ht : e ≠ t) : v.ownBlock ≠ some g := by
  rcases h.2 with ⟨rfl, _⟩ | ⟨g', cap', cur', rfl, _, hg', _⟩
  · simp [Value.ownBlock]
  · simp only [Value.ownBlock, ne_eq, Option.some.injEq]
    intro e'
    subst e'
    rw [hg] at hg'
    injection hg' with hg'
    injection hg' with _ h _
    exact ht h.symm
theorem info_hit : (Try.prog.info? 26).map (fun i => (i.zero, i.size, i.bytes)) = some (some (.agg #[.int .i64 0, .int .i64 0, .int .i64 0, .int .i64 0, .int .i64 0, .int .i64 0]), 6, 48) := by kernel_rfl
theorem hv_one {h : HV} : ∀ u ∈ h.cells, u.oneCell' = true := by
  intro u hu
  simp [HV.cells] at hu
  rcases hu with rfl | rfl | rfl | rfl | rfl | rfl <;> rfl
end Go.Proofs.Ytgcepjminlapiaa
