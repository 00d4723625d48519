/- Arguments opened: setups and hits that come in. -/
import Derived.Test.YtegimepmccilfaaGreatDoorPlaneData
import Derived.Test.YtegimepmccilfaaGreatDoorHitData
import Derived.Test.YtegimepmccilfaaGreatDoorChecked
import Derived.WalkKit
import Derived.ProofKit
import Derived.OpenShut
import Derived.ChangeOld
import Derived.Below
import Derived.Deep.Slices
import Derived.Deep.Fields
import Derived.ChangeSame
import Derived.Lib.SmallJoins
namespace Go.Proofs.YtegimepmccilfaaGreatDoor
open Go.ChangeShapes Go.WideShapes Go.ChangeAt Go.RowKit Go.Deep Go.Joins
set_option linter.unusedVariables false
set_option linter.unusedSimpArgs false
theorem choose_upto {α : Type} [Nonempty α] {n : Nat} {Q : Nat → α → Prop} (h : ∀ i, i < n → ∃ x, Q i x) : ∃ f : Nat → α, ∀ i, i < n → Q i (f i) :=
  ⟨fun i => Classical.epsilon (Q i), fun i hi => Classical.epsilon_spec (h i hi)⟩
theorem cell_lt {w : World} {a : Addr} {v : Value} (h : w.cell? a = some v) : a.block < w.heap.size := by
  cases hh : w.heap[a.block]? with
  | none => simp [World.cell?, hh] at h
  | some o => exact (Array.getElem?_eq_some_iff.1 hh).1
theorem one_of_take {cs : List Value} {o c : Nat} {v : Value} (h : (cs.drop o).take c = [v]) : cs[o]? = some v := by
  have h0 : ((cs.drop o).take c)[0]? = some v := by rw [h]; rfl
  rw [List.getElem?_take] at h0
  split at h0
  · simpa using h0
  · simp at h0
section
variable {H : Type} {enc : TypeId × Value → H} {P : Program} {w : World} {base : Nat} {spare : Nat → Bool} {held : Bool}
theorem field_int {t : TypeId} {k : IntKind} {n o c : Nat} {cs : List Value} {y : Option (DataW H × List MemPlace)} {z : DataW H × List MemPlace} (ht : P.underlying t = some (.int k)) (h : DataW.trod enc P w base spare held n t ((cs.drop o).take c) = y) (hy : y = some z) : ∃ m, cs[o]? = some (.int k m) := by
  subst hy
  obtain ⟨m, hm, _⟩ := DataW.trod_int ht h
  exact ⟨m, one_of_take hm⟩
theorem add_at (b off k : Nat) : (⟨b, off, none⟩ : Addr).add k = ⟨b, off + k, none⟩ := by
  unfold Addr.add
  split
  · rename_i h; subst h; rfl
  · rfl
theorem take_one {cs : List Value} {o : Nat} {v : Value} (h : cs[o]? = some v) : (cs.drop o).take 1 = [v] := by
  obtain ⟨hl, rfl⟩ := List.getElem?_eq_some_iff.1 h
  rw [List.drop_eq_getElem_cons hl]; rfl
/-- a slice of structs that came in: nil, or cells at an address -/
theorem rows_of {t e : TypeId} {fuel k : Nat} {cs : List Value} {o c : Nat} {y : Option (DataW H × List MemPlace)} {z : DataW H × List MemPlace} (ht : P.underlying t = some (.slice e)) (hk : P.cellsOf e = k) (hk0 : 0 < k) (h : DataW.trod enc P w base (fun _ => true) held fuel t ((cs.drop o).take c) = y) (hy : y = some z) :
    ∃ (a : Option Addr) (len cap : Nat), cs[o]? = some (.slice a len cap) ∧ len ≤ maxLen ∧ len ≤ cap ∧ cap ≤ maxLen ∧ (len = 0 ∨ ∃ b off, a = some ⟨b, off, none⟩ ∧ b < w.heap.size ∧ ∀ i, i < len → ∃ cs' n x, cs'.length = k ∧ (∀ j, j < k → w.cell? ⟨b, off + i * k + j, none⟩ = cs'[j]?) ∧ DataW.trod enc P w base (fun _ => true) held n e cs' = some x) := by
  subst hy
  rcases open_slice ht h with ⟨hcs, _⟩ | ⟨a, len, cap, m, n, D, Pl, hcs, hb, hl, hm, hmm, hx, hi⟩
  · exact ⟨none, 0, 0, one_of_take hcs, by decide, by decide, by decide, .inl rfl⟩
  · refine ⟨some a, len, cap, one_of_take hcs, by omega, hl, hm, ?_⟩
    by_cases h0 : len = 0
    · exact .inl h0
    right
    simp only [if_true] at hmm
    obtain ⟨cs0, hc0, _⟩ := hi 0 (by omega)
    rw [hk] at hc0
    have hblk := World.cells?_block hc0 hk0
    obtain ⟨_, hl0, hat0⟩ := World.cells?_some hc0
    have hz := hat0 0 hk0
    rw [List.getElem?_eq_getElem (by omega)] at hz
    have hsp := World.cell?_spot hz
    obtain ⟨b, off, spot⟩ := a
    have hspot : spot = none := by simpa [Addr.add] using hsp
    subst hspot
    refine ⟨b, off, rfl, by simpa [Addr.add] using hblk, fun i hil => ?_⟩
    obtain ⟨cs', hc, ht'⟩ := hi i (by omega)
    rw [hk] at hc
    obtain ⟨_, hl', hat⟩ := World.cells?_some hc
    refine ⟨cs', n, _, hl', fun j hj => ?_, ht'⟩
    have := hat j hj
    rw [add_at, add_at] at this
    exact this
end
end Go.Proofs.YtegimepmccilfaaGreatDoor
