/- Results that are wide structs. Written by gen_wide.py. -/
import Derived.Test.YtegimepmccilfaaGreatDoorWide
import Derived.Laws.ResultCell
namespace Go.Proofs.YtegimepmccilfaaGreatDoor
set_option linter.unusedVariables false
set_option linter.unusedSimpArgs false
open Go.RowKit
theorem setCells_drew (b : Nat) : ∀ (vs : List Value) (o : Nat) (w : World), w.drew.setCells b o vs = (w.setCells b o vs).drew
  | [], _, _ => rfl
  | v :: r, o, w => by rw [World.setCells, World.setCells, World.setCell_drew, setCells_drew b r]
attribute [go_sem] setCells_drew
theorem ret_cell_tmp {P : Program} {fn : Func} {p u : Tmp} {ty : TypeId} {d : TypeDesc} (h : fn.results = #[.cell p ty, .tmp u]) (tmps : Array Value) (w : World) (g : Nat) (cs : List Value) (hp : tmps.getD p undef = .pointer (some ⟨g, 0, none⟩)) (hr : w.rangeAt g 0 cs)
    (hu : P.underlying ty = some d) (hd : d.isRow = true) (hi : (P.info? ty).map (·.size) = some cs.length) : (results fn tmps).run P w = .ok (.tuple #[.agg cs.toArray, tmps.getD u undef]) w := by
  rw [results_cell_tmp h, hp]
  simp [asAddr, run_loadVar_mid w g 0 ty cs d hr hu hd hi]
theorem ret_cell_one {P : Program} {fn : Func} {p : Tmp} {ty : TypeId} {d : TypeDesc} (h : fn.results = #[.cell p ty]) (tmps : Array Value) (w : World) (g : Nat) (cs : List Value) (hp : tmps.getD p undef = .pointer (some ⟨g, 0, none⟩)) (hr : w.rangeAt g 0 cs)
    (hu : P.underlying ty = some d) (hd : d.isRow = true) (hi : (P.info? ty).map (·.size) = some cs.length) : (results fn tmps).run P w = .ok (.agg cs.toArray) w := by
  have hp' : tmps[p]?.getD undef = .pointer (some ⟨g, 0, none⟩) := by simpa using hp
  simp [results, h, hp', asAddr, run_loadVar_mid w g 0 ty cs d hr hu hd hi]
theorem range15 {w : World} {g : Nat} {c0 c1 c2 c3 c4 c5 c6 c7 c8 c9 c10 c11 c12 c13 c14 : Value} (h : w.cell? ⟨g, 0, none⟩ = some c0 ∧ w.cell? ⟨g, 1, none⟩ = some c1 ∧ w.cell? ⟨g, 2, none⟩ = some c2 ∧ w.cell? ⟨g, 3, none⟩ = some c3 ∧ w.cell? ⟨g, 4, none⟩ = some c4 ∧ w.cell? ⟨g, 5, none⟩ = some c5 ∧ w.cell? ⟨g, 6, none⟩ = some c6 ∧ w.cell? ⟨g, 7, none⟩ = some c7 ∧ w.cell? ⟨g, 8, none⟩ = some c8 ∧ w.cell? ⟨g, 9, none⟩ = some c9 ∧ w.cell? ⟨g, 10, none⟩ = some c10 ∧ w.cell? ⟨g, 11, none⟩ = some c11 ∧ w.cell? ⟨g, 12, none⟩ = some c12 ∧ w.cell? ⟨g, 13, none⟩ = some c13 ∧ w.cell? ⟨g, 14, none⟩ = some c14) : w.rangeAt g 0 [c0, c1, c2, c3, c4, c5, c6, c7, c8, c9, c10, c11, c12, c13, c14] := by
  obtain ⟨h0, h1, h2, h3, h4, h5, h6, h7, h8, h9, h10, h11, h12, h13, h14⟩ := h
  intro j v hv
  rw [Nat.zero_add]
  match j, hv with | 0, hv => (simp at hv; subst hv; exact h0) | 1, hv => (simp at hv; subst hv; exact h1) | 2, hv => (simp at hv; subst hv; exact h2) | 3, hv => (simp at hv; subst hv; exact h3) | 4, hv => (simp at hv; subst hv; exact h4) | 5, hv => (simp at hv; subst hv; exact h5) | 6, hv => (simp at hv; subst hv; exact h6) | 7, hv => (simp at hv; subst hv; exact h7) | 8, hv => (simp at hv; subst hv; exact h8) | 9, hv => (simp at hv; subst hv; exact h9) | 10, hv => (simp at hv; subst hv; exact h10) | 11, hv => (simp at hv; subst hv; exact h11) | 12, hv => (simp at hv; subst hv; exact h12) | 13, hv => (simp at hv; subst hv; exact h13) | 14, hv => (simp at hv; subst hv; exact h14) | k + 15, hv => simp at hv
theorem range16 {w : World} {g : Nat} {c0 c1 c2 c3 c4 c5 c6 c7 c8 c9 c10 c11 c12 c13 c14 c15 : Value} (h : w.cell? ⟨g, 0, none⟩ = some c0 ∧ w.cell? ⟨g, 1, none⟩ = some c1 ∧ w.cell? ⟨g, 2, none⟩ = some c2 ∧ w.cell? ⟨g, 3, none⟩ = some c3 ∧ w.cell? ⟨g, 4, none⟩ = some c4 ∧ w.cell? ⟨g, 5, none⟩ = some c5 ∧ w.cell? ⟨g, 6, none⟩ = some c6 ∧ w.cell? ⟨g, 7, none⟩ = some c7 ∧ w.cell? ⟨g, 8, none⟩ = some c8 ∧ w.cell? ⟨g, 9, none⟩ = some c9 ∧ w.cell? ⟨g, 10, none⟩ = some c10 ∧ w.cell? ⟨g, 11, none⟩ = some c11 ∧ w.cell? ⟨g, 12, none⟩ = some c12 ∧ w.cell? ⟨g, 13, none⟩ = some c13 ∧ w.cell? ⟨g, 14, none⟩ = some c14 ∧ w.cell? ⟨g, 15, none⟩ = some c15) : w.rangeAt g 0 [c0, c1, c2, c3, c4, c5, c6, c7, c8, c9, c10, c11, c12, c13, c14, c15] := by
  obtain ⟨h0, h1, h2, h3, h4, h5, h6, h7, h8, h9, h10, h11, h12, h13, h14, h15⟩ := h
  intro j v hv
  rw [Nat.zero_add]
  match j, hv with | 0, hv => (simp at hv; subst hv; exact h0) | 1, hv => (simp at hv; subst hv; exact h1) | 2, hv => (simp at hv; subst hv; exact h2) | 3, hv => (simp at hv; subst hv; exact h3) | 4, hv => (simp at hv; subst hv; exact h4) | 5, hv => (simp at hv; subst hv; exact h5) | 6, hv => (simp at hv; subst hv; exact h6) | 7, hv => (simp at hv; subst hv; exact h7) | 8, hv => (simp at hv; subst hv; exact h8) | 9, hv => (simp at hv; subst hv; exact h9) | 10, hv => (simp at hv; subst hv; exact h10) | 11, hv => (simp at hv; subst hv; exact h11) | 12, hv => (simp at hv; subst hv; exact h12) | 13, hv => (simp at hv; subst hv; exact h13) | 14, hv => (simp at hv; subst hv; exact h14) | 15, hv => (simp at hv; subst hv; exact h15) | k + 16, hv => simp at hv
end Go.Proofs.YtegimepmccilfaaGreatDoor
