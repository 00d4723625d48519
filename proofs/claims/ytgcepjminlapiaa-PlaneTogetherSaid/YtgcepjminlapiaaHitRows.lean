/- Slices of hits that lie in memory. -/
import Derived.Test.YtgcepjminlapiaaHitData
namespace Go.Proofs.Ytgcepjminlapiaa
open Go.RowKit
set_option linter.unusedVariables false
set_option linter.unusedSimpArgs false
def HV.at (h : HV) (w : World) (b o : Nat) : Prop := w.cell? ⟨b, o, none⟩ = some (.int .i64 h.plane) ∧ w.cell? ⟨b, o + 1, none⟩ = some (.int .i64 h.channel) ∧ w.cell? ⟨b, o + 2, none⟩ = some (.int .i64 h.many) ∧ w.cell? ⟨b, o + 3, none⟩ = some (.int .i64 h.drift) ∧ w.cell? ⟨b, o + 4, none⟩ = some (.int .i64 h.charge) ∧ w.cell? ⟨b, o + 5, none⟩ = some (.int .i64 h.time)
def Hits (B : Nat) (w : World) (a : Option Addr) (n : Nat) (hs : Nat → HV) : Prop :=
  n ≤ maxLen ∧ (n = 0 ∨ ∃ b off, a = some ⟨b, off, none⟩ ∧ b < B ∧ ∀ i, i < n → (hs i).at w b (off + i * 6))
theorem HV.at.below {h : HV} {w w' : World} {B b o : Nat} (hh : h.at w b o) (hb : Below B w w') (hB : b < B) : h.at w' b o := by
  obtain ⟨h0, h1, h2, h3, h4, h5⟩ := hh
  have c := (bcell hb).1
  exact ⟨(c _ _ hB).trans h0, (c _ _ hB).trans h1, (c _ _ hB).trans h2, (c _ _ hB).trans h3, (c _ _ hB).trans h4, (c _ _ hB).trans h5⟩
theorem Hits.below {B : Nat} {w w' : World} {a : Option Addr} {n : Nat} {hs : Nat → HV} (h : Hits B w a n hs) (hb : Below B w w') : Hits B w' a n hs := by
  refine ⟨h.1, ?_⟩
  rcases h.2 with h | ⟨b, off, ha, hB, hc⟩
  · exact .inl h
  · exact .inr ⟨b, off, ha, hB, fun i hi => (hc i hi).below hb hB⟩
theorem Hits.up {B B' : Nat} {w : World} {a : Option Addr} {n : Nat} {hs : Nat → HV} (h : Hits B w a n hs) (hb : B ≤ B') : Hits B' w a n hs := by
  refine ⟨h.1, ?_⟩
  rcases h.2 with h | ⟨b, off, ha, hB, hc⟩
  · exact .inl h
  · exact .inr ⟨b, off, ha, by omega, hc⟩
theorem Hits.get {B : Nat} {w : World} {a : Option Addr} {n : Nat} {hs : Nat → HV} (h : Hits B w a n hs) {i : Nat} (hi : i < n) : ∃ b off, a = some ⟨b, off, none⟩ ∧ b < B ∧ (hs i).at w b (off + i * 6) := by
  rcases h.2 with h | ⟨b, off, ha, hB, hc⟩
  · omega
  · exact ⟨b, off, ha, hB, hc i hi⟩
end Go.Proofs.Ytgcepjminlapiaa
