/- Hits as data; which hits are as defined. No program here. -/
import Derived.Test.YtegimepmccilfaaGreatDoorPlaneData
namespace Go.Proofs.YtegimepmccilfaaGreatDoor
open Go.RowKit
set_option linter.unusedVariables false
set_option linter.unusedSimpArgs false
structure HV where
  plane : Int
  channel : Int
  many : Int
  drift : Int
  charge : Int
  time : Int
abbrev HV.val (h : HV) : Value := .agg #[.int .i64 h.plane, .int .i64 h.channel, .int .i64 h.many, .int .i64 h.drift, .int .i64 h.charge, .int .i64 h.time]
def hitPre (p : PR) (h : HV) : Bool := withinB h.channel 0 (p.strips - 1) && (withinB h.many 1 (p.strips - h.channel) && (withinB h.charge p.least 1000000 && withinB h.time (-1000000000) 1000000000))
def noDeadAt (p : PR) (h : HV) (j : Nat) : Bool := !withinB (p.es j) h.channel (h.channel + h.many - 1)
def hitKind (p : PR) (h : HV) : Bool := if p.kind = 2 then (h.many == 1) && withinB h.drift 0 1000000 else (h.drift == 0) && ((p.kind != 3) || (h.time == 0))
def hitB (p : PR) (h : HV) : Bool := hitPre p h && (allUpto p.en (noDeadAt p h) && hitKind p h)
def ofB (n : Nat) (ps : Nat → PR) (h : HV) : Bool := withinB h.plane 0 ((n : Int) - 1) && hitB (ps h.plane.toNat) h
theorem hitPre_iff {p : PR} {h : HV} : hitPre p h = true ↔ (0 ≤ h.channel ∧ h.channel ≤ p.strips - 1) ∧ (1 ≤ h.many ∧ h.many ≤ p.strips - h.channel) ∧ (p.least ≤ h.charge ∧ h.charge ≤ 1000000) ∧ (-1000000000 ≤ h.time ∧ h.time ≤ 1000000000) := by
  simp only [hitPre, Bool.and_eq_true, withinB_iff]
theorem hitB_pre {p : PR} {h : HV} (hh : ¬ hitPre p h = true) : hitB p h = false := by simp [hitB, hh]
theorem hitB_dead {p : PR} {h : HV} {k : Nat} (hk : k < p.en) (hh : noDeadAt p h k = false) : hitB p h = false := by simp [hitB, allUpto_false hk hh]
theorem hitB_end {p : PR} {h : HV} {k : Nat} (h1 : hitPre p h = true) (hk : k = p.en) (hh : ∀ j, j < k → noDeadAt p h j = true) : hitB p h = hitKind p h := by
  subst hk; simp [hitB, h1, allUpto_true hh]
/-- what a setup as defined gives of each of its planes -/
theorem checkB_plane {n : Nat} {ps : Nat → PR} (h : checkB n ps = true) {k : Nat} (hk : k < n) : properB (ps k) = true := by
  simp only [checkB, Bool.and_eq_true, allUpto_iff] at h
  have := h.1 k hk
  simp only [planeAt, Bool.and_eq_true] at this
  exact this.1
theorem checkB_n {n : Nat} {ps : Nat → PR} (h : checkB n ps = true) : 1 ≤ n ∧ n ≤ 16 := by
  simp only [checkB, Bool.and_eq_true, withinB_iff] at h
  omega
theorem properB_shaped {p : PR} (h : properB p = true) : Shaped p := by
  simp only [properB, Bool.and_eq_true] at h
  exact shapedB_iff.1 h.2.1
theorem properB_k {p : PR} (h : properB p = true) : 1 ≤ p.kind ∧ p.kind ≤ 3 := by
  simp only [properB, Bool.and_eq_true] at h
  exact withinB_iff.1 h.1
theorem Planes.get {B : Nat} {w : World} {a : Option Addr} {n : Nat} {ps : Nat → PR} (h : Planes B w a n ps) {k : Nat} (hk : k < n) : ∃ b off, a = some ⟨b, off, none⟩ ∧ b < B ∧ (ps k).at w b (off + k * 15) ∧ (ps k).mem B w := by
  rcases h.2 with h | ⟨b, off, ha, hB, hc⟩
  · omega
  · exact ⟨b, off, ha, hB, (hc k hk).1, (hc k hk).2⟩
end Go.Proofs.YtegimepmccilfaaGreatDoor
