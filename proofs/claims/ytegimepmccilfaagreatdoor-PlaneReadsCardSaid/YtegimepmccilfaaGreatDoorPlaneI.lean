/- The walk of plane.Times. -/
import Derived.Test.YtegimepmccilfaaGreatDoorPlaneH0
namespace Go.Proofs.YtegimepmccilfaaGreatDoor
open Go.RowKit
set_option linter.unusedVariables false
set_option linter.unusedSimpArgs false
/-- what a hit that is as defined gives -/
theorem ofB_yes {n : Nat} {ps : Nat → PR} {h : HV} (hh : ofB n ps h = true) : ∃ k : Nat, k < n ∧ h.plane = k ∧ hitB (ps k) h = true := by
  simp only [ofB, Bool.and_eq_true, withinB_iff] at hh
  obtain ⟨⟨h1, h2⟩, h3⟩ := hh
  exact ⟨h.plane.toNat, by omega, by omega, h3⟩
theorem hitB_pre' {p : PR} {h : HV} (hh : hitB p h = true) : (0 ≤ h.channel ∧ h.channel ≤ p.strips - 1) ∧ (1 ≤ h.many ∧ h.many ≤ p.strips - h.channel) ∧ (p.least ≤ h.charge ∧ h.charge ≤ 1000000) ∧ (-1000000000 ≤ h.time ∧ h.time ≤ 1000000000) := by
  simp only [hitB, Bool.and_eq_true] at hh
  exact hitPre_iff.1 hh.1
set_option maxRecDepth 100000 in
set_option maxHeartbeats 1000000 in
theorem Times_bad (a : Option Addr) (n c : Nat) (ps : Nat → PR) (h : HV) (w : World) (B : Nat) (hBw : B ≤ w.heap.size) (hP : Planes B w a n ps) (hC : (checkB n ps && ofB n ps h) = false) :
    Calls Tryz.prog 15 #[setupV a n c, h.val] w fun e w' => e = .returned (.tuple #[.agg #[.int .i64 0, .int .i64 0], .int .i64 2]) ∧ Below w.heap.size w w' := by
  have HP := Lib.hid hP
  clear hP
  go_enter Tryz.func15, Tryz.ntmps15
  go_wp2_with (go_at_call 32; refine (known_any a n c ps h _ B (by simp; omega) (HP.out.below ((((Below.refl B w).alloc hBw _).alloc (by simp; omega) _).alloc (by simp; omega) _))).mono ?_; rintro e w1 ⟨rfl, hb⟩; have hz1 : w.heap.size + 3 ≤ w1.heap.size := (by have := hb.size; simp at this; omega); have hB1 : Below w.heap.size w w1 := (((((Below.refl _ _).alloc (Nat.le_refl _) _).alloc (by simp) _).alloc (by simp; omega) _).trans (hb.mono (by simp; omega))); obtain ⟨hc, hf⟩ := bcell hb; clear hb; rw [hC])
  refine bodyPost_ret (v := .tuple #[.agg #[.int .i64 0, .int .i64 0], .int .i64 2]) ?_ rfl ⟨rfl, ?_⟩
  · simp [results, Tryz.results15, go_sem, hc]
  · exact (hB1.setCell (p := ⟨_, _, _⟩) (by simp; omega) _).setCell (p := ⟨_, _, _⟩) (by simp; omega) _
set_option maxRecDepth 100000 in
set_option maxHeartbeats 1000000 in
theorem Times_ok (a : Option Addr) (n c : Nat) (ps : Nat → PR) (h : HV) (w : World) (B : Nat) (hBw : B ≤ w.heap.size) (hP : Planes B w a n ps) (hC0 : checkB n ps = true) (k : Nat) (hk : k < n) (hh : h.plane = k) (hH : hitB (ps k) h = true) :
    Calls Tryz.prog 15 #[setupV a n c, h.val] w fun e w' => e = .returned (.tuple #[.agg #[.int .i64 (timeLo (ps k) h), .int .i64 (timeHi (ps k) h)], .int .i64 0]) ∧ Below w.heap.size w w' := by
  have HP := Lib.hid hP
  have hC : (checkB n ps && ofB n ps h) = true := by rw [hC0, ofB_in hk hh, hH]; rfl
  have HS := Lib.hid (properB_shaped (checkB_plane hC0 hk))
  have HT := Lib.hid (hitB_pre' hH).2.2.2
  have HC0 := Lib.hid hC0
  have HHp := Lib.hid hh
  clear hP hC0 hh
  go_enter Tryz.func15, Tryz.ntmps15
  go_wp2_with (first | (go_at_call 32; refine (known_any a n c ps h _ B (by simp; omega) (HP.out.below ((((Below.refl B w).alloc hBw _).alloc (by simp; omega) _).alloc (by simp; omega) _))).mono ?_; rintro e w1 ⟨rfl, hb⟩; have hz1 : w.heap.size + 3 ≤ w1.heap.size := (by have := hb.size; simp at this; omega); have hB1 : Below w.heap.size w w1 := (((((Below.refl _ _).alloc (Nat.le_refl _) _).alloc (by simp) _).alloc (by simp; omega) _).trans (hb.mono (by simp; omega))); have hX := hb.mono (B' := w.heap.size + 3) (by simp); obtain ⟨hc, hf⟩ := bcell hX; clear hb; rw [hC]) | (go_at_call 33; refine (of_in a n c ps h _ B (by omega) (HP.out.below (hB1.mono hBw)) HC0.out k hk HHp.out).mono ?_; rintro e w2 ⟨rfl, hb2⟩; rw [hH]; have hz2 : w.heap.size + 3 ≤ w2.heap.size := (by have := hb2.size; omega); have hz6 : w.heap.size + 1 < w2.heap.size := (by omega); have hz7 : w.heap.size + 2 < w2.heap.size := (by omega); have hB2 : Below w.heap.size w w2 := hB1.trans (hb2.mono (by omega)); have hX2 := hX.trans (hb2.mono (by omega)); clear hc hf hX hb2; obtain ⟨hc, hf⟩ := bcell hX2) | (go_at_call 35; refine (times_any (ps k) k h _ HS.out HT.out).mono ?_; rintro e w3 ⟨rfl, hb3⟩; have hz5 : w.heap.size + 3 ≤ w3.heap.size := (by have := hb3.size; simp at this; omega); have hB3 : Below w.heap.size w w3 := (hB2.alloc (by omega) _).trans (hb3.mono (by simp; omega)); have hX3 := (hX2.alloc (by omega) _).trans (hb3.mono (by simp; omega)); clear hc hf hX2 hb3; obtain ⟨hc, hf⟩ := bcell hX3))
  have q0 : w3.cell? ⟨w.heap.size + 1 + 1, 0, none⟩ = some (.int .i64 0) := by rw [hc _ _ (by omega)]; go_simp
  have q1 : w3.cell? ⟨w.heap.size + 1 + 1, 1, none⟩ = some (.int .i64 0) := by rw [hc _ _ (by omega)]; go_simp
  clear hc hf hX3
  refine bodyPost_ret (v := .tuple #[.agg #[.int .i64 (timeLo (ps k) h), .int .i64 (timeHi (ps k) h)], .int .i64 0]) ?_ rfl ⟨rfl, ?_⟩
  · simp [results, Tryz.results15, go_sem, q0, q1]
  · exact (hB3.setCell (p := ⟨_, _, _⟩) (by simp; omega) _).setCell (p := ⟨_, _, _⟩) (by simp; omega) _
end Go.Proofs.YtegimepmccilfaaGreatDoor
