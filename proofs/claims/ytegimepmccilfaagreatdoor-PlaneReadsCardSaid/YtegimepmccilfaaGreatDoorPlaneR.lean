/- The walk of plane.Gates. -/
import Derived.Test.YtegimepmccilfaaGreatDoorPlaneI
import Derived.Test.YtegimepmccilfaaGreatDoorPlaneQ
namespace Go.Proofs.YtegimepmccilfaaGreatDoor
open Go.RowKit
set_option linter.unusedVariables false
set_option linter.unusedSimpArgs false
set_option maxRecDepth 100000 in
set_option maxHeartbeats 1000000 in
theorem Gates_bad (a : Option Addr) (n c : Nat) (ps : Nat → PR) (h : HV) (w : World) (B : Nat) (hBw : B ≤ w.heap.size) (hP : Planes B w a n ps) (hC : (checkB n ps && ofB n ps h) = false) :
    Calls Tryz.prog 13 #[setupV a n c, h.val] w fun e w' => e = .returned (.tuple #[.slice none 0 0, .int .i64 2]) ∧ Below w.heap.size w w' := by
  have HP := Lib.hid hP
  clear hP
  go_enter Tryz.func13, Tryz.ntmps13
  go_wp2_with (go_at_call 32; refine (known_any a n c ps h _ B (by simp; omega) (HP.out.below (((Below.refl B w).alloc hBw _).alloc (by simp; omega) _))).mono ?_; rintro e w1 ⟨rfl, hb⟩; have hB1 : Below w.heap.size w w1 := (((((Below.refl _ _).alloc (Nat.le_refl _) _).alloc (by simp) _)).trans (hb.mono (by simp; omega))); clear hb; rw [hC])
  go_ret2
  exact ⟨rfl, hB1⟩
def gateE (p : PR) (h : HV) : Int := if gateN p h = 0 then 5 else 0
set_option maxRecDepth 100000 in
set_option maxHeartbeats 1000000 in
theorem Gates_ok (a : Option Addr) (n c : Nat) (ps : Nat → PR) (h : HV) (w : World) (B : Nat) (hBw : B ≤ w.heap.size) (hP : Planes B w a n ps) (hC0 : checkB n ps = true) (k : Nat) (hk : k < n) (hh : h.plane = k) (hH : hitB (ps k) h = true) :
    Calls Tryz.prog 13 #[setupV a n c, h.val] w fun e w' => ∃ ga gc, e = .returned (.tuple #[.slice ga (gateN (ps k) h) gc, .int .i64 (gateE (ps k) h)]) ∧ GatesAt w'.heap.size w' ga (gateN (ps k) h) (gateF (ps k) h) ∧ Below w.heap.size w w' := by
  have HP := Lib.hid hP
  have hC : (checkB n ps && ofB n ps h) = true := by rw [hC0, ofB_in hk hh, hH]; rfl
  have HPr := Lib.hid (checkB_plane hC0 hk)
  have HC0 := Lib.hid hC0
  have HHp := Lib.hid hh
  have HHt := Lib.hid hH
  have hpm : (ps k).mem B w := by obtain ⟨b, off, _, _, _, hm⟩ := hP.get hk; exact hm
  have HPM := Lib.hid hpm
  obtain ⟨gn, hgn⟩ : ∃ g, g = gateN (ps k) h := ⟨_, rfl⟩
  obtain ⟨gf, hgf⟩ : ∃ g, g = gateF (ps k) h := ⟨_, rfl⟩
  have HGN := Lib.hid hgn
  have HGF := Lib.hid hgf
  have hgE : gateE (ps k) h = if gn = 0 then 5 else 0 := by rw [gateE, hgn]
  rw [hgE, ← hgn, ← hgf]
  have hg2 : gn ≤ 2 := by rw [hgn, gateN]; split <;> split <;> omega
  clear hP hC0 hh hpm hgn hgf hgE
  by_cases hg0 : gn = 0
  · subst hg0
    go_enter Tryz.func13, Tryz.ntmps13
    go_wp2_with (first | (go_at_call 32; refine (known_any a n c ps h _ B (by simp; omega) (HP.out.below (((Below.refl B w).alloc hBw _).alloc (by simp; omega) _))).mono ?_; rintro e w1 ⟨rfl, hb⟩; have hz1 : w.heap.size + 2 ≤ w1.heap.size := (by have := hb.size; simp at this; omega); have hB1 : Below w.heap.size w w1 := (((((Below.refl _ _).alloc (Nat.le_refl _) _).alloc (by simp) _)).trans (hb.mono (by simp; omega))); have hX := hb.mono (B' := w.heap.size + 2) (by simp); obtain ⟨hc, hf⟩ := bcell hX; clear hb; rw [hC]) | (go_at_call 33; refine (of_in a n c ps h _ B (by omega) (HP.out.below (hB1.mono hBw)) HC0.out k hk HHp.out).mono ?_; rintro e w2 ⟨rfl, hb2⟩; rw [hH]; have hz2 : w.heap.size + 2 ≤ w2.heap.size := (by have := hb2.size; omega); have hz6 : w.heap.size + 1 < w2.heap.size := (by omega); have hB2 : Below w.heap.size w w2 := hB1.trans (hb2.mono (by omega)); have hX2 := hX.trans (hb2.mono (by omega)); clear hc hf hX hb2; obtain ⟨hc, hf⟩ := bcell hX2) | (go_at_call 34; refine (gates_any (ps k) k h _ B (by simp; omega) (HPM.out.below ((hB2.alloc (by omega) _).mono hBw)) HPr.out HHt.out).mono ?_; rintro e w3 ⟨ga, gc, rfl, hg0, hGA, hb3⟩; rw [← HGN.out] at hg0 hGA ⊢; rw [← HGF.out] at hGA; have HGA := Lib.hid hGA; have HG0 := Lib.hid hg0; have hB3 : Below w.heap.size w w3 := (hB2.alloc (by omega) _).trans (hb3.mono (by simp; omega)); clear hc hf hX2 hb3 hGA hg0))
    go_ret2
    exact ⟨none, ⟨0, rfl⟩, .inl rfl, hB3⟩
  · rw [if_neg hg0]
    have hg1 : ¬ (gn : Int) = 0 := by omega
    go_enter Tryz.func13, Tryz.ntmps13
    go_wp2_with (first | (go_at_call 32; refine (known_any a n c ps h _ B (by simp; omega) (HP.out.below (((Below.refl B w).alloc hBw _).alloc (by simp; omega) _))).mono ?_; rintro e w1 ⟨rfl, hb⟩; have hz1 : w.heap.size + 2 ≤ w1.heap.size := (by have := hb.size; simp at this; omega); have hB1 : Below w.heap.size w w1 := (((((Below.refl _ _).alloc (Nat.le_refl _) _).alloc (by simp) _)).trans (hb.mono (by simp; omega))); have hX := hb.mono (B' := w.heap.size + 2) (by simp); obtain ⟨hc, hf⟩ := bcell hX; clear hb; rw [hC]) | (go_at_call 33; refine (of_in a n c ps h _ B (by omega) (HP.out.below (hB1.mono hBw)) HC0.out k hk HHp.out).mono ?_; rintro e w2 ⟨rfl, hb2⟩; rw [hH]; have hz2 : w.heap.size + 2 ≤ w2.heap.size := (by have := hb2.size; omega); have hz6 : w.heap.size + 1 < w2.heap.size := (by omega); have hB2 : Below w.heap.size w w2 := hB1.trans (hb2.mono (by omega)); have hX2 := hX.trans (hb2.mono (by omega)); clear hc hf hX hb2; obtain ⟨hc, hf⟩ := bcell hX2) | (go_at_call 34; refine (gates_any (ps k) k h _ B (by simp; omega) (HPM.out.below ((hB2.alloc (by omega) _).mono hBw)) HPr.out HHt.out).mono ?_; rintro e w3 ⟨ga, gc, rfl, hg0, hGA, hb3⟩; rw [← HGN.out] at hg0 hGA ⊢; rw [← HGF.out] at hGA; have HGA := Lib.hid hGA; have HG0 := Lib.hid hg0; have hB3 : Below w.heap.size w w3 := (hB2.alloc (by omega) _).trans (hb3.mono (by simp; omega)); clear hc hf hX2 hb3 hGA hg0))
    go_ret2
    exact ⟨ga, gc, rfl, HGA.out, hB3⟩
end Go.Proofs.YtegimepmccilfaaGreatDoor
