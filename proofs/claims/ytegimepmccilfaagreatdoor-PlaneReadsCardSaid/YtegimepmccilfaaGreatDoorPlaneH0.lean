/- The walks of plane.known, Check, Known; times, Times. -/
import Derived.Test.YtegimepmccilfaaGreatDoorPlaneG
namespace Go.Proofs.YtegimepmccilfaaGreatDoor
open Go.RowKit
set_option linter.unusedVariables false
set_option linter.unusedSimpArgs false
theorem ofB_out {n : Nat} {ps : Nat → PR} {h : HV} (ho : ¬ (0 ≤ h.plane ∧ h.plane ≤ (n : Int) - 1)) : ofB n ps h = false := by simp [ofB, withinB_no ho]
theorem ofB_in {n : Nat} {ps : Nat → PR} {h : HV} {k : Nat} (hk : k < n) (hh : h.plane = k) : ofB n ps h = hitB (ps k) h := by
  have : withinB h.plane 0 ((n : Int) - 1) = true := withinB_yes (by omega) (by omega)
  rw [ofB, this, Bool.true_and, hh, Int.toNat_natCast]
set_option maxRecDepth 100000 in
set_option maxHeartbeats 1000000 in
theorem known_any (a : Option Addr) (n c : Nat) (ps : Nat → PR) (h : HV) (w : World) (B : Nat) (hBw : B ≤ w.heap.size) (hP : Planes B w a n ps) :
    Calls Tryz.prog 32 #[setupV a n c, h.val] w fun e w' => e = .returned (.bool (checkB n ps && ofB n ps h)) ∧ Below w.heap.size w w' := by
  have HP := Lib.hid hP
  clear hP
  by_cases hC : checkB n ps = true
  · have hN := checkB_n hC
    have HC := Lib.hid hC
    by_cases ho : 0 ≤ h.plane ∧ h.plane ≤ (n : Int) - 1
    · obtain ⟨o1, o2⟩ := ho
      obtain ⟨k, hk⟩ := Int.eq_ofNat_of_zero_le o1
      have hkn : k < n := by omega
      have HV1 := Lib.hid (ofB_in (ps := ps) hkn hk)
      have HK := Lib.hid hk
      clear hk
      go_enter Tryz.func32, Tryz.ntmps32
      go_wp2_with (first | (go_at_call 18; refine (check_any a n c ps _ B (by simp; omega) (HP.out.below (((Below.refl B w).alloc hBw _).alloc (by simp; omega) _))).mono ?_; rintro e w1 ⟨rfl, hb⟩; have hz1 : w.heap.size + 2 ≤ w1.heap.size := (by have := hb.size; simp at this; omega); have hB1 : Below w.heap.size w w1 := ((((Below.refl _ _).alloc (Nat.le_refl _) _).alloc (by simp) _).trans (hb.mono (by simp; omega))); obtain ⟨hc, hf⟩ := bcell hb; clear hb) | (go_at_call 33; refine (of_in a n c ps h _ B (by omega) (HP.out.below (hB1.mono hBw)) HC.out k hkn HK.out).mono ?_; rintro e w2 ⟨rfl, hb2⟩; have hB2 : Below w.heap.size w w2 := hB1.trans (hb2.mono (by omega)); have hz2 : w.heap.size ≤ w2.heap.size := hB2.size; clear hc hf))
      go_ret
      exact ⟨ret_bool (by rw [HC.out, HV1.out, Bool.true_and]), hB2.alloc (by omega) _⟩
    · have HV1 := Lib.hid (ofB_out (ps := ps) ho)
      have HO := Lib.hid ho
      clear ho
      go_enter Tryz.func32, Tryz.ntmps32
      go_wp2_with (first | (go_at_call 18; refine (check_any a n c ps _ B (by simp; omega) (HP.out.below (((Below.refl B w).alloc hBw _).alloc (by simp; omega) _))).mono ?_; rintro e w1 ⟨rfl, hb⟩; have hz1 : w.heap.size + 2 ≤ w1.heap.size := (by have := hb.size; simp at this; omega); have hB1 : Below w.heap.size w w1 := ((((Below.refl _ _).alloc (Nat.le_refl _) _).alloc (by simp) _).trans (hb.mono (by simp; omega))); obtain ⟨hc, hf⟩ := bcell hb; clear hb) | (go_at_call 33; refine (of_out a n c h _ (by omega) HO.out).mono ?_; rintro e w2 ⟨rfl, hb2⟩; have hB2 : Below w.heap.size w w2 := hB1.trans (hb2.mono (by omega)); have hz2 : w.heap.size ≤ w2.heap.size := hB2.size; clear hc hf))
      go_ret
      exact ⟨ret_bool (by rw [HC.out, HV1.out, Bool.true_and]), hB2.alloc (by omega) _⟩
  · have hC' : checkB n ps = false := by simpa using hC
    clear hC
    go_enter Tryz.func32, Tryz.ntmps32
    go_wp2_with (go_at_call 18; refine (check_any a n c ps _ B (by simp; omega) (HP.out.below (((Below.refl B w).alloc hBw _).alloc (by simp; omega) _))).mono ?_; rintro e w1 ⟨rfl, hb⟩; have hB1 : Below w.heap.size w w1 := ((((Below.refl _ _).alloc (Nat.le_refl _) _).alloc (by simp) _).trans (hb.mono (by simp; omega))))
    go_ret
    exact ⟨ret_bool (by rw [hC', Bool.false_and]), hB1⟩
def timeLo (p : PR) (h : HV) : Int := if p.kind = 3 then p.clo else h.time - p.chi - p.jitter
def timeHi (p : PR) (h : HV) : Int := if p.kind = 3 then p.chi else h.time - p.clo + p.jitter
def checkE (b : Bool) : Int := if b = true then 0 else 2
set_option maxHeartbeats 400000 in
theorem times_any (p : PR) (i : Int) (h : HV) (w : World) (hS : Shaped p) (ht : -1000000000 ≤ h.time ∧ h.time ≤ 1000000000) :
    Calls Tryz.prog 35 #[p.placed i, h.val] w fun e w' => e = .returned (.agg #[.int .i64 (timeLo p h), .int .i64 (timeHi p h)]) ∧ Below w.heap.size w w' := by
  obtain ⟨j1, j2⟩ := hS.jitter
  obtain ⟨c1, c2, c3⟩ := hS.clock
  obtain ⟨t1, t2⟩ := ht
  clear hS
  by_cases hk : p.kind = 3
  · have hk1 : (p.kind == 3) = true := by simp [hk]
    have HK := Lib.hid hk
    clear hk
    go_enter Tryz.func35, Tryz.ntmps35
    go_wp2
    refine bodyPost_ret (v := .agg #[.int .i64 p.clo, .int .i64 p.chi]) (by simp [results, Tryz.results35, go_sem]) rfl ⟨by simp [timeLo, timeHi, HK.out], ?_⟩
    exact (((Below.refl _ _).alloc (Nat.le_refl _) _).alloc (by simp) _).alloc (by simp; omega) _
  · have hk1 : (p.kind == 3) = false := by simp [hk]
    have HK := Lib.hid hk
    clear hk
    go_enter Tryz.func35, Tryz.ntmps35
    go_wp2
    refine bodyPost_ret (v := .agg #[.int .i64 (h.time - p.chi - p.jitter), .int .i64 (h.time - p.clo + p.jitter)]) (by simp [results, Tryz.results35, go_sem]) rfl ⟨by simp [timeLo, timeHi, HK.out], ?_⟩
    exact (((Below.refl _ _).alloc (Nat.le_refl _) _).alloc (by simp) _).alloc (by simp; omega) _
end Go.Proofs.YtegimepmccilfaaGreatDoor
