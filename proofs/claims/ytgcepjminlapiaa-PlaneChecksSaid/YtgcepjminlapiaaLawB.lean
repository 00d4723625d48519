/- The statement PlaneChecks: its walk. -/
import Derived.Test.YtgcepjminlapiaaLawA
namespace Go.Proofs.Ytgcepjminlapiaa
open Go.RowKit
set_option linter.unusedVariables false
set_option linter.unusedSimpArgs false
set_option maxHeartbeats 400000 in
theorem refCheck_any (a : Option Addr) (n c : Nat) (ps : Nat → PR) (w : World) (B : Nat) (hBw : B ≤ w.heap.size) (hP : Planes B w a n ps) :
    Calls Try.prog 31 #[setupV a n c] w fun e w' => e = .returned (.int .i64 (checkE (checkB n ps))) ∧ Below w.heap.size w w' := by
  have HP := Lib.hid hP
  clear hP
  cases hC : checkB n ps
  · go_enter Try.func31, Try.ntmps31
    go_wp2_with (go_at_call 19; refine (refSetup_any a n c ps _ B (by simp; omega) (HP.out.below ((Below.refl B w).alloc hBw _))).mono ?_; rintro e wy ⟨rfl, hby⟩; rw [hC]; have hB1 : Below w.heap.size w wy := ((Below.refl _ _).alloc (Nat.le_refl _) _).trans (hby.mono (by simp)))
    go_ret
    exact ⟨rfl, hB1⟩
  · go_enter Try.func31, Try.ntmps31
    go_wp2_with (go_at_call 19; refine (refSetup_any a n c ps _ B (by simp; omega) (HP.out.below ((Below.refl B w).alloc hBw _))).mono ?_; rintro e wy ⟨rfl, hby⟩; rw [hC]; have hB1 : Below w.heap.size w wy := ((Below.refl _ _).alloc (Nat.le_refl _) _).trans (hby.mono (by simp)))
    go_ret
    exact ⟨rfl, hB1⟩
set_option maxRecDepth 100000 in
set_option maxHeartbeats 2000000 in
theorem PlaneChecks_any (a : Option Addr) (n c : Nat) (ps : Nat → PR) (h : HV) (w : World) (B : Nat) (hBw : B ≤ w.heap.size) (hP : Planes B w a n ps) :
    Calls Try.prog 7 #[setupV a n c, h.val] w fun e w' => e = .returned (.bool true) ∧ Below w.heap.size w w' := by
  have HP := Lib.hid hP
  clear hP
  cases hs : smallB n ps
  · go_enter Try.func7, Try.ntmps7
    go_wp2_with (first | (go_at_call 15; refine (small_any a n c ps _ B (by simp; omega) (HP.out.below (((Below.refl B w).alloc hBw _).alloc (by simp; omega) _))).mono ?_; rintro e wy ⟨rfl, hby⟩; rw [hs]; obtain ⟨l0, l1, l2, l3, l4, l5⟩ := LB_step (LB_start (h := h)) hby; clear hby) | (go_at_call 16; refine (lawKnown_any _).mono ?_; rintro e wy ⟨rfl, hby⟩; have hL := LB_step ⟨l0, l1, l2, l3, l4, l5⟩ hby; clear l0 l1 l2 l3 l4 l5; obtain ⟨l0, l1, l2, l3, l4, l5⟩ := hL; clear hby))
    go_ret
    exact ⟨rfl, l5⟩
  · obtain ⟨E, hE⟩ : ∃ E, E = checkE (checkB n ps) := ⟨_, rfl⟩
    obtain ⟨F, hF⟩ : ∃ F, F = checkE (checkB n ps && ofB n ps h) := ⟨_, rfl⟩
    have HE := Lib.hid hE
    have HF := Lib.hid hF
    clear hE hF
    go_enter Try.func7, Try.ntmps7
    go_upto_region 3 with ((go_at_call 15; refine (small_any a n c ps _ B (by simp; omega) (HP.out.below (((Below.refl B w).alloc hBw _).alloc (by simp; omega) _))).mono ?_; rintro e wy ⟨rfl, hby⟩; rw [hs]; obtain ⟨l0, l1, l2, l3, l4, l5⟩ := LB_step (LB_start (h := h)) hby; clear hby))
    (refine wp_region_calm (wy.heap.size) (by kernel_rfl) (by kernel_rfl) ?_; (repeat (first | go_big_quiet_step (first | (go_at_call 30; refine Calls.calm_of (v := .int .i64 E) (Nat.le_refl _) ?_; rw [HE.out]; refine Check_any a n c ps _ B ?_ ?_; (· (have := Below.size (Calm.below (by assumption)); omega)); (· exact (HP.out.below (l5.mono hBw)).below (Below.mono (Calm.below _) (by omega)))) | (go_at_call 29; refine Calls.calm_of (v := .int .i64 F) (Nat.le_refl _) ?_; rw [HF.out]; refine Known_any a n c ps h _ B ?_ ?_; (· (have := Below.size (Calm.below (by assumption)); omega)); (· exact (HP.out.below (l5.mono hBw)).below (Below.mono (Calm.below _) (by omega))))) | quiet_step (first | (go_at_call 30; refine Calls.calm_of (v := .int .i64 E) (Nat.le_refl _) ?_; rw [HE.out]; refine Check_any a n c ps _ B ?_ ?_; (· (have := Below.size (Calm.below (by assumption)); omega)); (· exact (HP.out.below (l5.mono hBw)).below (Below.mono (Calm.below _) (by omega)))) | (go_at_call 29; refine Calls.calm_of (v := .int .i64 F) (Nat.le_refl _) ?_; rw [HF.out]; refine Known_any a n c ps h _ B ?_ ?_; (· (have := Below.size (Calm.below (by assumption)); omega)); (· exact (HP.out.below (l5.mono hBw)).below (Below.mono (Calm.below _) (by omega))))))); refine wpQuiet_nil ?_; intro _ hw'; obtain ⟨xq, hw''⟩ := hw'; subst hw'')
    have hby := xq.below
    have hL := LB_step ⟨l0, l1, l2, l3, l4, l5⟩ hby
    clear l0 l1 l2 l3 l4 l5 hby
    obtain ⟨l0, l1, l2, l3, l4, l5⟩ := hL
    cases hC : checkB n ps
    · obtain rfl : E = 2 := by rw [HE.out, hC]; rfl
      obtain rfl : F = 2 := by rw [HF.out, hC]; rfl
      go_wp2_with (first | (go_at_call 31; refine (refCheck_any a n c ps _ B (by omega) (HP.out.below (l5.mono hBw))).mono ?_; rintro e wy ⟨rfl, hby⟩; rw [hC, show checkE false = 2 from rfl]; have hL := LB_step ⟨l0, l1, l2, l3, l4, l5⟩ hby; clear l0 l1 l2 l3 l4 l5; obtain ⟨l0, l1, l2, l3, l4, l5⟩ := hL; clear hby) | (go_at_call 16; refine (lawKnown_any _).mono ?_; rintro e wy ⟨rfl, hby⟩; have hL := LB_step ⟨l0, l1, l2, l3, l4, l5⟩ hby; clear l0 l1 l2 l3 l4 l5; obtain ⟨l0, l1, l2, l3, l4, l5⟩ := hL; clear hby))
      go_ret
      exact ⟨rfl, l5⟩
    · cases hO : ofB n ps h
      · obtain rfl : E = 0 := by rw [HE.out, hC]; rfl
        obtain rfl : F = 2 := by rw [HF.out, hC, hO]; rfl
        go_wp2_with (first | (go_at_call 31; refine (refCheck_any a n c ps _ B (by omega) (HP.out.below (l5.mono hBw))).mono ?_; rintro e wy ⟨rfl, hby⟩; rw [hC, show checkE true = 0 from rfl]; have hL := LB_step ⟨l0, l1, l2, l3, l4, l5⟩ hby; clear l0 l1 l2 l3 l4 l5; obtain ⟨l0, l1, l2, l3, l4, l5⟩ := hL; clear hby) | (go_at_call 20; refine (refHit_any a n c ps h _ B (by omega) (HP.out.below (l5.mono hBw)) hC).mono ?_; rintro e wy ⟨rfl, hby⟩; rw [hO]; have hL := LB_step ⟨l0, l1, l2, l3, l4, l5⟩ hby; clear l0 l1 l2 l3 l4 l5; obtain ⟨l0, l1, l2, l3, l4, l5⟩ := hL; clear hby) | (go_at_call 16; refine (lawKnown_any _).mono ?_; rintro e wy ⟨rfl, hby⟩; have hL := LB_step ⟨l0, l1, l2, l3, l4, l5⟩ hby; clear l0 l1 l2 l3 l4 l5; obtain ⟨l0, l1, l2, l3, l4, l5⟩ := hL; clear hby))
        go_ret
        exact ⟨rfl, l5⟩
      · obtain rfl : E = 0 := by rw [HE.out, hC]; rfl
        obtain rfl : F = 0 := by rw [HF.out, hC, hO]; rfl
        go_wp2_with (first | (go_at_call 31; refine (refCheck_any a n c ps _ B (by omega) (HP.out.below (l5.mono hBw))).mono ?_; rintro e wy ⟨rfl, hby⟩; rw [hC, show checkE true = 0 from rfl]; have hL := LB_step ⟨l0, l1, l2, l3, l4, l5⟩ hby; clear l0 l1 l2 l3 l4 l5; obtain ⟨l0, l1, l2, l3, l4, l5⟩ := hL; clear hby) | (go_at_call 20; refine (refHit_any a n c ps h _ B (by omega) (HP.out.below (l5.mono hBw)) hC).mono ?_; rintro e wy ⟨rfl, hby⟩; rw [hO]; have hL := LB_step ⟨l0, l1, l2, l3, l4, l5⟩ hby; clear l0 l1 l2 l3 l4 l5; obtain ⟨l0, l1, l2, l3, l4, l5⟩ := hL; clear hby) | (go_at_call 16; refine (lawKnown_any _).mono ?_; rintro e wy ⟨rfl, hby⟩; have hL := LB_step ⟨l0, l1, l2, l3, l4, l5⟩ hby; clear l0 l1 l2 l3 l4 l5; obtain ⟨l0, l1, l2, l3, l4, l5⟩ := hL; clear hby))
        go_ret
        exact ⟨rfl, l5⟩
end Go.Proofs.Ytgcepjminlapiaa
