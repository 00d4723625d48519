/- The walks of plane.check and what it calls: which planes and setups are as defined. -/
import Derived.Test.YtegimepmccilfaaGreatDoorProg
import Derived.Test.YtegimepmccilfaaGreatDoorPlaneData
import Derived.Test.YtegimepmccilfaaGreatDoorPlaneT
namespace Go.Proofs.YtegimepmccilfaaGreatDoor
open Go.RowKit
set_option linter.unusedVariables false
set_option linter.unusedSimpArgs false
set_option maxHeartbeats 400000 in
theorem within_any (a b c : Int) (w : World) :
    Calls Tryz.prog 36 #[.int .i64 a, .int .i64 b, .int .i64 c] w fun e w' => e = .returned (.bool (withinB a b c)) ∧ w = w' := by
  by_cases h : b ≤ a
  · go_enter Tryz.func36, Tryz.ntmps36
    go_wp2
    go_ret
    exact ⟨ret_bool (by unfold withinB; rw [decide_eq_true h, Bool.true_and]), rfl⟩
  · go_enter Tryz.func36, Tryz.ntmps36
    go_wp2
    go_ret
    exact ⟨ret_bool (by unfold withinB; rw [decide_eq_false (by omega), Bool.false_and]), rfl⟩
set_option maxHeartbeats 400000 in
theorem strips_any (p : PR) (i : Int) (w : World) :
    Calls Tryz.prog 61 #[p.placed i] w fun e w' => e = .returned (.bool ((p.dn : Int) == 0)) ∧ Below w.heap.size w w' := by
  go_enter Tryz.func61, Tryz.ntmps61
  go_wp2
  go_ret
  exact ⟨rfl, (Below.refl _ _).alloc (Nat.le_refl _) _⟩
set_option maxHeartbeats 400000 in
theorem film_any (p : PR) (i : Int) (w : World) :
    Calls Tryz.prog 63 #[p.placed i] w fun e w' => e = .returned (.bool ((p.dn : Int) == 0)) ∧ Below w.heap.size w w' := by
  go_enter Tryz.func63, Tryz.ntmps63
  go_wp2
  go_ret
  exact ⟨rfl, (Below.refl _ _).alloc (Nat.le_refl _) _⟩
set_option maxHeartbeats 400000 in
theorem ordered_any (lo hi most : Int) (w : World) (h0 : 0 ≤ most) (h1 : most ≤ 1000000000000) :
    Calls Tryz.prog 37 #[.agg #[.int .i64 lo, .int .i64 hi], .int .i64 most] w fun e w' => e = .returned (.bool (orderedB lo hi most)) ∧ Below w.heap.size w w' := by
  go_enter Tryz.func37, Tryz.ntmps37
  go_wp2_with (go_at_call 36; refine (within_any _ _ _ _).mono ?_; rintro e w' ⟨rfl, rfl⟩)
  · go_ret
    rename_i h
    exact ⟨ret_bool (by unfold orderedB; rw [h, Bool.true_and]), (Below.refl _ _).alloc (Nat.le_refl _) _⟩
  · go_ret
    rename_i h
    exact ⟨ret_bool (by unfold orderedB; rw [Bool.eq_false_iff.2 h, Bool.false_and]), (Below.refl _ _).alloc (Nat.le_refl _) _⟩
set_option maxRecDepth 100000 in
set_option maxHeartbeats 1000000 in
theorem shaped_any (p : PR) (i : Int) (w : World) :
    Calls Tryz.prog 64 #[p.placed i] w fun e w' => e = .returned (.bool (shapedB p)) ∧ Below w.heap.size w w' := by
  by_cases hS : shapedPre p = true
  · have hS' := hS
    simp only [shapedPre, Bool.and_eq_true] at hS'
    obtain ⟨a1, a2, a3, a4, a5, a6, a7, a8, a9, a10⟩ := hS'
    obtain ⟨⟨_, _⟩, ⟨_, _⟩, ⟨_, _⟩, ⟨b1, b2⟩, ⟨b3, b4⟩, ⟨_, _⟩, ⟨_, _, _⟩, ⟨_, _, _⟩, ⟨_, _⟩, ⟨_, _⟩⟩ := shapedPre_iff.1 hS
    obtain ⟨m1, m2⟩ := prod_bounds b3 b4 b1 b2
    have HS := Lib.hid hS
    clear hS
    go_enter Tryz.func64, Tryz.ntmps64
    go_wp2_with (first | (go_at_call 36; refine (within_any _ _ _ _).mono ?_; rintro e w' ⟨rfl, rfl⟩) | (go_at_call 37; refine (ordered_any _ _ _ _ (by omega) (by omega)).mono ?_; rintro e w' ⟨rfl, hb⟩; have hz' : w.heap.size < w'.heap.size := (by have hz := hb.size; (try simp at hz); omega); have hB : Below w.heap.size w w' := (by first | exact hB.trans (hb.mono (by omega)) | exact ((Below.refl _ _).alloc (Nat.le_refl _) _).trans (hb.mono (by simp))); obtain ⟨hc, hf⟩ := bcell hb; clear hb))
    all_goals go_ret
    all_goals go_light
    all_goals refine ⟨ret_bool ?_, hB⟩
    · simp [shapedB, HS.out, *]
    · simp [shapedB, HS.out, *]; omega
  · have HF := Lib.hid (show false = shapedB p by simp [shapedB, hS])
    go_enter Tryz.func64, Tryz.ntmps64
    go_wp2_with (first | (go_at_call 36; refine (within_any _ _ _ _).mono ?_; rintro e w' ⟨rfl, rfl⟩) | (go_at_call 37; refine (ordered_any _ _ _ _ (by omega) (by omega)).mono ?_; rintro e w' ⟨rfl, hb⟩; have hz' : w.heap.size < w'.heap.size := (by have hz := hb.size; (try simp at hz); omega); have hB : Below w.heap.size w w' := (by first | exact hB.trans (hb.mono (by omega)) | exact ((Below.refl _ _).alloc (Nat.le_refl _) _).trans (hb.mono (by simp))); obtain ⟨hc, hf⟩ := bcell hb; clear hb))
    all_goals go_ret
    all_goals go_light
    all_goals first | (exact ⟨ret_bool HF.out, hB⟩) | (exact ⟨ret_bool HF.out, (Below.refl _ _).alloc (Nat.le_refl _) _⟩) | (exfalso; apply hS; clear hS HF; simp_all [shapedPre])
end Go.Proofs.YtegimepmccilfaaGreatDoor
