/- The walk of the reference's Plane. -/
import Derived.Test.YtegimepmccilfaaGreatDoorPlaneE
namespace Go.Proofs.YtegimepmccilfaaGreatDoor
open Go.RowKit
set_option linter.unusedVariables false
set_option linter.unusedSimpArgs false
theorem properB_pre {p : PR} (h : ¬ ((1 ≤ p.kind ∧ p.kind ≤ 3) ∧ shapedPre p = true)) : false = properB p := by
  by_cases h1 : withinB p.kind 1 3 = true
  · have : shapedPre p = false := by
      cases hh : shapedPre p
      · rfl
      · exact absurd ⟨withinB_iff.1 h1, hh⟩ h
    simp [properB, shapedB, this]
  · simp [properB, h1]
theorem properB_places {p : PR} (h : ¬ shapedB p = true) : false = properB p := by simp [properB, h]
theorem properB_kindR {p : PR} (h : ¬ kindB p = true) : false = properB p := by simp [properB, h]
theorem properB_many {p : PR} (h : 100 < (p.en : Int)) : false = properB p := by
  have : ¬ ((p.en : Int) ≤ 100) := by omega
  simp [properB, deadsB, this]
theorem properB_deadR {p : PR} {k : Nat} (hk : k < p.en) (h : ¬ deadAt p.strips p.es k = true) : false = properB p := by
  simp [properB, deadsB, allUpto_false hk (by simpa using h)]
theorem properB_endR {p : PR} {k : Nat} (h1 : 1 ≤ p.kind ∧ p.kind ≤ 3) (h2 : shapedB p = true) (h3 : kindB p = true) (h4 : (p.en : Int) ≤ 100) (hk : k = p.en) (h : ∀ j, j < k → deadAt p.strips p.es j = true) : true = properB p := by
  subst hk; simp [properB, deadsB, allUpto_true h, withinB_yes h1.1 h1.2, h2, h3, h4]
set_option maxRecDepth 100000 in
set_option maxHeartbeats 2000000 in
theorem refPlane_pre (p : PR) (w : World) (h : ¬ ((1 ≤ p.kind ∧ p.kind ≤ 3) ∧ shapedPre p = true)) :
    Calls Tryz.prog 25 #[p.plane] w fun e w' => e = .returned (.bool (properB p)) ∧ Below w.heap.size w w' := by
  have HF := Lib.hid (properB_pre h)
  rw [shapedPre_iff] at h
  have HH := Lib.hid h
  clear h
  go_enter Tryz.func25, Tryz.ntmps25
  go_upto_region 7 with (first | (go_at_call 24; refine (refIn_any _ _ _ _).mono ?_; rintro e w' ⟨rfl, rfl⟩) | (go_at_call 43; refine (place_any _ _).mono ?_; rintro e w' ⟨rfl, rfl⟩))
  all_goals first | (go_ret; exact ⟨ret_bool HF.out, (Below.refl _ _).alloc (Nat.le_refl _) _⟩) | skip
  all_goals (exfalso; go_light; apply HH.out; clear HH HF; simp only [Bool.not_eq_false', Bool.not_eq_eq_eq_not, Bool.not_true, Bool.not_false, withinB_iff] at *; omega)
set_option maxRecDepth 100000 in
set_option maxHeartbeats 2000000 in
theorem refPlane_place (p : PR) (w : World) (hK : 1 ≤ p.kind ∧ p.kind ≤ 3) (hP : shapedPre p = true) (h : ¬ shapedB p = true) :
    Calls Tryz.prog 25 #[p.plane] w fun e w' => e = .returned (.bool (properB p)) ∧ Below w.heap.size w w' := by
  have HF := Lib.hid (properB_places h)
  obtain ⟨k1, k2⟩ := hK
  obtain ⟨⟨v1, v2⟩, ⟨z1, z2⟩, ⟨f1, f2⟩, ⟨b1, b2⟩, ⟨b3, b4⟩, ⟨s1, s2⟩, ⟨q1, q2, q3⟩, ⟨r1, r2, r3⟩, ⟨j1, j2⟩, ⟨l1, l2⟩⟩ := shapedPre_iff.1 hP
  obtain ⟨m1, m2⟩ := prod_bounds b3 b4 b1 b2
  have hw : withinB (p.first - p.pitch - p.spill + p.olo) (-1000000) 1000000 = false ∨ withinB (p.first + (p.strips + 1) * p.pitch + p.spill + p.ohi) (-1000000) 1000000 = false := by
    simp only [shapedB, hP, Bool.true_and, Bool.and_eq_true, decide_eq_true_eq] at h
    by_cases e : withinB (p.first - p.pitch - p.spill + p.olo) (-1000000) 1000000 = true
    · right; apply withinB_no; rw [withinB_iff] at e; omega
    · left; simpa using e
  have t1 := withinB_yes z1 z2
  have t2 := withinB_yes f1 f2
  have t3 := withinB_yes b1 b2
  have t4 := withinB_yes b3 b4
  have t5 := withinB_yes s1 s2
  have t6 : withinB p.olo (-1000000) 1000000 = true := withinB_yes (by omega) (by omega)
  have t7 : withinB p.ohi (-1000000) 1000000 = true := withinB_yes (by omega) (by omega)
  have t8 : withinB p.clo (-1000000000) 1000000000 = true := withinB_yes (by omega) (by omega)
  have t9 : withinB p.chi (-1000000000) 1000000000 = true := withinB_yes (by omega) (by omega)
  have t10 := withinB_yes j1 j2
  have t11 := withinB_yes l1 l2
  have hv : (p.view != 1 && p.view != 2) = false := by simp; omega
  clear hP h
  by_cases hw1 : withinB (p.first - p.pitch - p.spill + p.olo) (-1000000) 1000000 = true
  · have hw2 : withinB (p.first + (p.strips + 1) * p.pitch + p.spill + p.ohi) (-1000000) 1000000 = false := by simpa [hw1] using hw
    clear hw
    by_cases e : p.view = 1
    · have e1 : (p.view != 1) = false := by simp [e]
      clear e
      go_enter Tryz.func25, Tryz.ntmps25
      go_wp2_with (first | (go_at_call 24; refine (refIn_any _ _ _ _).mono ?_; rintro e w' ⟨rfl, rfl⟩) | (go_at_call 43; refine (place_any _ _).mono ?_; rintro e w' ⟨rfl, rfl⟩))
      go_ret; exact ⟨ret_bool HF.out, (Below.refl _ _).alloc (Nat.le_refl _) _⟩
    · have e1 : (p.view != 1) = true := by simp [e]
      have e2 : (p.view != 2) = false := by simp; omega
      clear e
      go_enter Tryz.func25, Tryz.ntmps25
      go_wp2_with (first | (go_at_call 24; refine (refIn_any _ _ _ _).mono ?_; rintro e w' ⟨rfl, rfl⟩) | (go_at_call 43; refine (place_any _ _).mono ?_; rintro e w' ⟨rfl, rfl⟩))
      go_ret; exact ⟨ret_bool HF.out, (Below.refl _ _).alloc (Nat.le_refl _) _⟩
  · have hw2 : withinB (p.first - p.pitch - p.spill + p.olo) (-1000000) 1000000 = false := by simpa using hw1
    clear hw hw1
    by_cases e : p.view = 1
    · have e1 : (p.view != 1) = false := by simp [e]
      clear e
      go_enter Tryz.func25, Tryz.ntmps25
      go_wp2_with (first | (go_at_call 24; refine (refIn_any _ _ _ _).mono ?_; rintro e w' ⟨rfl, rfl⟩) | (go_at_call 43; refine (place_any _ _).mono ?_; rintro e w' ⟨rfl, rfl⟩))
      go_ret; exact ⟨ret_bool HF.out, (Below.refl _ _).alloc (Nat.le_refl _) _⟩
    · have e1 : (p.view != 1) = true := by simp [e]
      have e2 : (p.view != 2) = false := by simp; omega
      clear e
      go_enter Tryz.func25, Tryz.ntmps25
      go_wp2_with (first | (go_at_call 24; refine (refIn_any _ _ _ _).mono ?_; rintro e w' ⟨rfl, rfl⟩) | (go_at_call 43; refine (place_any _ _).mono ?_; rintro e w' ⟨rfl, rfl⟩))
      go_ret; exact ⟨ret_bool HF.out, (Below.refl _ _).alloc (Nat.le_refl _) _⟩
end Go.Proofs.YtegimepmccilfaaGreatDoor
