/- The walks of the reference's In, place and steps. -/
import Derived.Test.YtegimepmccilfaaGreatDoorPlaneData
import Derived.Test.YtegimepmccilfaaGreatDoorPlaneT
namespace Go.Proofs.YtegimepmccilfaaGreatDoor
open Go.RowKit
set_option linter.unusedVariables false
set_option linter.unusedSimpArgs false
set_option maxHeartbeats 400000 in
theorem refIn_any (a b c : Int) (w : World) :
    Calls Tryz.prog 24 #[.int .i64 a, .int .i64 b, .int .i64 c] w fun e w' => e = .returned (.bool (withinB a b c)) ∧ w = w' := by
  by_cases h : b ≤ a
  · go_enter Tryz.func24, Tryz.ntmps24
    go_wp2
    go_ret
    exact ⟨ret_bool (by unfold withinB; rw [decide_eq_true h, Bool.true_and]), rfl⟩
  · go_enter Tryz.func24, Tryz.ntmps24
    go_wp2
    go_ret
    exact ⟨ret_bool (by unfold withinB; rw [decide_eq_false (by omega), Bool.false_and]), rfl⟩
set_option maxHeartbeats 400000 in
theorem place_any (a : Int) (w : World) :
    Calls Tryz.prog 43 #[.int .i64 a] w fun e w' => e = .returned (.bool (withinB a (-1000000) 1000000)) ∧ w = w' := by
  go_enter Tryz.func43, Tryz.ntmps43
  go_wp2_with (go_at_call 24; refine (refIn_any _ _ _ _).mono ?_; rintro e w' ⟨rfl, rfl⟩)
  go_ret
  exact ⟨rfl, rfl⟩
set_option maxRecDepth 100000 in
set_option maxHeartbeats 2000000 in
theorem steps_any (pitch : Int) (da : Option Addr) (dn dc : Nat) (ds : Nat → DV) (w : World) (B : Nat) (hBw : B ≤ w.heap.size) (hd : Drifts B w da dn ds) (hn : dn ≤ maxLen) (hp : 2 ≤ pitch) (hp2 : pitch ≤ 100000) :
    Calls Tryz.prog 44 #[.slice da dn dc, .int .i64 pitch] w fun e w' => e = .returned (.bool (tubesB pitch dn ds)) ∧ Below w.heap.size w w' := by
  unfold maxLen at hn
  have HD := Lib.hid hd
  clear hd
  go_enter Tryz.func44, Tryz.ntmps44
  go_wp2
  go_loopw [5, 6] (fun t _ wr => ∃ k : Nat, k ≤ dn ∧ t = .int .i64 k ∧ (∀ j, j < k → stepAt pitch ds j = true) ∧ Below w.heap.size w wr) (fun t _ _ => dn - (intOf t).toNat)
  case atStart => exact ⟨0, Nat.zero_le _, rfl, fun j h => by omega, Below.refl _ _⟩
  case round =>
    obtain ⟨k, hk, rfl, hall, hB0⟩ := hrel
    have HALL := Lib.hid hall
    clear hall
    obtain ⟨hc, hf⟩ := bcell hB0
    have hz : w.heap.size ≤ wr.heap.size := hB0.size
    by_cases hlt : k < dn
    · rcases HD.out with hd | ⟨b, off, rfl, hbs, hcell⟩
      · omega
      obtain ⟨c0, c1, c2⟩ := hcell k hlt
      have hbz : b < wr.heap.size := by omega
      have hbz0 : b < w.heap.size := by omega
      by_cases hok : stepAt pitch ds k = true
      · have hok' := hok
        simp only [stepAt, stepOk, Bool.and_eq_true, decide_eq_true_eq] at hok'
        obtain ⟨⟨o1, o2, o3⟩, o4⟩ := hok'
        obtain ⟨o5, o6⟩ := withinB_iff.1 o2
        have HOK := Lib.hid hok
        clear hok
        by_cases hk0 : k = 0
        · have hk1 : decide (0 < k) = false := by simp; omega
          have HK := Lib.hid hk0
          clear o4 hk0 hcell
          go_wp2_with (go_at_call 24; refine (refIn_any _ _ _ _).mono ?_; rintro e w' ⟨rfl, rfl⟩)
          go_quiet (fail)
          go_wp2
          go_roundw
          case rel => exact ⟨k + 1, by omega, by go_num, fun j hj => by (by_cases e : j = k; subst e; exact HOK.out; exact HALL.out j (by omega)), by first | exact hB0 | exact hB0.alloc (by omega) _ | exact below_drewN (hB0.alloc (by omega) _) _ | exact below_drewN hB0 _⟩
          case measure => simp [intOf]; omega
        · obtain ⟨d0, d1, d2⟩ := hcell (k - 1) (by omega)
          have o7 : stepUp (ds (k - 1)) (ds k) = true := by simpa [hk0] using o4
          simp only [stepUp, Bool.and_eq_true, decide_eq_true_eq] at o7
          obtain ⟨u1, u2, u3⟩ := o7
          have e1' : decide ((ds k).time ≤ (ds (k - 1)).time) = false := decide_eq_false (by omega)
          have e2' : decide ((ds k).lo < (ds (k - 1)).lo) = false := decide_eq_false (by omega)
          have e3' : decide ((ds k).hi < (ds (k - 1)).hi) = false := decide_eq_false (by omega)
          have hi4 : k - 1 < dn := by omega
          have hk1 : decide (0 < k) = true := by simp; omega
          have hi1 : (0 : Int) ≤ (k : Int) - 1 := by omega
          have hi2 : ((k : Int) - 1).toNat = k - 1 := by omega
          have hi3 : IntKind.i64.wrap ((k : Int) - 1) = (k : Int) - 1 := IntWalk.i64_in _ (by omega)
          clear o4 hk0 u1 u2 u3 hcell
          go_wp2_with (go_at_call 24; refine (refIn_any _ _ _ _).mono ?_; rintro e w' ⟨rfl, rfl⟩)
          go_quiet (fail)
          go_wp2
          clear hi1 hi2 hi3
          go_roundw
          case rel => exact ⟨k + 1, by omega, by go_num, fun j hj => by (by_cases e : j = k; subst e; exact HOK.out; exact HALL.out j (by omega)), by first | exact hB0 | exact hB0.alloc (by omega) _ | exact below_drewN (hB0.alloc (by omega) _) _ | exact below_drewN hB0 _⟩
          case measure => simp [intOf]; omega
      · have HF := Lib.hid (tubesB_false hlt hok).symm
        rw [stepAt_iff] at hok
        by_cases o1 : withinB (ds k).time 0 1000000 = true ∧ 0 ≤ (ds k).lo ∧ (ds k).lo ≤ (ds k).hi ∧ (ds k).hi ≤ pitch / 2
        · obtain ⟨o1, o2, o3, o4⟩ := o1
          have hk0 : ¬ k = 0 := fun e => hok ⟨withinB_iff.1 o1, ⟨o2, o3⟩, o4, .inl e⟩
          obtain ⟨d0, d1, d2⟩ := hcell (k - 1) (by omega)
          have hi4 : k - 1 < dn := by omega
          have hk1 : decide (0 < k) = true := by simp; omega
          have hi1 : (0 : Int) ≤ (k : Int) - 1 := by omega
          have hi2 : ((k : Int) - 1).toNat = k - 1 := by omega
          have hi3 : IntKind.i64.wrap ((k : Int) - 1) = (k : Int) - 1 := IntWalk.i64_in _ (by omega)
          have hok2 : ¬ ((ds (k - 1)).time < (ds k).time ∧ (ds (k - 1)).lo ≤ (ds k).lo ∧ (ds (k - 1)).hi ≤ (ds k).hi) := fun e => hok ⟨withinB_iff.1 o1, ⟨o2, o3⟩, o4, .inr e⟩
          clear hok hcell hk0
          by_cases e1 : (ds k).time ≤ (ds (k - 1)).time
          · have e1' : decide ((ds k).time ≤ (ds (k - 1)).time) = true := decide_eq_true e1
            clear hok2
            go_wp2_with (go_at_call 24; refine (refIn_any _ _ _ _).mono ?_; rintro e w' ⟨rfl, rfl⟩)
            go_quiet (fail)
            go_wp2
            go_ret
            exact ⟨ret_bool HF.out, by first | exact hB0 | exact hB0.alloc (by omega) _ | exact below_drewN (hB0.alloc (by omega) _) _ | exact below_drewN hB0 _⟩
          · have e1' : decide ((ds k).time ≤ (ds (k - 1)).time) = false := decide_eq_false e1
            by_cases e2 : (ds k).lo < (ds (k - 1)).lo
            · have e2' : decide ((ds k).lo < (ds (k - 1)).lo) = true := decide_eq_true e2
              clear hok2
              go_wp2_with (go_at_call 24; refine (refIn_any _ _ _ _).mono ?_; rintro e w' ⟨rfl, rfl⟩)
              go_quiet (fail)
              go_wp2
              go_ret
              exact ⟨ret_bool HF.out, by first | exact hB0 | exact hB0.alloc (by omega) _ | exact below_drewN (hB0.alloc (by omega) _) _ | exact below_drewN hB0 _⟩
            · have e2' : decide ((ds k).lo < (ds (k - 1)).lo) = false := decide_eq_false e2
              have e3' : decide ((ds k).hi < (ds (k - 1)).hi) = true := decide_eq_true (by omega)
              clear hok2
              go_wp2_with (go_at_call 24; refine (refIn_any _ _ _ _).mono ?_; rintro e w' ⟨rfl, rfl⟩)
              go_quiet (fail)
              go_wp2
              go_ret
              exact ⟨ret_bool HF.out, by first | exact hB0 | exact hB0.alloc (by omega) _ | exact below_drewN (hB0.alloc (by omega) _) _ | exact below_drewN hB0 _⟩
        · clear hok hcell
          by_cases o2 : withinB (ds k).time 0 1000000 = true
          · have o3 : ¬ (0 ≤ (ds k).lo ∧ (ds k).lo ≤ (ds k).hi ∧ (ds k).hi ≤ pitch / 2) := fun e => o1 ⟨o2, e⟩
            clear o1
            by_cases p1 : (ds k).lo < 0
            · clear o3
              go_wp2_with (go_at_call 24; refine (refIn_any _ _ _ _).mono ?_; rintro e w' ⟨rfl, rfl⟩)
              go_ret
              exact ⟨ret_bool HF.out, by first | exact hB0 | exact hB0.alloc (by omega) _ | exact below_drewN (hB0.alloc (by omega) _) _ | exact below_drewN hB0 _⟩
            · by_cases p2 : (ds k).hi < (ds k).lo
              · clear o3
                go_wp2_with (go_at_call 24; refine (refIn_any _ _ _ _).mono ?_; rintro e w' ⟨rfl, rfl⟩)
                go_ret
                exact ⟨ret_bool HF.out, by first | exact hB0 | exact hB0.alloc (by omega) _ | exact below_drewN (hB0.alloc (by omega) _) _ | exact below_drewN hB0 _⟩
              · have p3 : pitch / 2 < (ds k).hi := by omega
                clear o3
                go_wp2_with (go_at_call 24; refine (refIn_any _ _ _ _).mono ?_; rintro e w' ⟨rfl, rfl⟩)
                go_ret
                exact ⟨ret_bool HF.out, by first | exact hB0 | exact hB0.alloc (by omega) _ | exact below_drewN (hB0.alloc (by omega) _) _ | exact below_drewN hB0 _⟩
          · have o3 : withinB (ds k).time 0 1000000 = false := by simpa using o2
            clear o1 o2
            go_wp2_with (go_at_call 24; refine (refIn_any _ _ _ _).mono ?_; rintro e w' ⟨rfl, rfl⟩)
            go_ret
            exact ⟨ret_bool HF.out, by first | exact hB0 | exact hB0.alloc (by omega) _ | exact below_drewN (hB0.alloc (by omega) _) _ | exact below_drewN hB0 _⟩
    · go_wp2_with (go_at_call 24; refine (refIn_any _ _ _ _).mono ?_; rintro e w' ⟨rfl, rfl⟩)
      go_ret
      exact ⟨ret_bool (tubesB_end (by omega) HALL.out).symm, hB0⟩
end Go.Proofs.YtegimepmccilfaaGreatDoor
