/- The walk of the check of tubes. -/
import Derived.Test.YtegimepmccilfaaGreatDoorPlaneA
namespace Go.Proofs.YtegimepmccilfaaGreatDoor
open Go.RowKit
set_option linter.unusedVariables false
set_option linter.unusedSimpArgs false
set_option maxRecDepth 100000 in
set_option maxHeartbeats 400000 in
theorem tubes_none (p : PR) (i : Int) (w : World) (hn : p.dn = 0) :
    Calls Tryz.prog 62 #[p.placed i] w fun e w' => e = .returned (.bool (tubesB p.pitch p.dn p.ds)) ∧ Below w.heap.size w w' := by
  obtain ⟨kind, view, z, first, pitch, strips, spill, olo, ohi, clo, chi, jitter, least, da, dn, dc, ea, en, ec, ds, es⟩ := p
  dsimp only at hn ⊢
  subst hn
  go_enter Tryz.func62, Tryz.ntmps62
  go_wp2
  refine wp_loop_rounds 1 ?_
  rw [rounds_succ]
  go_wp2_with (go_at_call 36; refine (within_any _ _ _ _).mono ?_; rintro e w' ⟨rfl, rfl⟩)
  go_ret
  exact ⟨ret_bool (tubesB_end (k := 0) rfl (fun j h => by omega)).symm, (Below.refl _ _).alloc (Nat.le_refl _) _⟩
set_option maxRecDepth 100000 in
set_option maxHeartbeats 2000000 in
theorem tubes_any (p : PR) (i : Int) (w : World) (B : Nat) (hBw : B ≤ w.heap.size) (hd : Drifts B w p.da p.dn p.ds) (hn : p.dn ≤ maxLen) (hp : 2 ≤ p.pitch) (hp2 : p.pitch ≤ 100000) :
    Calls Tryz.prog 62 #[p.placed i] w fun e w' => e = .returned (.bool (tubesB p.pitch p.dn p.ds)) ∧ Below w.heap.size w w' := by
  rcases hd with hd | ⟨b, off, hda, hbs, hcell⟩
  · exact tubes_none p i w hd
  unfold maxLen at hn
  obtain ⟨kind, view, z, first, pitch, strips, spill, olo, ohi, clo, chi, jitter, least, da, dn, dc, ea, en, ec, ds, es⟩ := p
  dsimp only at hda hcell hn hp hp2 ⊢
  subst hda
  have HC := Lib.hid hcell
  clear hcell
  go_enter Tryz.func62, Tryz.ntmps62
  go_wp2
  go_loopw [9, 3, 4] (fun t _ _ wr => ∃ k : Nat, k ≤ dn ∧ t = .int .i64 k ∧ (∀ j, j < k → stepAt pitch ds j = true) ∧ Below (w.heap.size + 1) (w.alloc (.cells #[.int .i64 kind, .int .i64 view, .int .i64 z, .int .i64 first, .int .i64 pitch, .int .i64 strips, .int .i64 spill, .int .i64 olo, .int .i64 ohi, .int .i64 clo, .int .i64 chi, .int .i64 jitter, .int .i64 least, .slice (some ⟨b, off, none⟩) dn dc, .slice ea en ec, .int .i64 i] 84)) wr) (fun t _ _ _ => dn - (intOf t).toNat)
  case atStart => exact ⟨0, Nat.zero_le _, rfl, fun j h => by omega, Below.refl _ _⟩
  case round =>
    obtain ⟨k, hk, rfl, hall, hb⟩ := hrel
    have HALL := Lib.hid hall
    clear hall
    obtain ⟨hc, hf⟩ := bcell hb
    have hz : w.heap.size < wr.heap.size := by have := hb.size; simp at this; omega
    have hB0 : Below w.heap.size w wr := ((Below.refl _ _).alloc (Nat.le_refl _) _).trans (hb.mono (by omega))
    by_cases hlt : k < dn
    · obtain ⟨c0, c1, c2⟩ := HC.out k hlt
      have hbz : b < wr.heap.size := by omega
      have hbz0 : b < w.heap.size := by omega
      have hbz1 : b < w.heap.size + 1 := by omega
      by_cases hok : stepAt pitch ds k = true
      · have hok' := hok
        simp only [stepAt, stepOk, Bool.and_eq_true, decide_eq_true_eq] at hok'
        obtain ⟨⟨o1, o2, o3⟩, o4⟩ := hok'
        have HOK := Lib.hid hok
        clear hok
        by_cases hk0 : k = 0
        · have hk1 : decide (0 < k) = false := by simp; omega
          have HK := Lib.hid hk0
          clear o4 hk0
          go_wp2_with (go_at_call 36; refine (within_any _ _ _ _).mono ?_; rintro e w' ⟨rfl, rfl⟩)
          go_quiet (fail)
          go_wp2
          go_roundw
          case rel => exact ⟨k + 1, by omega, by go_num, fun j hj => by (by_cases e : j = k; subst e; exact HOK.out; exact HALL.out j (by omega)), below_drewN (hb.alloc (by omega) _) _⟩
          case measure => simp [intOf]; omega
        · obtain ⟨d0, d1, d2⟩ := HC.out (k - 1) (by omega)
          have o5 : stepUp (ds (k - 1)) (ds k) = true := by simpa [hk0] using o4
          simp only [stepUp, Bool.and_eq_true, decide_eq_true_eq] at o5
          obtain ⟨u1, u2, u3⟩ := o5
          have e1' : decide ((ds k).time ≤ (ds (k - 1)).time) = false := decide_eq_false (by omega)
          have e2' : decide ((ds k).lo < (ds (k - 1)).lo) = false := decide_eq_false (by omega)
          have e3' : decide ((ds k).hi < (ds (k - 1)).hi) = false := decide_eq_false (by omega)
          have hi4 : k - 1 < dn := by omega
          have hk1 : decide (0 < k) = true := by simp; omega
          have hi1 : (0 : Int) ≤ (k : Int) - 1 := by omega
          have hi2 : ((k : Int) - 1).toNat = k - 1 := by omega
          have hi3 : IntKind.i64.wrap ((k : Int) - 1) = (k : Int) - 1 := IntWalk.i64_in _ (by omega)
          clear o4 hk0 u1 u2 u3
          go_wp2_with (go_at_call 36; refine (within_any _ _ _ _).mono ?_; rintro e w' ⟨rfl, rfl⟩)
          go_quiet (fail)
          go_wp2
          clear hi1 hi2 hi3
          go_roundw
          case rel => exact ⟨k + 1, by omega, by go_num, fun j hj => by (by_cases e : j = k; subst e; exact HOK.out; exact HALL.out j (by omega)), below_drewN (hb.alloc (by omega) _) _⟩
          case measure => simp [intOf]; omega
      · have HF := Lib.hid (tubesB_false hlt hok).symm
        by_cases hk0 : k = 0
        · have hk1 : decide (0 < k) = false := by simp; omega
          have HK := Lib.hid hk0
          clear hk0
          rw [stepAt_iff] at hok
          have HOK := Lib.hid hok
          clear hok
          go_wp2_with (go_at_call 36; refine (within_any _ _ _ _).mono ?_; rintro e w' ⟨rfl, rfl⟩)
          · go_ret
            have h1 : withinB (ds k).time 0 1000000 = true := by assumption
            have h2 : withinB (ds k).lo 0 (ds k).hi = true := by assumption
            exact ⟨ret_bool HF.out, by first | exact hB0 | exact hB0.alloc (by omega) _ | exact below_drewN (hB0.alloc (by omega) _) _ | exact below_drewN hB0 _⟩
          · exfalso
            have h1 : withinB (ds k).time 0 1000000 = true := by assumption
            have h2 : withinB (ds k).lo 0 (ds k).hi = true := by assumption
            have h3 : (ds k).hi ≤ pitch / 2 := by assumption
            go_light
            simp only [withinB_iff] at h1 h2
            exact HOK.out ⟨h1, h2, h3, .inl HK.out⟩
          all_goals (go_ret; exact ⟨ret_bool HF.out, by first | exact hB0 | exact hB0.alloc (by omega) _ | exact below_drewN (hB0.alloc (by omega) _) _ | exact below_drewN hB0 _⟩)
        · obtain ⟨d0, d1, d2⟩ := HC.out (k - 1) (by omega)
          have hi4 : k - 1 < dn := by omega
          have hk1 : decide (0 < k) = true := by simp; omega
          have hi1 : (0 : Int) ≤ (k : Int) - 1 := by omega
          have hi2 : ((k : Int) - 1).toNat = k - 1 := by omega
          have hi3 : IntKind.i64.wrap ((k : Int) - 1) = (k : Int) - 1 := IntWalk.i64_in _ (by omega)
          rw [stepAt_iff] at hok
          have HOK := Lib.hid hok
          clear hok
          go_wp2_with (go_at_call 36; refine (within_any _ _ _ _).mono ?_; rintro e w' ⟨rfl, rfl⟩)
          · go_ret
            have h1 : withinB (ds k).time 0 1000000 = true := by assumption
            have h2 : withinB (ds k).lo 0 (ds k).hi = true := by assumption
            exact ⟨ret_bool HF.out, by first | exact hB0 | exact hB0.alloc (by omega) _ | exact below_drewN (hB0.alloc (by omega) _) _ | exact below_drewN hB0 _⟩
          · have h1 : withinB (ds k).time 0 1000000 = true := by assumption
            have h2 : withinB (ds k).lo 0 (ds k).hi = true := by assumption
            have h3 : (ds k).hi ≤ pitch / 2 := by assumption
            by_cases e1 : (ds k).time ≤ (ds (k - 1)).time
            · have e1' : decide ((ds k).time ≤ (ds (k - 1)).time) = true := decide_eq_true e1
              clear e1
              go_quiet (fail)
              go_wp2
              go_ret
              exact ⟨ret_bool HF.out, by first | exact hB0 | exact hB0.alloc (by omega) _ | exact below_drewN (hB0.alloc (by omega) _) _ | exact below_drewN hB0 _⟩
            · have e1' : decide ((ds k).time ≤ (ds (k - 1)).time) = false := decide_eq_false e1
              by_cases e2 : (ds k).lo < (ds (k - 1)).lo
              · have e2' : decide ((ds k).lo < (ds (k - 1)).lo) = true := decide_eq_true e2
                clear e1 e2
                go_quiet (fail)
                go_wp2
                go_ret
                exact ⟨ret_bool HF.out, by first | exact hB0 | exact hB0.alloc (by omega) _ | exact below_drewN (hB0.alloc (by omega) _) _ | exact below_drewN hB0 _⟩
              · have e2' : decide ((ds k).lo < (ds (k - 1)).lo) = false := decide_eq_false e2
                by_cases e3 : (ds k).hi < (ds (k - 1)).hi
                · have e3' : decide ((ds k).hi < (ds (k - 1)).hi) = true := decide_eq_true e3
                  clear e1 e2 e3
                  go_quiet (fail)
                  go_wp2
                  go_ret
                  exact ⟨ret_bool HF.out, by first | exact hB0 | exact hB0.alloc (by omega) _ | exact below_drewN (hB0.alloc (by omega) _) _ | exact below_drewN hB0 _⟩
                · exfalso
                  go_light
                  simp only [withinB_iff] at h1 h2
                  have := HOK.out
                  omega
          all_goals (go_ret; exact ⟨ret_bool HF.out, by first | exact hB0 | exact hB0.alloc (by omega) _ | exact below_drewN (hB0.alloc (by omega) _) _ | exact below_drewN hB0 _⟩)
    · go_wp2_with (go_at_call 36; refine (within_any _ _ _ _).mono ?_; rintro e w' ⟨rfl, rfl⟩)
      go_ret
      exact ⟨ret_bool (tubesB_end (by omega) HALL.out).symm, hB0⟩
end Go.Proofs.YtegimepmccilfaaGreatDoor
