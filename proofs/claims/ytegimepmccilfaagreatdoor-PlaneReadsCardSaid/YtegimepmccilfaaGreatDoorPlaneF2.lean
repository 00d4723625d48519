/- The walk of the reference's Plane, the planes whose numbers are as defined. -/
import Derived.Test.YtegimepmccilfaaGreatDoorPlaneF
namespace Go.Proofs.YtegimepmccilfaaGreatDoor
open Go.RowKit
set_option linter.unusedVariables false
set_option linter.unusedSimpArgs false
set_option maxRecDepth 100000 in
set_option maxHeartbeats 4000000 in
theorem refPlane_good (p : PR) (w : World) (B : Nat) (hBw : B ≤ w.heap.size) (hm : p.mem B w) (hK : 1 ≤ p.kind ∧ p.kind ≤ 3) (hP : shapedB p = true) :
    Calls Tryz.prog 25 #[p.plane] w fun e w' => e = .returned (.bool (properB p)) ∧ Below w.heap.size w w' := by
  have HE := fun (j : Nat) h3 h4 hk h => @properB_endR p j hK hP h3 h4 hk h
  have HX := fun (j : Nat) hk h => @properB_deadR p j hk h
  have HKD := @properB_kindR p
  have HMN := @properB_many p
  obtain ⟨k1, k2⟩ := hK
  have hS := shapedB_iff.1 hP
  obtain ⟨v1, v2⟩ := hS.view
  obtain ⟨b1, b2⟩ := hS.pitch
  obtain ⟨b3, b4⟩ := hS.strips
  obtain ⟨m1, m2⟩ := prod_bounds b3 b4 b1 b2
  have t1 := withinB_yes hS.z.1 hS.z.2
  have t2 := withinB_yes hS.first.1 hS.first.2
  have t3 := withinB_yes b1 b2
  have t4 := withinB_yes b3 b4
  have t5 := withinB_yes hS.spill.1 hS.spill.2
  have f1 := hS.first
  have f2 := hS.spill
  have f3 := hS.off
  have f4 := hS.clock
  have f5 := hS.low
  have f6 := hS.high
  have t6 : withinB p.olo (-1000000) 1000000 = true := withinB_yes (by omega) (by omega)
  have t7 : withinB p.ohi (-1000000) 1000000 = true := withinB_yes (by omega) (by omega)
  have t8 : withinB p.clo (-1000000000) 1000000000 = true := withinB_yes (by omega) (by omega)
  have t9 : withinB p.chi (-1000000000) 1000000000 = true := withinB_yes (by omega) (by omega)
  have t10 := withinB_yes hS.jitter.1 hS.jitter.2
  have t11 := withinB_yes hS.least.1 hS.least.2
  have w1 : withinB (p.first - p.pitch - p.spill + p.olo) (-1000000) 1000000 = true := withinB_yes (by omega) (by omega)
  have w2 : withinB (p.first + (p.strips + 1) * p.pitch + p.spill + p.ohi) (-1000000) 1000000 = true := withinB_yes (by omega) (by omega)
  have n1 : p.olo ≤ p.ohi := f3.2.1
  have n2 : p.clo ≤ p.chi := f4.2.1
  obtain ⟨g1, g2⟩ := f1
  obtain ⟨g3, g4⟩ := f2
  obtain ⟨g5, g6, g7⟩ := f3
  clear f4 f5 f6 hS hP
  obtain ⟨hdn, hen, hD, hI⟩ := hm
  have HD := Lib.hid hD
  have HI := Lib.hid hI
  clear hD hI
  have HE1 := Lib.hid HE
  have HX1 := Lib.hid HX
  have HKD1 := Lib.hid HKD
  have HMN1 := Lib.hid HMN
  clear HE HX HKD HMN
  have hkB : kindB p = if p.kind = 2 then tubesB p.pitch p.dn p.ds else (p.dn : Int) == 0 := rfl
  have HKB := Lib.hid hkB
  clear hkB
  obtain ⟨kind, view, z, first, pitch, strips, spill, olo, ohi, clo, chi, jitter, least, da, dn, dc, ea, en, ec, ds, es⟩ := p
  dsimp only at *
  have hv : view = 1 ∨ view = 2 := by omega
  have hcases : (view != 1) = false ∨ ((view != 1) = true ∧ (view != 2) = false) := by rcases hv with e | e <;> simp [e]
  clear hv
  obtain ⟨kb, hkb⟩ : ∃ kb : Bool, kb = kindB ⟨kind, view, z, first, pitch, strips, spill, olo, ohi, clo, chi, jitter, least, da, dn, dc, ea, en, ec, ds, es⟩ := ⟨_, rfl⟩
  have HKb := Lib.hid hkb
  rw [← hkb] at HKB
  clear hkb
  have hdn' := hdn
  unfold maxLen at hen hdn'
  go_enter Tryz.func25, Tryz.ntmps25
  go_upto_region 1 with (fail)
  go_cut [51] from 4 to 50 (fun s51 wx => s51 = .bool false ∧ wx = w.alloc (.cells #[.int .i64 kind, .int .i64 view, .int .i64 z, .int .i64 first, .int .i64 pitch, .int .i64 strips, .int .i64 spill, .int .i64 olo, .int .i64 ohi, .int .i64 clo, .int .i64 chi, .int .i64 jitter, .int .i64 least, .slice da dn dc, .slice ea en ec] 42))
  case first =>
    rcases hcases with e1 | ⟨e1, e2⟩
    all_goals (go_wp2_with (first | (go_at_call 24; refine (refIn_any _ _ _ _).mono ?_; rintro e w' ⟨rfl, rfl⟩) | (go_at_call 43; refine (place_any _ _).mono ?_; rintro e w' ⟨rfl, rfl⟩)); go_meet; exact ⟨congrArg Value.bool (by simp; omega), rfl⟩)
  obtain ⟨rfl, rfl⟩ := hcut
  clear hcases t1 t2 t3 t4 t5 k1 k2
  go_upto_region 7 with (first | (go_at_call 24; refine (refIn_any _ _ _ _).mono ?_; rintro e w' ⟨rfl, rfl⟩) | (go_at_call 43; refine (place_any _ _).mono ?_; rintro e w' ⟨rfl, rfl⟩))
  go_cut [169] from 52 to 168 (fun s169 wx => s169 = .bool (!(kb && decide ((en : Int) ≤ 100))) ∧ Below (w.heap.size + 1) (w.alloc (.cells #[.int .i64 kind, .int .i64 view, .int .i64 z, .int .i64 first, .int .i64 pitch, .int .i64 strips, .int .i64 spill, .int .i64 olo, .int .i64 ohi, .int .i64 clo, .int .i64 chi, .int .i64 jitter, .int .i64 least, .slice da dn dc, .slice ea en ec] 42)) wx)
  case first =>
    clear t6 t7 t8 t9 t10 t11 w1 w2 n1 n2 g1 g2 g3 g4 g5 g6 g7 m1 m2 v1 v2
    by_cases hk2 : kind = 2
    · have hk3 : (kind == 2) = true := by simp [hk2]
      have hk4 : (kind != 2) = false := by simp [hk2]
      have hkbv : tubesB pitch dn ds = kb := by have := HKB.out; rw [if_pos hk2] at this; exact this.symm
      have HKV := Lib.hid hkbv
      clear hk2 hkbv
      cases kb
      · go_wp2_with (go_at_call 44; refine (steps_any pitch da dn dc ds _ B (by simp; omega) (HD.out.below ((Below.refl B w).alloc hBw _)) hdn b1 b2).mono ?_; rintro e wy ⟨rfl, hb⟩; rw [HKV.out]; have hX := hb.mono (B' := w.heap.size + 1) (by simp); obtain ⟨hc, hf⟩ := bcell hX; clear hb)
        go_meet
        exact ⟨rfl, hX⟩
      · by_cases h100 : (en : Int) ≤ 100
        · have h101 : ¬ (100 : Int) < en := by omega
          have h102 : decide ((en : Int) ≤ 100) = true := by simp; omega
          go_wp2_with (go_at_call 44; refine (steps_any pitch da dn dc ds _ B (by simp; omega) (HD.out.below ((Below.refl B w).alloc hBw _)) hdn b1 b2).mono ?_; rintro e wy ⟨rfl, hb⟩; rw [HKV.out]; have hX := hb.mono (B' := w.heap.size + 1) (by simp); obtain ⟨hc, hf⟩ := bcell hX; clear hb)
          go_meet
          exact ⟨congrArg Value.bool (by first | (simp; done) | (simp; omega) | (cases h : decide ((en : Int) ≤ 100) <;> simp at h ⊢ <;> omega)), hX⟩
        · have h101 : (100 : Int) < en := by omega
          go_wp2_with (go_at_call 44; refine (steps_any pitch da dn dc ds _ B (by simp; omega) (HD.out.below ((Below.refl B w).alloc hBw _)) hdn b1 b2).mono ?_; rintro e wy ⟨rfl, hb⟩; rw [HKV.out]; have hX := hb.mono (B' := w.heap.size + 1) (by simp); obtain ⟨hc, hf⟩ := bcell hX; clear hb)
          go_meet
          exact ⟨congrArg Value.bool (by first | (simp; done) | (simp; omega) | (cases h : decide ((en : Int) ≤ 100) <;> simp at h ⊢ <;> omega)), hX⟩
    · have hk3 : (kind == 2) = false := by simp [hk2]
      have hk4 : (kind != 2) = true := by simp [hk2]
      have hkbv : ((dn : Int) == 0) = kb := by have := HKB.out; rw [if_neg hk2] at this; exact this.symm
      have HKV := Lib.hid hkbv
      clear hk2
      cases kb
      · have hd0 : (0 : Int) < dn := by simp at hkbv; omega
        clear hkbv
        go_wp2
        go_meet
        exact ⟨rfl, Below.refl _ _⟩
      · have hd0 : decide (0 < dn) = false := by simp at hkbv; simp; omega
        clear hkbv
        go_wp2
        go_meet
        exact ⟨congrArg Value.bool (by first | (simp; done) | (simp; omega) | (cases h : decide ((en : Int) ≤ 100) <;> simp at h ⊢ <;> omega)), Below.refl _ _⟩
  obtain ⟨rfl, hX⟩ := hcut
  clear t6 t7 t8 t9 t10 t11 w1 w2 n1 n2 g1 g2 g3 g4 g5 g6 g7 m1 m2 v1 v2 HKB HD
  have hB0 : Below w.heap.size w wc := ((Below.refl _ _).alloc (Nat.le_refl _) _).trans (hX.mono (by omega))
  by_cases hkt : kb = true
  case neg =>
    have HF := Lib.hid (HKD1.out (by rw [← HKb.out]; exact hkt))
    have e1 : (!(kb && decide ((en : Int) ≤ 100))) = true := by simp [hkt]
    rw [e1]
    go_wp2
    go_ret
    exact ⟨ret_bool HF.out, hB0⟩
  by_cases h100 : (en : Int) ≤ 100
  case neg =>
    have HF := Lib.hid (HMN1.out (by omega))
    have e1 : (!(kb && decide ((en : Int) ≤ 100))) = true := by simp [h100]
    rw [e1]
    go_wp2
    go_ret
    exact ⟨ret_bool HF.out, hB0⟩
  have e1 : (!(kb && decide ((en : Int) ≤ 100))) = false := by simp [h100, hkt]
  rw [e1]
  have HKT := Lib.hid hkt
  clear hkt e1 hB0
  go_wp2
  go_loopw [3] (fun t wr => ∃ k : Nat, k ≤ en ∧ t = .int .i64 k ∧ (∀ j, j < k → deadAt strips es j = true) ∧ Below (w.heap.size + 1) (w.alloc (.cells #[.int .i64 kind, .int .i64 view, .int .i64 z, .int .i64 first, .int .i64 pitch, .int .i64 strips, .int .i64 spill, .int .i64 olo, .int .i64 ohi, .int .i64 clo, .int .i64 chi, .int .i64 jitter, .int .i64 least, .slice da dn dc, .slice ea en ec] 42)) wr) (fun t _ => en - (intOf t).toNat)
  case atStart => exact ⟨0, Nat.zero_le _, rfl, fun j h => by omega, hX⟩
  case round =>
    clear hX
    obtain ⟨k, hk, rfl, hall, hb⟩ := hrel
    have HALL := Lib.hid hall
    clear hall
    obtain ⟨hc, hf⟩ := bcell hb
    have hz2 : w.heap.size < wr.heap.size := by have := hb.size; simp at this; omega
    have hB0 : Below w.heap.size w wr := ((Below.refl _ _).alloc (Nat.le_refl _) _).trans (hb.mono (by omega))
    by_cases hlt : k < en
    · rcases HI.out with hd | ⟨b, off, rfl, hbs, hcell⟩
      · omega
      have c0 := hcell k hlt
      have hbz : b < wr.heap.size := by omega
      have hbz0 : b < w.heap.size := by omega
      have hbz1 : b < w.heap.size + 1 := by omega
      have hi5 : IntKind.i64.wrap (strips - 1) = strips - 1 := IntWalk.i64_in _ (by omega)
      by_cases hok : deadAt strips es k = true
      · have HOK := Lib.hid hok
        rw [deadAt_iff] at hok
        obtain ⟨⟨o1, o2⟩, o3⟩ := hok
        have o4 : withinB (es k) 0 (strips - 1) = true := withinB_yes o1 o2
        by_cases hk0 : k = 0
        · have hk1 : decide (0 < k) = false := by simp; omega
          clear o3 hk0 hcell
          go_wp2_with fail
          go_quiet ((go_at_call 24; exact Calls.quiet_same (refIn_any _ _ _ _)))
          go_wp2
          clear hi5
          go_roundw
          case rel => exact ⟨k + 1, by omega, by go_num, fun j hj => by (by_cases e : j = k; subst e; exact HOK.out; exact HALL.out j (by omega)), below_drewN hb _⟩
          case measure => simp [intOf]; omega
        · have hk1 : decide (0 < k) = true := by simp; omega
          have o5 : es (k - 1) < es k := by omega
          have o6 : decide (es k ≤ es (k - 1)) = false := by simp; omega
          have c1 := hcell (k - 1) (by omega)
          have hi4 : k - 1 < en := by omega
          have hi1 : (0 : Int) ≤ (k : Int) - 1 := by omega
          have hi2 : ((k : Int) - 1).toNat = k - 1 := by omega
          have hi3 : IntKind.i64.wrap ((k : Int) - 1) = (k : Int) - 1 := IntWalk.i64_in _ (by omega)
          clear o3 hk0 hcell
          go_wp2_with fail
          go_quiet ((go_at_call 24; exact Calls.quiet_same (refIn_any _ _ _ _)))
          go_wp2
          clear hi1 hi2 hi3 hi5
          go_roundw
          case rel => exact ⟨k + 1, by omega, by go_num, fun j hj => by (by_cases e : j = k; subst e; exact HOK.out; exact HALL.out j (by omega)), below_drewN hb _⟩
          case measure => simp [intOf]; omega
      · have HF := Lib.hid (HX1.out k hlt hok)
        rw [deadAt_iff] at hok
        by_cases o4 : withinB (es k) 0 (strips - 1) = true
        · have hk1 : decide (0 < k) = true := by simp; rw [withinB_iff] at o4; omega
          have hk2 : 0 < k := by simpa using hk1
          have o5 : decide (es k ≤ es (k - 1)) = true := by rw [withinB_iff] at o4; simp; omega
          have c1 := hcell (k - 1) (by omega)
          have hi4 : k - 1 < en := by omega
          have hi1 : (0 : Int) ≤ (k : Int) - 1 := by omega
          have hi2 : ((k : Int) - 1).toNat = k - 1 := by omega
          have hi3 : IntKind.i64.wrap ((k : Int) - 1) = (k : Int) - 1 := IntWalk.i64_in _ (by omega)
          clear hok hcell
          go_wp2_with fail
          go_quiet ((go_at_call 24; exact Calls.quiet_same (refIn_any _ _ _ _)))
          go_wp2
          go_ret
          exact ⟨ret_bool HF.out, below_drewN hB0 _⟩
        · have o5 : withinB (es k) 0 (strips - 1) = false := by simpa using o4
          clear hok hcell o4
          go_wp2_with fail
          go_quiet ((go_at_call 24; exact Calls.quiet_same (refIn_any _ _ _ _)))
          go_wp2
          go_ret
          exact ⟨ret_bool HF.out, below_drewN hB0 _⟩
    · go_wp2
      go_ret
      exact ⟨ret_bool (HE1.out k (by rw [← HKb.out]; exact HKT.out) (by assumption) (by omega) HALL.out), hB0⟩
theorem refPlane_any (p : PR) (w : World) (B : Nat) (hBw : B ≤ w.heap.size) (hm : p.mem B w) :
    Calls Tryz.prog 25 #[p.plane] w fun e w' => e = .returned (.bool (properB p)) ∧ Below w.heap.size w w' := by
  by_cases h : (1 ≤ p.kind ∧ p.kind ≤ 3) ∧ shapedPre p = true
  · by_cases h2 : shapedB p = true
    · exact refPlane_good p w B hBw hm h.1 h2
    · exact refPlane_place p w h.1 h.2 h2
  · exact refPlane_pre p w h
end Go.Proofs.YtegimepmccilfaaGreatDoor
