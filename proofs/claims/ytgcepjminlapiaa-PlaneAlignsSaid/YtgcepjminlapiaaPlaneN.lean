/- The walk of the reference's Gates. -/
import Derived.Test.YtgcepjminlapiaaPlaneL
import Derived.Test.YtgcepjminlapiaaPlaneM
import Derived.Test.YtgcepjminlapiaaPlaneJ3
namespace Go.Proofs.Ytgcepjminlapiaa
open Go.RowKit
set_option linter.unusedVariables false
set_option linter.unusedSimpArgs false
set_option maxRecDepth 100000 in
set_option maxHeartbeats 3000000 in
theorem refGates_any (a : Option Addr) (n c : Nat) (ps : Nat → PR) (h : HV) (w : World) (B : Nat) (hBw : B ≤ w.heap.size) (hP : Planes B w a n ps) (hC : checkB n ps = true) (k : Nat) (hk : k < n) (hhp : h.plane = k) (hH : hitB (ps k) h = true) :
    Calls Try.prog 22 #[setupV a n c, h.val] w (GatesRes w (ps k) h) := by
  obtain ⟨b, off, rfl, hbB, ⟨c0, c1, c2, c3, c4, c5, c6, c7, c8, c9, c10, c11, c12, c13, c14⟩, hm⟩ := hP.get hk
  have hN := checkB_n hC
  have hPr := checkB_plane hC hk
  have hS := properB_shaped hPr
  clear hP hC
  have hpre := hitB_bounds hH
  have HT : Hid ((ps k).kind = 2 → tubesB (ps k).pitch (ps k).dn (ps k).ds = true ∧ 0 ≤ h.drift ∧ h.drift ≤ 1000000) := Lib.hid (fun e => ⟨properB_tubes hPr e, hitB_drift hH e⟩)
  clear hH hPr
  obtain ⟨_, channel, many, drift, charge, time⟩ := h
  dsimp only at hhp hpre
  subst hhp
  generalize ps k = p at *
  obtain ⟨hst1, hst2⟩ := hS.strips
  obtain ⟨g1, g2⟩ := hS.first
  obtain ⟨b1, b2⟩ := hS.pitch
  obtain ⟨s1, s2⟩ := hS.spill
  obtain ⟨o1, o2, o3⟩ := hS.off
  obtain ⟨⟨q1, q2⟩, ⟨q3, q4⟩, _, _⟩ := hpre
  obtain ⟨m1, m2⟩ := mul_bounds (x := channel + many - 1) (q := p.pitch) (by omega) (by omega) b1 b2
  obtain ⟨m3, m4⟩ := mul_bounds (x := channel + 1) (q := p.pitch) (by omega) (by omega) b1 b2
  obtain ⟨m5, m6⟩ := mul_bounds (x := channel) (q := p.pitch) (by omega) (by omega) b1 b2
  have HS := Lib.hid hS
  have HM := Lib.hid hm
  clear hS hm
  have hbz : b < w.heap.size := by omega
  have lt1 : b < w.heap.size + 1 := by omega
  have lt2 : b < w.heap.size + 1 + 1 := by omega
  obtain ⟨kind, view, z, first, pitch, strips, spill, olo, ohi, clo, chi, jitter, least, da, dn, dc, ea, en, ec, ds, es⟩ := p
  dsimp only at *
  go_enter Try.func22, Try.ntmps22
  go_upto_region 1 with (fail)
  go_cut [5] from 13 to 18 (fun s5 wx => s5 = .pointer (some ⟨w.heap.size + 2, 0, none⟩) ∧ (∀ j, wx.cell? ⟨w.heap.size + 1, j, none⟩ = (#[.int .i64 k, .int .i64 channel, .int .i64 many, .int .i64 drift, .int .i64 charge, .int .i64 time] : Array Value)[j]?) ∧ (∀ j, wx.cell? ⟨w.heap.size + 2, j, none⟩ = (#[.int .i64 kind, .int .i64 view, .int .i64 z, .int .i64 first, .int .i64 pitch, .int .i64 strips, .int .i64 spill, .int .i64 olo, .int .i64 ohi, .int .i64 clo, .int .i64 chi, .int .i64 jitter, .int .i64 least, .slice da dn dc, .slice ea en ec] : Array Value)[j]?) ∧ w.heap.size + 3 ≤ wx.heap.size ∧ Below w.heap.size w wx)
  case first =>
    go_wp2_with fail
    go_meet
    clear c0 c1 c2 c3 c4 c5 c6 c7 c8 c9 c10 c11 c12 c13 c14
    refine ⟨rfl, fun j => ?_, fun j => ?_, ?_, ?_⟩
    · exact cell_of_row _ _ _ _ _ _ (heap_3_1 _ _ _ _)
    · exact cell_of_row _ _ _ _ _ _ (heap_3_2 _ _ _ _)
    · simp
    · exact (((Below.refl _ _).alloc (Nat.le_refl _) _).alloc (by simp) _).alloc (by simp; omega) _
  obtain ⟨rfl, hh, hp, hz, hbx⟩ := hcut
  clear c0 c1 c2 c3 c4 c5 c6 c7 c8 c9 c10 c11 c12 c13 c14 lt1 lt2
  by_cases hk2 : kind = 2
  case neg =>
    have e1 : (kind != 2) = true := by simp [hk2]
    have HK := Lib.hid hk2
    clear hk2
    by_cases hg : first + (channel + 1) * pitch + spill < first + (channel + many - 1) * pitch - spill
    · go_wp2
      go_ret
      have e0 : gateN ⟨kind, view, z, first, pitch, strips, spill, olo, ohi, clo, chi, jitter, least, da, dn, dc, ea, en, ec, ds, es⟩ ⟨k, channel, many, drift, charge, time⟩ = 0 := gateN_none HK.out hg
      exact ⟨none, 0, by rw [e0]; rfl, fun _ => ⟨rfl, rfl⟩, .inl e0, hbx⟩
    · go_wp2
      go_ret
      have e0 : gateN ⟨kind, view, z, first, pitch, strips, spill, olo, ohi, clo, chi, jitter, least, da, dn, dc, ea, en, ec, ds, es⟩ ⟨k, channel, many, drift, charge, time⟩ = 1 := gateN_strip HK.out (by show ¬ first + (channel + 1) * pitch + spill < first + (channel + many - 1) * pitch - spill; omega)
      refine ⟨some ⟨wc.heap.size, 0, none⟩, 1, by rw [e0]; rfl, fun h => by omega, ?_, hbx.alloc (by omega) _⟩
      rw [e0]
      refine .inr ⟨wc.heap.size, 0, rfl, by simp, fun i hi => ?_⟩
      obtain rfl : i = 0 := by omega
      rw [gateF_strip HK.out]
      simp [gA, gB]
  obtain ⟨HTb, d1, d2⟩ := HT.out hk2
  obtain ⟨r, hr⟩ : ∃ r, r = radLo ⟨kind, view, z, first, pitch, strips, spill, olo, ohi, clo, chi, jitter, least, da, dn, dc, ea, en, ec, ds, es⟩ drift dn := ⟨_, rfl⟩
  obtain ⟨f, hf⟩ : ∃ f, f = radHi ⟨kind, view, z, first, pitch, strips, spill, olo, ohi, clo, chi, jitter, least, da, dn, dc, ea, en, ec, ds, es⟩ drift dn := ⟨_, rfl⟩
  have r1 : 0 ≤ r ∧ r ≤ 50000 := by rw [hr]; exact radLo_bounds (p := ⟨kind, view, z, first, pitch, strips, spill, olo, ohi, clo, chi, jitter, least, da, dn, dc, ea, en, ec, ds, es⟩) HTb b2 b1 dn (Nat.le_refl _)
  have f1 : 0 ≤ f ∧ f ≤ 50000 := by rw [hf]; exact radHi_bounds (p := ⟨kind, view, z, first, pitch, strips, spill, olo, ohi, clo, chi, jitter, least, da, dn, dc, ea, en, ec, ds, es⟩) HTb b2 b1 dn (Nat.le_refl _)
  obtain ⟨r1, r2⟩ := r1
  obtain ⟨f1, f2⟩ := f1
  have HR := Lib.hid hr
  have HFf := Lib.hid hf
  have e1 : (kind != 2) = false := by simp [hk2]
  have HK := Lib.hid hk2
  clear hk2 hr hf HTb m1 m2 m3 m4
  by_cases ho : first + channel * pitch + r + olo ≤ first + channel * pitch - r + ohi
  · have e2 : oneB ⟨kind, view, z, first, pitch, strips, spill, olo, ohi, clo, chi, jitter, least, da, dn, dc, ea, en, ec, ds, es⟩ ⟨k, channel, many, drift, charge, time⟩ = true := oneB_yes HR.out ho
    have HE2 := Lib.hid e2
    have e0 : gateN ⟨kind, view, z, first, pitch, strips, spill, olo, ohi, clo, chi, jitter, least, da, dn, dc, ea, en, ec, ds, es⟩ ⟨k, channel, many, drift, charge, time⟩ = 1 := gateN_one HK.out e2
    clear e2
    have HE0 := Lib.hid e0
    clear e0
    have HO := Lib.hid ho
    go_wp2_with (go_at_call 55; refine (refRadii_any ⟨kind, view, z, first, pitch, strips, spill, olo, ohi, clo, chi, jitter, least, da, dn, dc, ea, en, ec, ds, es⟩ drift _ B (by omega) (HM.out.below (hbx.mono hBw)) HS.out ⟨d1, d2⟩).mono ?_; rintro e w2 ⟨rfl, hb2⟩; rw [← HR.out, ← HFf.out]; have hh2 := fun j => (hb2.cell (p := ⟨w.heap.size + 1, j, none⟩) (by show w.heap.size + 1 < _; omega)).trans (hh j); have hp2 := fun j => (hb2.cell (p := ⟨w.heap.size + 2, j, none⟩) (by show w.heap.size + 2 < _; omega)).trans (hp j); have hB2 : Below w.heap.size w w2 := hbx.trans (hb2.mono (by omega)); have hz2 : w.heap.size + 3 ≤ w2.heap.size := (by have := hb2.size; omega); have hz3 : w.heap.size + 1 < w2.heap.size := (by omega); have hz4 : w.heap.size + 2 < w2.heap.size := (by omega); have hz5 : w.heap.size + 2 < w2.heap.size + 1 := (by omega); have hz6 : w.heap.size + 2 < w2.heap.size + 1 + 1 := (by omega); clear hh hp hb2)
    go_ret
    refine ⟨some ⟨w2.heap.size + 1 + 1, 0, none⟩, 1, by rw [HE0.out]; rfl, (fun h => by rw [HE0.out] at h; cases h), ?_, ((hB2.alloc (by omega) _).alloc (by simp; omega) _).alloc (by simp; omega) _⟩
    rw [HE0.out]
    refine .inr ⟨w2.heap.size + 1 + 1, 0, rfl, by simp, fun i hi => ?_⟩
    obtain rfl : i = 0 := by omega
    rw [gateF_one HFf.out HK.out HE2.out]
    exact ⟨(cell_of_row _ _ _ _ _ _ (heap_new3 (by simp))).trans (by simp [gW]), (cell_of_row _ _ _ _ _ _ (heap_new3 (by simp))).trans (by simp [gW]), (cell_of_row _ _ _ _ _ _ (heap_new3 (by simp))).trans (by simp [gW])⟩
  · have e2 : ¬ oneB ⟨kind, view, z, first, pitch, strips, spill, olo, ohi, clo, chi, jitter, least, da, dn, dc, ea, en, ec, ds, es⟩ ⟨k, channel, many, drift, charge, time⟩ = true := oneB_no HR.out ho
    have HE2 := Lib.hid e2
    have e0 : gateN ⟨kind, view, z, first, pitch, strips, spill, olo, ohi, clo, chi, jitter, least, da, dn, dc, ea, en, ec, ds, es⟩ ⟨k, channel, many, drift, charge, time⟩ = 2 := gateN_two HK.out e2
    clear e2
    have HE0 := Lib.hid e0
    clear e0
    have HO := Lib.hid ho
    go_wp2_with (go_at_call 55; refine (refRadii_any ⟨kind, view, z, first, pitch, strips, spill, olo, ohi, clo, chi, jitter, least, da, dn, dc, ea, en, ec, ds, es⟩ drift _ B (by omega) (HM.out.below (hbx.mono hBw)) HS.out ⟨d1, d2⟩).mono ?_; rintro e w2 ⟨rfl, hb2⟩; rw [← HR.out, ← HFf.out]; have hh2 := fun j => (hb2.cell (p := ⟨w.heap.size + 1, j, none⟩) (by show w.heap.size + 1 < _; omega)).trans (hh j); have hp2 := fun j => (hb2.cell (p := ⟨w.heap.size + 2, j, none⟩) (by show w.heap.size + 2 < _; omega)).trans (hp j); have hB2 : Below w.heap.size w w2 := hbx.trans (hb2.mono (by omega)); have hz2 : w.heap.size + 3 ≤ w2.heap.size := (by have := hb2.size; omega); have hz3 : w.heap.size + 1 < w2.heap.size := (by omega); have hz4 : w.heap.size + 2 < w2.heap.size := (by omega); have hz5 : w.heap.size + 2 < w2.heap.size + 1 := (by omega); have hz6 : w.heap.size + 2 < w2.heap.size + 1 + 1 := (by omega); clear hh hp hb2)
    go_ret
    refine ⟨some ⟨w2.heap.size + 1 + 1, 0, none⟩, 2, by rw [HE0.out]; rfl, (fun h => by rw [HE0.out] at h; cases h), ?_, ((hB2.alloc (by omega) _).alloc (by simp; omega) _).alloc (by simp; omega) _⟩
    rw [HE0.out]
    refine .inr ⟨w2.heap.size + 1 + 1, 0, rfl, by simp, fun i hi => ?_⟩
    by_cases hi0 : i = 0
    · subst hi0
      rw [gateF_left HR.out HFf.out HK.out HE2.out]
      exact ⟨(cell_of_row _ _ _ _ _ _ (heap_new3 (by simp))).trans (by simp [gW]), (cell_of_row _ _ _ _ _ _ (heap_new3 (by simp))).trans (by simp [gW]), (cell_of_row _ _ _ _ _ _ (heap_new3 (by simp))).trans (by simp [gW])⟩
    · obtain rfl : i = 1 := by omega
      rw [gateF_right HR.out HFf.out HK.out HE2.out]
      exact ⟨(cell_of_row _ _ _ _ _ _ (heap_new3 (by simp))).trans (by simp [gW]), (cell_of_row _ _ _ _ _ _ (heap_new3 (by simp))).trans (by simp [gW]), (cell_of_row _ _ _ _ _ _ (heap_new3 (by simp))).trans (by simp [gW])⟩
end Go.Proofs.Ytgcepjminlapiaa
