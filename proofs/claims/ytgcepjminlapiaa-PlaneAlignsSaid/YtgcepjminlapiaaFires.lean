/- The walk of the reference's Fires, and what it answers. -/
import Derived.Test.YtgcepjminlapiaaPlaneN
import Derived.Test.YtgcepjminlapiaaPlaneL
import Derived.Test.YtgcepjminlapiaaPlaneE
import Derived.Test.YtgcepjminlapiaaPlaneJ3
namespace Go.Proofs.Ytgcepjminlapiaa
open Go.RowKit
set_option linter.unusedVariables false
set_option linter.unusedSimpArgs false
def fireAt (p : PR) (h : HV) (y : Int) (i : Nat) : Bool := withinB y (p.first + (h.channel + i) * p.pitch - p.spill) (p.first + (h.channel + i + 1) * p.pitch + p.spill)
def far (y v : Int) : Int := if v ≤ y then y - v else v - y
def firesB (p : PR) (h : HV) (y : Int) : Bool := if p.kind = 2 then withinB (far y (gW p h)) (gR p h) (gF p h) else allUpto h.many.toNat (fireAt p h y)
set_option maxRecDepth 100000 in
set_option maxHeartbeats 3000000 in
theorem refFires_any (a : Option Addr) (n c : Nat) (ps : Nat → PR) (h : HV) (x o : Int) (w : World) (B : Nat) (hBw : B ≤ w.heap.size) (hP : Planes B w a n ps) (hC : checkB n ps = true) (k : Nat) (hk : k < n) (hhp : h.plane = k) (hH : hitB (ps k) h = true) (hx : -4000000 ≤ x ∧ x ≤ 4000000) (ho : -1000000 ≤ o ∧ o ≤ 1000000) :
    Calls Try.prog 25 #[setupV a n c, h.val, .int .i64 x, .int .i64 o] w fun e w' => e = .returned (.bool (firesB (ps k) h (x - o))) ∧ Below w.heap.size w w' := by
  obtain ⟨b, off, rfl, hbB, ⟨c0, c1, c2, c3, c4, c5, c6, c7, c8, c9, c10, c11, c12, c13, c14⟩, hm⟩ := hP.get hk
  have hN := checkB_n hC
  have hPr := checkB_plane hC hk
  have hS := properB_shaped hPr
  clear hP hC
  have hpre := hitB_bounds hH
  have HT : Hid ((ps k).kind = 2 → tubesB (ps k).pitch (ps k).dn (ps k).ds = true ∧ 0 ≤ h.drift ∧ h.drift ≤ 1000000) := Lib.hid (fun e => ⟨properB_tubes hPr e, hitB_drift hH e⟩)
  clear hH hPr
  obtain ⟨_, channel, many, drift, charge, time⟩ := h
  dsimp only at hhp hpre
  subst hhp
  generalize ps k = p at *
  obtain ⟨hst1, hst2⟩ := hS.strips
  obtain ⟨g1, g2⟩ := hS.first
  obtain ⟨b1, b2⟩ := hS.pitch
  obtain ⟨s1, s2⟩ := hS.spill
  obtain ⟨⟨q1, q2⟩, ⟨q3, q4⟩, _, _⟩ := hpre
  obtain ⟨x1, x2⟩ := hx
  obtain ⟨o1, o2⟩ := ho
  obtain ⟨m5, m6⟩ := mul_bounds (x := channel) (q := p.pitch) (by omega) (by omega) b1 b2
  have HS := Lib.hid hS
  have HM := Lib.hid hm
  clear hS hm
  have hbz : b < w.heap.size := by omega
  have lt1 : b < w.heap.size + 1 := by omega
  have lt2 : b < w.heap.size + 1 + 1 := by omega
  obtain ⟨kind, view, z, first, pitch, strips, spill, olo, ohi, clo, chi, jitter, least, da, dn, dc, ea, en, ec, ds, es⟩ := p
  dsimp only at *
  go_enter Try.func25, Try.ntmps25
  go_upto_region 1 with (fail)
  go_cut [9] from 16 to 21 (fun s9 wx => s9 = .pointer (some ⟨w.heap.size + 2, 0, none⟩) ∧ (∀ j, wx.cell? ⟨w.heap.size + 1, j, none⟩ = (#[.int .i64 k, .int .i64 channel, .int .i64 many, .int .i64 drift, .int .i64 charge, .int .i64 time] : Array Value)[j]?) ∧ (∀ j, wx.cell? ⟨w.heap.size + 2, j, none⟩ = (#[.int .i64 kind, .int .i64 view, .int .i64 z, .int .i64 first, .int .i64 pitch, .int .i64 strips, .int .i64 spill, .int .i64 olo, .int .i64 ohi, .int .i64 clo, .int .i64 chi, .int .i64 jitter, .int .i64 least, .slice da dn dc, .slice ea en ec] : Array Value)[j]?) ∧ w.heap.size + 3 ≤ wx.heap.size ∧ Below w.heap.size w wx)
  case first =>
    go_wp2_with fail
    go_meet
    clear c0 c1 c2 c3 c4 c5 c6 c7 c8 c9 c10 c11 c12 c13 c14
    refine ⟨rfl, fun j => ?_, fun j => ?_, ?_, ?_⟩
    · exact cell_of_row _ _ _ _ _ _ (heap_3_1 _ _ _ _)
    · exact cell_of_row _ _ _ _ _ _ (heap_3_2 _ _ _ _)
    · simp
    · exact (((Below.refl _ _).alloc (Nat.le_refl _) _).alloc (by simp) _).alloc (by simp; omega) _
  obtain ⟨rfl, hh, hp, hz, hbx⟩ := hcut
  clear c0 c1 c2 c3 c4 c5 c6 c7 c8 c9 c10 c11 c12 c13 c14 lt1 lt2
  by_cases hk2 : kind = 2
  · obtain ⟨HTb, d1, d2⟩ := HT.out hk2
    obtain ⟨r, hr⟩ : ∃ r, r = radLo ⟨kind, view, z, first, pitch, strips, spill, olo, ohi, clo, chi, jitter, least, da, dn, dc, ea, en, ec, ds, es⟩ drift dn := ⟨_, rfl⟩
    obtain ⟨f, hf⟩ : ∃ f, f = radHi ⟨kind, view, z, first, pitch, strips, spill, olo, ohi, clo, chi, jitter, least, da, dn, dc, ea, en, ec, ds, es⟩ drift dn := ⟨_, rfl⟩
    have HF := Lib.hid (show firesB ⟨kind, view, z, first, pitch, strips, spill, olo, ohi, clo, chi, jitter, least, da, dn, dc, ea, en, ec, ds, es⟩ ⟨k, channel, many, drift, charge, time⟩ (x - o) = withinB (far (x - o) (first + channel * pitch)) r f by rw [firesB, if_pos hk2, hr, hf]; rfl)
    have HR := Lib.hid hr
    have HFf := Lib.hid hf
    have e1 : (kind == 2) = true := by simp [hk2]
    clear hk2 hr hf HTb
    by_cases hyw : first + channel * pitch ≤ x - o
    · have HM1 := Lib.hid (show far (x - o) (first + channel * pitch) = x - o - (first + channel * pitch) by rw [far, if_pos hyw])
      go_wp2_with (first | (go_at_call 55; refine (refRadii_any ⟨kind, view, z, first, pitch, strips, spill, olo, ohi, clo, chi, jitter, least, da, dn, dc, ea, en, ec, ds, es⟩ drift _ B (by omega) (HM.out.below (hbx.mono hBw)) HS.out ⟨d1, d2⟩).mono ?_; rintro e w2 ⟨rfl, hb2⟩; rw [← HR.out, ← HFf.out]; have hB2 : Below w.heap.size w w2 := hbx.trans (hb2.mono (by omega)); clear hh hp hb2) | (go_at_call 24; refine (refIn_any _ _ _ _).mono ?_; rintro e w' ⟨rfl, rfl⟩))
      go_ret
      exact ⟨ret_bool (by rw [HF.out, HM1.out]), hB2⟩
    · have HM1 := Lib.hid (show far (x - o) (first + channel * pitch) = first + channel * pitch - (x - o) by rw [far, if_neg hyw])
      go_wp2_with (first | (go_at_call 55; refine (refRadii_any ⟨kind, view, z, first, pitch, strips, spill, olo, ohi, clo, chi, jitter, least, da, dn, dc, ea, en, ec, ds, es⟩ drift _ B (by omega) (HM.out.below (hbx.mono hBw)) HS.out ⟨d1, d2⟩).mono ?_; rintro e w2 ⟨rfl, hb2⟩; rw [← HR.out, ← HFf.out]; have hB2 : Below w.heap.size w w2 := hbx.trans (hb2.mono (by omega)); clear hh hp hb2) | (go_at_call 24; refine (refIn_any _ _ _ _).mono ?_; rintro e w' ⟨rfl, rfl⟩))
      go_ret
      exact ⟨ret_bool (by rw [HF.out, HM1.out]), hB2⟩
  · have e1 : (kind == 2) = false := by simp [hk2]
    have HF := Lib.hid (show firesB ⟨kind, view, z, first, pitch, strips, spill, olo, ohi, clo, chi, jitter, least, da, dn, dc, ea, en, ec, ds, es⟩ ⟨k, channel, many, drift, charge, time⟩ (x - o) = allUpto many.toNat (fireAt ⟨kind, view, z, first, pitch, strips, spill, olo, ohi, clo, chi, jitter, least, da, dn, dc, ea, en, ec, ds, es⟩ ⟨k, channel, many, drift, charge, time⟩ (x - o)) by rw [firesB, if_neg hk2])
    have HFA := Lib.hid (fun i : Nat => show fireAt ⟨kind, view, z, first, pitch, strips, spill, olo, ohi, clo, chi, jitter, least, da, dn, dc, ea, en, ec, ds, es⟩ ⟨k, channel, many, drift, charge, time⟩ (x - o) i = withinB (x - o) (first + (channel + i) * pitch - spill) (first + (channel + i + 1) * pitch + spill) from rfl)
    generalize fireAt ⟨kind, view, z, first, pitch, strips, spill, olo, ohi, clo, chi, jitter, least, da, dn, dc, ea, en, ec, ds, es⟩ ⟨k, channel, many, drift, charge, time⟩ (x - o) = FA at *
    obtain ⟨N, hN2⟩ := Int.eq_ofNat_of_zero_le (show 0 ≤ many by omega)
    subst hN2
    clear hk2
    go_wp2
    go_loopw [14] (fun t wr => ∃ i : Nat, i ≤ N ∧ t = .int .i64 i ∧ wr = wc ∧ ∀ j, j < i → FA j = true) (fun t _ => N - (intOf t).toNat)
    case atStart => exact ⟨0, Nat.zero_le _, rfl, rfl, fun j h => by omega⟩
    case round =>
      obtain ⟨i, hi, rfl, rfl, hall⟩ := hrel
      have HALL := Lib.hid hall
      clear hall
      by_cases hlt : i < N
      · obtain ⟨m1, m2⟩ := mul_bounds (x := channel + i) (q := pitch) (by omega) (by omega) b1 b2
        obtain ⟨m3, m4⟩ := mul_bounds (x := channel + i + 1) (q := pitch) (by omega) (by omega) b1 b2
        have hfa := HFA.out i
        cases hv : FA i
        · rw [hv] at hfa
          have hfa' := hfa.symm
          have HV := Lib.hid hv
          clear hfa hv
          go_wp2_with (go_at_call 24; refine (refIn_any _ _ _ _).mono ?_; rintro e w' ⟨rfl, rfl⟩)
          go_ret
          refine ⟨ret_bool ?_, hbx⟩
          rw [HF.out]
          simp only [Int.toNat_natCast]
          exact (allUpto_false hlt HV.out).symm
        · rw [hv] at hfa
          have hfa' := hfa.symm
          have HV := Lib.hid hv
          clear hfa hv
          go_wp2_with (go_at_call 24; refine (refIn_any _ _ _ _).mono ?_; rintro e w' ⟨rfl, rfl⟩)
          go_roundw
          case rel => exact ⟨i + 1, by omega, by go_num, by trivial, fun j hj => by (by_cases e : j = i; subst e; exact HV.out; exact HALL.out j (by omega))⟩
          case measure => simp [intOf]; omega
      · obtain rfl : i = N := by omega
        go_wp2
        go_ret
        refine ⟨ret_bool ?_, hbx⟩
        rw [HF.out]
        simp only [Int.toNat_natCast]
        exact (allUpto_true HALL.out).symm
end Go.Proofs.Ytgcepjminlapiaa
