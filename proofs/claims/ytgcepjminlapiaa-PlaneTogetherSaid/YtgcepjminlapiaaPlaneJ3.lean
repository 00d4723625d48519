/- The walk of the reference's Hit. -/
import Derived.Test.YtgcepjminlapiaaPlaneJ2
import Derived.Test.YtgcepjminlapiaaWide2
namespace Go.Proofs.Ytgcepjminlapiaa
open Go.RowKit
set_option linter.unusedVariables false
set_option linter.unusedSimpArgs false
theorem hitB_found {p : PR} {h : HV} {k : Nat} (hk : (k : Int) < h.many) (hd : deadIs p (h.channel + k) = true) : false = hitB p h := by
  obtain ⟨j, hj, he⟩ := deadIs_iff.1 hd
  have : noDeadAt p h j = false := by
    have : withinB (p.es j) h.channel (h.channel + h.many - 1) = true := withinB_yes (by omega) (by omega)
    simp [noDeadAt, this]
  simp [hitB, allUpto_false hj this]
theorem hitB_none {p : PR} {h : HV} {k : Nat} (h1 : hitPre p h = true) (hk : (k : Int) = h.many) (hd : ∀ j : Nat, j < k → deadIs p (h.channel + j) = false) : hitKind p h = hitB p h := by
  have : allUpto p.en (noDeadAt p h) = true := by
    apply allUpto_true
    intro j hj
    by_cases hw : withinB (p.es j) h.channel (h.channel + h.many - 1) = true
    · exfalso
      obtain ⟨w1, w2⟩ := withinB_iff.1 hw
      have := hd (p.es j - h.channel).toNat (by omega)
      rw [show h.channel + ((p.es j - h.channel).toNat : Int) = p.es j by omega] at this
      rw [deadIs_iff.2 ⟨j, hj, rfl⟩] at this
      cases this
    · simp [noDeadAt, hw]
  simp [hitB, h1, this]
theorem hitB_prefalse {p : PR} {h : HV} (hh : ¬ hitPre p h = true) : false = hitB p h := by simp [hitB, hh]
theorem heap_old3 {w : World} {o : Obj} {i : Nat} (h : i < w.heap.size) : (w.alloc o).heap[i]? = w.heap[i]? := Below.heap_alloc w o i h
theorem heap_new3 {w : World} {o : Obj} {i : Nat} (h : i = w.heap.size) : (w.alloc o).heap[i]? = some o := by subst h; exact heap_alloc_new w o
theorem heap_3_1 (w : World) (a b c : Obj) : (((w.alloc a).alloc b).alloc c).heap[w.heap.size + 1]? = some b := by
  rw [heap_old3 (by simp), heap_new3 (by simp)]
theorem heap_3_2 (w : World) (a b c : Obj) : (((w.alloc a).alloc b).alloc c).heap[w.heap.size + 2]? = some c := heap_new3 (by simp)
set_option maxRecDepth 100000 in
set_option maxHeartbeats 3000000 in
theorem refHit_in (a : Option Addr) (n c : Nat) (ps : Nat → PR) (h : HV) (w : World) (B : Nat) (hBw : B ≤ w.heap.size) (hP : Planes B w a n ps) (hC : checkB n ps = true) (k : Nat) (hk : k < n) (hh : h.plane = k) :
    Calls Try.prog 20 #[setupV a n c, h.val] w fun e w' => e = .returned (.bool (hitB (ps k) h)) ∧ Below w.heap.size w w' := by
  obtain ⟨b, off, rfl, hbB, ⟨c0, c1, c2, c3, c4, c5, c6, c7, c8, c9, c10, c11, c12, c13, c14⟩, hm⟩ := hP.get hk
  have hN := checkB_n hC
  have hS := properB_shaped (checkB_plane hC hk)
  clear hP hC
  obtain ⟨_, channel, many, drift, charge, time⟩ := h
  dsimp only at hh
  subst hh
  generalize ps k = p at *
  obtain ⟨hst1, hst2⟩ := hS.strips
  obtain ⟨hl1, hl2⟩ := hS.least
  clear hS
  have h1 : withinB (k : Int) 0 ((n : Int) - 1) = true := withinB_yes (by omega) (by omega)
  have hbz : b < w.heap.size := by omega
  have lt1 : b < w.heap.size + 1 := by omega
  have lt2 : b < w.heap.size + 1 + 1 := by omega
  have HM := Lib.hid hm
  clear hm
  have HF1 := Lib.hid (fun hh => @hitB_prefalse p ⟨k, channel, many, drift, charge, time⟩ hh)
  have HF2 := Lib.hid (fun j hj hd => @hitB_found p ⟨k, channel, many, drift, charge, time⟩ j hj hd)
  have HF3 := Lib.hid (fun j h1 hk hd => @hitB_none p ⟨k, channel, many, drift, charge, time⟩ j h1 hk hd)
  obtain ⟨p0, HP0⟩ : ∃ p0 : PR, Hid (p0 = p) := ⟨p, Lib.hid rfl⟩
  obtain ⟨kind, view, z, first, pitch, strips, spill, olo, ohi, clo, chi, jitter, least, da, dn, dc, ea, en, ec, ds, es⟩ := p
  dsimp only at *
  go_enter Try.func20, Try.ntmps20
  go_upto_region 3 with ((go_at_call 24; refine (refIn_any _ _ _ _).mono ?_; rintro e w' ⟨rfl, rfl⟩))
  go_cut [5] from 7 to 20 (fun s5 wx => s5 = .pointer (some ⟨w.heap.size + 2, 0, none⟩) ∧ (∀ j, wx.cell? ⟨w.heap.size + 1, j, none⟩ = (#[.int .i64 k, .int .i64 channel, .int .i64 many, .int .i64 drift, .int .i64 charge, .int .i64 time] : Array Value)[j]?) ∧ (∀ j, wx.cell? ⟨w.heap.size + 2, j, none⟩ = (#[.int .i64 kind, .int .i64 view, .int .i64 z, .int .i64 first, .int .i64 pitch, .int .i64 strips, .int .i64 spill, .int .i64 olo, .int .i64 ohi, .int .i64 clo, .int .i64 chi, .int .i64 jitter, .int .i64 least, .slice da dn dc, .slice ea en ec] : Array Value)[j]?) ∧ w.heap.size + 3 ≤ wx.heap.size ∧ Below w.heap.size w wx)
  case first =>
    go_wp2_with fail
    go_meet
    clear c0 c1 c2 c3 c4 c5 c6 c7 c8 c9 c10 c11 c12 c13 c14
    refine ⟨rfl, fun j => ?_, fun j => ?_, ?_, ?_⟩
    · exact cell_of_row _ _ _ _ _ _ (heap_3_1 _ _ _ _)
    · exact cell_of_row _ _ _ _ _ _ (heap_3_2 _ _ _ _)
    · simp
    · exact (((Below.refl _ _).alloc (Nat.le_refl _) _).alloc (by simp) _).alloc (by simp; omega) _
  obtain ⟨rfl, hh, hp, hz, hbx⟩ := hcut
  clear c0 c1 c2 c3 c4 c5 c6 c7 c8 c9 c10 c11 c12 c13 c14 lt1 lt2
  by_cases hpre : withinB channel 0 (strips - 1) = true ∧ withinB many 1 (strips - channel) = true ∧ withinB charge least 1000000 = true ∧ withinB time (-1000000000) 1000000000 = true
  case neg =>
    have HF := Lib.hid (HF1.out (by simpa [hitPre] using hpre))
    have HPRE := Lib.hid hpre
    clear hpre
    by_cases p1 : withinB channel 0 (strips - 1) = true
    · obtain ⟨q1, q2⟩ := withinB_iff.1 p1
      go_upto_region 6 with ((go_at_call 24; refine (refIn_any _ _ _ _).mono ?_; rintro e w' ⟨rfl, rfl⟩))
      all_goals first | (go_ret; exact ⟨ret_bool HF.out, hbx⟩) | (exfalso; go_light; apply HPRE.out; clear HPRE HF HF1 HF2 HF3 HM HP0 hh hp hbx; simp_all)
    · have p2 : withinB channel 0 (strips - 1) = false := by simpa using p1
      clear p1
      go_wp2_with (go_at_call 24; refine (refIn_any _ _ _ _).mono ?_; rintro e w' ⟨rfl, rfl⟩)
      go_ret
      exact ⟨ret_bool HF.out, hbx⟩
  obtain ⟨p1, p2, p3, p4⟩ := hpre
  have HPRE := Lib.hid (show hitPre ⟨kind, view, z, first, pitch, strips, spill, olo, ohi, clo, chi, jitter, least, da, dn, dc, ea, en, ec, ds, es⟩ ⟨k, channel, many, drift, charge, time⟩ = true by simp [hitPre, p1, p2, p3, p4])
  obtain ⟨q1, q2⟩ := withinB_iff.1 p1
  obtain ⟨q3, q4⟩ := withinB_iff.1 p2
  go_wp2_with (go_at_call 24; refine (refIn_any _ _ _ _).mono ?_; rintro e w' ⟨rfl, rfl⟩)
  clear p1 p2 p3 p4
  go_loopw [6] (fun t wr => ∃ i : Nat, (i : Int) ≤ many ∧ t = .int .i64 i ∧ (∀ j : Nat, j < i → deadIs p0 (channel + j) = false) ∧ (∀ j, wr.cell? ⟨w.heap.size + 1, j, none⟩ = (#[.int .i64 k, .int .i64 channel, .int .i64 many, .int .i64 drift, .int .i64 charge, .int .i64 time] : Array Value)[j]?) ∧ (∀ j, wr.cell? ⟨w.heap.size + 2, j, none⟩ = (#[.int .i64 kind, .int .i64 view, .int .i64 z, .int .i64 first, .int .i64 pitch, .int .i64 strips, .int .i64 spill, .int .i64 olo, .int .i64 ohi, .int .i64 clo, .int .i64 chi, .int .i64 jitter, .int .i64 least, .slice da dn dc, .slice ea en ec] : Array Value)[j]?) ∧ w.heap.size + 3 ≤ wr.heap.size ∧ Below w.heap.size w wr) (fun t _ => (many - intOf t).toNat)
  case atStart => exact ⟨0, by omega, rfl, fun j h => by omega, hh, hp, hz, hbx⟩
  case round =>
    clear hh hp hz hbx
    obtain ⟨i, hi, rfl, hall, hh, hp, hz, hbx⟩ := hrel
    have HALL := Lib.hid hall
    clear hall
    by_cases hlt : (i : Int) < many
    · by_cases hd : deadIs p0 (channel + i) = true
      · have HF := Lib.hid (HF2.out i hlt (by rw [← HP0.out]; exact hd))
        go_wp2_with (go_at_call 54; refine (refDead_any ⟨kind, view, z, first, pitch, strips, spill, olo, ohi, clo, chi, jitter, least, da, dn, dc, ea, en, ec, ds, es⟩ _ _ B (by omega) (HM.out.below (hbx.mono hBw))).mono ?_; rintro e w2 ⟨rfl, hb2⟩; rw [← HP0.out, hd]; have hB2 : Below w.heap.size w w2 := hbx.trans (hb2.mono (by omega)))
        go_ret
        exact ⟨ret_bool HF.out, hB2⟩
      · have hd' : deadIs p0 (channel + i) = false := by simpa using hd
        have HN := Lib.hid hd'
        go_wp2_with (go_at_call 54; refine (refDead_any ⟨kind, view, z, first, pitch, strips, spill, olo, ohi, clo, chi, jitter, least, da, dn, dc, ea, en, ec, ds, es⟩ _ _ B (by omega) (HM.out.below (hbx.mono hBw))).mono ?_; rintro e w2 ⟨rfl, hb2⟩; rw [← HP0.out, hd']; have hB2 : Below w.heap.size w w2 := hbx.trans (hb2.mono (by omega)); have hz2 : w.heap.size + 3 ≤ w2.heap.size := (by have := hb2.size; omega))
        go_roundw
        case rel => exact ⟨i + 1, by omega, by go_num, fun j hj => by (by_cases e : j = i; subst e; exact HN.out; exact HALL.out j (by omega)), fun j => (hb2.cell (p := ⟨w.heap.size + 1, j, none⟩) (by show w.heap.size + 1 < _; omega)).trans (hh j), fun j => (hb2.cell (p := ⟨w.heap.size + 2, j, none⟩) (by show w.heap.size + 2 < _; omega)).trans (hp j), hz2, hB2⟩
        case measure => simp [intOf]; omega
    · have HE := Lib.hid (HF3.out i HPRE.out (by show (i : Int) = many; omega) (by rw [← HP0.out]; exact HALL.out))
      have hge : many ≤ (i : Int) := by omega
      by_cases hk2 : kind = 2
      · have e2 : (kind == 2) = true := by simp [hk2]
        have HK := Lib.hid hk2
        clear hk2
        by_cases hm1 : many = 1
        · have e3 : (many == 1) = true := by simp [hm1]
          have HM1 := Lib.hid hm1
          clear hm1
          go_wp2_with (go_at_call 24; refine (refIn_any _ _ _ _).mono ?_; rintro e w' ⟨rfl, rfl⟩)
          go_ret
          exact ⟨ret_bool (by rw [← HE.out]; simp [hitKind, HK.out, HM1.out]), hbx⟩
        · have e3 : (many == 1) = false := by simp [hm1]
          have HM1 := Lib.hid hm1
          clear hm1
          go_wp2_with (go_at_call 24; refine (refIn_any _ _ _ _).mono ?_; rintro e w' ⟨rfl, rfl⟩)
          go_ret
          exact ⟨ret_bool (by rw [← HE.out]; simp [hitKind, HK.out, HM1.out]), hbx⟩
      · have e2 : (kind == 2) = false := by simp [hk2]
        have HK := Lib.hid hk2
        clear hk2
        by_cases hk3 : kind = 3
        · have e3 : (kind == 3) = true := by simp [hk3]
          have HK3 := Lib.hid hk3
          clear hk3
          by_cases hd0 : drift = 0
          · have e4 : (drift == 0) = true := by simp [hd0]
            have HD0 := Lib.hid hd0
            clear hd0
            go_wp2
            go_ret
            exact ⟨ret_bool (by rw [← HE.out]; simp [hitKind, HK3.out, HD0.out]), hbx⟩
          · have e4 : (drift == 0) = false := by simp [hd0]
            have HD0 := Lib.hid hd0
            clear hd0
            go_wp2
            go_ret
            exact ⟨ret_bool (by rw [← HE.out]; simp [hitKind, HK3.out, HD0.out]), hbx⟩
        · have e3 : (kind == 3) = false := by simp [hk3]
          have HK3 := Lib.hid hk3
          clear hk3
          go_wp2
          go_ret
          exact ⟨ret_bool (by rw [← HE.out]; simp [hitKind, HK.out, HK3.out]), hbx⟩
set_option maxRecDepth 100000 in
set_option maxHeartbeats 1000000 in
theorem refHit_out (a : Option Addr) (n c : Nat) (h : HV) (w : World) (hn : n ≤ 16) (ho : ¬ (0 ≤ h.plane ∧ h.plane ≤ (n : Int) - 1)) :
    Calls Try.prog 20 #[setupV a n c, h.val] w fun e w' => e = .returned (.bool false) ∧ Below w.heap.size w w' := by
  have h1 := withinB_no ho
  clear ho
  go_enter Try.func20, Try.ntmps20
  go_wp2_with (go_at_call 24; refine (refIn_any _ _ _ _).mono ?_; rintro e w' ⟨rfl, rfl⟩)
  go_ret
  exact ⟨rfl, ((Below.refl _ _).alloc (Nat.le_refl _) _).alloc (by simp) _⟩
theorem refHit_any (a : Option Addr) (n c : Nat) (ps : Nat → PR) (h : HV) (w : World) (B : Nat) (hBw : B ≤ w.heap.size) (hP : Planes B w a n ps) (hC : checkB n ps = true) :
    Calls Try.prog 20 #[setupV a n c, h.val] w fun e w' => e = .returned (.bool (ofB n ps h)) ∧ Below w.heap.size w w' := by
  by_cases ho : 0 ≤ h.plane ∧ h.plane ≤ (n : Int) - 1
  · obtain ⟨k, hk⟩ := Int.eq_ofNat_of_zero_le ho.1
    have : ofB n ps h = hitB (ps k) h := by
      rw [ofB, withinB_yes ho.1 ho.2, Bool.true_and, hk, Int.toNat_natCast]
    rw [this]
    exact refHit_in a n c ps h w B hBw hP hC k (by omega) hk
  · have : ofB n ps h = false := by simp [ofB, withinB_no ho]
    rw [this]
    exact refHit_out a n c h w (checkB_n hC).2 ho
end Go.Proofs.Ytgcepjminlapiaa
