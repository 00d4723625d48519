/- The walk of the check of a plane. -/
import Derived.Test.YtegimepmccilfaaGreatDoorPlaneB
namespace Go.Proofs.YtegimepmccilfaaGreatDoor
open Go.RowKit
set_option linter.unusedVariables false
set_option linter.unusedSimpArgs false
theorem properB_kind {p : PR} (h : ¬ withinB p.kind 1 3 = true) : properB p = false := by simp [properB, h]
theorem properB_shape {p : PR} (h : ¬ shapedB p = true) : properB p = false := by simp [properB, h]
theorem properB_kindB {p : PR} (h : ¬ kindB p = true) : properB p = false := by simp [properB, h]
theorem properB_dead {p : PR} {k : Nat} (hk : k < p.en) (h : ¬ deadAt p.strips p.es k = true) : properB p = false := by
  simp [properB, deadsB, allUpto_false hk (by simpa using h)]
theorem properB_end {p : PR} {k : Nat} (h1 : withinB p.kind 1 3 = true) (h2 : shapedB p = true) (h3 : kindB p = true) (hk : k = p.en) (h : ∀ j, j < k → deadAt p.strips p.es j = true) : properB p = decide ((p.en : Int) ≤ 100) := by
  subst hk; simp [properB, deadsB, allUpto_true h, h1, h2, h3]
set_option maxRecDepth 100000 in
set_option maxHeartbeats 1000000 in
theorem proper_bad (p : PR) (i : Int) (w : World) (h : ¬ (withinB p.kind 1 3 = true ∧ shapedB p = true)) :
    Calls Tryz.prog 39 #[p.placed i] w fun e w' => e = .returned (.bool (properB p)) ∧ Below w.heap.size w w' := by
  have HF := Lib.hid (show false = properB p by by_cases h1 : withinB p.kind 1 3 = true; (exact (properB_shape (fun h2 => h ⟨h1, h2⟩)).symm); (exact (properB_kind h1).symm))
  by_cases h1 : withinB p.kind 1 3 = true
  · have h2 : shapedB p = false := by simpa [h1] using h
    clear h
    go_enter Tryz.func39, Tryz.ntmps39
    go_wp2_with (first | (go_at_call 36; refine (within_any _ _ _ _).mono ?_; rintro e w' ⟨rfl, rfl⟩) | (go_at_call 64; refine (shaped_any p i _).mono ?_; rintro e w' ⟨rfl, hb⟩; have hB : Below w.heap.size w w' := ((((Below.refl _ _).alloc (Nat.le_refl _) _).alloc (by simp) _).trans (hb.mono (by simp; omega)))))
    go_ret
    exact ⟨ret_bool HF.out, hB⟩
  · have h1' : withinB p.kind 1 3 = false := by simpa using h1
    clear h h1
    go_enter Tryz.func39, Tryz.ntmps39
    go_wp2_with (go_at_call 36; refine (within_any _ _ _ _).mono ?_; rintro e w' ⟨rfl, rfl⟩)
    go_ret
    exact ⟨ret_bool HF.out, ((Below.refl _ _).alloc (Nat.le_refl _) _).alloc (by simp) _⟩
set_option maxRecDepth 100000 in
set_option maxHeartbeats 2000000 in
theorem proper_strips (p : PR) (i : Int) (w : World) (B : Nat) (hBw : B ≤ w.heap.size) (hm : p.mem B w) (hK : p.kind = 1) (hS : shapedB p = true) :
    Calls Tryz.prog 39 #[p.placed i] w fun e w' => e = .returned (.bool (properB p)) ∧ Below w.heap.size w w' := by
  have hk13 : withinB p.kind 1 3 = true := withinB_yes (by omega) (by omega)
  have hkB : kindB p = ((p.dn : Int) == 0) := by simp [kindB, hK]
  obtain ⟨hdn, hen, hD, hI⟩ := hm
  have HS := shapedB_iff.1 hS
  have hp := HS.pitch
  have hst := HS.strips
  clear HS
  by_cases hkv : kindB p = true
  case neg =>
    have HF := Lib.hid (properB_kindB hkv).symm
    have hkv' : ((p.dn : Int) == 0) = false := by rw [← hkB]; simpa using hkv
    clear hkv
    obtain ⟨kind, view, z, first, pitch, strips, spill, olo, ohi, clo, chi, jitter, least, da, dn, dc, ea, en, ec, ds, es⟩ := p
    dsimp only at *
    subst hK
    clear hkB hI hen
    have HD := Lib.hid hD
    clear hD
    go_enter Tryz.func39, Tryz.ntmps39
    go_upto_region 1 with (fail)
    go_cut [3] from 6 to 12 (fun s3 wx => s3 = .pointer (some ⟨w.heap.size + 1, 0, none⟩) ∧ wx.cell? ⟨w.heap.size + 1, 1, none⟩ = some (.func (.func 61) #[PR.placed ⟨1, view, z, first, pitch, strips, spill, olo, ohi, clo, chi, jitter, least, da, dn, dc, ea, en, ec, ds, es⟩ i] #[]) ∧ w.heap.size + 2 ≤ wx.heap.size ∧ Below (w.heap.size + 1) (w.alloc (.cells #[.int .i64 1, .int .i64 view, .int .i64 z, .int .i64 first, .int .i64 pitch, .int .i64 strips, .int .i64 spill, .int .i64 olo, .int .i64 ohi, .int .i64 clo, .int .i64 chi, .int .i64 jitter, .int .i64 least, .slice da dn dc, .slice ea en ec, .int .i64 i] 84)) wx)
    case first =>
      go_wp2
      go_meet
      exact ⟨rfl, by simp, by simp, (Below.refl _ _).alloc (by simp) _⟩
    obtain ⟨rfl, hk1, hk2, hBx⟩ := hcut
    obtain ⟨hcx, hfx⟩ := bcell hBx
    go_wp2_with (first | (go_at_call 36; refine (within_any _ _ _ _).mono ?_; rintro e w' ⟨rfl, rfl⟩) | (go_at_call 64; refine (shaped_any ⟨1, view, z, first, pitch, strips, spill, olo, ohi, clo, chi, jitter, least, da, dn, dc, ea, en, ec, ds, es⟩ i _).mono ?_; rintro e w1 ⟨rfl, hb⟩; obtain ⟨hc, hf⟩ := bcell hb; have hz : w.heap.size + 2 ≤ w1.heap.size := (by have := hb.size; omega); have hz1 : w.heap.size < wc.heap.size := (by omega); have hz2 : w.heap.size + 1 < wc.heap.size := (by omega); have hB1 : Below (w.heap.size + 1) (w.alloc (.cells #[.int .i64 1, .int .i64 view, .int .i64 z, .int .i64 first, .int .i64 pitch, .int .i64 strips, .int .i64 spill, .int .i64 olo, .int .i64 ohi, .int .i64 clo, .int .i64 chi, .int .i64 jitter, .int .i64 least, .slice da dn dc, .slice ea en ec, .int .i64 i] 84)) w1 := hBx.trans (hb.mono (by omega)); clear hb hBx) | (go_at_call 61; refine (strips_any ⟨1, view, z, first, pitch, strips, spill, olo, ohi, clo, chi, jitter, least, da, dn, dc, ea, en, ec, ds, es⟩ i _).mono ?_; rintro e w2 ⟨rfl, hb2⟩; have hB2 : Below (w.heap.size + 1) (w.alloc (.cells #[.int .i64 1, .int .i64 view, .int .i64 z, .int .i64 first, .int .i64 pitch, .int .i64 strips, .int .i64 spill, .int .i64 olo, .int .i64 ohi, .int .i64 clo, .int .i64 chi, .int .i64 jitter, .int .i64 least, .slice da dn dc, .slice ea en ec, .int .i64 i] 84)) w2 := hB1.trans (hb2.mono (by omega))))
    go_ret
    exact ⟨ret_bool HF.out, ((Below.refl _ _).alloc (Nat.le_refl _) _).trans (hB2.mono (by omega))⟩
  case pos =>
    have hkv' : ((p.dn : Int) == 0) = true := by rw [← hkB]; exact hkv
    have HE := @properB_end p
    have HX := @properB_dead p
    have HE1 := Lib.hid (fun (k : Nat) (hk : k = p.en) h => HE (k := k) hk13 hS hkv hk h)
    have HX1 := Lib.hid (fun (k : Nat) (hk : k < p.en) h => HX (k := k) hk h)
    clear HE HX hkv
    obtain ⟨kind, view, z, first, pitch, strips, spill, olo, ohi, clo, chi, jitter, least, da, dn, dc, ea, en, ec, ds, es⟩ := p
    dsimp only at *
    subst hK
    clear hkB
    have HD := Lib.hid hD
    have HI := Lib.hid hI
    clear hD hI
    unfold maxLen at hen hdn
    go_enter Tryz.func39, Tryz.ntmps39
    go_upto_region 1 with (fail)
    go_cut [3] from 6 to 12 (fun s3 wx => s3 = .pointer (some ⟨w.heap.size + 1, 0, none⟩) ∧ wx.cell? ⟨w.heap.size + 1, 1, none⟩ = some (.func (.func 61) #[PR.placed ⟨1, view, z, first, pitch, strips, spill, olo, ohi, clo, chi, jitter, least, da, dn, dc, ea, en, ec, ds, es⟩ i] #[]) ∧ w.heap.size + 2 ≤ wx.heap.size ∧ Below (w.heap.size + 1) (w.alloc (.cells #[.int .i64 1, .int .i64 view, .int .i64 z, .int .i64 first, .int .i64 pitch, .int .i64 strips, .int .i64 spill, .int .i64 olo, .int .i64 ohi, .int .i64 clo, .int .i64 chi, .int .i64 jitter, .int .i64 least, .slice da dn dc, .slice ea en ec, .int .i64 i] 84)) wx)
    case first =>
      go_wp2
      go_meet
      exact ⟨rfl, by simp, by simp, (Below.refl _ _).alloc (by simp) _⟩
    obtain ⟨rfl, hk1, hk2, hBx⟩ := hcut
    obtain ⟨hcx, hfx⟩ := bcell hBx
    go_wp2_with (first | (go_at_call 36; refine (within_any _ _ _ _).mono ?_; rintro e w' ⟨rfl, rfl⟩) | (go_at_call 64; refine (shaped_any ⟨1, view, z, first, pitch, strips, spill, olo, ohi, clo, chi, jitter, least, da, dn, dc, ea, en, ec, ds, es⟩ i _).mono ?_; rintro e w1 ⟨rfl, hb⟩; obtain ⟨hc, hf⟩ := bcell hb; have hz : w.heap.size + 2 ≤ w1.heap.size := (by have := hb.size; omega); have hz1 : w.heap.size < wc.heap.size := (by omega); have hz2 : w.heap.size + 1 < wc.heap.size := (by omega); have hB1 : Below (w.heap.size + 1) (w.alloc (.cells #[.int .i64 1, .int .i64 view, .int .i64 z, .int .i64 first, .int .i64 pitch, .int .i64 strips, .int .i64 spill, .int .i64 olo, .int .i64 ohi, .int .i64 clo, .int .i64 chi, .int .i64 jitter, .int .i64 least, .slice da dn dc, .slice ea en ec, .int .i64 i] 84)) w1 := hBx.trans (hb.mono (by omega)); clear hb hBx) | (go_at_call 61; refine (strips_any ⟨1, view, z, first, pitch, strips, spill, olo, ohi, clo, chi, jitter, least, da, dn, dc, ea, en, ec, ds, es⟩ i _).mono ?_; rintro e w2 ⟨rfl, hb2⟩; have hB2 : Below (w.heap.size + 1) (w.alloc (.cells #[.int .i64 1, .int .i64 view, .int .i64 z, .int .i64 first, .int .i64 pitch, .int .i64 strips, .int .i64 spill, .int .i64 olo, .int .i64 ohi, .int .i64 clo, .int .i64 chi, .int .i64 jitter, .int .i64 least, .slice da dn dc, .slice ea en ec, .int .i64 i] 84)) w2 := hB1.trans (hb2.mono (by omega)); obtain ⟨hc2, hf2⟩ := bcell hB2; clear hc hf hb2))
    clear hc2 hf2
    go_loopw [36, 4, 5] (fun t _ _ wr => ∃ k : Nat, k ≤ en ∧ t = .int .i64 k ∧ (∀ j, j < k → deadAt strips es j = true) ∧ Below (w.heap.size + 1) (w.alloc (.cells #[.int .i64 1, .int .i64 view, .int .i64 z, .int .i64 first, .int .i64 pitch, .int .i64 strips, .int .i64 spill, .int .i64 olo, .int .i64 ohi, .int .i64 clo, .int .i64 chi, .int .i64 jitter, .int .i64 least, .slice da dn dc, .slice ea en ec, .int .i64 i] 84)) wr) (fun t _ _ _ => en - (intOf t).toNat)
    case atStart => exact ⟨0, Nat.zero_le _, rfl, fun j h => by omega, hB2⟩
    case round =>
      clear hB2 hB1
      obtain ⟨k, hk, rfl, hall, hb⟩ := hrel
      have HALL := Lib.hid hall
      clear hall
      obtain ⟨hc, hf⟩ := bcell hb
      have hz2 : w.heap.size < wr.heap.size := by have := hb.size; simp at this; omega
      have hB0 : Below w.heap.size w wr := ((Below.refl _ _).alloc (Nat.le_refl _) _).trans (hb.mono (by omega))
      by_cases hlt : k < en
      · rcases HI.out with hd | ⟨b, off, rfl, hbs, hcell⟩
        · omega
        have c0 := hcell k hlt
        have hbz : b < wr.heap.size := by omega
        have hbz0 : b < w.heap.size := by omega
        have hbz1 : b < w.heap.size + 1 := by omega
        by_cases hok : deadAt strips es k = true
        · have HOK := Lib.hid hok
          rw [deadAt_iff] at hok
          obtain ⟨⟨o1, o2⟩, o3⟩ := hok
          have o4 : withinB (es k) 0 (strips - 1) = true := withinB_yes o1 o2
          by_cases hk0 : k = 0
          · have hk1 : decide (0 < k) = false := by simp; omega
            have hk2 : ¬ 0 < k := by omega
            clear o3 hk0
            go_wp2_with (go_at_call 36; refine (within_any _ _ _ _).mono ?_; rintro e w' ⟨rfl, rfl⟩)
            go_roundw
            case rel => exact ⟨k + 1, by omega, by go_num, fun j hj => by (by_cases e : j = k; subst e; exact HOK.out; exact HALL.out j (by omega)), hb⟩
            case measure => simp [intOf]; omega
          · have hk1 : decide (0 < k) = true := by simp; omega
            have hk2 : 0 < k := by omega
            have o5 : es (k - 1) < es k := by omega
            have c1 := hcell (k - 1) (by omega)
            clear o3 hk0 hcell
            go_wp2_with (go_at_call 36; refine (within_any _ _ _ _).mono ?_; rintro e w' ⟨rfl, rfl⟩)
            go_roundw
            case rel => exact ⟨k + 1, by omega, by go_num, fun j hj => by (by_cases e : j = k; subst e; exact HOK.out; exact HALL.out j (by omega)), hb⟩
            case measure => simp [intOf]; omega
        · have HF := Lib.hid (HX1.out k hlt hok).symm
          rw [deadAt_iff] at hok
          by_cases o4 : withinB (es k) 0 (strips - 1) = true
          · have hk1 : decide (0 < k) = true := by simp; rw [withinB_iff] at o4; omega
            have hk2 : 0 < k := by simpa using hk1
            have o5 : es k ≤ es (k - 1) := by rw [withinB_iff] at o4; omega
            have c1 := hcell (k - 1) (by omega)
            clear hok hcell
            go_wp2_with (go_at_call 36; refine (within_any _ _ _ _).mono ?_; rintro e w' ⟨rfl, rfl⟩)
            go_ret
            exact ⟨ret_bool HF.out, hB0⟩
          · have o5 : withinB (es k) 0 (strips - 1) = false := by simpa using o4
            clear hok hcell o4
            go_wp2_with (go_at_call 36; refine (within_any _ _ _ _).mono ?_; rintro e w' ⟨rfl, rfl⟩)
            go_ret
            exact ⟨ret_bool HF.out, hB0⟩
      · go_wp2
        go_ret
        exact ⟨ret_bool (HE1.out k (by omega) HALL.out).symm, hB0⟩

set_option maxRecDepth 100000 in
set_option maxHeartbeats 2000000 in
theorem proper_tubes (p : PR) (i : Int) (w : World) (B : Nat) (hBw : B ≤ w.heap.size) (hm : p.mem B w) (hK : p.kind = 2) (hS : shapedB p = true) :
    Calls Tryz.prog 39 #[p.placed i] w fun e w' => e = .returned (.bool (properB p)) ∧ Below w.heap.size w w' := by
  have hk13 : withinB p.kind 1 3 = true := withinB_yes (by omega) (by omega)
  have hkB : kindB p = (tubesB p.pitch p.dn p.ds) := by simp [kindB, hK]
  obtain ⟨hdn, hen, hD, hI⟩ := hm
  have HS := shapedB_iff.1 hS
  have hp := HS.pitch
  have hst := HS.strips
  clear HS
  by_cases hkv : kindB p = true
  case neg =>
    have HF := Lib.hid (properB_kindB hkv).symm
    have hkv' : (tubesB p.pitch p.dn p.ds) = false := by rw [← hkB]; simpa using hkv
    clear hkv
    obtain ⟨kind, view, z, first, pitch, strips, spill, olo, ohi, clo, chi, jitter, least, da, dn, dc, ea, en, ec, ds, es⟩ := p
    dsimp only at *
    subst hK
    clear hkB hI hen
    have HD := Lib.hid hD
    clear hD
    go_enter Tryz.func39, Tryz.ntmps39
    go_upto_region 1 with (fail)
    go_cut [3] from 6 to 12 (fun s3 wx => s3 = .pointer (some ⟨w.heap.size + 1, 0, none⟩) ∧ wx.cell? ⟨w.heap.size + 1, 2, none⟩ = some (.func (.func 62) #[PR.placed ⟨2, view, z, first, pitch, strips, spill, olo, ohi, clo, chi, jitter, least, da, dn, dc, ea, en, ec, ds, es⟩ i] #[]) ∧ w.heap.size + 2 ≤ wx.heap.size ∧ Below (w.heap.size + 1) (w.alloc (.cells #[.int .i64 2, .int .i64 view, .int .i64 z, .int .i64 first, .int .i64 pitch, .int .i64 strips, .int .i64 spill, .int .i64 olo, .int .i64 ohi, .int .i64 clo, .int .i64 chi, .int .i64 jitter, .int .i64 least, .slice da dn dc, .slice ea en ec, .int .i64 i] 84)) wx)
    case first =>
      go_wp2
      go_meet
      exact ⟨rfl, by simp, by simp, (Below.refl _ _).alloc (by simp) _⟩
    obtain ⟨rfl, hk1, hk2, hBx⟩ := hcut
    obtain ⟨hcx, hfx⟩ := bcell hBx
    go_wp2_with (first | (go_at_call 36; refine (within_any _ _ _ _).mono ?_; rintro e w' ⟨rfl, rfl⟩) | (go_at_call 64; refine (shaped_any ⟨2, view, z, first, pitch, strips, spill, olo, ohi, clo, chi, jitter, least, da, dn, dc, ea, en, ec, ds, es⟩ i _).mono ?_; rintro e w1 ⟨rfl, hb⟩; obtain ⟨hc, hf⟩ := bcell hb; have hz : w.heap.size + 2 ≤ w1.heap.size := (by have := hb.size; omega); have hz1 : w.heap.size < wc.heap.size := (by omega); have hz2 : w.heap.size + 1 < wc.heap.size := (by omega); have hB1 : Below (w.heap.size + 1) (w.alloc (.cells #[.int .i64 2, .int .i64 view, .int .i64 z, .int .i64 first, .int .i64 pitch, .int .i64 strips, .int .i64 spill, .int .i64 olo, .int .i64 ohi, .int .i64 clo, .int .i64 chi, .int .i64 jitter, .int .i64 least, .slice da dn dc, .slice ea en ec, .int .i64 i] 84)) w1 := hBx.trans (hb.mono (by omega)); clear hb hBx) | (go_at_call 62; refine (tubes_any ⟨2, view, z, first, pitch, strips, spill, olo, ohi, clo, chi, jitter, least, da, dn, dc, ea, en, ec, ds, es⟩ i _ B (by omega) (HD.out.below (((Below.refl B w).alloc hBw _).trans (hB1.mono (by omega)))) hdn hp.1 hp.2).mono ?_; rintro e w2 ⟨rfl, hb2⟩; have hB2 : Below (w.heap.size + 1) (w.alloc (.cells #[.int .i64 2, .int .i64 view, .int .i64 z, .int .i64 first, .int .i64 pitch, .int .i64 strips, .int .i64 spill, .int .i64 olo, .int .i64 ohi, .int .i64 clo, .int .i64 chi, .int .i64 jitter, .int .i64 least, .slice da dn dc, .slice ea en ec, .int .i64 i] 84)) w2 := hB1.trans (hb2.mono (by omega))))
    go_ret
    exact ⟨ret_bool HF.out, ((Below.refl _ _).alloc (Nat.le_refl _) _).trans (hB2.mono (by omega))⟩
  case pos =>
    have hkv' : (tubesB p.pitch p.dn p.ds) = true := by rw [← hkB]; exact hkv
    have HE := @properB_end p
    have HX := @properB_dead p
    have HE1 := Lib.hid (fun (k : Nat) (hk : k = p.en) h => HE (k := k) hk13 hS hkv hk h)
    have HX1 := Lib.hid (fun (k : Nat) (hk : k < p.en) h => HX (k := k) hk h)
    clear HE HX hkv
    obtain ⟨kind, view, z, first, pitch, strips, spill, olo, ohi, clo, chi, jitter, least, da, dn, dc, ea, en, ec, ds, es⟩ := p
    dsimp only at *
    subst hK
    clear hkB
    have HD := Lib.hid hD
    have HI := Lib.hid hI
    clear hD hI
    unfold maxLen at hen hdn
    go_enter Tryz.func39, Tryz.ntmps39
    go_upto_region 1 with (fail)
    go_cut [3] from 6 to 12 (fun s3 wx => s3 = .pointer (some ⟨w.heap.size + 1, 0, none⟩) ∧ wx.cell? ⟨w.heap.size + 1, 2, none⟩ = some (.func (.func 62) #[PR.placed ⟨2, view, z, first, pitch, strips, spill, olo, ohi, clo, chi, jitter, least, da, dn, dc, ea, en, ec, ds, es⟩ i] #[]) ∧ w.heap.size + 2 ≤ wx.heap.size ∧ Below (w.heap.size + 1) (w.alloc (.cells #[.int .i64 2, .int .i64 view, .int .i64 z, .int .i64 first, .int .i64 pitch, .int .i64 strips, .int .i64 spill, .int .i64 olo, .int .i64 ohi, .int .i64 clo, .int .i64 chi, .int .i64 jitter, .int .i64 least, .slice da dn dc, .slice ea en ec, .int .i64 i] 84)) wx)
    case first =>
      go_wp2
      go_meet
      exact ⟨rfl, by simp, by simp, (Below.refl _ _).alloc (by simp) _⟩
    obtain ⟨rfl, hk1, hk2, hBx⟩ := hcut
    obtain ⟨hcx, hfx⟩ := bcell hBx
    go_wp2_with (first | (go_at_call 36; refine (within_any _ _ _ _).mono ?_; rintro e w' ⟨rfl, rfl⟩) | (go_at_call 64; refine (shaped_any ⟨2, view, z, first, pitch, strips, spill, olo, ohi, clo, chi, jitter, least, da, dn, dc, ea, en, ec, ds, es⟩ i _).mono ?_; rintro e w1 ⟨rfl, hb⟩; obtain ⟨hc, hf⟩ := bcell hb; have hz : w.heap.size + 2 ≤ w1.heap.size := (by have := hb.size; omega); have hz1 : w.heap.size < wc.heap.size := (by omega); have hz2 : w.heap.size + 1 < wc.heap.size := (by omega); have hB1 : Below (w.heap.size + 1) (w.alloc (.cells #[.int .i64 2, .int .i64 view, .int .i64 z, .int .i64 first, .int .i64 pitch, .int .i64 strips, .int .i64 spill, .int .i64 olo, .int .i64 ohi, .int .i64 clo, .int .i64 chi, .int .i64 jitter, .int .i64 least, .slice da dn dc, .slice ea en ec, .int .i64 i] 84)) w1 := hBx.trans (hb.mono (by omega)); clear hb hBx) | (go_at_call 62; refine (tubes_any ⟨2, view, z, first, pitch, strips, spill, olo, ohi, clo, chi, jitter, least, da, dn, dc, ea, en, ec, ds, es⟩ i _ B (by omega) (HD.out.below (((Below.refl B w).alloc hBw _).trans (hB1.mono (by omega)))) hdn hp.1 hp.2).mono ?_; rintro e w2 ⟨rfl, hb2⟩; have hB2 : Below (w.heap.size + 1) (w.alloc (.cells #[.int .i64 2, .int .i64 view, .int .i64 z, .int .i64 first, .int .i64 pitch, .int .i64 strips, .int .i64 spill, .int .i64 olo, .int .i64 ohi, .int .i64 clo, .int .i64 chi, .int .i64 jitter, .int .i64 least, .slice da dn dc, .slice ea en ec, .int .i64 i] 84)) w2 := hB1.trans (hb2.mono (by omega)); obtain ⟨hc2, hf2⟩ := bcell hB2; clear hc hf hb2))
    clear hc2 hf2
    go_loopw [36, 4, 5] (fun t _ _ wr => ∃ k : Nat, k ≤ en ∧ t = .int .i64 k ∧ (∀ j, j < k → deadAt strips es j = true) ∧ Below (w.heap.size + 1) (w.alloc (.cells #[.int .i64 2, .int .i64 view, .int .i64 z, .int .i64 first, .int .i64 pitch, .int .i64 strips, .int .i64 spill, .int .i64 olo, .int .i64 ohi, .int .i64 clo, .int .i64 chi, .int .i64 jitter, .int .i64 least, .slice da dn dc, .slice ea en ec, .int .i64 i] 84)) wr) (fun t _ _ _ => en - (intOf t).toNat)
    case atStart => exact ⟨0, Nat.zero_le _, rfl, fun j h => by omega, hB2⟩
    case round =>
      clear hB2 hB1
      obtain ⟨k, hk, rfl, hall, hb⟩ := hrel
      have HALL := Lib.hid hall
      clear hall
      obtain ⟨hc, hf⟩ := bcell hb
      have hz2 : w.heap.size < wr.heap.size := by have := hb.size; simp at this; omega
      have hB0 : Below w.heap.size w wr := ((Below.refl _ _).alloc (Nat.le_refl _) _).trans (hb.mono (by omega))
      by_cases hlt : k < en
      · rcases HI.out with hd | ⟨b, off, rfl, hbs, hcell⟩
        · omega
        have c0 := hcell k hlt
        have hbz : b < wr.heap.size := by omega
        have hbz0 : b < w.heap.size := by omega
        have hbz1 : b < w.heap.size + 1 := by omega
        by_cases hok : deadAt strips es k = true
        · have HOK := Lib.hid hok
          rw [deadAt_iff] at hok
          obtain ⟨⟨o1, o2⟩, o3⟩ := hok
          have o4 : withinB (es k) 0 (strips - 1) = true := withinB_yes o1 o2
          by_cases hk0 : k = 0
          · have hk1 : decide (0 < k) = false := by simp; omega
            have hk2 : ¬ 0 < k := by omega
            clear o3 hk0
            go_wp2_with (go_at_call 36; refine (within_any _ _ _ _).mono ?_; rintro e w' ⟨rfl, rfl⟩)
            go_roundw
            case rel => exact ⟨k + 1, by omega, by go_num, fun j hj => by (by_cases e : j = k; subst e; exact HOK.out; exact HALL.out j (by omega)), hb⟩
            case measure => simp [intOf]; omega
          · have hk1 : decide (0 < k) = true := by simp; omega
            have hk2 : 0 < k := by omega
            have o5 : es (k - 1) < es k := by omega
            have c1 := hcell (k - 1) (by omega)
            clear o3 hk0 hcell
            go_wp2_with (go_at_call 36; refine (within_any _ _ _ _).mono ?_; rintro e w' ⟨rfl, rfl⟩)
            go_roundw
            case rel => exact ⟨k + 1, by omega, by go_num, fun j hj => by (by_cases e : j = k; subst e; exact HOK.out; exact HALL.out j (by omega)), hb⟩
            case measure => simp [intOf]; omega
        · have HF := Lib.hid (HX1.out k hlt hok).symm
          rw [deadAt_iff] at hok
          by_cases o4 : withinB (es k) 0 (strips - 1) = true
          · have hk1 : decide (0 < k) = true := by simp; rw [withinB_iff] at o4; omega
            have hk2 : 0 < k := by simpa using hk1
            have o5 : es k ≤ es (k - 1) := by rw [withinB_iff] at o4; omega
            have c1 := hcell (k - 1) (by omega)
            clear hok hcell
            go_wp2_with (go_at_call 36; refine (within_any _ _ _ _).mono ?_; rintro e w' ⟨rfl, rfl⟩)
            go_ret
            exact ⟨ret_bool HF.out, hB0⟩
          · have o5 : withinB (es k) 0 (strips - 1) = false := by simpa using o4
            clear hok hcell o4
            go_wp2_with (go_at_call 36; refine (within_any _ _ _ _).mono ?_; rintro e w' ⟨rfl, rfl⟩)
            go_ret
            exact ⟨ret_bool HF.out, hB0⟩
      · go_wp2
        go_ret
        exact ⟨ret_bool (HE1.out k (by omega) HALL.out).symm, hB0⟩

set_option maxRecDepth 100000 in
set_option maxHeartbeats 2000000 in
theorem proper_film (p : PR) (i : Int) (w : World) (B : Nat) (hBw : B ≤ w.heap.size) (hm : p.mem B w) (hK : p.kind = 3) (hS : shapedB p = true) :
    Calls Tryz.prog 39 #[p.placed i] w fun e w' => e = .returned (.bool (properB p)) ∧ Below w.heap.size w w' := by
  have hk13 : withinB p.kind 1 3 = true := withinB_yes (by omega) (by omega)
  have hkB : kindB p = ((p.dn : Int) == 0) := by simp [kindB, hK]
  obtain ⟨hdn, hen, hD, hI⟩ := hm
  have HS := shapedB_iff.1 hS
  have hp := HS.pitch
  have hst := HS.strips
  clear HS
  by_cases hkv : kindB p = true
  case neg =>
    have HF := Lib.hid (properB_kindB hkv).symm
    have hkv' : ((p.dn : Int) == 0) = false := by rw [← hkB]; simpa using hkv
    clear hkv
    obtain ⟨kind, view, z, first, pitch, strips, spill, olo, ohi, clo, chi, jitter, least, da, dn, dc, ea, en, ec, ds, es⟩ := p
    dsimp only at *
    subst hK
    clear hkB hI hen
    have HD := Lib.hid hD
    clear hD
    go_enter Tryz.func39, Tryz.ntmps39
    go_upto_region 1 with (fail)
    go_cut [3] from 6 to 12 (fun s3 wx => s3 = .pointer (some ⟨w.heap.size + 1, 0, none⟩) ∧ wx.cell? ⟨w.heap.size + 1, 3, none⟩ = some (.func (.func 63) #[PR.placed ⟨3, view, z, first, pitch, strips, spill, olo, ohi, clo, chi, jitter, least, da, dn, dc, ea, en, ec, ds, es⟩ i] #[]) ∧ w.heap.size + 2 ≤ wx.heap.size ∧ Below (w.heap.size + 1) (w.alloc (.cells #[.int .i64 3, .int .i64 view, .int .i64 z, .int .i64 first, .int .i64 pitch, .int .i64 strips, .int .i64 spill, .int .i64 olo, .int .i64 ohi, .int .i64 clo, .int .i64 chi, .int .i64 jitter, .int .i64 least, .slice da dn dc, .slice ea en ec, .int .i64 i] 84)) wx)
    case first =>
      go_wp2
      go_meet
      exact ⟨rfl, by simp, by simp, (Below.refl _ _).alloc (by simp) _⟩
    obtain ⟨rfl, hk1, hk2, hBx⟩ := hcut
    obtain ⟨hcx, hfx⟩ := bcell hBx
    go_wp2_with (first | (go_at_call 36; refine (within_any _ _ _ _).mono ?_; rintro e w' ⟨rfl, rfl⟩) | (go_at_call 64; refine (shaped_any ⟨3, view, z, first, pitch, strips, spill, olo, ohi, clo, chi, jitter, least, da, dn, dc, ea, en, ec, ds, es⟩ i _).mono ?_; rintro e w1 ⟨rfl, hb⟩; obtain ⟨hc, hf⟩ := bcell hb; have hz : w.heap.size + 2 ≤ w1.heap.size := (by have := hb.size; omega); have hz1 : w.heap.size < wc.heap.size := (by omega); have hz2 : w.heap.size + 1 < wc.heap.size := (by omega); have hB1 : Below (w.heap.size + 1) (w.alloc (.cells #[.int .i64 3, .int .i64 view, .int .i64 z, .int .i64 first, .int .i64 pitch, .int .i64 strips, .int .i64 spill, .int .i64 olo, .int .i64 ohi, .int .i64 clo, .int .i64 chi, .int .i64 jitter, .int .i64 least, .slice da dn dc, .slice ea en ec, .int .i64 i] 84)) w1 := hBx.trans (hb.mono (by omega)); clear hb hBx) | (go_at_call 63; refine (film_any ⟨3, view, z, first, pitch, strips, spill, olo, ohi, clo, chi, jitter, least, da, dn, dc, ea, en, ec, ds, es⟩ i _).mono ?_; rintro e w2 ⟨rfl, hb2⟩; have hB2 : Below (w.heap.size + 1) (w.alloc (.cells #[.int .i64 3, .int .i64 view, .int .i64 z, .int .i64 first, .int .i64 pitch, .int .i64 strips, .int .i64 spill, .int .i64 olo, .int .i64 ohi, .int .i64 clo, .int .i64 chi, .int .i64 jitter, .int .i64 least, .slice da dn dc, .slice ea en ec, .int .i64 i] 84)) w2 := hB1.trans (hb2.mono (by omega))))
    go_ret
    exact ⟨ret_bool HF.out, ((Below.refl _ _).alloc (Nat.le_refl _) _).trans (hB2.mono (by omega))⟩
  case pos =>
    have hkv' : ((p.dn : Int) == 0) = true := by rw [← hkB]; exact hkv
    have HE := @properB_end p
    have HX := @properB_dead p
    have HE1 := Lib.hid (fun (k : Nat) (hk : k = p.en) h => HE (k := k) hk13 hS hkv hk h)
    have HX1 := Lib.hid (fun (k : Nat) (hk : k < p.en) h => HX (k := k) hk h)
    clear HE HX hkv
    obtain ⟨kind, view, z, first, pitch, strips, spill, olo, ohi, clo, chi, jitter, least, da, dn, dc, ea, en, ec, ds, es⟩ := p
    dsimp only at *
    subst hK
    clear hkB
    have HD := Lib.hid hD
    have HI := Lib.hid hI
    clear hD hI
    unfold maxLen at hen hdn
    go_enter Tryz.func39, Tryz.ntmps39
    go_upto_region 1 with (fail)
    go_cut [3] from 6 to 12 (fun s3 wx => s3 = .pointer (some ⟨w.heap.size + 1, 0, none⟩) ∧ wx.cell? ⟨w.heap.size + 1, 3, none⟩ = some (.func (.func 63) #[PR.placed ⟨3, view, z, first, pitch, strips, spill, olo, ohi, clo, chi, jitter, least, da, dn, dc, ea, en, ec, ds, es⟩ i] #[]) ∧ w.heap.size + 2 ≤ wx.heap.size ∧ Below (w.heap.size + 1) (w.alloc (.cells #[.int .i64 3, .int .i64 view, .int .i64 z, .int .i64 first, .int .i64 pitch, .int .i64 strips, .int .i64 spill, .int .i64 olo, .int .i64 ohi, .int .i64 clo, .int .i64 chi, .int .i64 jitter, .int .i64 least, .slice da dn dc, .slice ea en ec, .int .i64 i] 84)) wx)
    case first =>
      go_wp2
      go_meet
      exact ⟨rfl, by simp, by simp, (Below.refl _ _).alloc (by simp) _⟩
    obtain ⟨rfl, hk1, hk2, hBx⟩ := hcut
    obtain ⟨hcx, hfx⟩ := bcell hBx
    go_wp2_with (first | (go_at_call 36; refine (within_any _ _ _ _).mono ?_; rintro e w' ⟨rfl, rfl⟩) | (go_at_call 64; refine (shaped_any ⟨3, view, z, first, pitch, strips, spill, olo, ohi, clo, chi, jitter, least, da, dn, dc, ea, en, ec, ds, es⟩ i _).mono ?_; rintro e w1 ⟨rfl, hb⟩; obtain ⟨hc, hf⟩ := bcell hb; have hz : w.heap.size + 2 ≤ w1.heap.size := (by have := hb.size; omega); have hz1 : w.heap.size < wc.heap.size := (by omega); have hz2 : w.heap.size + 1 < wc.heap.size := (by omega); have hB1 : Below (w.heap.size + 1) (w.alloc (.cells #[.int .i64 3, .int .i64 view, .int .i64 z, .int .i64 first, .int .i64 pitch, .int .i64 strips, .int .i64 spill, .int .i64 olo, .int .i64 ohi, .int .i64 clo, .int .i64 chi, .int .i64 jitter, .int .i64 least, .slice da dn dc, .slice ea en ec, .int .i64 i] 84)) w1 := hBx.trans (hb.mono (by omega)); clear hb hBx) | (go_at_call 63; refine (film_any ⟨3, view, z, first, pitch, strips, spill, olo, ohi, clo, chi, jitter, least, da, dn, dc, ea, en, ec, ds, es⟩ i _).mono ?_; rintro e w2 ⟨rfl, hb2⟩; have hB2 : Below (w.heap.size + 1) (w.alloc (.cells #[.int .i64 3, .int .i64 view, .int .i64 z, .int .i64 first, .int .i64 pitch, .int .i64 strips, .int .i64 spill, .int .i64 olo, .int .i64 ohi, .int .i64 clo, .int .i64 chi, .int .i64 jitter, .int .i64 least, .slice da dn dc, .slice ea en ec, .int .i64 i] 84)) w2 := hB1.trans (hb2.mono (by omega)); obtain ⟨hc2, hf2⟩ := bcell hB2; clear hc hf hb2))
    clear hc2 hf2
    go_loopw [36, 4, 5] (fun t _ _ wr => ∃ k : Nat, k ≤ en ∧ t = .int .i64 k ∧ (∀ j, j < k → deadAt strips es j = true) ∧ Below (w.heap.size + 1) (w.alloc (.cells #[.int .i64 3, .int .i64 view, .int .i64 z, .int .i64 first, .int .i64 pitch, .int .i64 strips, .int .i64 spill, .int .i64 olo, .int .i64 ohi, .int .i64 clo, .int .i64 chi, .int .i64 jitter, .int .i64 least, .slice da dn dc, .slice ea en ec, .int .i64 i] 84)) wr) (fun t _ _ _ => en - (intOf t).toNat)
    case atStart => exact ⟨0, Nat.zero_le _, rfl, fun j h => by omega, hB2⟩
    case round =>
      clear hB2 hB1
      obtain ⟨k, hk, rfl, hall, hb⟩ := hrel
      have HALL := Lib.hid hall
      clear hall
      obtain ⟨hc, hf⟩ := bcell hb
      have hz2 : w.heap.size < wr.heap.size := by have := hb.size; simp at this; omega
      have hB0 : Below w.heap.size w wr := ((Below.refl _ _).alloc (Nat.le_refl _) _).trans (hb.mono (by omega))
      by_cases hlt : k < en
      · rcases HI.out with hd | ⟨b, off, rfl, hbs, hcell⟩
        · omega
        have c0 := hcell k hlt
        have hbz : b < wr.heap.size := by omega
        have hbz0 : b < w.heap.size := by omega
        have hbz1 : b < w.heap.size + 1 := by omega
        by_cases hok : deadAt strips es k = true
        · have HOK := Lib.hid hok
          rw [deadAt_iff] at hok
          obtain ⟨⟨o1, o2⟩, o3⟩ := hok
          have o4 : withinB (es k) 0 (strips - 1) = true := withinB_yes o1 o2
          by_cases hk0 : k = 0
          · have hk1 : decide (0 < k) = false := by simp; omega
            have hk2 : ¬ 0 < k := by omega
            clear o3 hk0
            go_wp2_with (go_at_call 36; refine (within_any _ _ _ _).mono ?_; rintro e w' ⟨rfl, rfl⟩)
            go_roundw
            case rel => exact ⟨k + 1, by omega, by go_num, fun j hj => by (by_cases e : j = k; subst e; exact HOK.out; exact HALL.out j (by omega)), hb⟩
            case measure => simp [intOf]; omega
          · have hk1 : decide (0 < k) = true := by simp; omega
            have hk2 : 0 < k := by omega
            have o5 : es (k - 1) < es k := by omega
            have c1 := hcell (k - 1) (by omega)
            clear o3 hk0 hcell
            go_wp2_with (go_at_call 36; refine (within_any _ _ _ _).mono ?_; rintro e w' ⟨rfl, rfl⟩)
            go_roundw
            case rel => exact ⟨k + 1, by omega, by go_num, fun j hj => by (by_cases e : j = k; subst e; exact HOK.out; exact HALL.out j (by omega)), hb⟩
            case measure => simp [intOf]; omega
        · have HF := Lib.hid (HX1.out k hlt hok).symm
          rw [deadAt_iff] at hok
          by_cases o4 : withinB (es k) 0 (strips - 1) = true
          · have hk1 : decide (0 < k) = true := by simp; rw [withinB_iff] at o4; omega
            have hk2 : 0 < k := by simpa using hk1
            have o5 : es k ≤ es (k - 1) := by rw [withinB_iff] at o4; omega
            have c1 := hcell (k - 1) (by omega)
            clear hok hcell
            go_wp2_with (go_at_call 36; refine (within_any _ _ _ _).mono ?_; rintro e w' ⟨rfl, rfl⟩)
            go_ret
            exact ⟨ret_bool HF.out, hB0⟩
          · have o5 : withinB (es k) 0 (strips - 1) = false := by simpa using o4
            clear hok hcell o4
            go_wp2_with (go_at_call 36; refine (within_any _ _ _ _).mono ?_; rintro e w' ⟨rfl, rfl⟩)
            go_ret
            exact ⟨ret_bool HF.out, hB0⟩
      · go_wp2
        go_ret
        exact ⟨ret_bool (HE1.out k (by omega) HALL.out).symm, hB0⟩

theorem proper_any (p : PR) (i : Int) (w : World) (B : Nat) (hBw : B ≤ w.heap.size) (hm : p.mem B w) :
    Calls Tryz.prog 39 #[p.placed i] w fun e w' => e = .returned (.bool (properB p)) ∧ Below w.heap.size w w' := by
  by_cases h : withinB p.kind 1 3 = true ∧ shapedB p = true
  · obtain ⟨h1, h2⟩ := h
    rw [withinB_iff] at h1
    by_cases e1 : p.kind = 1
    · exact proper_strips p i w B hBw hm e1 h2
    by_cases e2 : p.kind = 2
    · exact proper_tubes p i w B hBw hm e2 h2
    exact proper_film p i w B hBw hm (by omega) h2
  · exact proper_bad p i w h
end Go.Proofs.YtegimepmccilfaaGreatDoor
