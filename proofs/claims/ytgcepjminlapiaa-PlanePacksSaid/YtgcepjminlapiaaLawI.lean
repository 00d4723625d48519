/- The statement PlanePacks: its walk. -/
import Derived.Test.YtgcepjminlapiaaFileLaw
import Derived.Test.YtgcepjminlapiaaPackD
import Derived.Test.YtgcepjminlapiaaKnown
import Derived.Test.YtgcepjminlapiaaOpenH
namespace Go.Proofs.Ytgcepjminlapiaa
open Go.RowKit
set_option linter.unusedVariables false
set_option linter.unusedSimpArgs false
set_option maxRecDepth 100000 in
set_option maxHeartbeats 1000000 in
theorem PPk_out (a : Option Addr) (m d : Nat) (w : World) (hm : m ≤ maxLen) (hU : (30 < m ∧ m ≤ 2000) ∨ 2010 < m) : Calls Try.prog 10 #[.slice a m d] w fun e w' => e = .returned (.bool true) ∧ Below w.heap.size w w' := by
  unfold maxLen at hm
  by_cases h1 : 2010 < m
  · have h1' : (2010 : Int) < (m : Int) := by omega
    have h2' : ¬ (m : Int) ≤ 2000 := by omega
    have h3' : (30 : Int) < (m : Int) := by omega
    clear hU
    go_enter Try.func10, Try.ntmps10
    go_wp2_with (go_at_call 16; refine (lawKnown_any _).mono ?_; rintro e wk ⟨rfl, hbk⟩)
    go_ret
    exact ⟨rfl, hbk⟩
  · have h1' : ¬ (2010 : Int) < (m : Int) := by omega
    have h2' : (m : Int) ≤ 2000 := by omega
    have h3' : (30 : Int) < (m : Int) := by omega
    clear hU
    go_enter Try.func10, Try.ntmps10
    go_wp2_with (go_at_call 16; refine (lawKnown_any _).mono ?_; rintro e wk ⟨rfl, hbk⟩)
    go_ret
    exact ⟨rfl, hbk⟩
set_option maxRecDepth 100000 in
set_option maxHeartbeats 1000000 in
theorem PPk_long (a : Option Addr) (m d : Nat) (hs : Nat → HV) (w : World) (B : Nat) (hBw : B ≤ w.heap.size) (hH : Hits B w a m hs) (h1 : 2000 < m) (h2 : m ≤ 2010) : Calls Try.prog 10 #[.slice a m d] w fun e w' => e = .returned (.bool true) ∧ Below w.heap.size w w' := by
  have HPB := Lib.hid (Pack_bad a m d hs w B hBw hH 3 (.inl ⟨h1, rfl⟩))
  clear hH
  have h1' : (2000 : Int) < (m : Int) := by omega
  have h2' : ¬ (2010 : Int) < (m : Int) := by omega
  have h3' : ¬ (m : Int) ≤ 2000 := by omega
  go_enter Try.func10, Try.ntmps10
  go_wp2_with (first | (go_at_call 37; refine HPB.out.mono ?_; rintro e wy ⟨rfl, hby⟩) | (go_at_call 16; refine (lawKnown_any _).mono ?_; rintro e wk ⟨rfl, hbk⟩))
  go_ret
  exact ⟨rfl, hby.trans (hbk.mono hby.size)⟩
set_option maxRecDepth 100000 in
set_option maxHeartbeats 1000000 in
theorem PPk_bad (a : Option Addr) (m d : Nat) (hs : Nat → HV) (w : World) (B : Nat) (hBw : B ≤ w.heap.size) (hH : Hits B w a m hs) (hm : m ≤ 30) (hp : packB m hs = false) : Calls Try.prog 10 #[.slice a m d] w fun e w' => e = .returned (.bool true) ∧ Below w.heap.size w w' := by
  have HPB := Lib.hid (Pack_bad a m d hs w B hBw hH 2 (.inr ⟨by omega, hp, rfl⟩))
  have HH := Lib.hid hH
  clear hH
  have h1' : ¬ (30 : Int) < (m : Int) := by omega
  have h2' : ¬ (2010 : Int) < (m : Int) := by omega
  have h3' : ¬ (2000 : Int) < (m : Int) := by omega
  go_enter Try.func10, Try.ntmps10
  go_wp2_with (first | (go_at_call 37; refine HPB.out.mono ?_; rintro e wy ⟨rfl, hby⟩) | (go_at_call 38; refine (Packed_any a m d hs _ B (Nat.le_trans hBw hby.size) (HH.out.below (hby.mono hBw))).mono ?_; rintro e wz ⟨rfl, hbz⟩; rw [hp]; have hbz2 : Below w.heap.size w wz := hby.trans (hbz.mono hby.size)) | (go_at_call 16; refine (lawKnown_any _).mono ?_; rintro e wk ⟨rfl, hbk⟩))
  go_ret
  exact ⟨rfl, hbz2.trans (hbk.mono hbz2.size)⟩
set_option maxRecDepth 100000 in
set_option maxHeartbeats 1000000 in
theorem PPk_ok (a : Option Addr) (m d : Nat) (hs : Nat → HV) (w : World) (B : Nat) (hBw : B ≤ w.heap.size) (hH : Hits B w a m hs) (hm : m ≤ 30) (hp : packB m hs = true) : Calls Try.prog 10 #[.slice a m d] w fun e w' => e = .returned (.bool true) ∧ Below w.heap.size w w' := by
  have h1' : ¬ (30 : Int) < (m : Int) := by omega
  have h2' : ¬ (2010 : Int) < (m : Int) := by omega
  have h3' : ¬ (2000 : Int) < (m : Int) := by omega
  obtain ⟨hl1, hl2⟩ := fileN_len hm hp
  have HPK := Lib.hid (fun (w1 : World) (h1 : B ≤ w1.heap.size) (h2 : Hits B w1 a m hs) => Pack_ok a m d hs w1 B h1 h2 hm hp)
  have HRP := Lib.hid (fun (w1 : World) (h1 : B ≤ w1.heap.size) (h2 : Hits B w1 a m hs) => refPack_any a m d hs w1 B h1 h2 hm hp)
  have HUN := Lib.hid (fun (w1 : World) (za : Option Addr) (zc : Nat) (h : Bytes w1.heap.size w1 za (fileN m hs).length (fun i => (fileN m hs).getD i 0)) (h1 : (fileN m hs).length ≤ zc) (h2 : zc ≤ maxLen) => Unpack_any za (fileN m hs).length zc (fun i => (fileN m hs).getD i 0) w1 w1.heap.size (Nat.le_refl _) h (fun i _ => getD_byte fileN_byte i) h1 h2 (bodyN m hs m) (by rw [file_len]; omega) (fun i hi => (file_body (by rw [file_len] at hi; omega)).symm) 0 (hList hs m) (file_is hm hp hl1 hl2))
  have HHL := Lib.hid (fun (w1 : World) (xa : Option Addr) (xn xc : Nat) (h : w1.ownsRow w.heap.size 26 6 (.slice xa xn xc) (hList hs m).length (hC (hList hs m))) => show Hits w1.heap.size w1 xa m hs from by
    rw [hList_len] at h
    exact (own_hits h (by unfold maxLen; omega)).2.2.congr (fun i hi => hList_get hi _))
  have HLL := Lib.hid (hList_len hs m)
  have HH := Lib.hid hH
  have hml : m ≤ maxLen := by unfold maxLen; omega
  generalize fileN m hs = FN at *
  clear hH
  generalize hList hs m = LL at *
  have hFm : FN.length ≤ maxLen := by unfold maxLen; omega
  have hFp : 0 < FN.length := by omega
  go_enter Try.func10, Try.ntmps10
  go_upto_region 8 with (first | (go_at_call 37; refine (HPK.out _ hBw HH.out).mono ?_; rintro e wy ⟨za, zc, rfl, hown, hby⟩; obtain ⟨g, rfl, hg1, hg2, hg3, hg4⟩ := own_some hown hFp; have HO := Lib.hid hown; clear hown) | (go_at_call 38; refine (Packed_any a m d hs _ B (Nat.le_trans hBw hby.size) (HH.out.below (hby.mono hBw))).mono ?_; rintro e wz ⟨rfl, hbz⟩; rw [hp]; have hbz2 : Below w.heap.size w wz := hby.trans (hbz.mono hby.size); have HO2 := Lib.hid (own_below HO.out hbz)))
  clear hby hbz HO
  go_upto_region 10 with (first | (go_at_call 40; refine (HRP.out _ (Nat.le_trans hBw hbz2.size) (HH.out.below (hbz2.mono hBw))).mono ?_; rintro e wu ⟨ra, rc, rfl, hown, hbu⟩; have HO3 := Lib.hid (own_below HO2.out hbu); have HR := Lib.hid (own_bytes hown).2.2; have hbu2 : Below w.heap.size w wu := hbz2.trans (hbu.mono hbz2.size); clear hown hbu) | (go_at_call 39; refine (SameBytes_same _ _ FN.length _ _ (fun i => FN.getD i 0) _ wu.heap.size (Nat.le_refl _) (own_bytes HO3.out).2.2 HR.out hFm).mono ?_; rintro e wv ⟨rfl, hbv⟩; have HO4 := Lib.hid (own_below HO3.out hbv); have hbv2 : Below w.heap.size w wv := hbu2.trans (hbv.mono hbu2.size); clear hbv))
  have HU2 := Lib.hid (HUN.out wv (some ⟨g, 0, none⟩) zc (own_bytes HO4.out).2.2 hg3 hg4)
  clear HUN HO2 HO3 HO4 HR
  go_upto_region 11 with (go_at_call 41; refine HU2.out.mono ?_; rintro e wx ⟨xa, xc, rfl, hown, hbx⟩; have hHx := HHL.out _ _ _ _ (own_base hown hbv2.size); have hbx2 : Below w.heap.size w wx := hbv2.trans (hbx.mono hbv2.size); have HHX := Lib.hid hHx; rw [HLL.out]; clear hown hHx hbx)
  go_wp2_with (first | (go_at_call 42; refine (SameHits_same _ _ m _ _ hs _ wx.heap.size (Nat.le_refl _) HHX.out ((HH.out.below (hbx2.mono hBw)).up (Nat.le_trans hBw hbx2.size))).mono ?_; rintro e wt ⟨rfl, hbt⟩; have hbt2 : Below w.heap.size w wt := hbx2.trans (hbt.mono hbx2.size); clear hbt) | (go_at_call 16; refine (lawKnown_any _).mono ?_; rintro e wk ⟨rfl, hbk⟩))
  go_ret
  exact ⟨rfl, hbt2.trans (hbk.mono hbt2.size)⟩
theorem PlanePacks_any (a : Option Addr) (m d : Nat) (hs : Nat → HV) (w : World) (B : Nat) (hBw : B ≤ w.heap.size) (hH : Hits B w a m hs ∧ m ≤ d ∧ d ≤ maxLen) : Calls Try.prog 10 #[.slice a m d] w fun e w' => e = .returned (.bool true) ∧ Below w.heap.size w w' := by
  by_cases h1 : m ≤ 30
  · cases hp : packB m hs
    · exact PPk_bad a m d hs w B hBw hH.1 h1 hp
    · exact PPk_ok a m d hs w B hBw hH.1 h1 hp
  · by_cases h2 : m ≤ 2000
    · exact PPk_out a m d w hH.1.1 (.inl ⟨by omega, h2⟩)
    · by_cases h3 : m ≤ 2010
      · exact PPk_long a m d hs w B hBw hH.1 (by omega) h3
      · exact PPk_out a m d w hH.1.1 (.inr (by omega))
end Go.Proofs.Ytgcepjminlapiaa
