/- The walks of plane.of and plane.known. -/
import Derived.Test.YtegimepmccilfaaGreatDoorPlaneD
import Derived.Test.YtegimepmccilfaaGreatDoorHitData
import Derived.Test.YtegimepmccilfaaGreatDoorWide2
import Derived.Deep.RegionWith
import Derived.Deep.RegionHeld3
namespace Go.Proofs.YtegimepmccilfaaGreatDoor
open Go.RowKit
set_option linter.unusedVariables false
set_option linter.unusedSimpArgs false
theorem below_setCells {B : Nat} {a : World} {b : Nat} (hB : B ≤ b) : ∀ (vs : List Value) (o : Nat) (w : World), Below B a w → Below B a (w.setCells b o vs)
  | [], _, _, h => h
  | v :: r, o, w, h => below_setCells hB r (o + 1) _ (h.setCell (p := ⟨b, o, none⟩) hB v)
theorem rangeAt_set16 {w : World} {b : Nat} {zs : Array Value} {vs : List Value} (hc : ∀ j, w.cell? ⟨b, j, none⟩ = zs[j]?) (hf : ∀ j, w.frozen? ⟨b, j, none⟩ = false) (hz : zs.size = vs.length) : (w.setCells b 0 vs).rangeAt b 0 vs :=
  World.rangeAt_setCells_same w b 0 vs (fun j hj => ⟨by rw [Nat.zero_add, hc, Array.getElem?_eq_getElem (by omega)]; rfl, hf _⟩)
abbrev zeroPlaced : Value := .agg #[.int .i64 0, .int .i64 0, .int .i64 0, .int .i64 0, .int .i64 0, .int .i64 0, .int .i64 0, .int .i64 0, .int .i64 0, .int .i64 0, .int .i64 0, .int .i64 0, .int .i64 0, .slice none 0 0, .slice none 0 0, .int .i64 0]
theorem cell_setCells_other {w : World} {b b' j o : Nat} {vs : List Value} (h : b' ≠ b) : (w.setCells b o vs).cell? ⟨b', j, none⟩ = w.cell? ⟨b', j, none⟩ :=
  World.cell?_setCells_out b vs o w ⟨b', j, none⟩ (fun e => absurd e h)
theorem heap_new' {w : World} {o : Obj} {i : Nat} (h : i = w.heap.size) : (w.alloc o).heap[i]? = some o := by subst h; exact heap_alloc_new w o
theorem heap_alloc_old' {w : World} {o : Obj} {i : Nat} (h : i < w.heap.size) : (w.alloc o).heap[i]? = w.heap[i]? := Below.heap_alloc w o i h
theorem heap_4_1 (w : World) (a b c d : Obj) : ((((w.alloc a).alloc b).alloc c).alloc d).heap[w.heap.size + 1]? = some b := by
  rw [heap_alloc_old' (by simp), heap_alloc_old' (by simp), heap_new' (by simp)]
theorem heap_4_2 (w : World) (a b c d : Obj) : ((((w.alloc a).alloc b).alloc c).alloc d).heap[w.heap.size + 2]? = some c := by
  rw [heap_alloc_old' (by simp), heap_new' (by simp)]
theorem heap_4_3 (w : World) (a b c d : Obj) : ((((w.alloc a).alloc b).alloc c).alloc d).heap[w.heap.size + 3]? = some d := heap_new' (by simp)
theorem within_still (a b c : Int) (w : World) : Calls Tryz.prog 36 #[.int .i64 a, .int .i64 b, .int .i64 c] w fun e w' => e = .returned (.bool (withinB a b c)) ∧ w' = w :=
  (within_any a b c w).mono fun _ _ ⟨h, h'⟩ => ⟨h, h'.symm⟩
set_option maxRecDepth 100000 in
set_option maxHeartbeats 1000000 in
theorem of_out (a : Option Addr) (n c : Nat) (h : HV) (w : World) (hn : n ≤ 16) (ho : ¬ (0 ≤ h.plane ∧ h.plane ≤ (n : Int) - 1)) :
    Calls Tryz.prog 33 #[setupV a n c, h.val] w fun e w' => e = .returned (.tuple #[zeroPlaced, .bool false]) ∧ Below w.heap.size w w' := by
  have h1 := withinB_no ho
  clear ho
  go_enter Tryz.func33, Tryz.ntmps33
  go_wp2_with (go_at_call 36; refine (within_any _ _ _ _).mono ?_; rintro e w' ⟨rfl, rfl⟩)
  refine bodyPost_ret (ret_cell_tmp rfl _ _ (w.heap.size + 2) [.int .i64 0, .int .i64 0, .int .i64 0, .int .i64 0, .int .i64 0, .int .i64 0, .int .i64 0, .int .i64 0, .int .i64 0, .int .i64 0, .int .i64 0, .int .i64 0, .int .i64 0, .slice none 0 0, .slice none 0 0, .int .i64 0] rfl ?hr Tryz.underlying84 rfl size_placed) rfl ⟨rfl, ?_⟩
  case hr => (refine range16 ?_; go_simp)
  exact (((Below.refl _ _).alloc (Nat.le_refl _) _).alloc (by simp) _).alloc (by simp; omega) _
set_option maxRecDepth 100000 in
set_option maxHeartbeats 4000000 in
theorem of_in_good (a : Option Addr) (n c : Nat) (ps : Nat → PR) (h : HV) (w : World) (B : Nat) (hBw : B ≤ w.heap.size) (hP : Planes B w a n ps) (hC : checkB n ps = true) (k : Nat) (hk : k < n) (hh : h.plane = k) (hpre0 : hitPre (ps k) h = true) :
    Calls Tryz.prog 33 #[setupV a n c, h.val] w fun e w' => e = .returned (.tuple #[(ps k).placed k, .bool (hitB (ps k) h)]) ∧ Below w.heap.size w w' := by
  obtain ⟨b, off, rfl, hbB, ⟨c0, c1, c2, c3, c4, c5, c6, c7, c8, c9, c10, c11, c12, c13, c14⟩, hm⟩ := hP.get hk
  have hN := checkB_n hC
  have hS := properB_shaped (checkB_plane hC hk)
  clear hP hC
  obtain ⟨_, channel, many, drift, charge, time⟩ := h
  dsimp only at hh
  subst hh
  generalize ps k = p at *
  obtain ⟨hst1, hst2⟩ := hS.strips
  obtain ⟨hl1, hl2⟩ := hS.least
  clear hS
  have h1 : withinB (k : Int) 0 ((n : Int) - 1) = true := withinB_yes (by omega) (by omega)
  have hbz : b < w.heap.size := by omega
  have lt1 : b < w.heap.size + 1 := by omega
  have lt2 : b < w.heap.size + 1 + 1 := by omega
  have lt3 : b < w.heap.size + 1 + 1 + 1 := by omega
  obtain ⟨hdn, hen, hD, hI⟩ := hm
  have HF1 := Lib.hid (fun hh => (@hitB_pre p ⟨k, channel, many, drift, charge, time⟩ hh).symm)
  have hF2 := fun j hj hh => (@hitB_dead p ⟨k, channel, many, drift, charge, time⟩ j hj hh).symm
  have hF3 := fun j h1 hk hh => (@hitB_end p ⟨k, channel, many, drift, charge, time⟩ j h1 hk hh).symm
  have hND : ∀ j, noDeadAt p ⟨k, channel, many, drift, charge, time⟩ j = !withinB (p.es j) channel (channel + many - 1) := fun _ => rfl
  generalize noDeadAt p ⟨k, channel, many, drift, charge, time⟩ = ND at hF2 hF3 hND
  have HF2 := Lib.hid hF2
  have HF3 := Lib.hid hF3
  have HND := Lib.hid hND
  clear hF2 hF3 hND
  have HI := Lib.hid hI
  clear hD hI hdn
  unfold maxLen at hen
  obtain ⟨kind, view, z, first, pitch, strips, spill, olo, ohi, clo, chi, jitter, least, da, dn, dc, ea, en, ec, ds, es⟩ := p
  dsimp only at *
  have hpre : withinB channel 0 (strips - 1) = true ∧ withinB many 1 (strips - channel) = true ∧ withinB charge least 1000000 = true ∧ withinB time (-1000000000) 1000000000 = true := by simpa [hitPre] using hpre0
  clear hpre0
  obtain ⟨p1, p2, p3, p4⟩ := hpre
  have HPRE := Lib.hid (show hitPre ⟨kind, view, z, first, pitch, strips, spill, olo, ohi, clo, chi, jitter, least, da, dn, dc, ea, en, ec, ds, es⟩ ⟨k, channel, many, drift, charge, time⟩ = true by simp [hitPre, p1, p2, p3, p4])
  obtain ⟨q1, q2⟩ := withinB_iff.1 p1
  obtain ⟨q3, q4⟩ := withinB_iff.1 p2
  go_enter Tryz.func33, Tryz.ntmps33
  go_upto_region 3 with ((go_at_call 36; refine (within_any _ _ _ _).mono ?_; rintro e w' ⟨rfl, rfl⟩))
  go_cut [6] from 9 to 26 (fun s6 wx => s6 = .pointer (some ⟨w.heap.size + 3, 0, none⟩) ∧ (∀ j, wx.cell? ⟨w.heap.size + 1, j, none⟩ = (#[.int .i64 k, .int .i64 channel, .int .i64 many, .int .i64 drift, .int .i64 charge, .int .i64 time] : Array Value)[j]?) ∧ (∀ j, wx.cell? ⟨w.heap.size + 3, j, none⟩ = (#[.int .i64 kind, .int .i64 view, .int .i64 z, .int .i64 first, .int .i64 pitch, .int .i64 strips, .int .i64 spill, .int .i64 olo, .int .i64 ohi, .int .i64 clo, .int .i64 chi, .int .i64 jitter, .int .i64 least, .slice da dn dc, .slice ea en ec, .int .i64 k] : Array Value)[j]?) ∧ (∀ j, wx.cell? ⟨w.heap.size + 2, j, none⟩ = (#[.int .i64 0, .int .i64 0, .int .i64 0, .int .i64 0, .int .i64 0, .int .i64 0, .int .i64 0, .int .i64 0, .int .i64 0, .int .i64 0, .int .i64 0, .int .i64 0, .int .i64 0, .slice none 0 0, .slice none 0 0, .int .i64 0] : Array Value)[j]?) ∧ (∀ j, wx.frozen? ⟨w.heap.size + 2, j, none⟩ = false) ∧ Below w.heap.size w wx)
  case first =>
    go_region
    go_wp2_with fail
    go_meet
    clear c0 c1 c2 c3 c4 c5 c6 c7 c8 c9 c10 c11 c12 c13 c14
    refine ⟨rfl, fun j => ?_, fun j => ?_, fun j => ?_, fun j => ?_, ?_⟩
    · rw [World.cell?_drew]; exact cell_of_row _ _ _ _ _ _ (heap_4_1 _ _ _ _ _)
    · rw [World.cell?_drew]; exact cell_of_row _ _ _ _ _ _ (heap_4_3 _ _ _ _ _)
    · rw [World.cell?_drew]; exact cell_of_row _ _ _ _ _ _ (heap_4_2 _ _ _ _ _)
    · rw [World.frozen?_drew]; exact frozen_of_row _ _ _ _ _ (heap_4_2 _ _ _ _ _)
    · first | exact Below.drew (((((Below.refl _ _).alloc (Nat.le_refl _) _).alloc (by simp) _).alloc (by simp; omega) _).alloc (by simp; omega) _) | exact Below.drew (Below.drew (((((Below.refl _ _).alloc (Nat.le_refl _) _).alloc (by simp) _).alloc (by simp; omega) _).alloc (by simp; omega) _))
  obtain ⟨rfl, hh, hp, hr, hrf, hbx⟩ := hcut
  clear c0 c1 c2 c3 c4 c5 c6 c7 c8 c9 c10 c11 c12 c13 c14 lt1 lt2 lt3
  go_wp2_with (go_at_call 36; refine (within_any _ _ _ _).mono ?_; rintro e w' ⟨rfl, rfl⟩)
  go_loop [67, 8] (fun t _ => ∃ j : Nat, j ≤ en ∧ t = .int .i64 j ∧ ∀ i, i < j → ND i = true) (fun t _ => en - (intOf t).toNat)
  case atStart => exact ⟨0, Nat.zero_le _, rfl, fun j h => by omega⟩
  case round =>
    obtain ⟨j, hj, rfl, hall⟩ := hrel
    have HALL := Lib.hid hall
    clear hall
    by_cases hlt : j < en
    · rcases HI.out with hd | ⟨b2, off2, rfl, hbs2, hcell2⟩
      · omega
      have e0 := (hbx.cell (p := ⟨b2, off2 + j, none⟩) (by show b2 < _; omega)).trans (hcell2 j hlt)
      clear hcell2
      by_cases hd : withinB (es j) channel (channel + many - 1) = true
      · have HF := Lib.hid (HF2.out j hlt (by rw [HND.out]; simp [hd]))
        go_wp2_with (go_at_call 36; refine (within_any _ _ _ _).mono ?_; rintro e w' ⟨rfl, rfl⟩)
        (refine bodyPost_ret (ret_cell_tmp rfl _ _ (w.heap.size + 2) [.int .i64 kind, .int .i64 view, .int .i64 z, .int .i64 first, .int .i64 pitch, .int .i64 strips, .int .i64 spill, .int .i64 olo, .int .i64 ohi, .int .i64 clo, .int .i64 chi, .int .i64 jitter, .int .i64 least, .slice da dn dc, .slice (some ⟨b2, off2, none⟩) en ec, .int .i64 k] rfl ?_ Tryz.underlying84 rfl size_placed) rfl ⟨?_, ?_⟩; (· (try simp only [World.rangeAt_drew]); exact rangeAt_set16 hr hrf rfl); (· rw [← HF.out]; rfl); (· repeat (first | (with_reducible exact hbx) | (with_reducible apply Below.drew) | (with_reducible refine below_setCells (by omega) _ _ _ ?_))))
      · have hd' : withinB (es j) channel (channel + many - 1) = false := by simpa using hd
        have HN := Lib.hid (show ND j = true by rw [HND.out]; simp [hd'])
        clear hd
        go_wp2_with (go_at_call 36; refine (within_any _ _ _ _).mono ?_; rintro e w' ⟨rfl, rfl⟩)
        go_round
        case rel => exact ⟨j + 1, by omega, by go_num, fun i hi => by (by_cases e : i = j; subst e; exact HN.out; exact HALL.out i (by omega))⟩
        case measure => simp [intOf]; omega
    · have HE := Lib.hid (HF3.out j HPRE.out (by omega) HALL.out)
      by_cases hk2 : kind = 2
      · have hk3 : (kind == 2) = true := by simp [hk2]
        have HK := Lib.hid hk2
        clear hk2
        by_cases hm1 : many = 1
        · have hm2 : (many == 1) = true := by simp [hm1]
          have HM := Lib.hid hm1
          clear hm1
          go_wp2
          go_region_held3 (fun w' => (∀ j, w'.cell? ⟨w.heap.size + 1, j, none⟩ = (#[.int .i64 k, .int .i64 channel, .int .i64 many, .int .i64 drift, .int .i64 charge, .int .i64 time] : Array Value)[j]?) ∧ (∀ j, w'.cell? ⟨w.heap.size + 3, j, none⟩ = (#[.int .i64 kind, .int .i64 view, .int .i64 z, .int .i64 first, .int .i64 pitch, .int .i64 strips, .int .i64 spill, .int .i64 olo, .int .i64 ohi, .int .i64 clo, .int .i64 chi, .int .i64 jitter, .int .i64 least, .slice da dn dc, .slice ea en ec, .int .i64 k] : Array Value)[j]?)) ((refine ⟨fun j => ?_, fun j => ?_⟩ <;> simp [hh, hp, cell_setCells_other])) (first | (go_at_call 36; refine (within_any _ _ _ _).mono ?_; rintro e w' ⟨rfl, rfl⟩))
          all_goals go_wp2
          all_goals (refine bodyPost_ret (ret_cell_tmp rfl _ _ (w.heap.size + 2) [.int .i64 kind, .int .i64 view, .int .i64 z, .int .i64 first, .int .i64 pitch, .int .i64 strips, .int .i64 spill, .int .i64 olo, .int .i64 ohi, .int .i64 clo, .int .i64 chi, .int .i64 jitter, .int .i64 least, .slice da dn dc, .slice (ea) en ec, .int .i64 k] rfl ?_ Tryz.underlying84 rfl size_placed) rfl ⟨?_, ?_⟩; (· (try simp only [World.rangeAt_drew]); exact rangeAt_set16 hr hrf rfl); (· rw [← HE.out]; simp [hitKind, HM.out, HK.out] ); (· repeat (first | (with_reducible exact hbx) | (with_reducible apply Below.drew) | (with_reducible refine below_setCells (by omega) _ _ _ ?_))))
        · have hm2 : (many == 1) = false := by simp [hm1]
          have HM := Lib.hid hm1
          clear hm1
          go_wp2
          go_region
          all_goals go_wp2
          all_goals (refine bodyPost_ret (ret_cell_tmp rfl _ _ (w.heap.size + 2) [.int .i64 kind, .int .i64 view, .int .i64 z, .int .i64 first, .int .i64 pitch, .int .i64 strips, .int .i64 spill, .int .i64 olo, .int .i64 ohi, .int .i64 clo, .int .i64 chi, .int .i64 jitter, .int .i64 least, .slice da dn dc, .slice (ea) en ec, .int .i64 k] rfl ?_ Tryz.underlying84 rfl size_placed) rfl ⟨?_, ?_⟩; (· (try simp only [World.rangeAt_drew]); exact rangeAt_set16 hr hrf rfl); (· rw [← HE.out]; simp [hitKind, HM.out, HK.out] ); (· repeat (first | (with_reducible exact hbx) | (with_reducible apply Below.drew) | (with_reducible refine below_setCells (by omega) _ _ _ ?_))))
      · have hk3 : (kind == 2) = false := by simp [hk2]
        have HK := Lib.hid hk2
        clear hk2
        by_cases hd1 : drift = 0
        · have hd2 : (drift == 0) = true := by simp [hd1]
          have HD1 := Lib.hid hd1
          clear hd1
          by_cases hk4 : kind = 3
          · have hk5 : (kind != 3) = false := by simp [hk4]
            have HK4 := Lib.hid hk4
            clear hk4
            go_wp2
            go_region_held3 (fun w' => (∀ j, w'.cell? ⟨w.heap.size + 1, j, none⟩ = (#[.int .i64 k, .int .i64 channel, .int .i64 many, .int .i64 drift, .int .i64 charge, .int .i64 time] : Array Value)[j]?) ∧ (∀ j, w'.cell? ⟨w.heap.size + 3, j, none⟩ = (#[.int .i64 kind, .int .i64 view, .int .i64 z, .int .i64 first, .int .i64 pitch, .int .i64 strips, .int .i64 spill, .int .i64 olo, .int .i64 ohi, .int .i64 clo, .int .i64 chi, .int .i64 jitter, .int .i64 least, .slice da dn dc, .slice ea en ec, .int .i64 k] : Array Value)[j]?)) ((refine ⟨fun j => ?_, fun j => ?_⟩ <;> simp [hh, hp, cell_setCells_other])) (fail)
            all_goals go_wp2
            all_goals (refine bodyPost_ret (ret_cell_tmp rfl _ _ (w.heap.size + 2) [.int .i64 kind, .int .i64 view, .int .i64 z, .int .i64 first, .int .i64 pitch, .int .i64 strips, .int .i64 spill, .int .i64 olo, .int .i64 ohi, .int .i64 clo, .int .i64 chi, .int .i64 jitter, .int .i64 least, .slice da dn dc, .slice (ea) en ec, .int .i64 k] rfl ?_ Tryz.underlying84 rfl size_placed) rfl ⟨?_, ?_⟩; (· (try simp only [World.rangeAt_drew]); exact rangeAt_set16 hr hrf rfl); (· rw [← HE.out]; simp [hitKind, HD1.out, HK4.out] ); (· repeat (first | (with_reducible exact hbx) | (with_reducible apply Below.drew) | (with_reducible refine below_setCells (by omega) _ _ _ ?_))))
          · have hk5 : (kind != 3) = true := by simp [hk4]
            have HK4 := Lib.hid hk4
            clear hk4
            go_wp2
            go_region
            all_goals go_wp2
            all_goals (refine bodyPost_ret (ret_cell_tmp rfl _ _ (w.heap.size + 2) [.int .i64 kind, .int .i64 view, .int .i64 z, .int .i64 first, .int .i64 pitch, .int .i64 strips, .int .i64 spill, .int .i64 olo, .int .i64 ohi, .int .i64 clo, .int .i64 chi, .int .i64 jitter, .int .i64 least, .slice da dn dc, .slice (ea) en ec, .int .i64 k] rfl ?_ Tryz.underlying84 rfl size_placed) rfl ⟨?_, ?_⟩; (· (try simp only [World.rangeAt_drew]); exact rangeAt_set16 hr hrf rfl); (· rw [← HE.out]; simp [hitKind, HD1.out, HK4.out, HK.out] ); (· repeat (first | (with_reducible exact hbx) | (with_reducible apply Below.drew) | (with_reducible refine below_setCells (by omega) _ _ _ ?_))))
        · have hd2 : (drift == 0) = false := by simp [hd1]
          have HD1 := Lib.hid hd1
          clear hd1
          go_wp2
          go_region
          all_goals go_wp2
          all_goals (refine bodyPost_ret (ret_cell_tmp rfl _ _ (w.heap.size + 2) [.int .i64 kind, .int .i64 view, .int .i64 z, .int .i64 first, .int .i64 pitch, .int .i64 strips, .int .i64 spill, .int .i64 olo, .int .i64 ohi, .int .i64 clo, .int .i64 chi, .int .i64 jitter, .int .i64 least, .slice da dn dc, .slice (ea) en ec, .int .i64 k] rfl ?_ Tryz.underlying84 rfl size_placed) rfl ⟨?_, ?_⟩; (· (try simp only [World.rangeAt_drew]); exact rangeAt_set16 hr hrf rfl); (· rw [← HE.out]; simp [hitKind, HD1.out, HK.out] ); (· repeat (first | (with_reducible exact hbx) | (with_reducible apply Below.drew) | (with_reducible refine below_setCells (by omega) _ _ _ ?_))))
set_option maxRecDepth 100000 in
set_option maxHeartbeats 2000000 in
theorem of_in_bad (a : Option Addr) (n c : Nat) (ps : Nat → PR) (h : HV) (w : World) (B : Nat) (hBw : B ≤ w.heap.size) (hP : Planes B w a n ps) (hC : checkB n ps = true) (k : Nat) (hk : k < n) (hh : h.plane = k) (hpre0 : ¬ hitPre (ps k) h = true) :
    Calls Tryz.prog 33 #[setupV a n c, h.val] w fun e w' => e = .returned (.tuple #[(ps k).placed k, .bool (hitB (ps k) h)]) ∧ Below w.heap.size w w' := by
  obtain ⟨b, off, rfl, hbB, ⟨c0, c1, c2, c3, c4, c5, c6, c7, c8, c9, c10, c11, c12, c13, c14⟩, hm⟩ := hP.get hk
  have hN := checkB_n hC
  have hS := properB_shaped (checkB_plane hC hk)
  clear hP hC
  obtain ⟨_, channel, many, drift, charge, time⟩ := h
  dsimp only at hh
  subst hh
  generalize ps k = p at *
  obtain ⟨hst1, hst2⟩ := hS.strips
  obtain ⟨hl1, hl2⟩ := hS.least
  clear hS
  have h1 : withinB (k : Int) 0 ((n : Int) - 1) = true := withinB_yes (by omega) (by omega)
  have hbz : b < w.heap.size := by omega
  have lt1 : b < w.heap.size + 1 := by omega
  have lt2 : b < w.heap.size + 1 + 1 := by omega
  have lt3 : b < w.heap.size + 1 + 1 + 1 := by omega
  obtain ⟨hdn, hen, hD, hI⟩ := hm
  have HF1 := Lib.hid (fun hh => (@hitB_pre p ⟨k, channel, many, drift, charge, time⟩ hh).symm)
  have hF2 := fun j hj hh => (@hitB_dead p ⟨k, channel, many, drift, charge, time⟩ j hj hh).symm
  have hF3 := fun j h1 hk hh => (@hitB_end p ⟨k, channel, many, drift, charge, time⟩ j h1 hk hh).symm
  have hND : ∀ j, noDeadAt p ⟨k, channel, many, drift, charge, time⟩ j = !withinB (p.es j) channel (channel + many - 1) := fun _ => rfl
  generalize noDeadAt p ⟨k, channel, many, drift, charge, time⟩ = ND at hF2 hF3 hND
  have HF2 := Lib.hid hF2
  have HF3 := Lib.hid hF3
  have HND := Lib.hid hND
  clear hF2 hF3 hND
  have HI := Lib.hid hI
  clear hD hI hdn
  unfold maxLen at hen
  obtain ⟨kind, view, z, first, pitch, strips, spill, olo, ohi, clo, chi, jitter, least, da, dn, dc, ea, en, ec, ds, es⟩ := p
  dsimp only at *
  have hpre : ¬ (withinB channel 0 (strips - 1) = true ∧ withinB many 1 (strips - channel) = true ∧ withinB charge least 1000000 = true ∧ withinB time (-1000000000) 1000000000 = true) := by simpa [hitPre] using hpre0
  clear hpre0
  have HF := Lib.hid (HF1.out (by simpa [hitPre] using hpre))
  have HPRE := Lib.hid hpre
  clear hpre
  go_enter Tryz.func33, Tryz.ntmps33
  go_upto_region 3 with ((go_at_call 36; refine (within_any _ _ _ _).mono ?_; rintro e w' ⟨rfl, rfl⟩))
  go_cut [6] from 9 to 26 (fun s6 wx => s6 = .pointer (some ⟨w.heap.size + 3, 0, none⟩) ∧ (∀ j, wx.cell? ⟨w.heap.size + 1, j, none⟩ = (#[.int .i64 k, .int .i64 channel, .int .i64 many, .int .i64 drift, .int .i64 charge, .int .i64 time] : Array Value)[j]?) ∧ (∀ j, wx.cell? ⟨w.heap.size + 3, j, none⟩ = (#[.int .i64 kind, .int .i64 view, .int .i64 z, .int .i64 first, .int .i64 pitch, .int .i64 strips, .int .i64 spill, .int .i64 olo, .int .i64 ohi, .int .i64 clo, .int .i64 chi, .int .i64 jitter, .int .i64 least, .slice da dn dc, .slice ea en ec, .int .i64 k] : Array Value)[j]?) ∧ (∀ j, wx.cell? ⟨w.heap.size + 2, j, none⟩ = (#[.int .i64 0, .int .i64 0, .int .i64 0, .int .i64 0, .int .i64 0, .int .i64 0, .int .i64 0, .int .i64 0, .int .i64 0, .int .i64 0, .int .i64 0, .int .i64 0, .int .i64 0, .slice none 0 0, .slice none 0 0, .int .i64 0] : Array Value)[j]?) ∧ (∀ j, wx.frozen? ⟨w.heap.size + 2, j, none⟩ = false) ∧ Below w.heap.size w wx)
  case first =>
    go_region
    go_wp2_with fail
    go_meet
    clear c0 c1 c2 c3 c4 c5 c6 c7 c8 c9 c10 c11 c12 c13 c14
    refine ⟨rfl, fun j => ?_, fun j => ?_, fun j => ?_, fun j => ?_, ?_⟩
    · rw [World.cell?_drew]; exact cell_of_row _ _ _ _ _ _ (heap_4_1 _ _ _ _ _)
    · rw [World.cell?_drew]; exact cell_of_row _ _ _ _ _ _ (heap_4_3 _ _ _ _ _)
    · rw [World.cell?_drew]; exact cell_of_row _ _ _ _ _ _ (heap_4_2 _ _ _ _ _)
    · rw [World.frozen?_drew]; exact frozen_of_row _ _ _ _ _ (heap_4_2 _ _ _ _ _)
    · first | exact Below.drew (((((Below.refl _ _).alloc (Nat.le_refl _) _).alloc (by simp) _).alloc (by simp; omega) _).alloc (by simp; omega) _) | exact Below.drew (Below.drew (((((Below.refl _ _).alloc (Nat.le_refl _) _).alloc (by simp) _).alloc (by simp; omega) _).alloc (by simp; omega) _))
  obtain ⟨rfl, hh, hp, hr, hrf, hbx⟩ := hcut
  clear c0 c1 c2 c3 c4 c5 c6 c7 c8 c9 c10 c11 c12 c13 c14 lt1 lt2 lt3
  by_cases p1 : withinB channel 0 (strips - 1) = true
  · obtain ⟨q1, q2⟩ := withinB_iff.1 p1
    go_upto_region 6 with ((go_at_call 36; refine (within_any _ _ _ _).mono ?_; rintro e w' ⟨rfl, rfl⟩))
    all_goals first | (refine bodyPost_ret (ret_cell_tmp rfl _ _ (w.heap.size + 2) [.int .i64 kind, .int .i64 view, .int .i64 z, .int .i64 first, .int .i64 pitch, .int .i64 strips, .int .i64 spill, .int .i64 olo, .int .i64 ohi, .int .i64 clo, .int .i64 chi, .int .i64 jitter, .int .i64 least, .slice da dn dc, .slice (ea) en ec, .int .i64 k] rfl ?_ Tryz.underlying84 rfl size_placed) rfl ⟨?_, ?_⟩; (· (try simp only [World.rangeAt_drew]); exact rangeAt_set16 hr hrf rfl); (· rw [← HF.out]; rfl); (· repeat (first | (with_reducible exact hbx) | (with_reducible apply Below.drew) | (with_reducible refine below_setCells (by omega) _ _ _ ?_)))) | (exfalso; go_light; apply HPRE.out; clear HPRE HF HF1 HF2 HF3 HND HI hh hp hr hrf hbx; simp_all)
  · have p2 : withinB channel 0 (strips - 1) = false := by simpa using p1
    clear p1
    go_wp2_with (go_at_call 36; refine (within_any _ _ _ _).mono ?_; rintro e w' ⟨rfl, rfl⟩)
    (refine bodyPost_ret (ret_cell_tmp rfl _ _ (w.heap.size + 2) [.int .i64 kind, .int .i64 view, .int .i64 z, .int .i64 first, .int .i64 pitch, .int .i64 strips, .int .i64 spill, .int .i64 olo, .int .i64 ohi, .int .i64 clo, .int .i64 chi, .int .i64 jitter, .int .i64 least, .slice da dn dc, .slice (ea) en ec, .int .i64 k] rfl ?_ Tryz.underlying84 rfl size_placed) rfl ⟨?_, ?_⟩; (· (try simp only [World.rangeAt_drew]); exact rangeAt_set16 hr hrf rfl); (· rw [← HF.out]; rfl); (· repeat (first | (with_reducible exact hbx) | (with_reducible apply Below.drew) | (with_reducible refine below_setCells (by omega) _ _ _ ?_))))
theorem of_in (a : Option Addr) (n c : Nat) (ps : Nat → PR) (h : HV) (w : World) (B : Nat) (hBw : B ≤ w.heap.size) (hP : Planes B w a n ps) (hC : checkB n ps = true) (k : Nat) (hk : k < n) (hh : h.plane = k) :
    Calls Tryz.prog 33 #[setupV a n c, h.val] w fun e w' => e = .returned (.tuple #[(ps k).placed k, .bool (hitB (ps k) h)]) ∧ Below w.heap.size w w' := by
  by_cases hpre : hitPre (ps k) h = true
  · exact of_in_good a n c ps h w B hBw hP hC k hk hh hpre
  · exact of_in_bad a n c ps h w B hBw hP hC k hk hh hpre
end Go.Proofs.YtegimepmccilfaaGreatDoor
