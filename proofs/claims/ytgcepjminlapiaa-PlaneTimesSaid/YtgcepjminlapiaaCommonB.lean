/- plane.Common refusing; the reference's Common. -/
import Derived.Test.YtgcepjminlapiaaCommon
import Derived.Test.YtgcepjminlapiaaPlaneO
import Derived.Test.YtgcepjminlapiaaLawA
namespace Go.Proofs.Ytgcepjminlapiaa
open Go.RowKit
set_option linter.unusedVariables false
set_option linter.unusedSimpArgs false
set_option maxRecDepth 100000 in
set_option maxHeartbeats 1000000 in
theorem Common_bad (a : Option Addr) (n c : Nat) (ps : Nat → PR) (ha : Option Addr) (m d : Nat) (hs : Nat → HV) (w : World) (B : Nat) (hBw : B ≤ w.heap.size) (hP : Planes B w a n ps) (hH : Hits B w ha m hs) (hE : ¬ allE n ps m hs = 0 ∨ m = 0) :
    Calls Try.prog 35 #[setupV a n c, .slice ha m d] w fun e w' => e = .returned (.tuple #[.agg #[.int .i64 0, .int .i64 0], .int .i64 (if allE n ps m hs = 0 then 2 else allE n ps m hs)]) ∧ Below w.heap.size w w' := by
  have HP := Lib.hid hP
  have HH := Lib.hid hH
  have HE := Lib.hid (all_any a n c ps ha m d hs)
  clear hP hH
  generalize allE n ps m hs = E at *
  by_cases h0 : E = 0
  · obtain rfl : m = 0 := by rcases hE with h | h; exact absurd h0 h; exact h
    subst h0
    go_enter Try.func35, Try.ntmps35
    go_wp2_with (go_at_call 65; refine (HE.out _ B (by simp; omega) (HP.out.below (((Below.refl B w).alloc hBw _).alloc (by simp; omega) _)) (HH.out.below (((Below.refl B w).alloc hBw _).alloc (by simp; omega) _))).mono ?_; rintro e wy ⟨rfl, hby⟩; obtain ⟨l0, l1, l2, l3, l4, l5, l6, l7, l8⟩ := CS_step CS_start hby; clear hby)
    refine bodyPost_ret (v := .tuple #[.agg #[.int .i64 0, .int .i64 0], .int .i64 2]) ?_ rfl ⟨rfl, ?_⟩
    · simp [results, Try.results35, go_sem, l1, l2]
    · exact (l8.setCell (p := ⟨_, _, _⟩) (by simp) _).setCell (p := ⟨_, _, _⟩) (by simp) _
  · rw [if_neg h0]
    have h1 : (E != 0) = true := by simp [h0]
    clear hE
    go_enter Try.func35, Try.ntmps35
    go_wp2_with (go_at_call 65; refine (HE.out _ B (by simp; omega) (HP.out.below (((Below.refl B w).alloc hBw _).alloc (by simp; omega) _)) (HH.out.below (((Below.refl B w).alloc hBw _).alloc (by simp; omega) _))).mono ?_; rintro e wy ⟨rfl, hby⟩; obtain ⟨l0, l1, l2, l3, l4, l5, l6, l7, l8⟩ := CS_step CS_start hby; clear hby)
    refine bodyPost_ret (v := .tuple #[.agg #[.int .i64 0, .int .i64 0], .int .i64 E]) ?_ rfl ⟨rfl, ?_⟩
    · simp [results, Try.results35, go_sem, l1, l2]
    · exact (l8.setCell (p := ⟨_, _, _⟩) (by simp) _).setCell (p := ⟨_, _, _⟩) (by simp) _
theorem S6_setc {a : Option Addr} {n c b o x j : Nat} {h : HV} {w W : World} {v : Value} (hL : S6 a n c b o h w W) (hx : w.heap.size + 2 ≤ x) : S6 a n c b o h w (W.setCell ⟨x, j, none⟩ v) := S6_set (vs := [v]) (oo := j) hL hx
abbrev S8 (a : Option Addr) (n c b o : Nat) (h : HV) (w : World) (x9 : Nat) (V R : Int) (wx : World) : Prop := S6 a n c b o h w wx ∧ X9 w x9 V R wx
theorem S8_step {a : Option Addr} {n c b o : Nat} {h : HV} {w W wy : World} {x9 : Nat} {V R : Int} (hL : S8 a n c b o h w x9 V R W) (hb : Below W.heap.size W wy) : S8 a n c b o h w x9 V R wy := ⟨S6_step hL.1 hb, X9_step hL.2 hb⟩
theorem S8_alloc {a : Option Addr} {n c b o : Nat} {h : HV} {w W : World} {x9 : Nat} {V R : Int} (hL : S8 a n c b o h w x9 V R W) (ob : Obj) : S8 a n c b o h w x9 V R (W.alloc ob) := S8_step hL ((Below.refl _ _).alloc (Nat.le_refl _) _)
theorem S8_drew {a : Option Addr} {n c b o : Nat} {h : HV} {w W : World} {x9 : Nat} {V R : Int} (hL : S8 a n c b o h w x9 V R W) : S8 a n c b o h w x9 V R W.drew := ⟨S6_drew hL.1, hL.2⟩
theorem S8_sz {a : Option Addr} {n c b o : Nat} {h : HV} {w W : World} {x9 : Nat} {V R : Int} (hL : S8 a n c b o h w x9 V R W) : w.heap.size + 2 ≤ W.heap.size := S6_sz hL.1
theorem S8_below {a : Option Addr} {n c b o : Nat} {h : HV} {w W : World} {x9 : Nat} {V R : Int} (hL : S8 a n c b o h w x9 V R W) : Below w.heap.size w W := S6_below hL.1
theorem S8_setc {a : Option Addr} {n c b o x j : Nat} {h : HV} {w W : World} {v : Value} {x9 : Nat} {V R : Int} (hL : S8 a n c b o h w x9 V R W) (hx : w.heap.size + 2 ≤ x) (hx2 : x9 ≠ x) : S8 a n c b o h w x9 V R (W.setCell ⟨x, j, none⟩ v) :=
  ⟨S6_setc hL.1 hx, hL.2.1, by simpa [World.setCell] using hL.2.2.1, (set_other hx2).trans hL.2.2.2.1, (set_other hx2).trans hL.2.2.2.2.1, by rw [World.frozen?_setCell]; exact hL.2.2.2.2.2.1, by rw [World.frozen?_setCell]; exact hL.2.2.2.2.2.2⟩
set_option maxRecDepth 100000 in
set_option maxHeartbeats 1000000 in
theorem refCommon_any (a : Option Addr) (n c : Nat) (ps : Nat → PR) (ha : Option Addr) (m d : Nat) (hs : Nat → HV) (w : World) (B : Nat) (hBw : B ≤ w.heap.size) (hP : Planes B w a n ps) (hH : Hits B w ha m hs) (hB1 : hitsB n ps m hs = true) (hm0 : 0 < m) :
    Calls Try.prog 36 #[setupV a n c, .slice ha m d] w fun e w' => e = .returned (.tuple #[.agg #[.int .i64 (cL (tlOf ps hs) (m - 1)), .int .i64 (cH (thOf ps hs) (m - 1))], .bool (decide (cL (tlOf ps hs) (m - 1) ≤ cH (thOf ps hs) (m - 1)))]) ∧ Below w.heap.size w w' := by
  have hm : m ≤ 9223372036854775807 := hH.1
  simp only [hitsB, Bool.and_eq_true, allUpto_iff] at hB1
  obtain ⟨hC, hall⟩ := hB1
  have hk : ∀ i, i < m → ∃ k, k < n ∧ (hs i).plane = (k : Int) ∧ hitB (ps k) (hs i) = true := fun i hi => ofB_yes (hall i hi)
  have HP := Lib.hid hP
  have HH := Lib.hid hH
  have HC := Lib.hid hC
  have HK := Lib.hid hk
  have HN := Lib.hid (checkB_n hC).2
  obtain ⟨b, off, rfl, hbB, hat⟩ := hH.get hm0
  have HAT := Lib.hid hat
  have HLz := Lib.hid (show cL (tlOf ps hs) 0 = tlOf ps hs 0 from rfl)
  have HRz := Lib.hid (show cH (thOf ps hs) 0 = thOf ps hs 0 from rfl)
  have HLs := Lib.hid (fun i => show cL (tlOf ps hs) (i + 1) = if cL (tlOf ps hs) i < tlOf ps hs (i + 1) then tlOf ps hs (i + 1) else cL (tlOf ps hs) i from rfl)
  have HRs := Lib.hid (fun i => show cH (thOf ps hs) (i + 1) = if thOf ps hs (i + 1) < cH (thOf ps hs) i then thOf ps hs (i + 1) else cH (thOf ps hs) i from rfl)
  generalize cL (tlOf ps hs) = CL at *
  generalize cH (thOf ps hs) = CR at *
  clear hP hH hall hk hat hC
  go_enter Try.func36, Try.ntmps36
  go_upto_region 1 with (fail)
  obtain ⟨k, hkn, hkp, hkh⟩ := HK.out 0 hm0
  have HKP := Lib.hid hkp
  have HKH := Lib.hid hkh
  have HSh := Lib.hid (properB_shaped (checkB_plane HC.out hkn))
  have HTm := Lib.hid (hitB_pre' hkh).2.2.2
  have htl : CL 0 = timeLo (ps k) (hs 0) := by rw [HLz.out, tlOf, hkp, Int.toNat_natCast]
  have hth : CR 0 = timeHi (ps k) (hs 0) := by rw [HRz.out, thOf, hkp, Int.toNat_natCast]
  have HTL := Lib.hid htl
  have HTH := Lib.hid hth
  clear hkp hkh htl hth HLz HRz
  go_cut [6] from 9 to 13 (fun s6 wx => ∃ x9, s6 = .pointer (some ⟨x9, 0, none⟩) ∧ X9 w x9 (CL 0) (CR 0) wx ∧ CS a n c w wx)
  case first =>
    have hL0 : CS a n c w ((w.alloc (.cells #[.slice a n c] 24)).alloc (.cells #[.int .i64 0, .int .i64 0] 34)) := CS_start
    generalize (w.alloc (.cells #[.slice a n c] 24)).alloc (.cells #[.int .i64 0, .int .i64 0] 34) = wy at *
    have hS0 : S6 a n c b off (hs 0) w wy := ⟨hL0, (HAT.out.below (hL0.2.2.2.2.2.2.2.2) (by omega)), by omega⟩
    have hsz0 := S6_sz hS0
    clear hL0
    generalize hh0 : hs 0 = h at *
    go_region_held3 (fun w' => (w'.cell? ⟨w.heap.size, 0, none⟩ = some (.slice a n c) ∧ w'.cell? ⟨w.heap.size + 1, 0, none⟩ = some (.int .i64 0) ∧ w'.cell? ⟨w.heap.size + 1, 1, none⟩ = some (.int .i64 0) ∧ w'.frozen? ⟨w.heap.size + 1, 0, none⟩ = false ∧ w'.frozen? ⟨w.heap.size + 1, 1, none⟩ = false ∧ w.heap.size + 2 ≤ w'.heap.size ∧ w.heap.size < w'.heap.size ∧ w.heap.size + 1 < w'.heap.size ∧ Below w.heap.size w w') ∧ (w'.cell? ⟨b, off, none⟩ = some (.int .i64 h.plane) ∧ w'.cell? ⟨b, off + 1, none⟩ = some (.int .i64 h.channel) ∧ w'.cell? ⟨b, off + 2, none⟩ = some (.int .i64 h.many) ∧ w'.cell? ⟨b, off + 3, none⟩ = some (.int .i64 h.drift) ∧ w'.cell? ⟨b, off + 4, none⟩ = some (.int .i64 h.charge) ∧ w'.cell? ⟨b, off + 5, none⟩ = some (.int .i64 h.time)) ∧ b < w.heap.size) (first | (repeat (first | (with_reducible assumption) | (with_reducible refine S6_drew ?_) | (with_reducible refine S6_alloc ?_ _) | (with_reducible refine S6_setc ?_ hsz0)))) (first | (go_at_call 21; refine (refTimes_tt (B := B) HTL.out HTH.out (by have hq := S6_sz (by with_reducible assumption); omega) (HP.out.below ((S6_below (by with_reducible assumption)).mono hBw)) HN.out hkn HKP.out HSh.out HTm.out).mono ?_; rintro e wz ⟨rfl, hbz⟩; have hsy := S6_step (by with_reducible assumption) hbz; obtain ⟨hcy, hfy⟩ := bcell hbz; (try have hk1 := QS_lt1 hbz); (try have hk2 := QS_lt1d hbz); clear hbz))
    all_goals (go_wp2_with fail)
    all_goals go_meet
    · refine ⟨wz.heap.size, rfl, ⟨S6_sz hsy, by simp, by go_simp, by go_simp, by go_simp, by go_simp⟩, ?_⟩
      exact (S6_alloc hsy _).1
    · refine ⟨wy.heap.size, rfl, ⟨hsz0, by simpa [World.setCell] using hk2, ?_, ?_, ?_, ?_⟩, ?_⟩
      all_goals first
        | (with_reducible exact (S6_setc (S6_setc hsy hsz0) hsz0).1)
        | (go_simp; done)
        | (refine World.cell?_setCell_same' _ _ _ ?_; go_simp)
  obtain ⟨x9, rfl, hx9, hL⟩ := hcut
  clear HTL HTH HSh HTm HKP HKH hkn
  go_wp2
  go_loopw [7] (fun t wr => ∃ i : Nat, 1 ≤ i ∧ i ≤ m ∧ t = .int .i64 (i : Int) ∧ X9 w x9 (CL (i - 1)) (CR (i - 1)) wr ∧ CS a n c w wr) (fun t _ => m - (intOf t).toNat)
  case atStart => exact ⟨1, Nat.le_refl _, hm0, rfl, hx9, hL⟩
  case round =>
    clear hx9 hL
    obtain ⟨i, hi1, hi, rfl, hx9, hL⟩ := hrel
    by_cases hlt : i < m
    · obtain ⟨k2, hkn, hkp2, hkh2⟩ := HK.out i hlt
      obtain ⟨b', off', heq, hb'B, hat2⟩ := (HH.out.below (hL.2.2.2.2.2.2.2.2.mono hBw)).get hlt
      obtain ⟨rfl, rfl⟩ : b = b' ∧ off = off' := by simpa using heq
      have hls := HLs.out (i - 1)
      have hrs := HRs.out (i - 1)
      rw [Nat.sub_add_cancel hi1] at hls hrs
      have htl2 : tlOf ps hs i = timeLo (ps k2) (hs i) := by rw [tlOf, hkp2, Int.toNat_natCast]
      have hth2 : thOf ps hs i = timeHi (ps k2) (hs i) := by rw [thOf, hkp2, Int.toNat_natCast]
      generalize tlOf ps hs i = t2 at *
      generalize thOf ps hs i = r2 at *
      generalize hgg : hs i = h at *
      have HTL := Lib.hid htl2
      have HTH := Lib.hid hth2
      have HKP := Lib.hid hkp2
      have HSh := Lib.hid (properB_shaped (checkB_plane HC.out hkn))
      have HTm := Lib.hid (hitB_pre' hkh2).2.2.2
      have HLS := Lib.hid hls
      have HRS := Lib.hid hrs
      clear hgg htl2 hth2 hkp2 hkh2 hls hrs heq
      generalize CL (i - 1) = V at *
      generalize CR (i - 1) = R at *
      go_upto_region 5 with (fail)
      go_cut [8] from 20 to 25 (fun s14 wx => ∃ x14, s14 = .pointer (some ⟨x14, 0, none⟩) ∧ (x9 ≠ x14 ∧ x14 < wx.heap.size ∧ wx.cell? ⟨x14, 0, none⟩ = some (.int .i64 t2) ∧ wx.cell? ⟨x14, 1, none⟩ = some (.int .i64 r2)) ∧ X9 w x9 V R wx ∧ CS a n c w wx)
      case first =>
        have hS0 : S8 a n c b (off + i * 6) h w x9 V R wr := ⟨⟨hL, hat2, by omega⟩, hx9⟩
        have hsz0 := S6_sz hS0.1
        have h9n : x9 ≠ wr.heap.size := Nat.ne_of_lt hx9.2.1
        clear hL hx9 hat2
        go_region_held3 (fun w' => ((w'.cell? ⟨w.heap.size, 0, none⟩ = some (.slice a n c) ∧ w'.cell? ⟨w.heap.size + 1, 0, none⟩ = some (.int .i64 0) ∧ w'.cell? ⟨w.heap.size + 1, 1, none⟩ = some (.int .i64 0) ∧ w'.frozen? ⟨w.heap.size + 1, 0, none⟩ = false ∧ w'.frozen? ⟨w.heap.size + 1, 1, none⟩ = false ∧ w.heap.size + 2 ≤ w'.heap.size ∧ w.heap.size < w'.heap.size ∧ w.heap.size + 1 < w'.heap.size ∧ Below w.heap.size w w') ∧ (w'.cell? ⟨b, off + i * 6, none⟩ = some (.int .i64 h.plane) ∧ w'.cell? ⟨b, off + i * 6 + 1, none⟩ = some (.int .i64 h.channel) ∧ w'.cell? ⟨b, off + i * 6 + 2, none⟩ = some (.int .i64 h.many) ∧ w'.cell? ⟨b, off + i * 6 + 3, none⟩ = some (.int .i64 h.drift) ∧ w'.cell? ⟨b, off + i * 6 + 4, none⟩ = some (.int .i64 h.charge) ∧ w'.cell? ⟨b, off + i * 6 + 5, none⟩ = some (.int .i64 h.time)) ∧ b < w.heap.size) ∧ (w.heap.size + 2 ≤ x9 ∧ x9 < w'.heap.size ∧ w'.cell? ⟨x9, 0, none⟩ = some (.int .i64 V) ∧ w'.cell? ⟨x9, 1, none⟩ = some (.int .i64 R) ∧ w'.frozen? ⟨x9, 0, none⟩ = false ∧ w'.frozen? ⟨x9, 1, none⟩ = false)) (first | (repeat (first | (with_reducible assumption) | (with_reducible refine S8_drew ?_) | (with_reducible refine S8_alloc ?_ _) | (with_reducible refine S8_setc ?_ hsz0 h9n)))) (first | (go_at_call 21; refine (refTimes_tt (B := B) HTL.out HTH.out (by have hq := S8_sz (by with_reducible assumption); omega) (HP.out.below ((S8_below (by with_reducible assumption)).mono hBw)) HN.out hkn HKP.out HSh.out HTm.out).mono ?_; rintro e wz ⟨rfl, hbz⟩; have hsy := S8_step (by with_reducible assumption) hbz; obtain ⟨hcy, hfy⟩ := bcell hbz; (try have hk1 := QS_lt1 hbz); (try have hk2 := QS_lt1d hbz); clear hbz))
        all_goals (go_wp2_with fail)
        all_goals go_meet
        · refine ⟨wz.heap.size, rfl, ⟨Nat.ne_of_lt hsy.2.2.1, by simp, by go_simp, by go_simp⟩, ?_, ?_⟩
          · with_reducible exact (S8_alloc hsy _).2
          · with_reducible exact (S8_alloc hsy _).1.1
        · refine ⟨wr.heap.size, rfl, ⟨h9n, by simpa [World.setCell] using hk2, ?_, ?_⟩, ?_, ?_⟩
          · first | (go_simp; done) | (refine World.cell?_setCell_same' _ _ _ ?_; go_simp)
          · first | (go_simp; done) | (refine World.cell?_setCell_same' _ _ _ ?_; go_simp)
          · with_reducible exact (S8_setc (S8_setc hsy hsz0 h9n) hsz0 h9n).2
          · with_reducible exact (S8_setc (S8_setc hsy hsz0 h9n) hsz0 h9n).1.1
      clear hL hx9 hat2
      obtain ⟨x14, rfl, ⟨hne, h14, z0, z1⟩, ⟨q0, q1, q2, q3, q4, q5⟩, hL⟩ := hcut
      have HL2 := Lib.hid hL
      clear hL
      go_upto_region 6 with (fail)
      go_region
      go_wp2
      go_roundw
      case rel =>
        refine ⟨i + 1, by omega, by omega, by go_num, ?_, ?_⟩
        · rw [Nat.add_sub_cancel, HLS.out, HRS.out]
          exact X9_set ⟨q0, q1, q2, q3, q4, q5⟩
        · exact CS_set2 HL2.out q0
      case measure => simp [intOf]; omega
    · obtain rfl : i = m := by omega
      obtain ⟨q0, q1, q2, q3, q4, q5⟩ := hx9
      obtain ⟨l0, l1, l2, l3, l4, l5, l6, l7, l8⟩ := hL
      have hn1 : x9 ≠ w.heap.size + 1 := by omega
      go_upto_region 7 with (fail)
      go_region
      all_goals go_wp2
      all_goals (refine bodyPost_ret (v := .tuple #[.agg #[.int .i64 (CL (i - 1)), .int .i64 (CR (i - 1))], .bool (decide (CL (i - 1) ≤ CR (i - 1)))]) ?_ rfl ⟨rfl, ?_⟩)
      all_goals first
        | (simp [results, Try.results36, go_sem, l1, l2]; done)
        | exact ((l8.setCell (p := ⟨_, _, _⟩) (by simp) _).setCell (p := ⟨_, _, _⟩) (by simp) _).drew
        | exact (l8.setCell (p := ⟨_, _, _⟩) (by simp) _).setCell (p := ⟨_, _, _⟩) (by simp) _
end Go.Proofs.Ytgcepjminlapiaa
