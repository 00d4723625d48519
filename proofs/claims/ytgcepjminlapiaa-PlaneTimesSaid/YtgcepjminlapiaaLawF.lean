/- The statement PlaneTimes: its walk. -/
import Derived.Test.YtgcepjminlapiaaCommonB
import Derived.Test.YtgcepjminlapiaaOpenH
import Derived.Test.YtgcepjminlapiaaLawD
namespace Go.Proofs.Ytgcepjminlapiaa
open Go.RowKit
set_option linter.unusedVariables false
set_option linter.unusedSimpArgs false
abbrev LX (a : Option Addr) (n c : Nat) (w : World) (x : Nat) (u v : Int) (wx : World) : Prop := LF a n c w wx ∧ x < wx.heap.size ∧ wx.cell? ⟨x, 0, none⟩ = some (.int .i64 u) ∧ wx.cell? ⟨x, 1, none⟩ = some (.int .i64 v)
theorem LX_step {a : Option Addr} {n c x : Nat} {u v : Int} {w W wy : World} (hL : LX a n c w x u v W) (hb : Below W.heap.size W wy) : LX a n c w x u v wy :=
  ⟨LF_step hL.1 hb, LB_x hL.2.1 hL.2.2.1 hL.2.2.2 hb⟩
set_option maxRecDepth 100000 in
set_option maxHeartbeats 1000000 in
theorem PM_out (a : Option Addr) (n c : Nat) (ps : Nat → PR) (ha : Option Addr) (m d : Nat) (hs : Nat → HV) (w : World) (B : Nat) (hBw : B ≤ w.heap.size) (hP : Planes B w a n ps) (hm : m ≤ maxLen) (hO : smallB n ps = false ∨ (30 < m ∧ m ≤ 2000) ∨ 2010 < m) :
    Calls Try.prog 9 #[setupV a n c, .slice ha m d] w fun e w' => e = .returned (.bool true) ∧ Below w.heap.size w w' := by
  have HP := Lib.hid hP
  unfold maxLen at hm
  clear hP
  cases hsm : smallB n ps
  · clear hO
    go_enter Try.func9, Try.ntmps9
    go_wp2_with (first | (go_at_call 15; refine (small_any a n c ps _ B (by simp; omega) (HP.out.below ((Below.refl B w).alloc hBw _))).mono ?_; rintro e wy ⟨rfl, hby⟩; rw [hsm]; obtain ⟨l0, l1, l2, l3⟩ := LF_step LF_start hby; clear hby) | (go_at_call 16; refine (lawKnown_any _).mono ?_; rintro e wy ⟨rfl, hby⟩; have hL := LF_step ⟨l0, l1, l2, l3⟩ hby; clear l0 l1 l2 l3; obtain ⟨l0, l1, l2, l3⟩ := hL; clear hby))
    go_ret
    exact ⟨rfl, l3⟩
  · rcases hO with h | ⟨h1, h2⟩ | h
    · rw [hsm] at h; cases h
    · have h1' : (30 : Int) < (m : Int) := by omega
      have h2' : (m : Int) ≤ 2000 := by omega
      go_enter Try.func9, Try.ntmps9
      go_wp2_with (first | (go_at_call 15; refine (small_any a n c ps _ B (by simp; omega) (HP.out.below ((Below.refl B w).alloc hBw _))).mono ?_; rintro e wy ⟨rfl, hby⟩; rw [hsm]; obtain ⟨l0, l1, l2, l3⟩ := LF_step LF_start hby; clear hby) | (go_at_call 16; refine (lawKnown_any _).mono ?_; rintro e wy ⟨rfl, hby⟩; have hL := LF_step ⟨l0, l1, l2, l3⟩ hby; clear l0 l1 l2 l3; obtain ⟨l0, l1, l2, l3⟩ := hL; clear hby))
      go_ret
      exact ⟨rfl, l3⟩
    · have h1' : (30 : Int) < (m : Int) := by omega
      have h2' : ¬ (m : Int) ≤ 2000 := by omega
      have h3' : (2010 : Int) < (m : Int) := by omega
      go_enter Try.func9, Try.ntmps9
      go_wp2_with (first | (go_at_call 15; refine (small_any a n c ps _ B (by simp; omega) (HP.out.below ((Below.refl B w).alloc hBw _))).mono ?_; rintro e wy ⟨rfl, hby⟩; rw [hsm]; obtain ⟨l0, l1, l2, l3⟩ := LF_step LF_start hby; clear hby) | (go_at_call 16; refine (lawKnown_any _).mono ?_; rintro e wy ⟨rfl, hby⟩; have hL := LF_step ⟨l0, l1, l2, l3⟩ hby; clear l0 l1 l2 l3; obtain ⟨l0, l1, l2, l3⟩ := hL; clear hby))
      go_ret
      exact ⟨rfl, l3⟩
set_option maxRecDepth 100000 in
set_option maxHeartbeats 1000000 in
theorem PM_long (a : Option Addr) (n c : Nat) (ps : Nat → PR) (ha : Option Addr) (m d : Nat) (hs : Nat → HV) (w : World) (B : Nat) (hBw : B ≤ w.heap.size) (hP : Planes B w a n ps) (hH : Hits B w ha m hs) (hsm : smallB n ps = true) (h1 : 2000 < m) (h2 : m ≤ 2010) :
    Calls Try.prog 9 #[setupV a n c, .slice ha m d] w fun e w' => e = .returned (.bool true) ∧ Below w.heap.size w w' := by
  have HP := Lib.hid hP
  have HH := Lib.hid hH
  have hE : allE n ps m hs = 3 := by rw [allE, if_pos h1]
  have HC := Lib.hid (show ∀ W, B ≤ W.heap.size → Planes B W a n ps → Hits B W ha m hs → Calls Try.prog 35 #[setupV a n c, .slice ha m d] W (fun e w' => e = .returned (.tuple #[.agg #[.int .i64 0, .int .i64 0], .int .i64 3]) ∧ Below W.heap.size W w') from fun W hW hPl hHi => by
    have := Common_bad a n c ps ha m d hs W B hW hPl hHi (.inl (by rw [hE]; decide))
    rw [hE] at this
    exact this)
  clear hP hH hE
  have h1' : (30 : Int) < (m : Int) := by omega
  have h2' : ¬ (m : Int) ≤ 2000 := by omega
  have h3' : ¬ (2010 : Int) < (m : Int) := by omega
  have h4' : (2000 : Int) < (m : Int) := by omega
  go_enter Try.func9, Try.ntmps9
  go_wp2_with (first | (go_at_call 15; refine (small_any a n c ps _ B (by simp; omega) (HP.out.below ((Below.refl B w).alloc hBw _))).mono ?_; rintro e wy ⟨rfl, hby⟩; rw [hsm]; obtain ⟨l0, l1, l2, l3⟩ := LF_step LF_start hby; clear hby) | (go_at_call 16; refine (lawKnown_any _).mono ?_; rintro e wy ⟨rfl, hby⟩; have hL := LF_step (LF_step ⟨l0, l1, l2, l3⟩ ((Below.refl _ _).alloc (Nat.le_refl _) _)) hby; clear l0 l1 l2 l3 hby; obtain ⟨l0, l1, l2, l3⟩ := hL) | (go_at_call 35; refine (HC.out _ (by omega) (HP.out.below (l3.mono hBw)) (HH.out.below (l3.mono hBw))).mono ?_; rintro e wy ⟨rfl, hby⟩; have hL := LF_step ⟨l0, l1, l2, l3⟩ hby; clear l0 l1 l2 l3; obtain ⟨l0, l1, l2, l3⟩ := hL; clear hby))
  go_ret
  exact ⟨rfl, l3⟩
def fB (n : Nat) (ps : Nat → PR) (m : Nat) (hs : Nat → HV) (i : Nat) : Bool := (checkB n ps && decide (0 < m)) && allUpto i (fun j => ofB n ps (hs j))
theorem fB_succ {n : Nat} {ps : Nat → PR} {m : Nat} {hs : Nat → HV} (i : Nat) : fB n ps m hs (i + 1) = (fB n ps m hs i && ofB n ps (hs i)) := by
  simp [fB, allUpto, List.range_succ, List.all_append, Bool.and_assoc]
theorem fB_end {n : Nat} {ps : Nat → PR} {m : Nat} {hs : Nat → HV} {i : Nat} (hi : i ≤ m) (h : fB n ps m hs i = false) : fB n ps m hs m = false := by
  cases hm : fB n ps m hs m
  · rfl
  · simp only [fB, Bool.and_eq_true, allUpto_iff] at hm
    have : fB n ps m hs i = true := by
      simp only [fB, Bool.and_eq_true, allUpto_iff]
      exact ⟨hm.1, fun j hj => hm.2 j (by omega)⟩
    rw [h] at this; cases this
theorem fB_check {n : Nat} {ps : Nat → PR} {m : Nat} {hs : Nat → HV} {i : Nat} (h : fB n ps m hs i = true) : checkB n ps = true := by
  simp only [fB, Bool.and_eq_true] at h; exact h.1.1
set_option maxRecDepth 100000 in
set_option maxHeartbeats 1500000 in
theorem PM_mid (a : Option Addr) (n c : Nat) (ps : Nat → PR) (ha : Option Addr) (m d : Nat) (hs : Nat → HV) (w : World) (B : Nat) (hBw : B ≤ w.heap.size) (hP : Planes B w a n ps) (hH : Hits B w ha m hs) (hsm : smallB n ps = true) (h1 : m ≤ 30) (u v er : Int)
    (hCm : ∀ W, B ≤ W.heap.size → Planes B W a n ps → Hits B W ha m hs → Calls Try.prog 35 #[setupV a n c, .slice ha m d] W (fun e w' => e = .returned (.tuple #[.agg #[.int .i64 u, .int .i64 v], .int .i64 er]) ∧ Below W.heap.size W w'))
    (hbad : fB n ps m hs m = false → u = 0 ∧ v = 0 ∧ er = 2)
    (hok : fB n ps m hs m = true → (cH (thOf ps hs) (m - 1) < cL (tlOf ps hs) (m - 1) ∧ u = 0 ∧ v = 0 ∧ er = 5) ∨ (¬ cH (thOf ps hs) (m - 1) < cL (tlOf ps hs) (m - 1) ∧ u = cL (tlOf ps hs) (m - 1) ∧ v = cH (thOf ps hs) (m - 1) ∧ er = 0)) :
    Calls Try.prog 9 #[setupV a n c, .slice ha m d] w fun e w' => e = .returned (.bool true) ∧ Below w.heap.size w w' := by
  have HP := Lib.hid hP
  have HH := Lib.hid hH
  have HC := Lib.hid hCm
  have HBAD := Lib.hid hbad
  have HOK := Lib.hid hok
  have HF0 := Lib.hid (show fB n ps m hs 0 = (checkB n ps && decide (0 < m)) by simp [fB, allUpto])
  have HFs := Lib.hid (fun i => @fB_succ n ps m hs i)
  have HFe := Lib.hid (fun i hi h => @fB_end n ps m hs i hi h)
  have HFc := Lib.hid (fun i h => @fB_check n ps m hs i h)
  have HRC := Lib.hid (fun (hF : fB n ps m hs m = true) W hW hPl hHi => show Calls Try.prog 36 #[setupV a n c, .slice ha m d] W (fun e w' => e = .returned (.tuple #[.agg #[.int .i64 (cL (tlOf ps hs) (m - 1)), .int .i64 (cH (thOf ps hs) (m - 1))], .bool (decide (cL (tlOf ps hs) (m - 1) ≤ cH (thOf ps hs) (m - 1)))]) ∧ Below W.heap.size W w') from by
    simp only [fB, Bool.and_eq_true, decide_eq_true_eq] at hF
    exact refCommon_any a n c ps ha m d hs W B hW hPl hHi (by rw [hitsB, hF.1.1, hF.2]; rfl) hF.1.2)
  generalize cL (tlOf ps hs) (m - 1) = CLv at *
  generalize cH (thOf ps hs) (m - 1) = CRv at *
  generalize fB n ps m hs = FB at *
  clear hP hH hCm hbad hok
  have h1' : ¬ (30 : Int) < (m : Int) := by omega
  have h3' : ¬ (2010 : Int) < (m : Int) := by omega
  have h4' : ¬ (2000 : Int) < (m : Int) := by omega
  go_enter Try.func9, Try.ntmps9
  go_upto_region 3 with (go_at_call 15; refine (small_any a n c ps _ B (by simp; omega) (HP.out.below ((Below.refl B w).alloc hBw _))).mono ?_; rintro e wy ⟨rfl, hby⟩; rw [hsm]; obtain ⟨l0, l1, l2, l3⟩ := LF_step LF_start hby; clear hby)
  go_cut [5, 6] from 30 to 35 (fun s5 s6 wx => ∃ x, s5 = .pointer (some ⟨x, 0, none⟩) ∧ s6 = .int .i64 er ∧ LX a n c w x u v wx)
  case first =>
    go_wp2_with (go_at_call 35; refine (HC.out _ (by omega) (HP.out.below (l3.mono hBw)) (HH.out.below (l3.mono hBw))).mono ?_; rintro e wy ⟨rfl, hby⟩; have hL := LF_step ⟨l0, l1, l2, l3⟩ hby; clear l0 l1 l2 l3; obtain ⟨l0, l1, l2, l3⟩ := hL; clear hby)
    go_meet
    exact ⟨wy.heap.size, rfl, rfl, LF_step ⟨l0, l1, l2, l3⟩ ((Below.refl _ _).alloc (Nat.le_refl _) _), by simp, by go_simp, by go_simp⟩
  clear l0 l1 l2 l3
  obtain ⟨x, rfl, rfl, ⟨l0, l1, l2, l3⟩, x1, x2, x3⟩ := hcut
  go_upto_region 6 with (fail)
  go_cut [7] from 49 to 55 (fun s7 wx => s7 = .bool (FB 0) ∧ LX a n c w x u v wx)
  case first =>
    cases hC : checkB n ps
    · have HF1 := Lib.hid (show FB 0 = false by rw [HF0.out, hC]; rfl)
      go_wp2_with (go_at_call 19; refine (refSetup_any a n c ps _ B (by omega) (HP.out.below (l3.mono hBw))).mono ?_; rintro e wy ⟨rfl, hby⟩; rw [hC]; (have hL := LX_step ⟨⟨l0, l1, l2, l3⟩, x1, x2, x3⟩ hby; clear l0 l1 l2 l3 x1 x2 x3 hby; obtain ⟨⟨l0, l1, l2, l3⟩, x1, x2, x3⟩ := hL))
      go_meet
      exact ⟨by rw [HF1.out], ⟨l0, l1, l2, l3⟩, x1, x2, x3⟩
    · have HF1 := Lib.hid (show FB 0 = decide ((0 : Int) < (m : Int)) by rw [HF0.out, hC, Bool.true_and]; rw [Bool.eq_iff_iff]; simp; try omega)
      go_wp2_with (go_at_call 19; refine (refSetup_any a n c ps _ B (by omega) (HP.out.below (l3.mono hBw))).mono ?_; rintro e wy ⟨rfl, hby⟩; rw [hC]; (have hL := LX_step ⟨⟨l0, l1, l2, l3⟩, x1, x2, x3⟩ hby; clear l0 l1 l2 l3 x1 x2 x3 hby; obtain ⟨⟨l0, l1, l2, l3⟩, x1, x2, x3⟩ := hL))
      go_meet
      exact ⟨by rw [HF1.out]; first | rfl | simp, ⟨l0, l1, l2, l3⟩, x1, x2, x3⟩
  clear l0 l1 l2 l3 x1 x2 x3
  obtain ⟨rfl, ⟨l0, l1, l2, l3⟩, x1, x2, x3⟩ := hcut
  go_wp2
  go_loopw [8, 7] (fun t s7 wr => ∃ i : Nat, i ≤ m ∧ t = .int .i64 (i : Int) ∧ s7 = .bool (FB i) ∧ LX a n c w x u v wr) (fun t _ _ => m - (intOf t).toNat)
  case atStart => exact ⟨0, Nat.zero_le _, rfl, rfl, ⟨l0, l1, l2, l3⟩, x1, x2, x3⟩
  case round =>
    clear l0 l1 l2 l3 x1 x2 x3
    obtain ⟨i, hi, rfl, rfl, ⟨l0, l1, l2, l3⟩, x1, x2, x3⟩ := hrel
    cases hFi : FB i
    · have hFm := HFe.out i hi hFi
      obtain ⟨rfl, rfl, rfl⟩ := HBAD.out hFm
      by_cases hlt : i < m
      · have hlt' : (i : Int) < (m : Int) := by omega
        go_wp2_with (go_at_call 16; refine (lawKnown_any _).mono ?_; rintro e wy ⟨rfl, hby⟩; have hL := LF_step ⟨l0, l1, l2, l3⟩ hby; clear l0 l1 l2 l3; obtain ⟨l0, l1, l2, l3⟩ := hL; clear hby)
        go_ret
        exact ⟨rfl, l3⟩
      · have hlt' : ¬ (i : Int) < (m : Int) := by omega
        go_wp2_with (go_at_call 16; refine (lawKnown_any _).mono ?_; rintro e wy ⟨rfl, hby⟩; have hL := LF_step ⟨l0, l1, l2, l3⟩ hby; clear l0 l1 l2 l3; obtain ⟨l0, l1, l2, l3⟩ := hL; clear hby)
        go_ret
        exact ⟨rfl, l3⟩
    · by_cases hlt : i < m
      · have hC := HFc.out i hFi
        have HFS := Lib.hid (show FB (i + 1) = ofB n ps (hs i) by rw [HFs.out, hFi, Bool.true_and])
        obtain ⟨b, off, rfl, hbB, y0, y1, y2, y3, y4, y5⟩ := (HH.out.below (l3.mono hBw)).get hlt
        have hbz : b < wr.heap.size := by omega
        have HCk := Lib.hid hC
        clear hC
        generalize hgg : hs i = h at *
        clear hgg
        go_upto_region 10 with (fail)
        (refine wp_region_calm (wr.heap.size) (by kernel_rfl) (by kernel_rfl) ?_; (repeat (first | go_big_quiet_step ((go_at_call 20; refine Calls.calm_of (Nat.le_refl _) (refHit_any a n c ps h _ B ?_ ?_ HCk.out); (· (have := Below.size (Calm.below (by assumption)); omega)); (· exact (HP.out.below (l3.mono hBw)).below (Below.mono (Calm.below _) (by omega))))) | quiet_step ((go_at_call 20; refine Calls.calm_of (Nat.le_refl _) (refHit_any a n c ps h _ B ?_ ?_ HCk.out); (· (have := Below.size (Calm.below (by assumption)); omega)); (· exact (HP.out.below (l3.mono hBw)).below (Below.mono (Calm.below _) (by omega))))))); refine wpQuiet_nil ?_; intro _ hw'; obtain ⟨xq, hw''⟩ := hw'; subst hw'')
        have hL := LX_step ⟨⟨l0, l1, l2, l3⟩, x1, x2, x3⟩ xq.below
        clear l0 l1 l2 l3 x1 x2 x3
        obtain ⟨⟨l0, l1, l2, l3⟩, x1, x2, x3⟩ := hL
        go_wp2
        go_roundw
        case rel => exact ⟨i + 1, by omega, by go_num, by rw [HFS.out], ⟨l0, l1, l2, l3⟩, x1, x2, x3⟩
        case measure => simp [intOf]; omega
      · obtain rfl : i = m := by omega
        have HRC2 := Lib.hid (HRC.out hFi)
        rcases HOK.out hFi with ⟨hv1, rfl, rfl, rfl⟩ | ⟨hv1, rfl, rfl, rfl⟩
        · have hv3 : decide (CLv ≤ CRv) = false := decide_eq_false (by omega)
          go_wp2_with (first | (go_at_call 36; refine (HRC2.out _ (by omega) (HP.out.below (l3.mono hBw)) (HH.out.below (l3.mono hBw))).mono ?_; rintro e wy ⟨rfl, hby⟩; rw [hv3]; (have hL := LX_step ⟨⟨l0, l1, l2, l3⟩, x1, x2, x3⟩ hby; clear l0 l1 l2 l3 x1 x2 x3 hby; obtain ⟨⟨l0, l1, l2, l3⟩, x1, x2, x3⟩ := hL)) | (go_at_call 16; refine (lawKnown_any _).mono ?_; rintro e wy ⟨rfl, hby⟩; have hL := LF_step (LF_step ⟨l0, l1, l2, l3⟩ ((Below.refl _ _).alloc (Nat.le_refl _) _)) hby; clear l0 l1 l2 l3 hby; obtain ⟨l0, l1, l2, l3⟩ := hL))
          go_ret
          exact ⟨rfl, l3⟩
        · have hv2 : u ≤ v := by omega
          go_wp2_with (first | (go_at_call 36; refine (HRC2.out _ (by omega) (HP.out.below (l3.mono hBw)) (HH.out.below (l3.mono hBw))).mono ?_; rintro e wy ⟨rfl, hby⟩; (have hL := LX_step ⟨⟨l0, l1, l2, l3⟩, x1, x2, x3⟩ hby; clear l0 l1 l2 l3 x1 x2 x3 hby; obtain ⟨⟨l0, l1, l2, l3⟩, x1, x2, x3⟩ := hL)) | (go_at_call 16; refine (lawKnown_any _).mono ?_; rintro e wy ⟨rfl, hby⟩; have hL := LF_step (LF_step ⟨l0, l1, l2, l3⟩ ((Below.refl _ _).alloc (Nat.le_refl _) _)) hby; clear l0 l1 l2 l3 hby; obtain ⟨l0, l1, l2, l3⟩ := hL))
          go_ret
          exact ⟨rfl, l3⟩
theorem PlaneTimes_any (a : Option Addr) (n c : Nat) (ps : Nat → PR) (ha : Option Addr) (m d : Nat) (hs : Nat → HV) (w : World) (B : Nat) (hBw : B ≤ w.heap.size) (hP : Planes B w a n ps) (hH : Hits B w ha m hs ∧ m ≤ d ∧ d ≤ maxLen) :
    Calls Try.prog 9 #[setupV a n c, .slice ha m d] w fun e w' => e = .returned (.bool true) ∧ Below w.heap.size w w' := by
  obtain ⟨hH, hmd, hd⟩ := hH
  cases hsm : smallB n ps
  · exact PM_out a n c ps ha m d hs w B hBw hP hH.1 (.inl hsm)
  · by_cases h1 : m ≤ 30
    · cases hF : fB n ps m hs m
      · have hbad : ¬ allE n ps m hs = 0 ∨ m = 0 := by
          by_cases h0 : m = 0
          · exact .inr h0
          · left
            have hb : hitsB n ps m hs = false := by
              cases hb : hitsB n ps m hs
              · rfl
              · exfalso
                have : fB n ps m hs m = hitsB n ps m hs := by simp [fB, hitsB, show 0 < m by omega]
                rw [hF, hb] at this; cases this
            rw [allE, if_neg (by omega), hb]; decide
        have hv : (if allE n ps m hs = 0 then 2 else allE n ps m hs) = 2 := by
          have he : allE n ps m hs = checkE (hitsB n ps m hs) := by rw [allE, if_neg (by omega)]
          rw [he]
          cases hitsB n ps m hs <;> decide
        refine PM_mid a n c ps ha m d hs w B hBw hP hH hsm h1 0 0 2 (fun W hW hPl hHi => ?_) (fun _ => ⟨rfl, rfl, rfl⟩) (fun h => by rw [hF] at h; cases h)
        have := Common_bad a n c ps ha m d hs W B hW hPl hHi hbad
        rw [hv] at this
        exact this
      · have hF' := hF
        simp only [fB, Bool.and_eq_true, decide_eq_true_eq] at hF'
        have hE : allE n ps m hs = 0 := by
          rw [allE, if_neg (by omega), hitsB, hF'.1.1, hF'.2]; rfl
        by_cases hgt : cH (thOf ps hs) (m - 1) < cL (tlOf ps hs) (m - 1)
        · refine PM_mid a n c ps ha m d hs w B hBw hP hH hsm h1 0 0 5 (fun W hW hPl hHi => ?_) (fun h => by rw [hF] at h; cases h) (fun _ => .inl ⟨hgt, rfl, rfl, rfl⟩)
          have := Common_ok a n c ps ha m d hs W B hW hPl hHi hE hF'.1.2 hmd hd
          rw [if_pos hgt] at this
          exact this
        · refine PM_mid a n c ps ha m d hs w B hBw hP hH hsm h1 _ _ 0 (fun W hW hPl hHi => ?_) (fun h => by rw [hF] at h; cases h) (fun _ => .inr ⟨hgt, rfl, rfl, rfl⟩)
          have := Common_ok a n c ps ha m d hs W B hW hPl hHi hE hF'.1.2 hmd hd
          rw [if_neg hgt] at this
          exact this
    · by_cases h2 : m ≤ 2000
      · exact PM_out a n c ps ha m d hs w B hBw hP hH.1 (.inr (.inl ⟨by omega, h2⟩))
      · by_cases h3 : m ≤ 2010
        · exact PM_long a n c ps ha m d hs w B hBw hP hH hsm (by omega) h3
        · exact PM_out a n c ps ha m d hs w B hBw hP hH.1 (.inr (.inr (by omega)))
end Go.Proofs.Ytgcepjminlapiaa
