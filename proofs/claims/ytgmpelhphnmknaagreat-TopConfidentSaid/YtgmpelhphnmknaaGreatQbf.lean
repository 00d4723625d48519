/- Texts put together: Ref8, RefFd, ToTpC. -/
import Derived.Test.YtgmpelhphnmknaaGreatQaf
import Derived.Test.YtgmpelhphnmknaaGreatQab
import Derived.Test.YtgmpelhphnmknaaGreatQbe
import Derived.Test.YtgmpelhphnmknaaGreatQap
import Derived.Test.YtgmpelhphnmknaaGreatQaj
set_option maxRecDepth 100000
set_option maxHeartbeats 8000000
set_option linter.unusedVariables false
set_option linter.unusedSimpArgs false
namespace Go.Proofs.YtgmpelhphnmknaaGreat
open Go.RowKit
theorem r8in_any (a b c : Int) (w : World) :
  Calls Tryz.prog 59 #[.int .i64 a, .int .i64 b, .int .i64 c] w fun e w' => e = .returned (.bool (inB a b c)) ∧ w = w' := by
 by_cases h : b ≤ a
 ·go_enter Tryz.func59, Tryz.ntmps59
  go_wp2
  go_ret
  exact ⟨ret_bool (by unfold inB; rw [decide_eq_true h, Bool.true_and]), rfl⟩
 ·go_enter Tryz.func59, Tryz.ntmps59
  go_wp2
  go_ret
  exact ⟨ret_bool (by unfold inB; rw [decide_eq_false (by omega), Bool.false_and]), rfl⟩
theorem r8Set_any (ca : Option Addr) (k cc : Nat) (cs : Nat → Int) (n : Nat) (w : World) (B : Nat) (hBw : B ≤ w.heap.size) (hn : n ≤ maxLen) (hk : k ≤ maxLen) (hC : Ints B w ca k cs) :
  Calls Tryz.prog 149 #[.slice ca k cc, .int .i64 (n : Int)] w fun e w' => e = .returned (.bool (setB n k cs)) ∧ Below w.heap.size w w' := by
 unfold maxLen at hn hk
 have HC := Lib.hid hC
 clear hC
 go_enter Tryz.func149, Tryz.ntmps149
 go_wp2
 go_loopw [5] (fun t wr => ∃ i : Nat, i ≤ k ∧ t = .int .i64 (i : Int) ∧ Hid ((∀ j, j < i → setAt n cs j = true) ∧ Below w.heap.size w wr)) (fun t _ => k - (intOf t).toNat)
 case atStart => exact ⟨0, Nat.zero_le _, rfl, Lib.hid ⟨fun j h => by omega, Below.refl _ _⟩⟩
 case round =>
  obtain ⟨i, hi, rfl, HL⟩ := hrel
  have HB := Lib.hid HL.out.2
  have hzr := HL.out.2.size
  by_cases hlt : i < k
  ·have hlt' : (i : Int) < (k : Int) := by omega
   obtain ⟨b, off, rfl, hbB, c0⟩ := (HC.out.below (HB.out.mono hBw)).get hlt
   have hbz : b < wr.heap.size := by omega
   cases h1 : inB (cs i) 0 ((n : Int) - 1)
   ·have HF := Hd (setB_no (n := n) hlt (by unfold setAt; rw [h1, Bool.false_and]))
    go_upto_region 4 with (fail)
    (refine wp_region_calm (wr.heap.size) (by kernel_rfl) (by kernel_rfl) ?_; (repeat (first | go_big_quiet_step ((go_at_call 59; exact Calls.calm_same (r8in_any _ _ _ _))) | quiet_step ((go_at_call 59; exact Calls.calm_same (r8in_any _ _ _ _))))); refine wpQuiet_nil (wqn ?_); intro xq)
    go_wp2
    go_ret
    exact ⟨ret_bool HF.out, HB.out.trans ((Calm.below _).mono hzr)⟩
   ·by_cases h0 : i = 0
    ·have HOK := Hd (show setAt n cs i = true by unfold setAt; rw [h1, Bool.true_and, Bool.or_eq_true]; exact .inl (by rw [beq_iff_eq]; exact h0))
     have HA := Hd (fun j (hj : j < i + 1) => show setAt n cs j = true from by (by_cases e : j = i; (subst e; exact HOK.out); exact HL.out.1 j (by omega)))
     have h2 : decide (0 < i) = false := by simp; omega
     clear h0 HOK
     go_upto_region 4 with (fail)
     (refine wp_region_calm (wr.heap.size) (by kernel_rfl) (by kernel_rfl) ?_; (repeat (first | go_big_quiet_step ((go_at_call 59; exact Calls.calm_same (r8in_any _ _ _ _))) | quiet_step ((go_at_call 59; exact Calls.calm_same (r8in_any _ _ _ _))))); refine wpQuiet_nil (wqn ?_); intro xq)
     go_wp2
     go_roundw
     case rel => exact ⟨i + 1, by omega, by go_num, Lib.hid ⟨HA.out, HB.out.trans ((Calm.below _).mono hzr)⟩⟩
     case measure => simp [intOf]; omega
    ·obtain ⟨b2, off2, e2, _, d0⟩ := (HC.out.below (HB.out.mono hBw)).get (i := i - 1) (by omega)
     injection e2 with e2
     injection e2 with e2 e3
     subst e2 e3
     have h2 : decide (0 < i) = true := by simp; omega
     have i1 : (0 : Int) ≤ (i : Int) - 1 := by omega
     have i2 : ((i : Int) - 1).toNat = i - 1 := by omega
     have i4 : i - 1 < k := by omega
     by_cases h3 : cs (i - 1) < cs i
     ·have HOK := Hd (show setAt n cs i = true by unfold setAt; rw [h1, Bool.true_and, Bool.or_eq_true]; exact .inr (decide_eq_true h3))
      have HA := Hd (fun j (hj : j < i + 1) => show setAt n cs j = true from by (by_cases e : j = i; (subst e; exact HOK.out); exact HL.out.1 j (by omega)))
      have h4 : decide (cs i ≤ cs (i - 1)) = false := decide_eq_false (by omega)
      clear h0 HOK
      go_upto_region 4 with (fail)
      (refine wp_region_calm (wr.heap.size) (by kernel_rfl) (by kernel_rfl) ?_; (repeat (first | go_big_quiet_step ((go_at_call 59; exact Calls.calm_same (r8in_any _ _ _ _))) | quiet_step ((go_at_call 59; exact Calls.calm_same (r8in_any _ _ _ _))))); refine wpQuiet_nil (wqn ?_); intro xq)
      go_wp2
      go_roundw
      case rel => exact ⟨i + 1, by omega, by go_num, Lib.hid ⟨HA.out, HB.out.trans ((Calm.below _).mono hzr)⟩⟩
      case measure => simp [intOf]; omega
     ·have HF := Hd (setB_no (n := n) hlt (by unfold setAt; rw [h1, Bool.true_and, Bool.or_eq_false_iff]; exact ⟨by rw [beq_eq_false_iff_ne]; exact h0, decide_eq_false h3⟩))
      have h4 : decide (cs i ≤ cs (i - 1)) = true := decide_eq_true (by omega)
      clear h0
      go_upto_region 4 with (fail)
      (refine wp_region_calm (wr.heap.size) (by kernel_rfl) (by kernel_rfl) ?_; (repeat (first | go_big_quiet_step ((go_at_call 59; exact Calls.calm_same (r8in_any _ _ _ _))) | quiet_step ((go_at_call 59; exact Calls.calm_same (r8in_any _ _ _ _))))); refine wpQuiet_nil (wqn ?_); intro xq)
      go_wp2
      go_ret
      exact ⟨ret_bool HF.out, HB.out.trans ((Calm.below _).mono hzr)⟩
  ·have hlt' : ¬ (i : Int) < (k : Int) := by omega
   go_wp2
   go_ret
   exact ⟨ret_bool (setB_end (by omega) HL.out.1), HB.out⟩
theorem r8Beam_any (p : BM) (n : Nat) (w : World) (B : Nat) (hBw : B ≤ w.heap.size) (hn : n ≤ maxLen) (hp : p.mem B w) :
  Calls Tryz.prog 101 #[p.val, .int .i64 (n : Int)] w fun e w' => e = .returned (.bool (beamB n p)) ∧ Below w.heap.size w w' := by
 have hnl := hn
 unfold maxLen at hn
 have HG2 := Hd (@beamB_head n p)
 have HG3 := Hd (fun j hj h => @beamB_weight n p j hj h)
 have HG4 := Hd (@beamB_yes n p)
 generalize beamB n p = RES at *
 obtain ⟨qca, qcn, qcc, qwa, qwn, qwc, qlo, qhi, qcs, qws⟩ := p
 obtain ⟨qm1, qm2, qm3, qm4⟩ := hp
 dsimp only at qm1 qm2 qm3 qm4 HG2 HG3 HG4
 dsimp only [BM.val]
 have HQ3 := Lib.hid qm3
 have HQ4 := Lib.hid qm4
 have HQ1 := Lib.hid qm1
 have HNL := Lib.hid hnl
 have hq1 := qm1
 have hq2 := qm2
 unfold maxLen at hq1 hq2
 clear qm3 qm4 qm1 qm2 hnl
 go_enter Tryz.func101, Tryz.ntmps101
 go_upto_region 1 with (fail)
 have HX := Hd (show BX w.heap.size qca qcn qcc qwa qwn qwc qlo qhi (w.alloc (.cells #[.slice qca qcn qcc, .slice qwa qwn qwc, .int .i64 qlo, .int .i64 qhi] 62)) from BX_new)
 have HB := Hd (show Below w.heap.size w (w.alloc (.cells #[.slice qca qcn qcc, .slice qwa qwn qwc, .int .i64 qlo, .int .i64 qhi] 62)) from (Below.refl _ _).alloc (Nat.le_refl _) _)
 generalize World.alloc w _ = V at *
 obtain ⟨x0, x1, x2, x3, x4⟩ := HX.out
 have hzV := HB.out.size
 go_wp2
 go_loopw [5] (fun t wr => ∃ i : Nat, i ≤ qwn ∧ t = .int .i64 (i : Int) ∧ wr = V ∧ Hid (∀ j, j < i → inB (qws j) 1 1000000 = true)) (fun t _ => qwn - (intOf t).toNat)
 case atStart => exact ⟨0, Nat.zero_le _, rfl, rfl, Hd (fun j h => by omega)⟩
 case round =>
  obtain ⟨i, hi, rfl, rfl, HA⟩ := hrel
  by_cases hlt : i < qwn
  ·have hlt' : (i : Int) < (qwn : Int) := by omega
   obtain ⟨wb, woff, rfl, hwB, d0⟩ := (HQ4.out.below (HB.out.mono hBw)).get hlt
   cases h7 : inB (qws i) 1 1000000
   ·have HF := Hd (HG3.out i hlt h7)
    go_wp2_with (go_at_call 59; refine (r8in_any _ _ _ _).mono ?_; rintro e w' ⟨rfl, rfl⟩)
    go_ret
    exact ⟨ret_bool HF.out.symm, HB.out⟩
   ·have HA2 := Hd (fun j (hj : j < i + 1) => show inB (qws j) 1 1000000 = true from by (by_cases e : j = i; (subst e; exact h7); exact HA.out j (by omega)))
    go_wp2_with (go_at_call 59; refine (r8in_any _ _ _ _).mono ?_; rintro e w' ⟨rfl, rfl⟩)
    go_roundw
    case rel => exact ⟨i + 1, by omega, by go_num, by first | trivial | rfl, HA2⟩
    case measure => simp [intOf]; omega
  ·obtain rfl : i = qwn := by omega
   have hlt' : ¬ (i : Int) < (i : Int) := by omega
   have HST := Hd (r8Set_any qca qcn qcc qcs n wr B (by omega) HNL.out HQ1.out (HQ3.out.below (HB.out.mono hBw)))
   cases h6 : setB n qcn qcs
   ·have HF := Hd (HG2.out (.inr (.inr h6)))
    go_wp2_with (first | (go_at_call 59; refine (r8in_any _ _ _ _).mono ?_; rintro e w' ⟨rfl, rfl⟩) | (go_at_call 149; refine HST.out.mono ?_; rintro e w5 ⟨rfl, hb5⟩; rw [h6]))
    go_ret
    exact ⟨ret_bool HF.out.symm, HB.out.trans (hb5.mono hzV)⟩
   ·cases h4 : (i == qcn)
    ·have HF := Hd (HG2.out (.inl h4))
     have h4' : ((i : Int) == (qcn : Int)) = false := by rw [beq_eq_false_iff_ne] at h4 ⊢; omega
     clear h4
     go_wp2_with (first | (go_at_call 59; refine (r8in_any _ _ _ _).mono ?_; rintro e w' ⟨rfl, rfl⟩) | (go_at_call 149; refine HST.out.mono ?_; rintro e w5 ⟨rfl, hb5⟩; rw [h6]; have HX5 := BX_step ⟨x0, x1, x2, x3, x4⟩ hb5; clear x0 x1 x2 x3 x4; obtain ⟨x0, x1, x2, x3, x4⟩ := HX5))
     go_ret
     exact ⟨ret_bool HF.out.symm, HB.out.trans (hb5.mono hzV)⟩
    ·have H4 := Lib.hid h4
     have h4' : ((i : Int) == (qcn : Int)) = true := by rw [beq_iff_eq] at h4 ⊢; omega
     clear h4
     cases h5 : inB qlo 0 qhi
     ·have HF := Hd (HG2.out (.inr (.inl (by unfold spanB; dsimp only; rw [h5, Bool.false_and]))))
      go_wp2_with (first | (go_at_call 59; refine (r8in_any _ _ _ _).mono ?_; rintro e w' ⟨rfl, rfl⟩) | (go_at_call 149; refine HST.out.mono ?_; rintro e w5 ⟨rfl, hb5⟩; rw [h6]; have HX5 := BX_step ⟨x0, x1, x2, x3, x4⟩ hb5; clear x0 x1 x2 x3 x4; obtain ⟨x0, x1, x2, x3, x4⟩ := HX5))
      go_ret
      exact ⟨ret_bool HF.out.symm, HB.out.trans (hb5.mono hzV)⟩
     ·by_cases h8 : qhi ≤ 1000000000000
      ·have HF := Hd (HG4.out H4.out (by unfold spanB; dsimp only; rw [h5, decide_eq_true h8]; rfl) h6 HA.out)
       go_wp2_with (first | (go_at_call 59; refine (r8in_any _ _ _ _).mono ?_; rintro e w' ⟨rfl, rfl⟩) | (go_at_call 149; refine HST.out.mono ?_; rintro e w5 ⟨rfl, hb5⟩; rw [h6]; have HX5 := BX_step ⟨x0, x1, x2, x3, x4⟩ hb5; clear x0 x1 x2 x3 x4; obtain ⟨x0, x1, x2, x3, x4⟩ := HX5))
       go_ret
       exact ⟨ret_bool HF.out.symm, HB.out.trans (hb5.mono hzV)⟩
      ·have HF := Hd (HG2.out (.inr (.inl (by unfold spanB; dsimp only; rw [decide_eq_false h8, Bool.and_false]))))
       go_wp2_with (first | (go_at_call 59; refine (r8in_any _ _ _ _).mono ?_; rintro e w' ⟨rfl, rfl⟩) | (go_at_call 149; refine HST.out.mono ?_; rintro e w5 ⟨rfl, hb5⟩; rw [h6]; have HX5 := BX_step ⟨x0, x1, x2, x3, x4⟩ hb5; clear x0 x1 x2 x3 x4; obtain ⟨x0, x1, x2, x3, x4⟩ := HX5))
       go_ret
       exact ⟨ret_bool (by rw [HF.out]; exact decide_eq_false (by omega)), HB.out.trans (hb5.mono hzV)⟩
theorem r8Shape_any (a : Option Addr) (n c : Nat) (ba : Option Addr) (m bc : Nat) (ss : Nat → SV) (bs : Nat → BM) (w : World) (B : Nat) (hBw : B ≤ w.heap.size) (hS : Spans B w a n ss) (hM : Beams B w ba m bs) :
  Calls Tryz.prog 58 #[imageV a n c ba m bc] w fun e w' => e = .returned (.bool (shapeB n ss m bs)) ∧ Below w.heap.size w w' := by
 have hn := hS.1
 have hm := hM.1
 have HNL := Lib.hid hn
 unfold maxLen at hn hm
 have HS := Lib.hid hS
 have HM := Lib.hid hM
 have HF1 := Hd (@shapeB_span n · ss m bs)
 have HF2 := Hd (@shapeB_beam n · ss m bs)
 have HF3 := Hd (@shapeB_many n ss m bs)
 have HF4 := Hd (@shapeB_yes n ss m bs)
 clear hS hM
 generalize shapeB n ss m bs = RES at *
 go_enter Tryz.func58, Tryz.ntmps58
 go_upto_region 1 with (fail)
 have HL := Hd (show LI a n c ba m bc w (w.alloc (.cells #[.slice a n c, .slice ba m bc] 59)) from LI_start)
 generalize World.alloc w _ = V at *
 go_wp2
 go_loopw [3] (fun t wr => ∃ k : Nat, k ≤ n ∧ t = .int .i64 (k : Int) ∧ Hid (∀ j, j < k → spanB (ss j) 1000 = true) ∧ Hid (LI a n c ba m bc w wr)) (fun t _ => n - (intOf t).toNat)
 case atStart => exact ⟨0, Nat.zero_le _, rfl, Hd (fun j h => by omega), HL⟩
 case round =>
  clear HL
  obtain ⟨k, hk, rfl, HALL, HL⟩ := hrel
  obtain ⟨l0, l1, l2, l3⟩ := HL.out
  by_cases hlt : k < n
  ·have hlt' : (k : Int) < (n : Int) := by omega
   obtain ⟨b, off, rfl, hbB, c0, c1⟩ := (HS.out.below (l3.mono hBw)).get hlt
   have hbz : b < wr.heap.size := by omega
   cases h3 : inB (ss k).lo 0 (ss k).hi
   ·have HF := Hd (HF1.out _ hlt (by unfold spanB; rw [h3, Bool.false_and]))
    go_upto_region 4 with (fail)
    (refine wp_region_calm (wr.heap.size) (by kernel_rfl) (by kernel_rfl) ?_; (repeat (first | go_big_quiet_step ((go_at_call 59; exact Calls.calm_same (r8in_any _ _ _ _))) | quiet_step ((go_at_call 59; exact Calls.calm_same (r8in_any _ _ _ _))))); refine wpQuiet_nil (wqn ?_); intro xq)
    go_wp2
    go_ret
    exact ⟨ret_bool HF.out.symm, l3.trans ((Calm.below _).mono l3.size)⟩
   ·by_cases h4 : (1000 : Int) < (ss k).hi
    ·have HF := Hd (HF1.out _ hlt (by unfold spanB; rw [decide_eq_false (p := (ss k).hi ≤ 1000) (by omega), Bool.and_false]))
     go_upto_region 4 with (fail)
     (refine wp_region_calm (wr.heap.size) (by kernel_rfl) (by kernel_rfl) ?_; (repeat (first | go_big_quiet_step ((go_at_call 59; exact Calls.calm_same (r8in_any _ _ _ _))) | quiet_step ((go_at_call 59; exact Calls.calm_same (r8in_any _ _ _ _))))); refine wpQuiet_nil (wqn ?_); intro xq)
     go_wp2
     go_ret
     exact ⟨ret_bool HF.out.symm, l3.trans ((Calm.below _).mono l3.size)⟩
    ·have HOK := Hd (show spanB (ss k) 1000 = true from by unfold spanB; rw [h3, decide_eq_true (p := (ss k).hi ≤ 1000) (by omega)]; rfl)
     have HA := Hd (fun j (hj : j < k + 1) => show spanB (ss j) 1000 = true from by (by_cases e : j = k; (subst e; exact HOK.out); exact HALL.out j (by omega)))
     go_upto_region 4 with (fail)
     (refine wp_region_calm (wr.heap.size) (by kernel_rfl) (by kernel_rfl) ?_; (repeat (first | go_big_quiet_step ((go_at_call 59; exact Calls.calm_same (r8in_any _ _ _ _))) | quiet_step ((go_at_call 59; exact Calls.calm_same (r8in_any _ _ _ _))))); refine wpQuiet_nil (wqn ?_); intro xq)
     go_wp2
     go_roundw
     case rel => exact ⟨k + 1, by omega, by go_num, HA, Hd (LI_step HL.out (Calm.below _))⟩
     case measure => simp [intOf]; omega
  ·obtain rfl : k = n := by omega
   have hlt' : ¬ (k : Int) < (k : Int) := by omega
   go_wp2
   go_loopw [4] (fun t wr => ∃ i : Nat, i ≤ m ∧ t = .int .i64 (i : Int) ∧ Hid (∀ j, j < i → beamB k (bs j) = true) ∧ Hid (LI a k c ba m bc w wr)) (fun t _ => m - (intOf t).toNat)
   case atStart => exact ⟨0, Nat.zero_le _, rfl, Hd (fun j h => by omega), HL⟩
   case round =>
    clear HL l0 l1 l2 l3
    obtain ⟨i, hi, rfl, HBM, HL⟩ := hrel
    obtain ⟨l0, l1, l2, l3⟩ := HL.out
    by_cases hlt : i < m
    ·have hlt2 : (i : Int) < (m : Int) := by omega
     obtain ⟨b, off, rfl, hbB, hat, hmem⟩ := HM.out.get hlt
     obtain ⟨c0, c1, c2, c3⟩ := hat.below (l3.mono hBw) hbB
     have hbz : b < wr.heap.size := by omega
     have HBE := Hd (fun (W : World) (hb : Below wr.heap.size wr W) => r8Beam_any (bs i) k W B (by have := hb.size; omega) HNL.out (hmem.below ((l3.trans (hb.mono l3.size)).mono hBw)))
     have HG1 := Hd (HF2.out i hlt)
     clear hat hmem
     dsimp only [BM.val] at HBE
     cases h5 : beamB k (bs i)
     ·rw [h5] at HBE
      have HF := Hd (HG1.out h5)
      go_upto_region 9 with (fail)
      (refine wp_region_calm (wr.heap.size) (by kernel_rfl) (by kernel_rfl) ?_; (repeat (first | go_big_quiet_step ((go_at_call 101; exact Calls.calm_of (Nat.le_refl _) (HBE.out _ (Calm.below _)))) | quiet_step ((go_at_call 101; exact Calls.calm_of (Nat.le_refl _) (HBE.out _ (Calm.below _)))))); refine wpQuiet_nil (wqn ?_); intro xq)
      go_wp2
      go_ret
      exact ⟨ret_bool HF.out.symm, l3.trans ((Calm.below _).mono l3.size)⟩
     ·rw [h5] at HBE
      have HA := Hd (fun j (hj : j < i + 1) => show beamB k (bs j) = true from by (by_cases e : j = i; (subst e; exact h5); exact HBM.out j (by omega)))
      go_upto_region 9 with (fail)
      (refine wp_region_calm (wr.heap.size) (by kernel_rfl) (by kernel_rfl) ?_; (repeat (first | go_big_quiet_step ((go_at_call 101; exact Calls.calm_of (Nat.le_refl _) (HBE.out _ (Calm.below _)))) | quiet_step ((go_at_call 101; exact Calls.calm_of (Nat.le_refl _) (HBE.out _ (Calm.below _)))))); refine wpQuiet_nil (wqn ?_); intro xq)
      go_wp2
      go_roundw
      case rel => exact ⟨i + 1, by omega, by go_num, HA, Hd (LI_step HL.out (Calm.below _))⟩
      case measure => simp [intOf]; omega
    ·obtain rfl : i = m := by omega
     have hlt2 : ¬ (i : Int) < (i : Int) := by omega
     cases h1 : inB k 1 40
     ·have HF := Hd (HF3.out (.inl h1))
      go_wp2_with (go_at_call 59; refine (r8in_any _ _ _ _).mono ?_; rintro e w' ⟨rfl, rfl⟩)
      go_ret
      exact ⟨ret_bool HF.out.symm, l3⟩
     ·by_cases h2 : 20 < i
      ·have h2' : ¬ (i : Int) ≤ 20 := by omega
       have HF := Hd (HF3.out (.inr h2))
       go_wp2_with (go_at_call 59; refine (r8in_any _ _ _ _).mono ?_; rintro e w' ⟨rfl, rfl⟩)
       go_ret
       exact ⟨ret_bool (by rw [HF.out]; simp; omega), l3⟩
      ·have h2' : (i : Int) ≤ 20 := by omega
       have HF := Hd (HF4.out h1 h2 HALL.out HBM.out)
       go_wp2_with (go_at_call 59; refine (r8in_any _ _ _ _).mono ?_; rintro e w' ⟨rfl, rfl⟩)
       go_ret
       exact ⟨ret_bool HF.out.symm, l3⟩
theorem prod_cap {ss : Nat → SV} {k : Nat} (h : (ss k).lo ≤ (ss k).hi) (hp : 1 ≤ prodN ss k) : min (min (prodN ss k) 200001 * ((ss k).hi - (ss k).lo + 1)) 200001 = min (prodN ss (k + 1)) 200001 := by
 have e : prodN ss (k + 1) = prodN ss k * ((ss k).hi - (ss k).lo + 1) := rfl
 rw [e]
 by_cases h1 : prodN ss k ≤ 200001
 ·rw [Int.min_eq_left h1]
 ·have h2 : 200001 ≤ prodN ss k := by omega
  rw [Int.min_eq_right h2]
  have h3 : 200001 * 1 ≤ 200001 * ((ss k).hi - (ss k).lo + 1) := Int.mul_le_mul_of_nonneg_left (by omega) (by omega)
  have h4 : prodN ss k * 1 ≤ prodN ss k * ((ss k).hi - (ss k).lo + 1) := Int.mul_le_mul_of_nonneg_left (by omega) (by omega)
  rw [Int.min_eq_right (by omega), Int.min_eq_right (by omega)]
theorem r8Fields_any (a : Option Addr) (n c : Nat) (ba : Option Addr) (m bc : Nat) (ss : Nat → SV) (w : World) (B : Nat) (hBw : B ≤ w.heap.size) (hS : Spans B w a n ss) (hr : ∀ i, i < n → 0 ≤ (ss i).lo ∧ (ss i).lo ≤ (ss i).hi ∧ (ss i).hi ≤ 1000) :
  Calls Tryz.prog 24 #[imageV a n c ba m bc] w fun e w' => e = .returned (.int .i64 (min (prodN ss n) 200001)) ∧ Below w.heap.size w w' := by
 have hn := hS.1
 unfold maxLen at hn
 have HS := Lib.hid hS
 have HR := Lib.hid hr
 have HP := Hd (fun k (hk : k ≤ n) => prodN_pos (ss := ss) k (fun i hi => (hr i (by omega)).2.1))
 have H0 := Hd (show min (prodN ss 0) 200001 = 1 from rfl)
 have H1 := Hd (fun k (hk : k < n) => prod_cap (ss := ss) (hr k hk).2.1 (prodN_pos (ss := ss) k (fun i hi => (hr i (by omega)).2.1)))
 clear hS hr
 go_enter Tryz.func24, Tryz.ntmps24
 go_upto_region 1 with (fail)
 have HL := Hd (show LI a n c ba m bc w (w.alloc (.cells #[.slice a n c, .slice ba m bc] 59)) from LI_start)
 generalize World.alloc w _ = V at *
 go_wp2
 go_loopw [3, 4] (fun s t wr => ∃ k : Nat, k ≤ n ∧ t = .int .i64 (k : Int) ∧ s = .int .i64 (min (prodN ss k) 200001) ∧ Hid (LI a n c ba m bc w wr)) (fun _ t _ => n - (intOf t).toNat)
 case atStart => exact ⟨0, Nat.zero_le _, rfl, by rw [H0.out], HL⟩
 case round =>
  clear HL
  obtain ⟨k, hk, rfl, rfl, HL⟩ := hrel
  obtain ⟨l0, l1, l2, l3⟩ := HL.out
  by_cases hlt : k < n
  ·have hlt' : (k : Int) < (n : Int) := by omega
   obtain ⟨b, off, rfl, hbB, c0, c1⟩ := (HS.out.below (l3.mono hBw)).get hlt
   have hbz : b < wr.heap.size := by omega
   obtain ⟨r1, r2, r3⟩ := HR.out k hlt
   have HE := Hd (H1.out k hlt)
   have p1 : 1 ≤ min (prodN ss k) 200001 := by have := HP.out k hk; omega
   have p2 : min (prodN ss k) 200001 ≤ 200001 := by omega
   generalize min (prodN ss k) 200001 = P at *
   have HPX := Hd (show 0 ≤ P * ((ss k).hi - (ss k).lo + 1) ∧ P * ((ss k).hi - (ss k).lo + 1) ≤ 200001 * 1001 from ⟨Int.mul_nonneg (by omega) (by omega), Int.mul_le_mul (by omega) (by omega) (by omega) (by omega)⟩)
   generalize (ss k).lo = lo at *
   generalize (ss k).hi = hi' at *
   obtain ⟨px1, px2⟩ := HPX.out
   have HMN := Hd (show (if 200001 < P * (hi' - lo + 1) then 200001 else P * (hi' - lo + 1)) = min (prodN ss (k + 1)) 200001 from by rw [← HE.out]; split <;> omega)
   go_upto_region 5 with (fail)
   (refine wp_region_calm (wr.heap.size) (by kernel_rfl) (by kernel_rfl) ?_; (repeat (first | go_big_quiet_step (fail) | quiet_step (fail))); refine wpQuiet_nil (wqn ?_); intro xq)
   go_wp2
   go_roundw
   case rel => exact ⟨k + 1, by omega, by go_num, by first | (rw [← HMN.out]; done) | rw [HE.out], Hd (LI_step HL.out (Calm.below _))⟩
   case measure => simp [intOf]; omega
  ·obtain rfl : k = n := by omega
   have hlt' : ¬ (k : Int) < (k : Int) := by omega
   go_wp2
   go_ret
   exact ⟨rfl, l3⟩
theorem r8Check_any (a : Option Addr) (n c : Nat) (ba : Option Addr) (m bc : Nat) (ss : Nat → SV) (bs : Nat → BM) (w : World) (B : Nat) (hBw : B ≤ w.heap.size) (hS : Spans B w a n ss) (hM : Beams B w ba m bs) :
  Calls Tryz.prog 23 #[imageV a n c ba m bc] w fun e w' => e = .returned (.int .i64 (checkN n ss m bs)) ∧ Below w.heap.size w w' := by
 have HS := Lib.hid hS
 have HM := Lib.hid hM
 clear hS hM
 have HSH := Hd (fun (W : World) (hb : Below w.heap.size w W) => r8Shape_any a n c ba m bc ss bs W B (by have := hb.size; omega) (HS.out.below (hb.mono hBw)) (HM.out.below (hb.mono hBw)))
 by_cases h1 : shapeB n ss m bs = false
 ·have HE := Hd (show checkN n ss m bs = 2 from by unfold checkN; rw [if_pos h1])
  rw [h1] at HSH
  generalize checkN n ss m bs = RES at *
  clear h1
  go_enter Tryz.func23, Tryz.ntmps23
  go_upto_region 1 with (fail)
  have HL := Hd (show LI a n c ba m bc w (w.alloc (.cells #[.slice a n c, .slice ba m bc] 59)) from LI_start)
  generalize World.alloc w _ = V at *
  obtain ⟨l0, l1, l2, l3⟩ := HL.out
  go_wp2_with (go_at_call 58; refine (HSH.out _ l3).mono ?_; rintro e w5 ⟨rfl, hb5⟩)
  go_ret
  exact ⟨ret_int HE.out.symm, l3.trans (hb5.mono l3.size)⟩
 ·have HSP := Hd (show ∀ i, i < n → 0 ≤ (ss i).lo ∧ (ss i).lo ≤ (ss i).hi ∧ (ss i).hi ≤ 1000 from fun i hi => (shapeB_iff.1 (by simpa using h1)).span i hi)
  have HFI := Hd (fun (W : World) (hb : Below w.heap.size w W) => r8Fields_any a n c ba m bc ss W B (by have := hb.size; omega) (HS.out.below (hb.mono hBw)) HSP.out)
  have h2 : shapeB n ss m bs = true := by simpa using h1
  have HE := Hd (show checkN n ss m bs = if 200000 < min (prodN ss n) 200001 then 3 else 0 from by
   unfold checkN longB
   rw [if_neg (by rw [h2]; decide)]
   by_cases h3 : 200000 < prodN ss n
   ·rw [if_pos (by simpa using h3), if_pos (by omega)]
   ·rw [if_neg (by simpa using h3), if_neg (by omega)])
  rw [h2] at HSH
  generalize checkN n ss m bs = RES at *
  generalize min (prodN ss n) 200001 = P at *
  clear h1 h2
  by_cases h3 : 200000 < P
  ·rw [if_pos h3] at HE
   go_enter Tryz.func23, Tryz.ntmps23
   go_upto_region 1 with (fail)
   have HL := Hd (show LI a n c ba m bc w (w.alloc (.cells #[.slice a n c, .slice ba m bc] 59)) from LI_start)
   generalize World.alloc w _ = V at *
   obtain ⟨l0, l1, l2, l3⟩ := HL.out
   go_wp2_with (first | (go_at_call 58; refine (HSH.out _ l3).mono ?_; rintro e w5 ⟨rfl, hb5⟩; have HL5 := LI_step HL.out hb5; clear l0 l1 l2 l3; obtain ⟨l0, l1, l2, l3⟩ := HL5) | (go_at_call 24; refine (HFI.out _ l3).mono ?_; rintro e w6 ⟨rfl, hb6⟩))
   go_ret
   exact ⟨ret_int HE.out.symm, l3.trans (hb6.mono l3.size)⟩
  ·rw [if_neg h3] at HE
   go_enter Tryz.func23, Tryz.ntmps23
   go_upto_region 1 with (fail)
   have HL := Hd (show LI a n c ba m bc w (w.alloc (.cells #[.slice a n c, .slice ba m bc] 59)) from LI_start)
   generalize World.alloc w _ = V at *
   obtain ⟨l0, l1, l2, l3⟩ := HL.out
   go_wp2_with (first | (go_at_call 58; refine (HSH.out _ l3).mono ?_; rintro e w5 ⟨rfl, hb5⟩; have HL5 := LI_step HL.out hb5; clear l0 l1 l2 l3; obtain ⟨l0, l1, l2, l3⟩ := HL5) | (go_at_call 24; refine (HFI.out _ l3).mono ?_; rintro e w6 ⟨rfl, hb6⟩))
   go_ret
   exact ⟨ret_int HE.out.symm, l3.trans (hb6.mono l3.size)⟩
end Go.Proofs.YtgmpelhphnmknaaGreat
namespace Go.Proofs.YtgmpelhphnmknaaGreat
open Go.RowKit
theorem fieldB_no {n : Nat} {ss : Nat → SV} {k : Nat} {f : Nat → Int} {i : Nat} (hi : i < min k n) (h : inB (f i) (ss i).lo (ss i).hi = false) : fieldB n ss k f = false := by
 unfold fieldB
 rw [allUpto_false hi h, Bool.false_and]
theorem fieldB_end {n : Nat} {ss : Nat → SV} {k : Nat} {f : Nat → Int} (h : ∀ i, i < min k n → inB (f i) (ss i).lo (ss i).hi = true) : fieldB n ss k f = (k == n) := by
 unfold fieldB
 rw [allUpto_true h, Bool.true_and]
theorem r8Field_any (a : Option Addr) (n c : Nat) (ba : Option Addr) (m bc : Nat) (ss : Nat → SV) (fa : Option Addr) (k fc : Nat) (f : Nat → Int) (w : World) (B : Nat) (hBw : B ≤ w.heap.size) (hS : Spans B w a n ss) (hF : Ints w.heap.size w fa k f) (hk : k ≤ maxLen) :
  Calls Tryz.prog 25 #[imageV a n c ba m bc, .slice fa k fc] w fun e w' => e = .returned (.bool (fieldB n ss k f)) ∧ Below w.heap.size w w' := by
 have hn := hS.1
 unfold maxLen at hn hk
 have HS := Lib.hid hS
 have HF := Lib.hid hF
 have HNO := Hd (fun (i : Nat) (hi : i < min k n) (h : inB (f i) (ss i).lo (ss i).hi = false) => fieldB_no hi h)
 have HYES := Hd (fun (h : ∀ i, i < min k n → inB (f i) (ss i).lo (ss i).hi = true) => fieldB_end h)
 generalize fieldB n ss k f = RES at *
 clear hS hF
 go_enter Tryz.func25, Tryz.ntmps25
 go_upto_region 1 with (fail)
 have HL := Hd (show LI a n c ba m bc w (w.alloc (.cells #[.slice a n c, .slice ba m bc] 59)) from LI_start)
 generalize World.alloc w _ = V at *
 go_wp2
 go_loopw [5] (fun t wr => ∃ i : Nat, i ≤ min k n ∧ t = .int .i64 (i : Int) ∧ Hid ((∀ j, j < i → inB (f j) (ss j).lo (ss j).hi = true) ∧ LI a n c ba m bc w wr)) (fun t _ => min k n - (intOf t).toNat)
 case atStart => exact ⟨0, Nat.zero_le _, rfl, Lib.hid ⟨fun j h => by omega, HL.out⟩⟩
 case round =>
  clear HL
  obtain ⟨i, hi, rfl, HR⟩ := hrel
  obtain ⟨l0, l1, l2, l3⟩ := HR.out.2
  by_cases hlt : i < k
  ·have hlt' : (i : Int) < (k : Int) := by omega
   by_cases hlt2 : i < n
   ·have hlt2' : (i : Int) < (n : Int) := by omega
    obtain ⟨b, off, rfl, hbB, c0, c1⟩ := (HS.out.below (l3.mono hBw)).get hlt2
    obtain ⟨fb, fo, rfl, hfB, d0⟩ := (HF.out.below l3).get hlt
    have hbz : b < wr.heap.size := by omega
    have hfz : fb < wr.heap.size := by omega
    have HN := Hd (HNO.out i (by omega))
    have HA := Hd (fun h j (hj : j < i + 1) => show inB (f j) (ss j).lo (ss j).hi = true from by (by_cases e : j = i; (subst e; exact h); exact HR.out.1 j (by omega)))
    cases h1 : inB (f i) (ss i).lo (ss i).hi
    ·have HE := Hd (HN.out h1)
     go_upto_region 4 with (fail)
     (refine wp_region_calm (wr.heap.size) (by kernel_rfl) (by kernel_rfl) ?_; (repeat (first | go_big_quiet_step ((go_at_call 59; exact Calls.calm_same (r8in_any _ _ _ _))) | quiet_step ((go_at_call 59; exact Calls.calm_same (r8in_any _ _ _ _))))); refine wpQuiet_nil (wqn ?_); intro xq)
     go_wp2
     go_ret
     exact ⟨ret_bool HE.out.symm, l3.trans ((Calm.below _).mono l3.size)⟩
    ·have HE := Hd (HA.out h1)
     go_upto_region 4 with (fail)
     (refine wp_region_calm (wr.heap.size) (by kernel_rfl) (by kernel_rfl) ?_; (repeat (first | go_big_quiet_step ((go_at_call 59; exact Calls.calm_same (r8in_any _ _ _ _))) | quiet_step ((go_at_call 59; exact Calls.calm_same (r8in_any _ _ _ _))))); refine wpQuiet_nil (wqn ?_); intro xq)
     go_wp2
     go_roundw
     case rel => exact ⟨i + 1, by omega, by go_num, Lib.hid ⟨HE.out, LI_step HR.out.2 (Calm.below _)⟩⟩
     case measure => simp [intOf]; omega
   ·obtain rfl : i = n := by omega
    have hlt2' : ¬ (i : Int) < (i : Int) := by omega
    have hkn : ((k : Int) == (i : Int)) = false := by rw [beq_eq_false_iff_ne]; omega
    have HE := Hd (HYES.out (fun j hj => HR.out.1 j (by omega)))
    rw [show (k == i) = false from by rw [beq_eq_false_iff_ne]; omega] at HE
    go_wp2
    go_ret
    exact ⟨ret_bool HE.out.symm, l3⟩
  ·have hlt' : ¬ (i : Int) < (k : Int) := by omega
   have HE := Hd (HYES.out (fun j hj => HR.out.1 j (by omega)))
   by_cases e : k = n
   ·have hkn : ((k : Int) == (n : Int)) = true := by rw [beq_iff_eq]; omega
    rw [show (k == n) = true from by rw [beq_iff_eq]; exact e] at HE
    clear e
    go_wp2
    go_ret
    exact ⟨ret_bool HE.out.symm, l3⟩
   ·have hkn : ((k : Int) == (n : Int)) = false := by rw [beq_eq_false_iff_ne]; omega
    rw [show (k == n) = false from by rw [beq_eq_false_iff_ne]; exact e] at HE
    clear e
    go_wp2
    go_ret
    exact ⟨ret_bool HE.out.symm, l3⟩
end Go.Proofs.YtgmpelhphnmknaaGreat
namespace Go.Proofs.YtgmpelhphnmknaaGreat
open Go Go.RowKit Go.Shelf
def rockB (v : VO) (gn : Nat) (g : Nat → Int) (sn : Nat) (ss : Nat → SV) (bs : Nat → BM) (dn : Nat) (d : Nat → Int) (F : Int) : Bool :=
 ((((volB v && grB v gn g) && decide ((sn : Int) = v.nx * v.ny * v.nz)) && decide (checkN sn ss 0 bs = 0)) && decide (min (prodN ss sn) 200001 ≤ F)) && fieldB sn ss dn d
theorem beams_none (bs : Nat → BM) (W : World) {B : Nat} : Beams B W none 0 bs := ⟨by decide, .inl rfl⟩
theorem range_of_check {n : Nat} {ss : Nat → SV} {bs : Nat → BM} (h : checkN n ss 0 bs = 0) : ∀ i, i < n → 0 ≤ (ss i).lo ∧ (ss i).lo ≤ (ss i).hi ∧ (ss i).hi ≤ 1000 := (checkN_shape h).span
theorem rall_ToTpC {P : Prop} (h : P := by (go_enter Tryz.func5, Tryz.ntmps5; go_upto_region 2 with (fail); generalize World.alloc (World.alloc w _) _ = V at *; (try clear v0 v1 v2 v3 m0 m1); obtain ⟨v0, v1, v2, v3⟩ := cr4 HV.out; obtain ⟨m0, m1⟩ := cr2 HM.out; go_wp2_with (first | (go_at_call 20; refine (HVO.out _).mono ?_; rintro e w2 ⟨rfl, hb2⟩; rw [E1]; (replace HB := Hd (HB.out.trans ((hb2).mono HB.out.size)); replace HV := Hd (keep_at HV.out hb2); replace HM := Hd (keep_at HM.out hb2); (try clear v0 v1 v2 v3 m0 m1); obtain ⟨v0, v1, v2, v3⟩ := cr4 HV.out; obtain ⟨m0, m1⟩ := cr2 HM.out); clear hb2) | (go_at_call 21; refine (HGR.out _ HB.out).mono ?_; rintro e w2 ⟨rfl, hb2⟩; rw [E2]; (replace HB := Hd (HB.out.trans ((hb2).mono HB.out.size)); replace HV := Hd (keep_at HV.out hb2); replace HM := Hd (keep_at HM.out hb2); (try clear v0 v1 v2 v3 m0 m1); obtain ⟨v0, v1, v2, v3⟩ := cr4 HV.out; obtain ⟨m0, m1⟩ := cr2 HM.out); clear hb2) | (go_at_call 22; refine (HCE.out _).mono ?_; rintro e w2 ⟨rfl, hb2⟩; (replace HB := Hd (HB.out.trans ((hb2).mono HB.out.size)); replace HV := Hd (keep_at HV.out hb2); replace HM := Hd (keep_at HM.out hb2); (try clear v0 v1 v2 v3 m0 m1); obtain ⟨v0, v1, v2, v3⟩ := cr4 HV.out; obtain ⟨m0, m1⟩ := cr2 HM.out); clear hb2) | (go_at_call 23; refine (HCK.out _ HB.out).mono ?_; rintro e w2 ⟨rfl, hb2⟩; (replace HB := Hd (HB.out.trans ((hb2).mono HB.out.size)); replace HV := Hd (keep_at HV.out hb2); replace HM := Hd (keep_at HM.out hb2); (try clear v0 v1 v2 v3 m0 m1); obtain ⟨v0, v1, v2, v3⟩ := cr4 HV.out; obtain ⟨m0, m1⟩ := cr2 HM.out); clear hb2) | (go_at_call 24; refine (HFS.out _ HB.out).mono ?_; rintro e w2 ⟨rfl, hb2⟩; (replace HB := Hd (HB.out.trans ((hb2).mono HB.out.size)); replace HV := Hd (keep_at HV.out hb2); replace HM := Hd (keep_at HM.out hb2); (try clear v0 v1 v2 v3 m0 m1); obtain ⟨v0, v1, v2, v3⟩ := cr4 HV.out; obtain ⟨m0, m1⟩ := cr2 HM.out); clear hb2) | (go_at_call 25; refine (HFD.out _ HB.out).mono ?_; rintro e w2 ⟨rfl, hb2⟩; (replace HB := Hd (HB.out.trans ((hb2).mono HB.out.size)); replace HV := Hd (keep_at HV.out hb2); replace HM := Hd (keep_at HM.out hb2); (try clear v0 v1 v2 v3 m0 m1); obtain ⟨v0, v1, v2, v3⟩ := cr4 HV.out; obtain ⟨m0, m1⟩ := cr2 HM.out); clear hb2)); go_ret; exact ⟨rfl, HB.out⟩)) : P := h
theorem rocky_any (v : VO) (ga : Option Addr) (gn gc : Nat) (g : Nat → Int) (sa : Option Addr) (sn sc : Nat) (ss : Nat → SV) (bs : Nat → BM) (da : Option Addr) (dn dc : Nat) (d : Nat → Int) (F : Int) (w : World) (hgn : gn ≤ maxLen) (hG : Ints w.heap.size w ga gn g) (hS : Spans w.heap.size w sa sn ss) (hD : Ints w.heap.size w da dn d) (hdn : dn ≤ maxLen) :
  Calls Tryz.prog 5 #[v.val, .slice ga gn gc, .slice sa sn sc, .slice da dn dc, .int .i64 F] w fun e w' => e = .returned (.bool (rockB v gn g sn ss bs dn d F)) ∧ Below w.heap.size w w' := by
 have HVO := Hd (fun (W : World) => r6Volume_any v W)
 have HB := Hd (((Below.refl _ w).alloc (Nat.le_refl _) (.cells #[.int .i64 v.nx, .int .i64 v.ny, .int .i64 v.nz, .int .i64 v.size] 23)).alloc (by simp) (.cells #[.slice sa sn sc, .slice none 0 0] 59))
 have e1 := (Below.heap_alloc (w.alloc (.cells #[.int .i64 v.nx, .int .i64 v.ny, .int .i64 v.nz, .int .i64 v.size] 23)) (.cells #[.slice sa sn sc, .slice none 0 0] 59) w.heap.size (by simp)).trans (heap_alloc_new w _)
 have e2 := heap_alloc_new (w.alloc (.cells #[.int .i64 v.nx, .int .i64 v.ny, .int .i64 v.nz, .int .i64 v.size] 23)) (.cells #[.slice sa sn sc, .slice none 0 0] 59)
 rw [show (w.alloc (.cells #[.int .i64 v.nx, .int .i64 v.ny, .int .i64 v.nz, .int .i64 v.size] 23)).heap.size = w.heap.size + 1 from by simp] at e2
 have HV := Lib.hid e1
 have HM := Lib.hid e2
 clear e1 e2
 unfold rockB
 cases E1 : volB v with
 | false =>
  simp only [Bool.false_and]
  unfold VO.val at *
  clear hG hS hD
  exact rall_ToTpC
 | true =>
  simp only [Bool.true_and]
  have hv := volB_iff.1 E1
  have HGR := Hd (fun (W : World) (hb : Below w.heap.size w W) => r6Ground_any v hv ga gn gc g W hgn ((hG.below hb).up hb.size))
  have HCE := Hd (fun (W : World) => r6Cells_any v hv W)
  cases E2 : grB v gn g with
  | false =>
   simp only [Bool.false_and]
   unfold VO.val at *
   clear hG hS hD
   exact rall_ToTpC
  | true =>
   simp only [Bool.true_and]
   have HCK := Hd (fun (W : World) (hb : Below w.heap.size w W) => r8Check_any sa sn sc none 0 0 ss bs W w.heap.size hb.size (hS.below hb) (beams_none bs W))
   unfold imageV at HCK
   by_cases h3 : (sn : Int) = v.nx * v.ny * v.nz
   ·rw [decide_eq_true h3]
    simp only [Bool.true_and]
    by_cases h4 : checkN sn ss 0 bs = 0
    ·rw [decide_eq_true h4]
     simp only [Bool.true_and]
     have HFS := Hd (fun (W : World) (hb : Below w.heap.size w W) => r8Fields_any sa sn sc none 0 0 ss W w.heap.size hb.size (hS.below hb) (range_of_check h4))
     have HFD := Hd (fun (W : World) (hb : Below w.heap.size w W) => r8Field_any sa sn sc none 0 0 ss da dn dc d W w.heap.size hb.size (hS.below hb) ((hD.below hb).up hb.size) hdn)
     unfold imageV at HFS HFD
     rw [h4] at HCK
     by_cases h5 : min (prodN ss sn) 200001 ≤ F
     ·rw [decide_eq_true h5]
      simp only [Bool.true_and]
      generalize fieldB sn ss dn d = fb at *
      generalize min (prodN ss sn) 200001 = pn at *
      generalize v.nx * v.ny * v.nz = nc at *
      unfold VO.val at *
      clear hG hS hD h4
      exact rall_ToTpC
     ·rw [decide_eq_false h5]
      simp only [Bool.false_and]
      generalize fieldB sn ss dn d = fb at *
      generalize min (prodN ss sn) 200001 = pn at *
      generalize v.nx * v.ny * v.nz = nc at *
      unfold VO.val at *
      clear hG hS hD h4
      exact rall_ToTpC
    ·rw [decide_eq_false h4]
     simp only [Bool.false_and]
     generalize checkN sn ss 0 bs = ck at *
     generalize v.nx * v.ny * v.nz = nc at *
     unfold VO.val at *
     clear hG hS hD
     exact rall_ToTpC
   ·rw [decide_eq_false h3]
    simp only [Bool.false_and]
    generalize v.nx * v.ny * v.nz = nc at *
    unfold VO.val at *
    clear hG hS hD
    exact rall_ToTpC
end Go.Proofs.YtgmpelhphnmknaaGreat
