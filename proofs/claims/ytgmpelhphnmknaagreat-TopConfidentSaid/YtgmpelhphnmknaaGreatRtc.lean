/- Texts put together: ToTcD, ToTcE. -/
import Derived.Test.YtgmpelhphnmknaaGreatRtb
set_option maxRecDepth 100000
set_option maxHeartbeats 8000000
set_option linter.unusedVariables false
set_option linter.unusedSimpArgs false
namespace Go.Proofs.YtgmpelhphnmknaaGreat
open Go Go.RowKit Go.Shelf
theorem tc_end {P kr lv n A : Nat} (hk : kr ≤ P) (hlv : 2 ≤ lv) (hA : A ≤ sumU (fun b => if (setB7 P lv (outL n b) kr).out = true then wgt P kr (outL n b) else 0) (2 ^ n)) : (A : Int) ≤ (((P ^ n : Nat) : Int)).tdiv (lv : Int) := by
 have h1 := ville (T := topB) (P := P) (k := kr) (L := lv * 1048576) hk n 1048576 0 0 (Nat.le_refl _)
 have h2 : sumU (fun b => if (setB7 P lv (outL n b) kr).out = true then wgt P kr (outL n b) else 0) (2 ^ n) = sumL (fun o => if excl topB P kr (lv * 1048576) 1048576 0 0 o = true then wgt P kr o else 0) (outs n) := by
  rw [← sumU_outs]
  refine sumU_congr _ fun b _ => ?_
  rw [excl_run _ _ _ _ (by omega)]
  rfl
 rw [← h2] at h1
 generalize sumU _ _ = S at *
 generalize P ^ n = Q at *
 have h3 : lv * S ≤ Q := by
  rw [Nat.mul_right_comm, Nat.mul_comm 1048576 Q] at h1
  exact Nat.le_of_mul_le_mul_right h1 (by decide)
 have h4 : S ≤ Q / lv := (Nat.le_div_iff_mul_le (by omega)).2 (by rw [Nat.mul_comm]; exact h3)
 rw [Int.tdiv_eq_ediv_of_nonneg (by omega), ← Int.natCast_ediv]
 omega
theorem sumU_le {f : Nat → Nat} {M : Nat} (h : ∀ b, f b ≤ M) : ∀ n, sumU f n ≤ n * M
 | 0 => by simp [sumU]
 | n + 1 => by have := sumU_le h n; have := h n; rw [sumU, Nat.add_mul]; omega
theorem pow_wrap {i : Nat} (h : 2 ^ i ≤ 64) : wrap64 ((2 : Int) ^ i) = ((2 ^ i : Nat) : Int) := by
 have e : (2 : Int) ^ i = ((2 ^ i : Nat) : Int) := by simp
 rw [e]
 generalize 2 ^ i = T at *
 exact IntWalk.wrap64_in _ (by omega)
theorem quo_wrap {Q l A : Nat} (hQ : 0 ≤ (Q : Int) ∧ (Q : Int) ≤ 2985984) (h : (A : Int) ≤ (Q : Int).tdiv (l : Int)) : (A : Int) ≤ wrap64 ((Q : Int) / (l : Int)) := by
 rw [Int.tdiv_eq_ediv_of_nonneg hQ.1] at h
 have h2 := Int.ediv_nonneg hQ.1 (show (0 : Int) ≤ (l : Int) by omega)
 have h3 := Int.ediv_le_self (l : Int) hQ.1
 generalize (Q : Int) / (l : Int) = q at *
 rw [IntWalk.wrap64_in q (by omega)]
 exact h
theorem Tc_any (v : VO) (ga : Option Addr) (gn gc : Nat) (g : Nat → Int) (sa : Option Addr) (sn sc : Nat) (ss : Nat → SV) (bs : Nat → BM) (da : Option Addr) (dn dc : Nat) (d : Nat → Int) (s : SK) (ta : Option Addr) (tn tc : Nat) (t : Nat → RW) (k : LQ) (sl lv : Int) (w : World) (hgn : gn ≤ maxLen) (hG : Ints w.heap.size w ga gn g) (hS : Spans w.heap.size w sa sn ss) (hD : Ints w.heap.size w da dn d) (hdn : dn ≤ maxLen) (hSk : s.mem w.heap.size w) (hbn : s.bn ≤ maxLen) (hln : ∀ i, i < s.bn → s.ln i ≤ maxLen) (hT : RWs w.heap.size w ta tn t) (htn : tn ≤ maxLen) (hrk : rockB v gn g sn ss bs dn d 200 = true) :
  Calls Tryz.prog 3 #[v.val, .slice ga gn gc, .slice sa sn sc, .slice da dn dc, .agg s.cells, .slice ta tn tc, k.val, .int .i64 sl, .int .i64 lv] w fun e w' => e = .returned (.bool true) ∧ Below w.heap.size w w' := by
 have HRK := Hd (fun (W : World) (hb : Below w.heap.size w W) => rocky_any v ga gn gc g sa sn sc ss bs da dn dc d 200 W hgn ((hG.below hb).up hb.size) ((hS.below hb).up hb.size) ((hD.below hb).up hb.size) hdn)
 have HSK := Hd (fun (W : World) (hb : Below w.heap.size w W) => r5Sky_any s w.heap.size W hb.size (hSk.below hb) hbn hln)
 have HRG := Hd (fun (W : World) (hb : Below w.heap.size w W) => r5Ranges_any ta tn tc t w.heap.size W hb.size htn (hT.below hb))
 have HKN := Hd (fun (W : World) => known11_any W)
 have HTD := Hd (fun (h1 : s.ok) (h2 : tn ≤ 40) (h3 : TabOk tn t) => show TdIn v ga gn g sa sn ss da dn d s ta tn t w from by
  unfold rockB at hrk
  simp only [Bool.and_eq_true, decide_eq_true_eq] at hrk
  obtain ⟨⟨⟨⟨⟨a1, a2⟩, a3⟩, a4⟩, a5⟩, a6⟩ := hrk
  exact ⟨a1, a2, a3, fun bs' => check_any a4, a6, hgn, hG, hS, hD, hdn, hSk, h1, hT, h2, h3⟩)
 have HLB := Hd (fun (W : World) (hk : ¬ k.ok s.bn) => looks_bad v (.slice ga gn gc) (.slice da dn dc) s k W hk)
 have HLK := Hd (fun (h : TdIn v ga gn g sa sn ss da dn d s ta tn t w) (W : World) (hk : k.ok s.bn) (m : Nat) (hM : IsM v k.r m) (hb : Below w.heap.size w W) => h.looks gc dc k hk m hM hb)
 have HPR := Hd (fun (h : TdIn v ga gn g sa sn ss da dn d s ta tn t w) => fun W => prints_any (w1 := w) (w := W) h gc sc dc tc k)
 rw [hrk] at HRK
 obtain ⟨⟨rx, ry, rz, rdx, rdy, rdz⟩, bin, unit, rate, less, more⟩ := k
 obtain ⟨f1, f2, f3, f4⟩ := fx_three w (.cells #[.int .i64 v.nx, .int .i64 v.ny, .int .i64 v.nz, .int .i64 v.size] 23) (.cells s.cells 30) (.cells #[.int .i64 rx, .int .i64 ry, .int .i64 rz, .int .i64 rdx, .int .i64 rdy, .int .i64 rdz, .int .i64 bin, .int .i64 unit, .int .i64 rate, .int .i64 less, .int .i64 more] 35)
 have HB := Lib.hid f1
 have HV := Lib.hid f2
 have HS := Lib.hid f3
 have HL := Lib.hid f4
 clear f1 f2 f3 f4 hG hS hD hSk hT hrk
 unfold VO.val LQ.val SK.cells at *
 dsimp only at *
 go_enter Tryz.func3, Tryz.ntmps3
 go_upto_region 1 with (fail)
 generalize World.alloc (World.alloc (World.alloc w _) _) _ = V at *
 (obtain ⟨v0, v1, v2, v3⟩ := cr4 HV.out; obtain ⟨s0, s1, s2, s3, s4, s5⟩ := cr6 HS.out; obtain ⟨l0, l1, l2, l3, l4, l5, l6, l7, l8, l9, l10⟩ := cr11 HL.out)
 go_upto_region 3 with (first
  | (go_at_call 5; refine (HRK.out _ HB.out).mono ?_; rintro e W1 ⟨rfl, hb1⟩; ((replace HB := Hd (HB.out.trans ((hb1).mono HB.out.size)); replace HV := Hd (keep_at HV.out hb1); replace HS := Hd (keep_at HS.out hb1); replace HL := Hd (keep_at HL.out hb1)); clear v0 v1 v2 v3 s0 s1 s2 s3 s4 s5 l0 l1 l2 l3 l4 l5 l6 l7 l8 l9 l10; clear hb1; (obtain ⟨v0, v1, v2, v3⟩ := cr4 HV.out; obtain ⟨s0, s1, s2, s3, s4, s5⟩ := cr6 HS.out; obtain ⟨l0, l1, l2, l3, l4, l5, l6, l7, l8, l9, l10⟩ := cr11 HL.out)))
  | (go_at_call 6; refine (HSK.out _ HB.out).mono ?_; rintro e W2 ⟨⟨rfl, hsk⟩ | rfl, hb2⟩ <;> (((replace HB := Hd (HB.out.trans ((hb2).mono HB.out.size)); replace HV := Hd (keep_at HV.out hb2); replace HS := Hd (keep_at HS.out hb2); replace HL := Hd (keep_at HL.out hb2)); clear v0 v1 v2 v3 s0 s1 s2 s3 s4 s5 l0 l1 l2 l3 l4 l5 l6 l7 l8 l9 l10; clear hb2; (obtain ⟨v0, v1, v2, v3⟩ := cr4 HV.out; obtain ⟨s0, s1, s2, s3, s4, s5⟩ := cr6 HS.out; obtain ⟨l0, l1, l2, l3, l4, l5, l6, l7, l8, l9, l10⟩ := cr11 HL.out))))
  | (go_at_call 7; refine (HRG.out _ HB.out).mono ?_; rintro e W3 ⟨⟨rfl, htn40, htab⟩ | rfl, hb3⟩ <;> (((replace HB := Hd (HB.out.trans ((hb3).mono HB.out.size)); replace HV := Hd (keep_at HV.out hb3); replace HS := Hd (keep_at HS.out hb3); replace HL := Hd (keep_at HL.out hb3)); clear v0 v1 v2 v3 s0 s1 s2 s3 s4 s5 l0 l1 l2 l3 l4 l5 l6 l7 l8 l9 l10; clear hb3; (obtain ⟨v0, v1, v2, v3⟩ := cr4 HV.out; obtain ⟨s0, s1, s2, s3, s4, s5⟩ := cr6 HS.out; obtain ⟨l0, l1, l2, l3, l4, l5, l6, l7, l8, l9, l10⟩ := cr11 HL.out))))
  | (go_at_call 8; refine (HKN.out _).mono ?_; rintro e W4 ⟨rfl, hb4⟩; ((replace HB := Hd (HB.out.trans ((hb4).mono HB.out.size)); replace HV := Hd (keep_at HV.out hb4); replace HS := Hd (keep_at HS.out hb4); replace HL := Hd (keep_at HL.out hb4)); clear v0 v1 v2 v3 s0 s1 s2 s3 s4 s5 l0 l1 l2 l3 l4 l5 l6 l7 l8 l9 l10; clear hb4; (obtain ⟨v0, v1, v2, v3⟩ := cr4 HV.out; obtain ⟨s0, s1, s2, s3, s4, s5⟩ := cr6 HS.out; obtain ⟨l0, l1, l2, l3, l4, l5, l6, l7, l8, l9, l10⟩ := cr11 HL.out))))
 any_goals (go_ret; exact ⟨rfl, HB.out⟩)
 rename World => w3
 have HT := Hd (HTD.out hsk (by omega) htab)
 obtain ⟨n, rfl⟩ : ∃ n : Nat, sl = (n : Int) := ⟨sl.toNat, by omega⟩
 obtain ⟨lw, rfl⟩ : ∃ lw : Nat, lv = (lw : Int) := ⟨lv.toNat, by omega⟩
 have HN := Hd (show n ≤ 6 ∧ 2 ≤ lw ∧ lw ≤ 900000 from by omega)
 have hPb := hsk.parts
 clear HTD hsk htab htn40 htn hbn hln HRK HSK HRG
 by_cases hk : LQ.ok ⟨⟨rx, ry, rz, rdx, rdy, rdz⟩, bin, unit, rate, less, more⟩ s.bn
 rotate_left
 ·have HLX := Hd (fun (W : World) => HLB.out W hk)
  clear HLB HLK HPR
  go_upto_region 5 with (go_at_call 9; refine (HLX.out _).mono ?_; rintro e W1 ⟨rfl, hb1⟩; ((replace HB := Hd (HB.out.trans ((hb1).mono HB.out.size)); replace HV := Hd (keep_at HV.out hb1); replace HS := Hd (keep_at HS.out hb1); replace HL := Hd (keep_at HL.out hb1)); clear v0 v1 v2 v3 s0 s1 s2 s3 s4 s5 l0 l1 l2 l3 l4 l5 l6 l7 l8 l9 l10; clear hb1; (obtain ⟨v0, v1, v2, v3⟩ := cr4 HV.out; obtain ⟨s0, s1, s2, s3, s4, s5⟩ := cr6 HS.out; obtain ⟨l0, l1, l2, l3, l4, l5, l6, l7, l8, l9, l10⟩ := cr11 HL.out)))
  go_wp2_with (go_at_call 8; refine (HKN.out _).mono ?_; rintro e w2 ⟨rfl, hb2⟩; ((replace HB := Hd (HB.out.trans ((hb2).mono HB.out.size)); replace HV := Hd (keep_at HV.out hb2); replace HS := Hd (keep_at HS.out hb2); replace HL := Hd (keep_at HL.out hb2)); clear v0 v1 v2 v3 s0 s1 s2 s3 s4 s5 l0 l1 l2 l3 l4 l5 l6 l7 l8 l9 l10; clear hb2; (obtain ⟨v0, v1, v2, v3⟩ := cr4 HV.out; obtain ⟨s0, s1, s2, s3, s4, s5⟩ := cr6 HS.out; obtain ⟨l0, l1, l2, l3, l4, l5, l6, l7, l8, l9, l10⟩ := cr11 HL.out)))
  go_ret
  exact ⟨rfl, HB.out⟩
 obtain ⟨m, hM⟩ := isM_is HT.out.vol (rayB_iff.1 hk.ray)
 have HLX := Hd (fun (W : World) (hb : Below w.heap.size w W) => HLK.out HT.out W hk m hM hb)
 have HTR := Hd (HT.out.deep _ hk m hM)
 have HM := Lib.hid hM
 have HK := Lib.hid hk
 clear HLB HLK hM hk
 dsimp only at HLX HTR
 generalize hx : (opS d (prN v ⟨rx, ry, rz, rdx, rdy, rdz⟩ g (m + 1))).tdiv unit = x at *
 have HX := Lib.hid hx
 clear hx
 generalize hcb : (chB (prN v ⟨rx, ry, rz, rdx, rdy, rdz⟩ g (m + 1)) && decide (x < 1000000)) = cb at *
 cases cb
 ·clear HPR HX HTR hcb
  go_upto_region 5 with (go_at_call 9; refine (HLX.out _ HB.out).mono ?_; rintro e W1 ⟨rfl, hb1⟩; ((replace HB := Hd (HB.out.trans ((hb1).mono HB.out.size)); replace HV := Hd (keep_at HV.out hb1); replace HS := Hd (keep_at HS.out hb1); replace HL := Hd (keep_at HL.out hb1)); clear v0 v1 v2 v3 s0 s1 s2 s3 s4 s5 l0 l1 l2 l3 l4 l5 l6 l7 l8 l9 l10; clear hb1; (obtain ⟨v0, v1, v2, v3⟩ := cr4 HV.out; obtain ⟨s0, s1, s2, s3, s4, s5⟩ := cr6 HS.out; obtain ⟨l0, l1, l2, l3, l4, l5, l6, l7, l8, l9, l10⟩ := cr11 HL.out)))
  go_wp2_with (go_at_call 8; refine (HKN.out _).mono ?_; rintro e w2 ⟨rfl, hb2⟩; ((replace HB := Hd (HB.out.trans ((hb2).mono HB.out.size)); replace HV := Hd (keep_at HV.out hb2); replace HS := Hd (keep_at HS.out hb2); replace HL := Hd (keep_at HL.out hb2)); clear v0 v1 v2 v3 s0 s1 s2 s3 s4 s5 l0 l1 l2 l3 l4 l5 l6 l7 l8 l9 l10; clear hb2; (obtain ⟨v0, v1, v2, v3⟩ := cr4 HV.out; obtain ⟨s0, s1, s2, s3, s4, s5⟩ := cr6 HS.out; obtain ⟨l0, l1, l2, l3, l4, l5, l6, l7, l8, l9, l10⟩ := cr11 HL.out)))
  go_ret
  exact ⟨rfl, HB.out⟩
 rw [Bool.and_eq_true, decide_eq_true_eq] at hcb
 have HC := Lib.hid hcb
 have hxb : 0 ≤ x ∧ x < 1000000 := ⟨HTR.out.2.1, hcb.2⟩
 have HXB := Lib.hid hxb
 clear hcb HTR hxb
 obtain ⟨bn, rfl⟩ : ∃ bn : Nat, bin = (bn : Int) := ⟨bin.toNat, by have := HK.out.bin; dsimp only at this; omega⟩
 have hbn : bn < s.bn := by have := HK.out.bin; dsimp only at this; omega
 have HBNI := Lib.hid hbn
 have hexp := HT.out.exp hbn x
 clear hbn
 go_upto_region 6 with (go_at_call 9; refine (HLX.out _ HB.out).mono ?_; rintro e W1 ⟨rfl, hb1⟩; ((replace HB := Hd (HB.out.trans ((hb1).mono HB.out.size)); replace HV := Hd (keep_at HV.out hb1); replace HS := Hd (keep_at HS.out hb1); replace HL := Hd (keep_at HL.out hb1)); clear v0 v1 v2 v3 s0 s1 s2 s3 s4 s5 l0 l1 l2 l3 l4 l5 l6 l7 l8 l9 l10; clear hb1; (obtain ⟨v0, v1, v2, v3⟩ := cr4 HV.out; obtain ⟨s0, s1, s2, s3, s4, s5⟩ := cr6 HS.out; obtain ⟨l0, l1, l2, l3, l4, l5, l6, l7, l8, l9, l10⟩ := cr11 HL.out)))
 clear HLX
 rename World => w4
 go_upto_region 7 with (go_at_call 10; refine (HT.out.mean tc (HB.out.trans ((al_below w4 _).mono HB.out.size)) (heap_alloc_new w4 _) HBNI.out (x := x) (by have := HXB.out; omega)).mono ?_; rintro e W5 ⟨rfl, hb4⟩; have hb3 := (al_below w4 spellRow).trans (hb4.mono (al_below w4 spellRow).size); clear hb4; ((replace HB := Hd (HB.out.trans ((hb3).mono HB.out.size)); replace HV := Hd (keep_at HV.out hb3); replace HS := Hd (keep_at HS.out hb3); replace HL := Hd (keep_at HL.out hb3)); clear v0 v1 v2 v3 s0 s1 s2 s3 s4 s5 l0 l1 l2 l3 l4 l5 l6 l7 l8 l9 l10; clear hb3; (obtain ⟨v0, v1, v2, v3⟩ := cr4 HV.out; obtain ⟨s0, s1, s2, s3, s4, s5⟩ := cr6 HS.out; obtain ⟨l0, l1, l2, l3, l4, l5, l6, l7, l8, l9, l10⟩ := cr11 HL.out)))
 rename World => w5
 have hb5 := al_below w5 (spanRow (.int .i64 (eLo s tn t bn x)) (.int .i64 (eHi s tn t bn x)))
 have HQ := Hd (heap_alloc_new w5 (spanRow (.int .i64 (eLo s tn t bn x)) (.int .i64 (eHi s tn t bn x))))
 unfold spanRow at hb5 HQ
 ((replace HB := Hd (HB.out.trans ((hb5).mono HB.out.size)); replace HV := Hd (keep_at HV.out hb5); replace HS := Hd (keep_at HS.out hb5); replace HL := Hd (keep_at HL.out hb5)); clear v0 v1 v2 v3 s0 s1 s2 s3 s4 s5 l0 l1 l2 l3 l4 l5 l6 l7 l8 l9 l10; clear hb5; (obtain ⟨v0, v1, v2, v3⟩ := cr4 HV.out; obtain ⟨s0, s1, s2, s3, s4, s5⟩ := cr6 HS.out; obtain ⟨l0, l1, l2, l3, l4, l5, l6, l7, l8, l9, l10⟩ := cr11 HL.out))
 generalize World.alloc w5 _ = w6 at *
 generalize w5.heap.size = qb at *
 have hrt := HK.out.rate
 dsimp only at hrt
 have HOF := Hd (fun (W : World) => of_any (eLo s tn t bn x) (eHi s tn t bn x) rate W (by omega) hrt)
 have hkr := ofF_range (lo := eLo s tn t bn x) (hi := eHi s tn t bn x) (p := rate) (by omega) hrt
 have HPS := Hd (fun (W : World) => HPR.out HT.out W HK.out m HM.out x HX.out HC.out)
 clear HPR HX HC HM HXB hrt
 generalize hel : eLo s tn t bn x = el at *
 generalize heh : eHi s tn t bn x = eh at *
 generalize s.P = sp at *
 obtain ⟨P, rfl⟩ : ∃ P : Nat, sp = (P : Int) := ⟨sp.toNat, by omega⟩
 generalize hofk : ofF el eh rate = kq at *
 clear hofk
 obtain ⟨kr, rfl⟩ : ∃ kr : Nat, kq = (kr : Int) := ⟨kq.toNat, by omega⟩
 have hPB : 2 ≤ P ∧ P ≤ 12 := by omega
 have HPB := Lib.hid hPB
 have hkP : kr ≤ P := by omega
 have HKP := Lib.hid hkP
 have HPX := Hd (fun (W : World) (hb : Below w.heap.size w W) (oa : Option Addr) (cp : Nat) (b : Nat) (hO : BoolsIn W oa (outL n b)) => show Calls Tryz.prog 13 #[.agg #[.int .i64 v.nx, .int .i64 v.ny, .int .i64 v.nz, .int .i64 v.size], .slice ga gn gc, .slice sa sn sc, .slice da dn dc, .agg #[.int .i64 (P : Int), .slice s.ba s.bn s.bc, .int .i64 s.be0, .int .i64 s.be1, .int .i64 s.al0, .int .i64 s.al1], .slice ta tn tc, .agg #[.int .i64 rx, .int .i64 ry, .int .i64 rz, .int .i64 rdx, .int .i64 rdy, .int .i64 rdz, .int .i64 (bn : Int), .int .i64 unit, .int .i64 rate, .int .i64 less, .int .i64 more], .slice oa n cp, .int .i64 (lw : Int)] W (PrRes P lw (outL n b) kr W) from by
  have h1 := HPS.out W P rfl (by omega) lw cp (by have := HN.out; omega) oa (outL n b) (by rw [outL_len]; exact HN.out.1) kr hkP bn rfl (by rw [hel, heh]; omega) hb hO
  rw [outL_len] at h1
  exact h1)
 clear HPS hel heh
 obtain ⟨q0, q1⟩ := cr2 HQ.out
 have t1 : ¬ el < 0 := by omega
 have t2 : ¬ eh < el := by omega
 have t3 : ¬ (P : Int) < eh := by omega
 go_upto_region 9 with (fail)
 clear t1 t2 t3
 go_upto_region 10 with (go_at_call 11; refine (HOF.out _).mono ?_; rintro e W6 ⟨rfl, hb6⟩; ((replace HB := Hd (HB.out.trans ((hb6).mono HB.out.size)); replace HV := Hd (keep_at HV.out hb6); replace HS := Hd (keep_at HS.out hb6); replace HL := Hd (keep_at HL.out hb6)); clear v0 v1 v2 v3 s0 s1 s2 s3 s4 s5 l0 l1 l2 l3 l4 l5 l6 l7 l8 l9 l10; clear hb6; (obtain ⟨v0, v1, v2, v3⟩ := cr4 HV.out; obtain ⟨s0, s1, s2, s3, s4, s5⟩ := cr6 HS.out; obtain ⟨l0, l1, l2, l3, l4, l5, l6, l7, l8, l9, l10⟩ := cr11 HL.out)); clear q0 q1)
 clear HOF HQ hexp hkr
 rename World => w7
 have HPW := Hd (fun (i : Nat) (hi : i ≤ n) => show P ^ i ≤ 2985984 from Nat.le_trans (Nat.pow_le_pow_left hPB.2 _) (Nat.le_trans (Nat.pow_le_pow_right (by decide) (show i ≤ 6 by have := HN.out; omega)) (by decide)))
 obtain ⟨Fx, hFx⟩ : ∃ Fx : Nat → Nat, Fx = fun b => if (setB7 P lw (outL n b) kr).out = true then wgt P kr (outL n b) else 0 := ⟨_, rfl⟩
 have HFX := Lib.hid hFx
 have HEND := Hd (fun (A : Nat) (hA : A ≤ sumU Fx (2 ^ n)) => tc_end (A := A) hkP HN.out.2.1 (hFx ▸ hA))
 have HWG := Hd (fun (b : Nat) => show wgt P kr (outL n b) ≤ P ^ n from by have := wgt_le hkP (by omega) (outL n b); rw [outL_len] at this; exact this)
 have HOU := Hd (fun (b : Nat) (hb : b < 64) (W : World) => Outcome_any n b W HN.out.1 hb)
 have HWT := Hd (fun (b : Nat) (a : Option Addr) (cp : Nat) (W : World) (ho : BoolsIn W a (outL n b)) => show Calls Tryz.prog 14 #[.slice a n cp, .int .i64 (P : Int), .int .i64 (kr : Int)] W (fun e w' => e = .returned (.int .i64 (wgt P kr (outL n b) : Nat)) ∧ Below W.heap.size W w') from by
  have h1 := Weight_any (outL n b) a cp P kr W ho (by rw [outL_len]; exact HN.out.1) (by omega) hkP
  rw [outL_len] at h1
  exact h1)
 have HSU := Hd (fun (b : Nat) (hb : b ≤ 64) => show sumU Fx b ≤ 64 * 2985984 from Nat.le_trans (sumU_le (fun b => show Fx b ≤ 2985984 from by rw [hFx]; dsimp only; split; exact Nat.le_trans (HWG.out b) (HPW.out n (Nat.le_refl _)); omega) b) (Nat.mul_le_mul_right _ hb))
 have HTW := Hd (show 2 ^ n ≤ 2 ^ 6 from Nat.pow_le_pow_right (by decide) HN.out.1)
 clear hFx hkP
 have hn6 := HN.out.1
 go_wp2
 go_loopw [25, 26] (fun s25 s26 wr => ∃ i : Nat, i ≤ n ∧ s25 = .int .i64 ((P ^ i : Nat) : Int) ∧ s26 = .int .i64 (i : Int) ∧ wr = w7) (fun _ s26 _ => n - (intOf s26).toNat)
 case atStart => exact ⟨0, Nat.zero_le _, rfl, rfl, rfl⟩
 case round =>
  obtain ⟨i, hi, rfl, rfl, rfl⟩ := hrel
  by_cases hl : i < n
  ·have hl' : (i : Int) < (n : Int) := by omega
   have h1 := HPW.out i hi
   have h2 := HPW.out (i + 1) (by omega)
   have h3 : P ^ (i + 1) = P ^ i * P := by rw [Nat.pow_succ]
   have HY := Lib.hid h3
   generalize P ^ (i + 1) = y at h2 h3
   generalize P ^ i = z at *
   have h4 : (z : Int) * (P : Int) = (y : Int) := by rw [h3, Int.natCast_mul]
   generalize hs : (z : Int) * (P : Int) = q at *
   have b1 : 0 ≤ q := by omega
   have b2 : q ≤ 2985984 := by omega
   clear h4 h2 h3
   go_wp2
   go_roundw
   case rel => exact ⟨i + 1, by omega, by rw [HY.out]; simp only [Int.natCast_mul, hs], by go_num, by first | rfl | trivial⟩
   case measure => simp [intOf]; omega
  ·obtain rfl : i = n := by omega
   have hl' : ¬ (i : Int) < (i : Int) := by omega
   rename World => w8
   have hQ0 : 0 ≤ ((P ^ i : Nat) : Int) ∧ ((P ^ i : Nat) : Int) ≤ 2985984 := by have := HPW.out i (Nat.le_refl _); omega
   have hT0 : 1 ≤ 2 ^ i ∧ 2 ^ i ≤ 64 := ⟨Nat.one_le_two_pow, HTW.out⟩
   have HW64 := Hd (show wrap64 ((2 : Int) ^ i) = ((2 ^ i : Nat) : Int) from pow_wrap hT0.2)
   generalize hQQ : P ^ i = Q at *
   clear hQQ hi hl hl' HPW
   go_wp2
   go_loopw [24, 27] (fun s24 s27 wr => ∃ b A : Nat, b ≤ 2 ^ i ∧ s24 = .int .i64 (A : Int) ∧ s27 = .int .i64 (b : Int) ∧ Hid (A ≤ sumU Fx b ∧ Below w8.heap.size w8 wr)) (fun _ s27 _ => 2 ^ i - (intOf s27).toNat)
   case atStart => exact ⟨0, 0, Nat.zero_le _, rfl, rfl, Lib.hid ⟨Nat.zero_le _, Below.refl _ _⟩⟩
   case round =>
    obtain ⟨b, A, hb, rfl, rfl, HI⟩ := hrel
    have hbb := HI.out.2
    ((replace HB := Hd (HB.out.trans ((hbb).mono HB.out.size)); replace HV := Hd (keep_at HV.out hbb); replace HS := Hd (keep_at HS.out hbb); replace HL := Hd (keep_at HL.out hbb)); clear v0 v1 v2 v3 s0 s1 s2 s3 s4 s5 l0 l1 l2 l3 l4 l5 l6 l7 l8 l9 l10; clear hbb; (obtain ⟨v0, v1, v2, v3⟩ := cr4 HV.out; obtain ⟨s0, s1, s2, s3, s4, s5⟩ := cr6 HS.out; obtain ⟨l0, l1, l2, l3, l4, l5, l6, l7, l8, l9, l10⟩ := cr11 HL.out))
    have hw2 : wrap64 ((2 : Int) ^ i) = ((2 ^ i : Nat) : Int) := HW64.out
    generalize hTT : 2 ^ i = T at *
    by_cases hl : b < T
    ·have hb64 : b < 64 := Nat.lt_of_lt_of_le hl hT0.2
     have hl' : (b : Int) < wrap64 ((2 : Int) ^ i) := by rw [hw2]; exact Int.ofNat_lt.2 hl
     have HOB := Hd (HOU.out b hb64)
     have HWB := Hd (HWT.out b)
     have hab : A ≤ 191102976 := Nat.le_trans HI.out.1 (Nat.le_trans (HSU.out b (Nat.le_of_lt hb64)) (Nat.le_refl _))
     have HFB := Hd (show Fx b = (if (setB7 P lw (outL i b) kr).out = true then wgt P kr (outL i b) else 0) from by rw [HFX.out])
     have hwb : wgt P kr (outL i b) ≤ 2985984 := Nat.le_trans (HWG.out b) (Int.ofNat_le.1 hQ0.2)
     have HPB2 := Hd (fun (W : World) (hb : Below w.heap.size w W) (oa : Option Addr) (cp : Nat) => HPX.out W hb oa cp b)
     have hsb : sumU Fx (b + 1) = sumU Fx b + Fx b := rfl
     have HSB := Lib.hid hsb
     clear hw2 hTT HOU HWT HWG HSU HPX HFX HEND hsb
     go_upto_region 19 with (go_at_call 12; refine (HOB.out _).mono ?_; rintro e W1 ⟨⟨oa, cp, rfl, hO⟩, hb1⟩; have HBq := Hd (HI.out.2.trans (hb1.mono HI.out.2.size)); ((replace HB := Hd (HB.out.trans ((hb1).mono HB.out.size)); replace HV := Hd (keep_at HV.out hb1); replace HS := Hd (keep_at HS.out hb1); replace HL := Hd (keep_at HL.out hb1)); clear v0 v1 v2 v3 s0 s1 s2 s3 s4 s5 l0 l1 l2 l3 l4 l5 l6 l7 l8 l9 l10; clear hb1; (obtain ⟨v0, v1, v2, v3⟩ := cr4 HV.out; obtain ⟨s0, s1, s2, s3, s4, s5⟩ := cr6 HS.out; obtain ⟨l0, l1, l2, l3, l4, l5, l6, l7, l8, l9, l10⟩ := cr11 HL.out)))
     have HO := Lib.hid hO
     clear hO HOB
     go_upto_region 20 with (go_at_call 13; refine (HPB2.out _ HB.out oa cp HO.out).mono ?_; rintro e W2 ⟨⟨kept, rfl, hkept⟩, hb2⟩; have HO2 := Hd (HO.out.below hb2); have HBr := Hd (HBq.out.trans (hb2.mono HBq.out.size)); have HKE := Lib.hid hkept; clear hkept HO HBq; ((replace HB := Hd (HB.out.trans ((hb2).mono HB.out.size)); replace HV := Hd (keep_at HV.out hb2); replace HS := Hd (keep_at HS.out hb2); replace HL := Hd (keep_at HL.out hb2)); clear v0 v1 v2 v3 s0 s1 s2 s3 s4 s5 l0 l1 l2 l3 l4 l5 l6 l7 l8 l9 l10; clear hb2; (obtain ⟨v0, v1, v2, v3⟩ := cr4 HV.out; obtain ⟨s0, s1, s2, s3, s4, s5⟩ := cr6 HS.out; obtain ⟨l0, l1, l2, l3, l4, l5, l6, l7, l8, l9, l10⟩ := cr11 HL.out)))
     clear HPB2
     generalize wgt P kr (outL i b) = gw at *
     cases kept
     ·have hfb : Fx b = gw := by rw [HFB.out, if_pos (HKE.out rfl)]
      have HFC := Lib.hid hfb
      clear hfb HFB HKE
      go_wp2_with (go_at_call 14; refine (HWB.out _ _ _ HO2.out).mono ?_; rintro e W3 ⟨rfl, hb3⟩; have HBs := Hd (HBr.out.trans (hb3.mono HBr.out.size)); clear hb3)
      go_roundw
      case rel => exact ⟨b + 1, A + gw, by omega, by go_num, by go_num, Lib.hid ⟨by rw [HSB.out, HFC.out]; have := HI.out.1; omega, HBs.out⟩⟩
      case measure => simp [intOf]; omega
     ·clear HFB HKE
      go_wp2_with fail
      go_roundw
      case rel => exact ⟨b + 1, A, by omega, rfl, by go_num, Lib.hid ⟨by rw [HSB.out]; have := HI.out.1; omega, HBr.out⟩⟩
      case measure => simp [intOf]; omega
    ·obtain rfl : b = T := Nat.le_antisymm hb (Nat.le_of_not_lt hl)
     have hl' : ¬ (b : Int) < wrap64 ((2 : Int) ^ i) := by rw [hw2]; exact Int.lt_irrefl _
     have hfin : (A : Int) ≤ wrap64 ((Q : Int) / (lw : Int)) := by
      exact quo_wrap hQ0 (HEND.out A HI.out.1)
     clear hw2 HEND HOU HWT HWG HSU HPX HFX
     go_wp2_with (go_at_call 8; refine (HKN.out _).mono ?_; rintro e w2 ⟨rfl, hb2⟩; ((replace HB := Hd (HB.out.trans ((hb2).mono HB.out.size)); replace HV := Hd (keep_at HV.out hb2); replace HS := Hd (keep_at HS.out hb2); replace HL := Hd (keep_at HL.out hb2)); clear v0 v1 v2 v3 s0 s1 s2 s3 s4 s5 l0 l1 l2 l3 l4 l5 l6 l7 l8 l9 l10; clear hb2; (obtain ⟨v0, v1, v2, v3⟩ := cr4 HV.out; obtain ⟨s0, s1, s2, s3, s4, s5⟩ := cr6 HS.out; obtain ⟨l0, l1, l2, l3, l4, l5, l6, l7, l8, l9, l10⟩ := cr11 HL.out)))
     go_ret
     exact ⟨rfl, HB.out⟩
end Go.Proofs.YtgmpelhphnmknaaGreat
namespace Go.Proofs.YtgmpelhphnmknaaGreat
open Go Go.RowKit Go.Shelf
theorem Tc_rock (v : VO) (ga : Option Addr) (gn gc : Nat) (g : Nat → Int) (sa : Option Addr) (sn sc : Nat) (ss : Nat → SV) (bs : Nat → BM) (da : Option Addr) (dn dc : Nat) (d : Nat → Int) (s : SK) (tv : Value) (k : LQ) (sl lv : Value) (w : World) (hgn : gn ≤ maxLen) (hG : Ints w.heap.size w ga gn g) (hS : Spans w.heap.size w sa sn ss) (hD : Ints w.heap.size w da dn d) (hdn : dn ≤ maxLen) (hno : rockB v gn g sn ss bs dn d 200 = false) :
  Calls Tryz.prog 3 #[v.val, .slice ga gn gc, .slice sa sn sc, .slice da dn dc, .agg s.cells, tv, k.val, sl, lv] w fun e w' => e = .returned (.bool true) ∧ Below w.heap.size w w' := by
 have HRK := Hd (fun (W : World) (hb : Below w.heap.size w W) => rocky_any v ga gn gc g sa sn sc ss bs da dn dc d 200 W hgn ((hG.below hb).up hb.size) ((hS.below hb).up hb.size) ((hD.below hb).up hb.size) hdn)
 have HKN := Hd (fun (W : World) => known11_any W)
 rw [hno] at HRK
 obtain ⟨⟨rx, ry, rz, rdx, rdy, rdz⟩, bin, unit, rate, less, more⟩ := k
 obtain ⟨f1, f2, f3, f4⟩ := fx_three w (.cells #[.int .i64 v.nx, .int .i64 v.ny, .int .i64 v.nz, .int .i64 v.size] 23) (.cells s.cells 30) (.cells #[.int .i64 rx, .int .i64 ry, .int .i64 rz, .int .i64 rdx, .int .i64 rdy, .int .i64 rdz, .int .i64 bin, .int .i64 unit, .int .i64 rate, .int .i64 less, .int .i64 more] 35)
 have HB := Lib.hid f1
 obtain ⟨v0, v1, v2, v3⟩ := cr4 f2
 clear f1 f2 f3 f4 hG hS hD hno
 unfold VO.val LQ.val SK.cells at *
 dsimp only at *
 go_enter Tryz.func3, Tryz.ntmps3
 go_upto_region 1 with (fail)
 generalize World.alloc (World.alloc (World.alloc w _) _) _ = V at *
 go_wp2_with (first
  | (go_at_call 5; refine (HRK.out _ HB.out).mono ?_; rintro e W1 ⟨rfl, hb1⟩; have HB1 := Hd (HB.out.trans (hb1.mono HB.out.size)); clear hb1 v0 v1 v2 v3)
  | (go_at_call 8; refine (HKN.out _).mono ?_; rintro e W2 ⟨rfl, hb2⟩; have HB2 := Hd (HB1.out.trans (hb2.mono HB1.out.size)); clear hb2))
 go_ret
 exact ⟨rfl, HB2.out⟩
theorem TopConfident_any (v : VO) (ga : Option Addr) (gn gc : Nat) (g : Nat → Int) (sa : Option Addr) (sn sc : Nat) (ss : Nat → SV) (da : Option Addr) (dn dc : Nat) (d : Nat → Int) (s : SK) (ta : Option Addr) (tn tc : Nat) (t : Nat → RW) (k : LQ) (sl lv : Int) (w : World) (hgn : gn ≤ maxLen) (hG : Ints w.heap.size w ga gn g) (hS : Spans w.heap.size w sa sn ss) (hdn : dn ≤ maxLen) (hD : Ints w.heap.size w da dn d) (hSk : s.mem w.heap.size w) (hbn : s.bn ≤ maxLen) (hln : ∀ i, i < s.bn → s.ln i ≤ maxLen) (htn : tn ≤ maxLen) (hT : RWs w.heap.size w ta tn t) :
  Calls Tryz.prog 3 #[v.val, .slice ga gn gc, .slice sa sn sc, .slice da dn dc, .agg s.cells, .slice ta tn tc, k.val, .int .i64 sl, .int .i64 lv] w fun e w' => e = .returned (.bool true) ∧ Below w.heap.size w w' := by
 cases h : rockB v gn g sn ss (fun _ => se0) dn d 200
 ·exact Tc_rock v ga gn gc g sa sn sc ss _ da dn dc d s _ k _ _ w hgn hG hS hD hdn h
 ·exact Tc_any v ga gn gc g sa sn sc ss _ da dn dc d s ta tn tc t k sl lv w hgn hG hS hD hdn hSk hbn hln hT htn h
end Go.Proofs.YtgmpelhphnmknaaGreat
