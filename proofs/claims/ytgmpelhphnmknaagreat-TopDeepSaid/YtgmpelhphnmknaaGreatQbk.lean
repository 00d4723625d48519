/- Texts put together: ToTpG. -/
import Derived.Test.YtgmpelhphnmknaaGreatQbh
import Derived.Test.YtgmpelhphnmknaaGreatQbi
import Derived.Test.YtgmpelhphnmknaaGreatQbj
import Derived.Test.YtgmpelhphnmknaaGreatQam
set_option maxRecDepth 100000
set_option maxHeartbeats 8000000
set_option linter.unusedVariables false
set_option linter.unusedSimpArgs false
namespace Go.Proofs.YtgmpelhphnmknaaGreat
open Go Go.RowKit Go.Shelf
def LQs (B : Nat) (W : World) (a : Option Addr) (n : Nat) (L : Nat → LQ) : Prop := n = 0 ∨ ∃ b off, a = some ⟨b, off, none⟩ ∧ b < B ∧ ∀ i, i < n → W.cell? ⟨b, off + i * 11, none⟩ = some (.int .i64 (L i).r.x) ∧ W.cell? ⟨b, off + i * 11 + 1, none⟩ = some (.int .i64 (L i).r.y) ∧ W.cell? ⟨b, off + i * 11 + 2, none⟩ = some (.int .i64 (L i).r.z) ∧ W.cell? ⟨b, off + i * 11 + 3, none⟩ = some (.int .i64 (L i).r.dx) ∧ W.cell? ⟨b, off + i * 11 + 4, none⟩ = some (.int .i64 (L i).r.dy) ∧ W.cell? ⟨b, off + i * 11 + 5, none⟩ = some (.int .i64 (L i).r.dz) ∧ W.cell? ⟨b, off + i * 11 + 6, none⟩ = some (.int .i64 (L i).bin) ∧ W.cell? ⟨b, off + i * 11 + 7, none⟩ = some (.int .i64 (L i).unit) ∧ W.cell? ⟨b, off + i * 11 + 8, none⟩ = some (.int .i64 (L i).rate) ∧ W.cell? ⟨b, off + i * 11 + 9, none⟩ = some (.int .i64 (L i).less) ∧ W.cell? ⟨b, off + i * 11 + 10, none⟩ = some (.int .i64 (L i).more)
theorem LQs.below {B : Nat} {W W' : World} {a : Option Addr} {n : Nat} {L : Nat → LQ} (h : LQs B W a n L) (hb : Below B W W') : LQs B W' a n L := by
 rcases h with h | ⟨b, off, ha, hB, hc⟩
 ·exact .inl h
 ·have e := (bcell hb).1
  refine .inr ⟨b, off, ha, hB, fun i hi => ?_⟩
  simp only [e _ _ hB]
  exact hc i hi
theorem htkE_ToTpG {P : Program} {md : Region.Mode} {Q : Exit → Act → World → Prop} {S : World → Prop} {ops : Array Oper} {f : Nat} {listed : Array Bool} {a : Act} {w : World} {v : Value} {oi : Oper} {X : Prop} (i : Nat) (q : X) (hi : ops[i]? = some oi := by rfl) (hB : TkE md ops listed i = true := by kernel_rfl) (hQ : ∀ c a w, Q (.panic c) (a.put oi.dst v) w → Q (.panic c) a w := by exact fun _ _ _ h => h) (hy : YieldsIf P ops S oi v a := by (refine Or.inl ⟨by rfl, ?_⟩; intro w' hSw; (try dsimp only at hSw); have cc0 := (bcell hSw).1; (try simp only [hng]); go_simp; (try with_reducible rfl))) (hS : S w := by assumption) (hx : X → headH P md ops Q S ops.size (endL md ops Q) f (listed.setIfInBounds i true) (a.put oi.dst v) w := by (intro qq; refine hnm ?_; exact qq)) : headH P md ops Q S ops.size (endL md ops Q) (f + 1) listed a w := headH_takeE hi hB hQ hy hS (hx q)
theorem Td_any (v : VO) (ga : Option Addr) (gn gc : Nat) (g : Nat → Int) (sa : Option Addr) (sn sc : Nat) (ss : Nat → SV) (bs : Nat → BM) (da : Option Addr) (dn dc : Nat) (d : Nat → Int) (s : SK) (ta : Option Addr) (tn tc : Nat) (t : Nat → RW) (la : Option Addr) (ln lc : Nat) (L : Nat → LQ) (w : World) (hgn : gn ≤ maxLen) (hG : Ints w.heap.size w ga gn g) (hS : Spans w.heap.size w sa sn ss) (hD : Ints w.heap.size w da dn d) (hdn : dn ≤ maxLen) (hSk : s.mem w.heap.size w) (hbn : s.bn ≤ maxLen) (hln : ∀ i, i < s.bn → s.ln i ≤ maxLen) (hT : RWs w.heap.size w ta tn t) (htn : tn ≤ maxLen) (hL : LQs w.heap.size w la ln L) (hrk : rockB v gn g sn ss bs dn d 5000 = true) :
  Calls Tryz.prog 4 #[v.val, .slice ga gn gc, .slice sa sn sc, .slice da dn dc, .agg s.cells, .slice ta tn tc, .slice la ln lc] w fun e w' => e = .returned (.bool true) ∧ Below w.heap.size w w' := by
 have HRK := Hd (fun (W : World) (hb : Below w.heap.size w W) => rocky_any v ga gn gc g sa sn sc ss bs da dn dc d 5000 W hgn ((hG.below hb).up hb.size) ((hS.below hb).up hb.size) ((hD.below hb).up hb.size) hdn)
 have HSK := Hd (fun (W : World) (hb : Below w.heap.size w W) => r5Sky_any s w.heap.size W hb.size (hSk.below hb) hbn hln)
 have HRG := Hd (fun (W : World) (hb : Below w.heap.size w W) => r5Ranges_any ta tn tc t w.heap.size W hb.size htn (hT.below hb))
 have HKN := Hd (fun (W : World) => known11_any W)
 have HTD := Hd (fun (h1 : s.ok) (h2 : tn ≤ 40) (h3 : TabOk tn t) => show TdIn v ga gn g sa sn ss da dn d s ta tn t w from by
  unfold rockB at hrk
  simp only [Bool.and_eq_true, decide_eq_true_eq] at hrk
  obtain ⟨⟨⟨⟨⟨a1, a2⟩, a3⟩, a4⟩, a5⟩, a6⟩ := hrk
  exact ⟨a1, a2, a3, fun bs' => check_any a4, a6, hgn, hG, hS, hD, hdn, hSk, h1, hT, h2, h3⟩)
 rw [hrk] at HRK
 have HB := Hd (((Below.refl _ w).alloc (Nat.le_refl _) (.cells #[.int .i64 v.nx, .int .i64 v.ny, .int .i64 v.nz, .int .i64 v.size] 23)).alloc (by simp) (.cells s.cells 30))
 have HV := Hd ((Below.heap_alloc (w.alloc (.cells #[.int .i64 v.nx, .int .i64 v.ny, .int .i64 v.nz, .int .i64 v.size] 23)) (.cells s.cells 30) w.heap.size (by simp)).trans (heap_alloc_new w _))
 have e2 := heap_alloc_new (w.alloc (.cells #[.int .i64 v.nx, .int .i64 v.ny, .int .i64 v.nz, .int .i64 v.size] 23)) (.cells s.cells 30)
 rw [show (w.alloc (.cells #[.int .i64 v.nx, .int .i64 v.ny, .int .i64 v.nz, .int .i64 v.size] 23)).heap.size = w.heap.size + 1 from by simp] at e2
 have HS := Lib.hid e2
 clear e2
 unfold VO.val SK.cells at *
 go_enter Tryz.func4, Tryz.ntmps4
 go_upto_region 1 with (fail)
 generalize World.alloc (World.alloc w _) _ = V at *
 obtain ⟨v0, v1, v2, v3⟩ := cr4 HV.out
 go_upto_region 3 with (first
  | (go_at_call 5; refine (HRK.out _ HB.out).mono ?_; rintro e W1 ⟨rfl, hb1⟩; (replace HB := Hd (HB.out.trans ((hb1).mono HB.out.size)); replace HV := Hd (keep_at HV.out hb1); replace HS := Hd (keep_at HS.out hb1)); clear hb1 v0 v1 v2 v3; obtain ⟨s0, s1, s2, s3, s4, s5⟩ := cr6 HS.out)
  | (go_at_call 6; refine (HSK.out _ HB.out).mono ?_; rintro e W2 ⟨⟨rfl, hsk⟩ | rfl, hb2⟩ <;> ((replace HB := Hd (HB.out.trans ((hb2).mono HB.out.size)); replace HV := Hd (keep_at HV.out hb2); replace HS := Hd (keep_at HS.out hb2)); clear hb2 s0 s1 s2 s3 s4 s5))
  | (go_at_call 7; refine (HRG.out _ HB.out).mono ?_; rintro e W3 ⟨⟨rfl, htn40, htab⟩ | rfl, hb3⟩ <;> ((replace HB := Hd (HB.out.trans ((hb3).mono HB.out.size)); replace HV := Hd (keep_at HV.out hb3); replace HS := Hd (keep_at HS.out hb3)); clear hb3))
  | (go_at_call 8; refine (HKN.out _).mono ?_; rintro e W4 ⟨rfl, hb4⟩; (replace HB := Hd (HB.out.trans ((hb4).mono HB.out.size)); replace HV := Hd (keep_at HV.out hb4); replace HS := Hd (keep_at HS.out hb4)); clear hb4))
 any_goals (go_ret; exact ⟨rfl, HB.out⟩)
 clear HRK HSK HRG
 rename World => w3
 have hlen : ln ≤ 4 := by omega
 have HT := Hd (HTD.out hsk (by omega) htab)
 have HBN := Lib.hid hbn
 clear HTD hsk htab htn40 htn hbn hln
 have HW3 := Lib.hid HB.out.size
 have hmb := rk_below w3 (.cells #[.slice sa sn sc, .slice none 0 0] 59)
 have HST0 := Hd (show SnT w3.heap.size w3 sa sn sc [] (w3.alloc (.cells #[.slice sa sn sc, .slice none 0 0] 59)) from ⟨hmb, ⟨none, 0, heap_alloc_new w3 _, World.ownsRow_nil _ _ _ _⟩, fun p hp => by cases hp⟩)
 clear hmb
 go_upto_region 4 with (fail)
 generalize World.alloc w3 _ = V4 at *
 obtain ⟨mb, hmb⟩ : ∃ mb, w3.heap.size = mb := ⟨_, rfl⟩
 have HMB := Lib.hid hmb
 rw [hmb] at HST0
 (try rw [hmb])
 clear hmb
 have HL := Lib.hid hL
 have HSZ := Hd (show w.heap.size + 1 < w3.heap.size from (blkL HS.out))
 clear hL
 go_wp2
 go_loopw [16] (fun s16 wr => ∃ (i : Nat) (Lb : List BM), i ≤ ln ∧ s16 = .int .i64 (i : Int) ∧ Hid (Lb.length = i ∧ SnT mb w3 sa sn sc Lb wr ∧ agreesB i (fun j => Lb.getD j se0) d = true ∧ ∀ j, j < i → beamB sn (Lb.getD j se0) = true)) (fun s16 _ => ln - (intOf s16).toNat)
 case atStart => exact ⟨0, [], Nat.zero_le _, rfl, Lib.hid ⟨rfl, HST0.out, rfl, fun j hj => by omega⟩⟩
 case round =>
  clear HST0
  obtain ⟨i, Lb, hi, rfl, HI⟩ := hrel
  have HBr := Hd (HB.out.trans (HI.out.2.1.bel.mono (HMB.out ▸ HW3.out)))
  have HVr := Hd ((HI.out.2.1.bel.block _ (by have := HMB.out; have := HSZ.out; omega)).trans HV.out)
  have HSr := Hd ((HI.out.2.1.bel.block _ (by have := HMB.out; have := HSZ.out; omega)).trans HS.out)
  by_cases hl : i < ln
  -- DEV{
  ·have hl' : (i : Int) < (ln : Int) := by omega
   obtain ⟨lb, lo, rfl, hlB, hlc⟩ : ∃ lb lo, la = some ⟨lb, lo, none⟩ ∧ lb < w.heap.size ∧ _ := HL.out.resolve_left (by omega)
   have HLB := Hd (fun (W : World) (hk : ¬ (L i).ok s.bn) => looks_bad v (.slice ga gn gc) (.slice da dn dc) s (L i) W hk)
   have HLK := Hd (fun (W : World) (hk : (L i).ok s.bn) (m : Nat) (hM : IsM v (L i).r m) (hb : Below w.heap.size w W) => HT.out.looks gc dc (L i) hk m hM hb)
   have hlr : lb < wr.heap.size := by have := HBr.out.size; omega
   have hlc1 := hlc i hl
   have hlc2 := hlc i hl
   clear hlc
   simp only [← (bcell HBr.out).1 lb _ hlB] at hlc2
   generalize L i = k at *
   obtain ⟨⟨rx, ry, rz, rdx, rdy, rdz⟩, bin, unit, rate, less, more⟩ := k
   dsimp only at hlc1 hlc2
   have HLC := Hd (And.intro hlB hlc1)
   clear hlc1
   obtain ⟨l0, l1, l2, l3, l4, l5, l6, l7, l8, l9, l10⟩ := hlc2
   unfold VO.val LQ.val SK.cells at HLB HLK
   dsimp only at HLB HLK
   obtain ⟨v0, v1, v2, v3⟩ := cr4 HVr.out
   obtain ⟨s0, s1, s2, s3, s4, s5⟩ := cr6 HSr.out
   have hz0 : w.heap.size < wr.heap.size := (blkL HVr.out)
   have hz1 : w.heap.size + 1 < wr.heap.size := (blkL HSr.out)
   by_cases hk : LQ.ok ⟨⟨rx, ry, rz, rdx, rdy, rdz⟩, bin, unit, rate, less, more⟩ s.bn
   rotate_left
   ·have HLX := Hd (fun (W : World) => HLB.out W hk)
    clear HLB HLK
    go_upto_region 7 with (fail)
    (refine wp_region_calm (wr.heap.size) (by kernel_rfl) (by kernel_rfl) ?_; (repeat (first | go_big_quiet_step ((go_at_call 9; exact Calls.calm_of (Nat.le_refl _) (HLX.out _))) | quiet_step ((go_at_call 9; exact Calls.calm_of (Nat.le_refl _) (HLX.out _))))); refine wpQuiet_nil (wqn ?_); intro xq)
    have HBx := Hd (HBr.out.trans ((Calm.below xq).mono HBr.out.size))
    go_wp2_with (go_at_call 8; refine (HKN.out _).mono ?_; rintro e w2 ⟨rfl, hb2⟩; have HBy := Hd (HBx.out.trans (hb2.mono HBx.out.size)))
    go_ret
    exact ⟨rfl, HBy.out⟩
   ·obtain ⟨m, hM⟩ := isM_is HT.out.vol (rayB_iff.1 hk.ray)
    have HLX := Hd (fun (W : World) (hb : Below w.heap.size w W) => HLK.out W hk m hM hb)
    have HTR := Hd (HT.out.deep _ hk m hM)
    have HM := Lib.hid hM
    have HK := Lib.hid hk
    clear HLB HLK hM hk
    dsimp only at HLX HTR
    generalize hx : (opS d (prN v ⟨rx, ry, rz, rdx, rdy, rdz⟩ g (m + 1))).tdiv unit = x at *
    have HX := Lib.hid hx
    clear hx
    generalize hcb : (chB (prN v ⟨rx, ry, rz, rdx, rdy, rdz⟩ g (m + 1)) && decide (x < 1000000)) = cb at *
    cases cb
    ·clear HX HTR hcb
     go_upto_region 7 with (fail)
     (refine wp_region_calm (wr.heap.size) (by kernel_rfl) (by kernel_rfl) ?_; (repeat (first | go_big_quiet_step ((go_at_call 9; exact Calls.calm_of (Nat.le_refl _) (HLX.out _ (HBr.out.trans ((Calm.below _).mono HBr.out.size))))) | quiet_step ((go_at_call 9; exact Calls.calm_of (Nat.le_refl _) (HLX.out _ (HBr.out.trans ((Calm.below _).mono HBr.out.size))))))); refine wpQuiet_nil (wqn ?_); intro xq)
     have HBx := Hd (HBr.out.trans ((Calm.below xq).mono HBr.out.size))
     go_wp2_with (go_at_call 8; refine (HKN.out _).mono ?_; rintro e w2 ⟨rfl, hb2⟩; have HBy := Hd (HBx.out.trans (hb2.mono HBx.out.size)))
     go_ret
     exact ⟨rfl, HBy.out⟩
    rw [Bool.and_eq_true, decide_eq_true_eq] at hcb
    have HC := Lib.hid hcb
    have hxb : 0 ≤ x ∧ x < 1000000 := ⟨HTR.out.2.1, hcb.2⟩
    have HXB := Lib.hid hxb
    clear hcb
    go_upto_region 7 with (fail)
    (refine wp_region_calm (wr.heap.size) (by kernel_rfl) (by kernel_rfl) ?_; (repeat (first | go_big_quiet_step ((go_at_call 9; exact Calls.calm_of (Nat.le_refl _) (HLX.out _ (HBr.out.trans ((Calm.below _).mono HBr.out.size))))) | quiet_step ((go_at_call 9; exact Calls.calm_of (Nat.le_refl _) (HLX.out _ (HBr.out.trans ((Calm.below _).mono HBr.out.size))))))); refine wpQuiet_nil (wqn ?_); intro xq)
    have hb7 := Calm.below xq
    have HBx := Hd (HBr.out.trans (hb7.mono HBr.out.size))
    have HSTx := Hd (HI.out.2.1.step hb7)
    have HVx := Hd (keep_at HVr.out hb7)
    have HSx := Hd (keep_at HSr.out hb7)
    have hlrx := Nat.lt_of_lt_of_le hlr hb7.size
    clear v0 v1 v2 v3 s0 s1 s2 s3 s4 s5 l0 l1 l2 l3 l4 l5 l6 l7 l8 l9 l10 hz0 hz1 hlr hb7 HBr HVr HSr HLX
    generalize Calm.val xq = W7 at *
    clear xq
    obtain ⟨bn, rfl⟩ : ∃ bn : Nat, bin = (bn : Int) := ⟨bin.toNat, by have := HK.out.bin; dsimp only at this; omega⟩
    have hbn : bn < s.bn := by have := HK.out.bin; dsimp only at this; omega
    have HBNI := Lib.hid hbn
    have hz0 : w.heap.size < W7.heap.size := (blkL HVx.out)
    have hz1 : w.heap.size + 1 < W7.heap.size := (blkL HSx.out)
    have hlr := hlrx
    obtain ⟨v0, v1, v2, v3⟩ := cr4 (HVx).out; obtain ⟨s0, s1, s2, s3, s4, s5⟩ := cr6 (HSx).out
    (obtain ⟨l0, l1, l2, l3, l4, l5, l6, l7, l8, l9, l10⟩ := HLC.out.2; (simp only [← (bcell (HBx).out).1 lb _ HLC.out.1] at l0 l1 l2 l3 l4 l5 l6 l7 l8 l9 l10))
    go_upto_region 10 with (fail)
    go_cut [19, 20] from 66 to 214 (fun s19 s20 wx => ∃ bb, s19 = .pointer (some ⟨bb, 0, none⟩) ∧ s20 = .int .i64 0 ∧ Hid (SpBox W7.heap.size bb (eLo s tn t bn x) (eHi s tn t bn x) W7 wx))
    case first =>
     refine wp_region_any (by kernel_rfl) ?_
     change wpAny _ _ _ _ _ _ _ (World.drew W7)
     have hS0 : Below W7.heap.size W7 W7.drew := (Below.refl _ _).drew
     generalize World.drew W7 = Wd at *
     refine any_of_full 17 (fun w' => Below W7.heap.size W7 w') hS0 (fun hS => ?_)
     refine htkE_ToTpG 0 ?_
     refine htkE_ToTpG 1 ?_
     refine htkE_ToTpG 2 ?_
     refine htkE_ToTpG 3 ?_
     refine htkE_ToTpG 4 ?_
     refine htkE_ToTpG 5 ?_
     refine htkE_ToTpG 6 ?_
     refine htkE_ToTpG 7 ?_
     refine htkE_ToTpG 8 ?_
     refine headH_factsE (S := fun w' => Below W7.heap.size W7 w') (R := SpR 10) (G := SpG 10 W7.heap.size (eLo s tn t bn x) (eHi s tn t bn x) 0) [(9, some 97), (10, some 98), (11, some 87), (12, some 99), (13, some 100), (14, some 19), (15, none), (16, some 20)] (by kernel_rfl) (SpG.step (by kernel_rfl)) hS ?_ ?_
     ·clear hS hS0
      intro p hp xs W hS hd A hA
      replace hA := Lib.hid hA
      simp only [List.mem_cons, List.not_mem_nil, or_false] at hp
      rcases hp with rfl | rfl | rfl | rfl | rfl | rfl | rfl | rfl
      ·have k96 := (hA.out ▸ (putL_out (d := 96) rfl).trans rfl : A.tmps[96]? = some _)
       refine FactOp.intro rfl (fun K hK => ?_); dsimp only
       go_simp
       obtain ⟨h1, h2⟩ := sp_alloc (c := 10) (i := 9) (o := spellRow) (by decide) hS
       exact hK.out _ _ h1 h2 ((SpG.sl rfl).2 ⟨_, rfl, heap_alloc_new W _⟩)
      ·obtain ⟨sb, e9, hsb⟩ := (SpG.sl rfl).1 (hd 9 (by kernel_rfl))
       have k97 : A.tmps[97]? = some (xs 9) := hA.out ▸ putL_at (i := 9) (d := 97) rfl (of_decide_eq_true (by kernel_rfl))
       rw [e9] at k97
       have k88 := (hA.out ▸ (putL_out (d := 88) rfl).trans rfl : A.tmps[88]? = some _)
       have k89 := (hA.out ▸ (putL_out (d := 89) rfl).trans rfl : A.tmps[89]? = some _)
       have k94 := (hA.out ▸ (putL_out (d := 94) rfl).trans rfl : A.tmps[94]? = some _)
       have k95 := (hA.out ▸ (putL_out (d := 95) rfl).trans rfl : A.tmps[95]? = some _)
       refine FactOp.intro rfl (fun K hK => ?_); dsimp only
       go_simp
       refine (HT.out.mean tc (HBx.out.trans (hS.mono HBx.out.size)) hsb HBNI.out (x := x) (by have := HXB.out; omega)).mono ?_
       rintro e W' ⟨rfl, hb⟩
       obtain ⟨h1, h2⟩ := sp_call (c := 10) (i := 10) (by decide) hS (hb)
       exact hK.out _ _ h1 h2 ((SpG.cl (.inl rfl)).2 rfl)
      ·(have e1 := (SpG.cl (.inl rfl)).1 (hd 10 (by kernel_rfl)); have k98 : A.tmps[98]? = some (xs 10) := hA.out ▸ putL_at (i := 10) (d := 98) rfl (of_decide_eq_true (by kernel_rfl)); rw [e1] at k98; refine FactOp.intro rfl (fun K hK => ?_); dsimp only; go_simp; obtain ⟨h1, h2⟩ := sp_call (c := 10) (i := 11) (by decide) hS (Below.refl _ W))
       exact hK.out _ _ h1 h2 ((SpG.cl (.inr rfl)).2 rfl)
      ·(have e1 := (SpG.cl (.inr rfl)).1 (hd 11 (by kernel_rfl)); have k87 : A.tmps[87]? = some (xs 11) := hA.out ▸ putL_at (i := 11) (d := 87) rfl (of_decide_eq_true (by kernel_rfl)); rw [e1] at k87; refine FactOp.intro rfl (fun K hK => ?_); dsimp only; go_simp; obtain ⟨h1, h2⟩ := sp_call (c := 10) (i := 12) (by decide) hS (Below.refl _ W))
       exact hK.out _ _ h1 h2 ((SpG.ex rfl).2 rfl)
      ·(have e1 := (SpG.cl (.inr rfl)).1 (hd 11 (by kernel_rfl)); have k87 : A.tmps[87]? = some (xs 11) := hA.out ▸ putL_at (i := 11) (d := 87) rfl (of_decide_eq_true (by kernel_rfl)); rw [e1] at k87; refine FactOp.intro rfl (fun K hK => ?_); dsimp only; go_simp; obtain ⟨h1, h2⟩ := sp_call (c := 10) (i := 13) (by decide) hS (Below.refl _ W))
       exact hK.out _ _ h1 h2 ((SpG.er (.inl rfl)).2 rfl)
      ·refine FactOp.intro rfl (fun K hK => ?_); dsimp only
       go_simp
       obtain ⟨h1, h2⟩ := sp_alloc (c := 10) (i := 14) (o := spanRow (.int .i64 0) (.int .i64 0)) (by decide) hS
       exact hK.out _ _ h1 h2 ((SpG.al rfl).2 ⟨_, _, _, rfl, hS.size, heap_alloc_new W _⟩)
      ·(obtain ⟨bb, y0, y1, e14, hbb, hbx⟩ := (SpG.al rfl).1 (hd 14 (by kernel_rfl)); have e12 := (SpG.ex rfl).1 (hd 12 (by kernel_rfl)); have k19 : A.tmps[19]? = some (xs 14) := hA.out ▸ putL_at (i := 14) (d := 19) rfl (of_decide_eq_true (by kernel_rfl)); rw [e14] at k19; have k99 : A.tmps[99]? = some (xs 12) := hA.out ▸ putL_at (i := 12) (d := 99) rfl (of_decide_eq_true (by kernel_rfl)); rw [e12] at k99; obtain ⟨q0, q1⟩ := cr2 hbx; obtain ⟨r0, r1⟩ := fr2 hbx; refine FactOp.intro rfl (fun K hK => ?_); dsimp only; go_simp; obtain ⟨h1, h2, h3⟩ := sp_store (c := 10) (u := .int .i64 (eLo s tn t bn x)) (v := .int .i64 (eHi s tn t bn x)) hS hbb hbx; exact hK.out undef _ h1 h2 ((SpG.st rfl).2 ⟨bb, e14, hbb, h3⟩))
      ·have e13 := (SpG.er (.inl rfl)).1 (hd 13 (by kernel_rfl))
       have k100 : A.tmps[100]? = some (xs 13) := hA.out ▸ putL_at (i := 13) (d := 100) rfl (of_decide_eq_true (by kernel_rfl))
       rw [e13] at k100
       refine FactOp.intro rfl (fun K hK => ?_); dsimp only
       go_simp
       obtain ⟨h1, h2⟩ := sp_call (c := 10) (i := 16) (by decide) hS (Below.refl _ W)
       exact hK.out _ _ h1 h2 ((SpG.er (.inr rfl)).2 rfl)
     ·(clear hS hS0; intro xs W hS hg; obtain ⟨bb, e14, hbb, hbx⟩ := (SpG.st rfl).1 (hg (15, none) (by simp)); have e16 := (SpG.er (.inr rfl)).1 (hg (16, some 20) (by simp)); simp only [putL, Act.put, setAll, List.setIfInBounds_toArray, List.set_cons_zero, List.set_cons_succ, e14, e16]; refine ⟨by kernel_rfl, ?_⟩; go_wp2_with fail; go_meet; exact ⟨bb, rfl, rfl, Lib.hid ⟨hbb, hS, hbx⟩⟩)
    case rest =>
    obtain ⟨bb, rfl, rfl, HE⟩ := hcut
    rename World => wx
    have hb10 := HE.out.2.1
    have HBy := Hd (HBx.out.trans (hb10.mono HBx.out.size))
    have HSTy := Hd (HSTx.out.step hb10)
    have HVy := Hd (keep_at HVx.out hb10)
    have HSy := Hd (keep_at HSx.out hb10)
    have hlry := Nat.lt_of_lt_of_le hlr hb10.size
    have b0 : wx.cell? ⟨bb, 0, none⟩ = some (.int .i64 (eLo s tn t bn x)) := cell_of_row _ _ 0 _ _ _ HE.out.2.2
    have b1 : wx.cell? ⟨bb, 1, none⟩ = some (.int .i64 (eHi s tn t bn x)) := cell_of_row _ _ 1 _ _ _ HE.out.2.2
    have hbz := (blkL HE.out.2.2)
    have hexp := HT.out.exp hbn x
    have HEX := Lib.hid hexp
    have hP := HT.out.sok.parts
    have HEO := Hd (fun (L H : Int) (h1 : eLo s tn t bn x ≤ H) (h2 : L ≤ eHi s tn t bn x) => HT.out.span hbn (x := x) (by have := HXB.out; omega) h1 h2)
    have HOC := Hd (fun (W : World) (hb : Below w.heap.size w W) (sb : Nat) (hs : W.heap[sb]? = some spellRow) (L H : Int) (hr : 0 ≤ L ∧ L ≤ H ∧ H ≤ s.P) (h1 : eLo s tn t bn x ≤ H) (h2 : L ≤ eHi s tn t bn x) => HT.out.opac_has tc hb hs hbn hr (x := x) (by have := HXB.out; omega) h1 h2)
    clear v0 v1 v2 v3 s0 s1 s2 s3 s4 s5 l0 l1 l2 l3 l4 l5 l6 l7 l8 l9 l10 hz0 hz1 hlr hlrx hb10 HBx HVx HSx HSTx HE
    generalize eLo s tn t bn x = el at *
    generalize eHi s tn t bn x = eh at *
    have hz0 : w.heap.size < wx.heap.size := (blkL HVy.out)
    have hz1 : w.heap.size + 1 < wx.heap.size := (blkL HSy.out)
    have hlr := hlry
    obtain ⟨v0, v1, v2, v3⟩ := cr4 (HVy).out; obtain ⟨s0, s1, s2, s3, s4, s5⟩ := cr6 (HSy).out
    (obtain ⟨l0, l1, l2, l3, l4, l5, l6, l7, l8, l9, l10⟩ := HLC.out.2; (simp only [← (bcell (HBy).out).1 lb _ HLC.out.1] at l0 l1 l2 l3 l4 l5 l6 l7 l8 l9 l10))
    have t1 : ¬ el < 0 := by omega
    have t2 : ¬ eh < el := by omega
    have t3 : ¬ s.P < eh := by omega
    go_upto_region 13 with (fail)
    clear t1 t2 t3
    have HOF := Hd (fun (W : World) => of_any el eh rate W (by omega) (by have := HK.out.rate; dsimp only at this; omega))
    (refine wp_region_calm (wx.heap.size) (by kernel_rfl) (by kernel_rfl) ?_; (repeat (first | go_big_quiet_step ((go_at_call 11; exact Calls.calm_of (Nat.le_refl _) (HOF.out _))) | quiet_step ((go_at_call 11; exact Calls.calm_of (Nat.le_refl _) (HOF.out _))))); refine wpQuiet_nil (wqn ?_); intro xq)
    have hb13 := Calm.below xq
    have HBz := Hd (HBy.out.trans (hb13.mono HBy.out.size))
    have HSTz := Hd (HSTy.out.step hb13)
    have HVz := Hd (keep_at HVy.out hb13)
    have HSz := Hd (keep_at HSy.out hb13)
    have hlrz := Nat.lt_of_lt_of_le hlr hb13.size
    have hk13 := ofF_range (lo := el) (hi := eh) (p := rate) (by omega) (by have := HK.out.rate; dsimp only at this; omega)
    clear v0 v1 v2 v3 s0 s1 s2 s3 s4 s5 l0 l1 l2 l3 l4 l5 l6 l7 l8 l9 l10 hz0 hz1 hlr hlry hb13 HBy HVy HSy HSTy HOF b0 b1 hbz
    generalize Calm.val xq = W13 at *
    clear xq
    generalize ofF el eh rate = k at *
    have hz0 : w.heap.size < W13.heap.size := (blkL HVz.out)
    have hz1 : w.heap.size + 1 < W13.heap.size := (blkL HSz.out)
    have hlr := hlrz
    obtain ⟨v0, v1, v2, v3⟩ := cr4 (HVz).out; obtain ⟨s0, s1, s2, s3, s4, s5⟩ := cr6 (HSz).out
    (obtain ⟨l0, l1, l2, l3, l4, l5, l6, l7, l8, l9, l10⟩ := HLC.out.2; (simp only [← (bcell (HBz).out).1 lb _ HLC.out.1] at l0 l1 l2 l3 l4 l5 l6 l7 l8 l9 l10))
    have hls := HK.out.less
    have hmr := HK.out.more
    dsimp only at hls hmr
    go_upto_region 14 with (fail)
    obtain ⟨rl, hrl⟩ : ∃ rl, k - min less k = rl := ⟨_, rfl⟩
    obtain ⟨rh, hrh⟩ : ∃ rh, k + min more (s.P - k) = rh := ⟨_, rfl⟩
    have HRL := Hd (show IntKind.i64.wrap (k - min less k) = rl from by rw [hrl]; exact IntWalk.i64_in _ (by omega))
    have HRH := Hd (show IntKind.i64.wrap (k + min more (IntKind.i64.wrap (s.P - k))) = rh from by rw [show IntKind.i64.wrap (s.P - k) = s.P - k from IntWalk.i64_in _ (by omega), hrh]; exact IntWalk.i64_in _ (by omega))
    have HRR := Hd (show (0 ≤ rl ∧ rl ≤ rh ∧ rh ≤ s.P) ∧ el ≤ rh ∧ rl ≤ eh from by omega)
    clear hrl hrh
    go_cut [22, 23] from 66 to 214 (fun s22 s23 wx => ∃ bb, s22 = .pointer (some ⟨bb, 0, none⟩) ∧ s23 = .int .i64 0 ∧ Hid (SpBox W13.heap.size bb (oLo s tn t bn rl rh) (oHi s tn t bn rl rh) W13 wx))
    case first =>
     refine wp_region_any (by kernel_rfl) ?_
     change wpAny _ _ _ _ _ _ _ (World.drew W13)
     have hS0 : Below W13.heap.size W13 W13.drew := (Below.refl _ _).drew
     generalize World.drew W13 = Wd at *
     refine any_of_full 38 (fun w' => Below W13.heap.size W13 w') hS0 (fun hS => ?_)
     refine htkE_ToTpG 0 ?_
     refine htkE_ToTpG 1 ?_
     refine htkE_ToTpG 2 ?_
     refine htkE_ToTpG 3 ?_
     refine htkE_ToTpG 4 ?_
     refine htkE_ToTpG 5 ?_
     refine htkE_ToTpG 6 ?_
     refine htkE_ToTpG 7 ?_
     refine htkE_ToTpG 8 ?_
     refine htkE_ToTpG 9 ?_
     refine htkE_ToTpG 10 ?_
     refine htkE_ToTpG 11 ?_
     refine htkE_ToTpG 12 ?_
     refine htkE_ToTpG 13 ?_
     refine htkE_ToTpG 14 ?_
     refine htkE_ToTpG 15 ?_
     refine htkE_ToTpG 16 ?_
     refine htkE_ToTpG 17 ?_
     refine htkE_ToTpG 18 ?_
     refine htkE_ToTpG 19 ?_
     refine htkE_ToTpG 20 ?_
     refine htkE_ToTpG 21 ?_
     refine htkE_ToTpG 22 ?_
     refine htkE_ToTpG 23 ?_
     refine htkE_ToTpG 24 ?_
     refine htkE_ToTpG 25 ?_
     refine htkE_ToTpG 26 ?_
     refine htkE_ToTpG 27 ?_
     refine htkE_ToTpG 28 ?_
     refine htkE_ToTpG 29 ?_
     refine headH_factsE (S := fun w' => Below W13.heap.size W13 w') (R := SpR 31) (G := SpG 31 W13.heap.size (oLo s tn t bn rl rh) (oHi s tn t bn rl rh) 0) [(30, some 160), (31, some 161), (32, some 129), (33, some 162), (34, some 163), (35, some 22), (36, none), (37, some 23)] (by kernel_rfl) (SpG.step (by kernel_rfl)) hS ?_ ?_
     ·clear hS hS0
      intro p hp xs W hS hd A hA
      replace hA := Lib.hid hA
      simp only [List.mem_cons, List.not_mem_nil, or_false] at hp
      rcases hp with rfl | rfl | rfl | rfl | rfl | rfl | rfl | rfl
      ·have k159 := (hA.out ▸ (putL_out (d := 159) rfl).trans rfl : A.tmps[159]? = some _)
       refine FactOp.intro rfl (fun K hK => ?_); dsimp only
       go_simp
       obtain ⟨h1, h2⟩ := sp_alloc (c := 31) (i := 30) (o := spellRow) (by decide) hS
       exact hK.out _ _ h1 h2 ((SpG.sl rfl).2 ⟨_, rfl, heap_alloc_new W _⟩)
      ·obtain ⟨sb, e9, hsb⟩ := (SpG.sl rfl).1 (hd 30 (by kernel_rfl))
       have k160 : A.tmps[160]? = some (xs 30) := hA.out ▸ putL_at (i := 30) (d := 160) rfl (of_decide_eq_true (by kernel_rfl))
       rw [e9] at k160
       have k130 := (hA.out ▸ (putL_out (d := 130) rfl).trans rfl : A.tmps[130]? = some _)
       have k131 := (hA.out ▸ (putL_out (d := 131) rfl).trans rfl : A.tmps[131]? = some _)
       have k136 := (hA.out ▸ (putL_out (d := 136) rfl).trans rfl : A.tmps[136]? = some _)
       have k158 := (hA.out ▸ (putL_out (d := 158) rfl).trans rfl : A.tmps[158]? = some _)
       simp only [List.getElem_toArray, List.getElem_cons_succ, List.getElem_cons_zero, HRL.out, HRH.out] at k158
       refine FactOp.intro rfl (fun K hK => ?_); dsimp only
       go_simp
       refine (HOC.out _ (HBz.out.trans (hS.mono HBz.out.size)) _ hsb _ _ HRR.out.1 HRR.out.2.1 HRR.out.2.2).mono ?_
       rintro e W' ⟨rfl, hb⟩
       obtain ⟨h1, h2⟩ := sp_call (c := 31) (i := 31) (by decide) hS (hb)
       exact hK.out _ _ h1 h2 ((SpG.cl (.inl rfl)).2 rfl)
      ·(have e1 := (SpG.cl (.inl rfl)).1 (hd 31 (by kernel_rfl)); have k161 : A.tmps[161]? = some (xs 31) := hA.out ▸ putL_at (i := 31) (d := 161) rfl (of_decide_eq_true (by kernel_rfl)); rw [e1] at k161; refine FactOp.intro rfl (fun K hK => ?_); dsimp only; go_simp; obtain ⟨h1, h2⟩ := sp_call (c := 31) (i := 32) (by decide) hS (Below.refl _ W))
       exact hK.out _ _ h1 h2 ((SpG.cl (.inr rfl)).2 rfl)
      ·(have e1 := (SpG.cl (.inr rfl)).1 (hd 32 (by kernel_rfl)); have k129 : A.tmps[129]? = some (xs 32) := hA.out ▸ putL_at (i := 32) (d := 129) rfl (of_decide_eq_true (by kernel_rfl)); rw [e1] at k129; refine FactOp.intro rfl (fun K hK => ?_); dsimp only; go_simp; obtain ⟨h1, h2⟩ := sp_call (c := 31) (i := 33) (by decide) hS (Below.refl _ W))
       exact hK.out _ _ h1 h2 ((SpG.ex rfl).2 rfl)
      ·(have e1 := (SpG.cl (.inr rfl)).1 (hd 32 (by kernel_rfl)); have k129 : A.tmps[129]? = some (xs 32) := hA.out ▸ putL_at (i := 32) (d := 129) rfl (of_decide_eq_true (by kernel_rfl)); rw [e1] at k129; refine FactOp.intro rfl (fun K hK => ?_); dsimp only; go_simp; obtain ⟨h1, h2⟩ := sp_call (c := 31) (i := 34) (by decide) hS (Below.refl _ W))
       exact hK.out _ _ h1 h2 ((SpG.er (.inl rfl)).2 rfl)
      ·refine FactOp.intro rfl (fun K hK => ?_); dsimp only
       go_simp
       obtain ⟨h1, h2⟩ := sp_alloc (c := 31) (i := 35) (o := spanRow (.int .i64 0) (.int .i64 0)) (by decide) hS
       exact hK.out _ _ h1 h2 ((SpG.al rfl).2 ⟨_, _, _, rfl, hS.size, heap_alloc_new W _⟩)
      ·(obtain ⟨bb, y0, y1, e14, hbb, hbx⟩ := (SpG.al rfl).1 (hd 35 (by kernel_rfl)); have e12 := (SpG.ex rfl).1 (hd 33 (by kernel_rfl)); have k22 : A.tmps[22]? = some (xs 35) := hA.out ▸ putL_at (i := 35) (d := 22) rfl (of_decide_eq_true (by kernel_rfl)); rw [e14] at k22; have k162 : A.tmps[162]? = some (xs 33) := hA.out ▸ putL_at (i := 33) (d := 162) rfl (of_decide_eq_true (by kernel_rfl)); rw [e12] at k162; obtain ⟨q0, q1⟩ := cr2 hbx; obtain ⟨r0, r1⟩ := fr2 hbx; refine FactOp.intro rfl (fun K hK => ?_); dsimp only; go_simp; obtain ⟨h1, h2, h3⟩ := sp_store (c := 31) (u := .int .i64 (oLo s tn t bn rl rh)) (v := .int .i64 (oHi s tn t bn rl rh)) hS hbb hbx; exact hK.out undef _ h1 h2 ((SpG.st rfl).2 ⟨bb, e14, hbb, h3⟩))
      ·have e13 := (SpG.er (.inl rfl)).1 (hd 34 (by kernel_rfl))
       have k163 : A.tmps[163]? = some (xs 34) := hA.out ▸ putL_at (i := 34) (d := 163) rfl (of_decide_eq_true (by kernel_rfl))
       rw [e13] at k163
       refine FactOp.intro rfl (fun K hK => ?_); dsimp only
       go_simp
       obtain ⟨h1, h2⟩ := sp_call (c := 31) (i := 37) (by decide) hS (Below.refl _ W)
       exact hK.out _ _ h1 h2 ((SpG.er (.inr rfl)).2 rfl)
     ·(clear hS hS0; intro xs W hS hg; obtain ⟨bb, e14, hbb, hbx⟩ := (SpG.st rfl).1 (hg (36, none) (by simp)); have e16 := (SpG.er (.inr rfl)).1 (hg (37, some 23) (by simp)); simp only [putL, Act.put, setAll, List.setIfInBounds_toArray, List.set_cons_zero, List.set_cons_succ, e14, e16]; refine ⟨by kernel_rfl, ?_⟩; go_wp2_with fail; go_meet; exact ⟨bb, rfl, rfl, Lib.hid ⟨hbb, hS, hbx⟩⟩)
    case rest =>
    obtain ⟨ob, rfl, rfl, HE⟩ := hcut
    rename World => wy
    have hb14 := HE.out.2.1
    have HBu := Hd (HBz.out.trans (hb14.mono HBz.out.size))
    have HSTu := Hd (HSTz.out.step hb14)
    have HVu := Hd (keep_at HVz.out hb14)
    have HSu := Hd (keep_at HSz.out hb14)
    have hlru := Nat.lt_of_lt_of_le hlr hb14.size
    have b0 : wy.cell? ⟨ob, 0, none⟩ = some (.int .i64 (oLo s tn t bn rl rh)) := cell_of_row _ _ 0 _ _ _ HE.out.2.2
    have b1 : wy.cell? ⟨ob, 1, none⟩ = some (.int .i64 (oHi s tn t bn rl rh)) := cell_of_row _ _ 1 _ _ _ HE.out.2.2
    have hbz := (blkL HE.out.2.2)
    have hop := HEO.out rl rh HRR.out.2.1 HRR.out.2.2
    clear v0 v1 v2 v3 s0 s1 s2 s3 s4 s5 l0 l1 l2 l3 l4 l5 l6 l7 l8 l9 l10 hz0 hz1 hlr hlrz hb14 HBz HVz HSz HSTz HE HRL HRH HRR HEO HOC hk13 hls hmr hexp HEX
    generalize oLo s tn t bn rl rh = ol at *
    generalize oHi s tn t bn rl rh = oh at *
    have hz0 : w.heap.size < wy.heap.size := (blkL HVu.out)
    have hz1 : w.heap.size + 1 < wy.heap.size := (blkL HSu.out)
    have hlr := hlru
    obtain ⟨v0, v1, v2, v3⟩ := cr4 (HVu).out; obtain ⟨s0, s1, s2, s3, s4, s5⟩ := cr6 (HSu).out
    (obtain ⟨l0, l1, l2, l3, l4, l5, l6, l7, l8, l9, l10⟩ := HLC.out.2; (simp only [← (bcell (HBu).out).1 lb _ HLC.out.1] at l0 l1 l2 l3 l4 l5 l6 l7 l8 l9 l10))
    have t1 : ¬ x < ol := by omega
    have t2 : ¬ oh < x := by omega
    have t3 : ¬ ol < 0 := by omega
    have t4 : ¬ (1000000 : Int) < oh := by omega
    go_upto_region 17 with (fail)
    clear t1 t2 t3 t4
    have hun := HK.out.unit
    dsimp only at hun
    have HSM := Hd (sums_hold (o := opS d (prN v ⟨rx, ry, rz, rdx, rdy, rdz⟩ g (m + 1))) (u := unit) (lo := ol) (hi := oh) HTR.out.1 hun HX.out hop.2.1 hop.2.2.1 HC.out.2)
    have HSU := Hd (fun (W : World) => Sums_any ol oh unit W (by omega) (by omega) hun)
    have HSR := Hd (sum_ok (u := unit) (lo := ol) (hi := oh) (by omega) hun)
    have HSH := Hd (fun (W : World) (hb : Below w.heap.size w W) => HT.out.shine gc ⟨rx, ry, rz, rdx, rdy, rdz⟩ HK.out.ray (ol * unit) (smHi oh unit) HSR.out hb)
    unfold binV at HSU
    unfold VO.val RY.val at HSH
    dsimp only at HSH
    generalize hsl : ol * unit = sl at *
    generalize hsh : smHi oh unit = sh at *
    have HSO := Hd (And.intro hsl hsh)
    clear hsl hsh
    go_cut [24, 25] from 66 to 214 (fun s24 s25 wx => ∃ bb, s24 = .pointer (some ⟨bb, 0, none⟩) ∧ s25 = .int .i64 0 ∧ Hid (BmBox v ⟨rx, ry, rz, rdx, rdy, rdz⟩ g m wy.heap.size bb sl sh wy wx))
    case first =>
     refine wp_region_any (by kernel_rfl) ?_
     change wpAny _ _ _ _ _ _ _ (World.drew wy)
     have hS0 : Below wy.heap.size wy wy.drew := (Below.refl _ _).drew
     generalize World.drew wy = Wd at *
     refine any_of_full 22 (fun w' => Below wy.heap.size wy w') hS0 (fun hS => ?_)
     refine htkE_ToTpG 0 ?_
     refine htkE_ToTpG 1 ?_
     refine htkE_ToTpG 2 ?_
     refine htkE_ToTpG 3 ?_
     refine htkE_ToTpG 4 ?_
     refine htkE_ToTpG 5 ?_
     refine htkE_ToTpG 6 ?_
     refine htkE_ToTpG 7 ?_
     refine htkE_ToTpG 8 ?_
     refine htkE_ToTpG 9 ?_
     refine htkE_ToTpG 10 ?_
     refine htkE_ToTpG 11 ?_
     refine htkE_ToTpG 12 ?_
     refine htkE_ToTpG 13 ?_
     refine headH_factsE (S := fun w' => Below wy.heap.size wy w') (R := BmR 15) (G := BmG v ⟨rx, ry, rz, rdx, rdy, rdz⟩ g m 15 wy.heap.size sl sh) [(14, some 203), (15, some 204), (16, some 188), (17, some 205), (18, some 206), (19, some 24), (20, none), (21, some 25)] (by kernel_rfl) (BmG.step (by kernel_rfl)) hS ?_ ?_
     ·clear hS hS0
      intro p hp xs W hS hd A hA
      replace hA := Lib.hid hA
      simp only [List.mem_cons, List.not_mem_nil, or_false] at hp
      rcases hp with rfl | rfl | rfl | rfl | rfl | rfl | rfl | rfl
      ·have k201 := (hA.out ▸ (putL_out (d := 201) rfl).trans rfl : A.tmps[201]? = some _)
       have k202 := (hA.out ▸ (putL_out (d := 202) rfl).trans rfl : A.tmps[202]? = some _)
       refine FactOp.intro rfl (fun K hK => ?_); dsimp only
       go_simp
       refine (HSU.out _).mono ?_
       rintro e W' ⟨rfl, hb⟩
       obtain ⟨h1, h2⟩ := bm_call (c := 15) (i := 14) (by decide) hS (hb)
       exact hK.out _ _ h1 h2 ((BmG.sm rfl).2 rfl)
      ·have e14 := (BmG.sm rfl).1 (hd 14 (by kernel_rfl))
       have k203 : A.tmps[203]? = some (xs 14) := hA.out ▸ putL_at (i := 14) (d := 203) rfl (of_decide_eq_true (by kernel_rfl))
       rw [e14] at k203
       have k189 := (hA.out ▸ (putL_out (d := 189) rfl).trans rfl : A.tmps[189]? = some _)
       have k190 := (hA.out ▸ (putL_out (d := 190) rfl).trans rfl : A.tmps[190]? = some _)
       have k195 := (hA.out ▸ (putL_out (d := 195) rfl).trans rfl : A.tmps[195]? = some _)
       refine FactOp.intro rfl (fun K hK => ?_); dsimp only
       go_simp
       refine (HSH.out _ (HBu.out.trans (hS.mono HBu.out.size))).mono ?_
       rintro e W' ⟨m', S, hM', hp, hs, hb, hres⟩
       obtain rfl := isM_eq hM' HM.out
       rcases hres with ⟨hle, ca, cc, wa, wc, rfl, ho1, ho2⟩ | ⟨⟨y, hy1, hy2⟩, rfl⟩
       ·obtain ⟨h1, h2⟩ := bm_call (c := 15) (i := 15) (by decide) hS (hb)
        exact hK.out _ _ h1 h2 ((BmG.cl (.inl rfl)).2 ⟨S, ca, cc, wa, wc, rfl, hp, hs, own_base ho1 hS.size, own_base ho2 hS.size⟩)
       ·have h3 := HC.out.1
        unfold chB at h3
        have h4 := List.all_eq_true.1 h3 y (hp.mem_iff.1 hy1)
        rw [decide_eq_true_eq] at h4
        omega
      ·obtain ⟨S, ca, cc, wa, wc, e1, hf⟩ := (BmG.cl (.inl rfl)).1 (hd 15 (by kernel_rfl))
       have k204 : A.tmps[204]? = some (xs 15) := hA.out ▸ putL_at (i := 15) (d := 204) rfl (of_decide_eq_true (by kernel_rfl))
       rw [e1] at k204
       refine FactOp.intro rfl (fun K hK => ?_); dsimp only
       go_simp
       obtain ⟨h1, h2⟩ := bm_call (c := 15) (i := 16) (by decide) hS (Below.refl _ W)
       exact hK.out _ _ h1 h2 ((BmG.cl (.inr rfl)).2 ⟨S, ca, cc, wa, wc, rfl, hf⟩)
      ·obtain ⟨S, ca, cc, wa, wc, e1, hf⟩ := (BmG.cl (.inr rfl)).1 (hd 16 (by kernel_rfl))
       have k188 : A.tmps[188]? = some (xs 16) := hA.out ▸ putL_at (i := 16) (d := 188) rfl (of_decide_eq_true (by kernel_rfl))
       rw [e1] at k188
       refine FactOp.intro rfl (fun K hK => ?_); dsimp only
       go_simp
       obtain ⟨h1, h2⟩ := bm_call (c := 15) (i := 17) (by decide) hS (Below.refl _ W)
       exact hK.out _ _ h1 h2 ((BmG.ex rfl).2 ⟨S, ca, cc, wa, wc, rfl, hf⟩)
      ·obtain ⟨S, ca, cc, wa, wc, e1, hf⟩ := (BmG.cl (.inr rfl)).1 (hd 16 (by kernel_rfl))
       have k188 : A.tmps[188]? = some (xs 16) := hA.out ▸ putL_at (i := 16) (d := 188) rfl (of_decide_eq_true (by kernel_rfl))
       rw [e1] at k188
       refine FactOp.intro rfl (fun K hK => ?_); dsimp only
       go_simp
       obtain ⟨h1, h2⟩ := bm_call (c := 15) (i := 18) (by decide) hS (Below.refl _ W)
       exact hK.out _ _ h1 h2 ((BmG.er (.inl rfl)).2 rfl)
      ·refine FactOp.intro rfl (fun K hK => ?_); dsimp only
       go_simp
       obtain ⟨h1, h2⟩ := bm_alloc (c := 15) (i := 19) (o := beamRow (.slice none 0 0) (.slice none 0 0) (.int .i64 0) (.int .i64 0)) (by decide) hS
       exact hK.out _ _ h1 h2 ((BmG.al rfl).2 ⟨_, _, _, _, _, rfl, hS.size, heap_alloc_new W _⟩)
      ·obtain ⟨bb, y0, y1, y2, y3, e19, hbb, hbx⟩ := (BmG.al rfl).1 (hd 19 (by kernel_rfl))
       obtain ⟨S, ca, cc, wa, wc, e17, hf⟩ := (BmG.ex rfl).1 (hd 17 (by kernel_rfl))
       have k24 : A.tmps[24]? = some (xs 19) := hA.out ▸ putL_at (i := 19) (d := 24) rfl (of_decide_eq_true (by kernel_rfl))
       rw [e19] at k24
       have k205 : A.tmps[205]? = some (xs 17) := hA.out ▸ putL_at (i := 17) (d := 205) rfl (of_decide_eq_true (by kernel_rfl))
       rw [e17] at k205
       obtain ⟨q0, q1, q2, q3⟩ := cr4 hbx
       obtain ⟨r0, r1, r2, r3⟩ := fr4 hbx
       refine FactOp.intro rfl (fun K hK => ?_); dsimp only
       go_simp
       obtain ⟨h1, h2, h3⟩ := bm_store (c := 15) (y0 := .slice ca S.length cc) (y1 := .slice wa S.length wc) (y2 := .int .i64 sl) (y3 := .int .i64 sh) hS hbb hbx
       exact hK.out undef _ h1 h2 ((BmG.st rfl).2 ⟨bb, S, ca, cc, wa, wc, e19, hbb, h3, hf.keep h2.keep⟩)
      ·have e18 := (BmG.er (.inl rfl)).1 (hd 18 (by kernel_rfl))
       have k206 : A.tmps[206]? = some (xs 18) := hA.out ▸ putL_at (i := 18) (d := 206) rfl (of_decide_eq_true (by kernel_rfl))
       rw [e18] at k206
       refine FactOp.intro rfl (fun K hK => ?_); dsimp only
       go_simp
       obtain ⟨h1, h2⟩ := bm_call (c := 15) (i := 21) (by decide) hS (Below.refl _ W)
       exact hK.out _ _ h1 h2 ((BmG.er (.inr rfl)).2 rfl)
     ·clear hS hS0
      intro xs W hS hg
      obtain ⟨bb, S, ca, cc, wa, wc, e19, hbb, hbx, hf⟩ := (BmG.st rfl).1 (hg (20, none) (by simp))
      have e21 := (BmG.er (.inr rfl)).1 (hg (21, some 25) (by simp))
      simp only [putL, Act.put, setAll, List.setIfInBounds_toArray, List.set_cons_zero, List.set_cons_succ, e19, e21]
      refine ⟨by kernel_rfl, ?_⟩
      go_wp2_with fail
      go_meet
      exact ⟨bb, rfl, rfl, Lib.hid ⟨hbb, hS, S, ca, cc, wa, wc, hbx, hf⟩⟩
    case rest =>
    obtain ⟨qb, rfl, rfl, HE⟩ := hcut
    rename World => wz
    obtain ⟨hqb, hbq, S, ca, cc, wa, wc, hqx, hf⟩ := HE.out
    have HVO := Lib.hid HT.out.vol
    have HSL := Hd (hf.len HVO.out (rayB_iff.1 HK.out.ray) HM.out)
    have hmz : mb + 1 ≤ wy.heap.size := by
     obtain ⟨_, _, h1, _⟩ := HSTu.out.row
     exact (blkL h1)
    have HSTq := Hd (HSTu.out.step hbq)
    have HSB := Hd (show SeBm (mb + 1) wz (bmS ca cc wa wc sl sh S) from ⟨S, ca, cc, wa, wc, sl, sh, rfl, HSL.out, own_base hf.cl hmz, own_base hf.wt hmz⟩)
    have HBB := Hd (bm_beam HVO.out (rayB_iff.1 HK.out.ray) HT.out.grb HM.out hf.perm hf.sort (fun y hy => by have h1 := List.all_eq_true.1 (show (chsR (prN v ⟨rx, ry, rz, rdx, rdy, rdz⟩ g (m + 1))).all _ = true from HC.out.1) y hy; rw [decide_eq_true_eq] at h1; exact h1) HT.out.cells HSR.out (ca := ca) (cc := cc) (wa := wa) (wc := wc))
    have HIN := Hd (show inB (ofN (bmS ca cc wa wc sl sh S) d) sl sh = true from by rw [ofN_bmS hf.perm d]; exact inB_iff.2 HSM.out)
    have HQX := Lib.hid hqx
    clear v0 v1 v2 v3 s0 s1 s2 s3 s4 s5 l0 l1 l2 l3 l4 l5 l6 l7 l8 l9 l10 hz0 hz1 hlr hlru HVu HSu HE hqb hbq hf hqx hmz HBu HSTu HSU HSH HSM HSR HSO hop b0 b1 hbz hun
    obtain ⟨oa, oc, hmbx, hown⟩ := HSTq.out.row
    rw [HI.out.1] at hmbx hown
    have HMBX := Lib.hid hmbx
    have HOWN := Lib.hid hown
    have hml := (blkL hmbx)
    have hbl := (blkL HQX.out)
    have HNE := Hd (show (Value.slice oa i oc).ownBlock ≠ some mb from fun e => by have := own_block_le hown e; omega)
    have HZA := Hd (show (wz.alloc (.cells #[.slice ca S.length cc, .slice wa S.length wc, .int .i64 sl, .int .i64 sh] 62)).heap.size = wz.heap.size + 1 from by simp)
    obtain ⟨a0, a1'⟩ := cr2 hmbx
    have fz1 := frozen_of_row _ _ 1 _ _ hmbx
    obtain ⟨c0, c1, c2, c3⟩ := cr4 HQX.out
    clear hmbx hown
    obtain ⟨j0, hj0, hz0, hz1, hz2⟩ := info_parts se_info
    have hb63 : i + 1 ≤ maxLen := by unfold maxLen; omega
    have hb47 : (i + 1) * 64 ≤ 140737488355328 := by omega
    have HNW := Hd (World.news_of_block (heap_alloc_new wz (.cells #[.slice ca S.length cc, .slice wa S.length wc, .int .i64 sl, .int .i64 sh] 62)))
    have HOA := Hd (HOWN.out.alloc (.cells #[.slice ca S.length cc, .slice wa S.length wc, .int .i64 sl, .int .i64 sh] 62))
    go_upto_region 6 with (at_builtin; refine wpList_append_lies _ rfl _ _ 57 rfl (mb + 1) 62 j0 _ 4 64 Tryz.underlying57 hj0 hz0 hz1 hz2 rfl (by decide) (.slice oa i oc) i (seC Lb) rfl HOA.out ⟨wz.heap.size, 0, none⟩ 1 1 (seC1 (bmS ca cc wa wc sl sh S)) rfl rfl HNW.out se_one (by decide) hb63 hb47 (by have := HZA.out; omega) _ rfl ?_; intro g1 cp W13 hown13 hgrow13 hat13 hlt13; have HG13 := Lib.hid hgrow13; have HO13 := Lib.hid hown13; have e1 := (hgrow13.block mb (by have := HZA.out; omega) (Ne.symm HNE.out)).trans ((Below.heap_alloc wz _ mb hml).trans HMBX.out); have e2 := cell_of_row _ _ 1 _ _ _ e1; have e3 := frozen_of_row _ _ 1 _ _ e1; clear e1 hown13 hgrow13 hat13)
    have HSTn := Hd (SnT.pushj (p := bmS ca cc wa wc sl sh S) HI.out.1 HSTq.out HSB.out HMBX.out HOWN.out HG13.out HO13.out)
    have HAN := Hd (show agreesB (i + 1) (fun j => (Lb ++ [bmS ca cc wa wc sl sh S]).getD j se0) d = true from by
     have h1 := agreesB_snoc (L := Lb) (p := bmS ca cc wa wc sl sh S) (d := d)
     rw [HI.out.1, HI.out.2.2.1] at h1
     exact h1.trans (by rw [Bool.true_and]; exact HIN.out))
    have HBN2 := Hd (lb_snoc HI.out.1 HI.out.2.2.2 HBB.out)
    have HLX := Hd (show (Lb ++ [bmS ca cc wa wc sl sh S]).length = i + 1 from by rw [List.length_append, HI.out.1]; rfl)
    clear HSTq HSB HMBX HOWN HG13 HO13 HQX HNE HZA HNW HOA a0 a1' fz1 c0 c1 c2 c3 e2 e3 hml hbl hb63 hb47 hlt13 hj0 hz0 hz1 hz2 HIN HBB
    generalize World.setCell W13 _ _ = W14 at *
    go_wp2
    go_roundw
    case rel => exact ⟨i + 1, _, by omega, by go_num, Lib.hid ⟨HLX.out, HSTn.out, HAN.out, HBN2.out⟩⟩
    case measure => simp [intOf]; omega
  -- DEV}
  ·obtain rfl : i = ln := by omega
   have hl' : ¬ (i : Int) < (i : Int) := by omega
   obtain ⟨oa, oc, hmbx, hown⟩ := HI.out.2.1.row
   have HBM := Hd (SnT.beams HI.out.2.1 (by rw [HI.out.1]; unfold maxLen; omega) hown)
   rw [HI.out.1] at hmbx hown HBM
   have HCH := Hd (check_beams (HT.out.chk fun _ => se0) (show i ≤ 20 by omega) HI.out.2.2.2)
   have hn40 := (checkN_shape HCH.out).n40
   have hden := HT.out.den
   have hdi : ∀ c, c < sn → (ss c).lo ≤ d c ∧ d c ≤ (ss c).hi := fun c hc => inB_iff.1 (hden.2.2 c hc)
   have HNE := Hd (show allF sn ss i (fun j => Lb.getD j se0) ≠ [] from fun e => by have h1 := td_all (checkN_shape HCH.out) hdi HI.out.2.2.1; rw [e] at h1; cases h1)
   have HBD := Hd (fun (c : Nat) (hc : c < sn) => td_bnd (checkN_shape HCH.out) hdi HI.out.2.2.1 hc)
   have HAG := Hd (fun (W : World) (hb : Below wr.heap.size wr W) => td_agrees (a := sa) (n := sn) (c := sc) (ba := oa) (bc := oc) (fc := dc) (HT.out.S (HBr.out.trans (hb.mono HBr.out.size))) ((HBM.out.below hb).up hb.size) (HT.out.D (HBr.out.trans (hb.mono HBr.out.size))) HT.out.dl HCH.out HT.out.fld HI.out.2.2.1)
   have HBO := Hd (fun (W : World) (hb : Below wr.heap.size wr W) => td_bounds (a := sa) (n := sn) (c := sc) (ba := oa) (bc := oc) (HT.out.S (HBr.out.trans (hb.mono HBr.out.size))) ((HBM.out.below hb).up hb.size) HCH.out HNE.out)
   have HD := Lib.hid HT.out.de
   have hdn2 := hden.1
   unfold imageV at HAG HBO
   have HMX := Lib.hid hmbx
   obtain ⟨a0, a1'⟩ := cr2 hmbx
   generalize bndT sn ss i (fun j => Lb.getD j se0) = bd at *
   clear hmbx hown HBM HCH hdi HNE HI HVr HSr hden HB HV HS
   have HB0 := Hd (Below.refl wr.heap.size wr)
   subst hdn2
   go_upto_region 23 with (first
    | (go_at_call 18; refine (HAG.out _ HB0.out).mono ?_; rintro e w2 ⟨rfl, hb2⟩; have HBp := Lib.hid hb2; have HMy := keep_at HMX.out hb2; clear a0 a1'; obtain ⟨a0, a1'⟩ := cr2 HMy; clear HMy hb2)
    | (go_at_call 19; refine (HBO.out _ HBp.out).mono ?_; rintro e w4 ⟨⟨ob, rfl, hoz, hoc⟩, hb4⟩; have HBq := Hd (HBr.out.trans ((HBp.out.trans (hb4.mono HBp.out.size)).mono HBr.out.size)); have HOC := Hd (And.intro hoz hoc); clear hoz hoc hb4 a0 a1'))
   rename World => w5
   clear HB0 HBp HAG HBO HMX
   go_wp2
   go_loopw [30] (fun s30 wq => ∃ c : Nat, c ≤ dn ∧ s30 = .int .i64 (c : Int) ∧ Hid (Below w5.heap.size w5 wq)) (fun s30 _ => dn - (intOf s30).toNat)
   case atStart => exact ⟨0, Nat.zero_le _, rfl, Hd (Below.refl _ _)⟩
   case round =>
    obtain ⟨c, hc, rfl, HW⟩ := hrel
    rename World => wq
    have HBv := Hd (HBq.out.trans (HW.out.mono HBq.out.size))
    by_cases hcl : c < dn
    ·have hcl' : (c : Int) < (dn : Int) := by omega
     obtain ⟨db, dof, rfl, hdB, hdc⟩ := HD.out.get hcl
     have hd1 := ((bcell HBv.out).1 db _ hdB).trans hdc
     obtain ⟨o0, o1⟩ := HOC.out.2 c hcl
     have o0 := ((bcell HW.out).1 ob _ HOC.out.1).trans o0
     have o1 := ((bcell HW.out).1 ob _ HOC.out.1).trans o1
     obtain ⟨g0, g1⟩ := HBD.out c hcl
     have z1 : db < wq.heap.size := Nat.lt_of_lt_of_le hdB HBv.out.size
     have z2 : ob < wq.heap.size := Nat.lt_of_lt_of_le HOC.out.1 HW.out.size
     clear hdc
     generalize bd c = q at *
     generalize d c = y at *
     have t1 : decide (y < q.lo) = false := decide_eq_false (by omega)
     have t2 : decide (q.hi < y) = false := decide_eq_false (by omega)
     go_upto_region 28 with (fail)
     (refine wp_region_calm (wq.heap.size) (by kernel_rfl) (by kernel_rfl) ?_; (repeat (first | go_big_quiet_step (fail) | quiet_step (fail))); refine wpQuiet_nil (wqn ?_); intro xq)
     have HW2 := Hd (HW.out.trans ((Calm.below xq).mono HW.out.size))
     clear z1 z2 o0 o1 hd1 HW
     generalize Calm.val xq = W28 at *
     go_wp2
     go_roundw
     case rel => exact ⟨c + 1, by omega, by go_num, HW2⟩
     case measure => simp [intOf]; omega
    ·have hcl' : ¬ (c : Int) < (dn : Int) := by omega
     go_wp2_with (go_at_call 8; refine (HKN.out _).mono ?_; rintro e w2 ⟨rfl, hb2⟩; have HBy := Hd (HBv.out.trans (hb2.mono HBv.out.size)))
     go_ret
     exact ⟨rfl, HBy.out⟩
end Go.Proofs.YtgmpelhphnmknaaGreat
