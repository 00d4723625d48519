/- Texts put together: ToTcC. -/
import Derived.Test.YtgmpelhphnmknaaGreatRta
set_option maxRecDepth 100000
set_option maxHeartbeats 8000000
set_option linter.unusedVariables false
set_option linter.unusedSimpArgs false
namespace Go.Proofs.YtgmpelhphnmknaaGreat
open Go Go.RowKit Go.Shelf
theorem beams_one {W : World} {b : Nat} {S : List CH} {ca : Option Addr} {cc : Nat} {wa : Option Addr} {wc : Nat} {lo hi : Int} {base : Nat} (h : W.heap[b]? = some (beamRow (.slice ca S.length cc) (.slice wa S.length wc) (.int .i64 lo) (.int .i64 hi))) (hl : S.length ≤ maxLen) (h1 : W.ownsRow base 3 1 (.slice ca S.length cc) S.length (clC S)) (h2 : W.ownsRow base 3 1 (.slice wa S.length wc) S.length (wtC S)) : Beams W.heap.size W (some ⟨b, 0, none⟩) 1 (fun i => [bmS ca cc wa wc lo hi S].getD i se0) := by
 refine ⟨by decide, .inr ⟨b, 0, rfl, (blkL h), fun i hi => ?_⟩⟩
 obtain rfl : i = 0 := by omega
 refine ⟨?_, hl, hl, own_cl h1, own_wt h2⟩
 exact ⟨cell_of_row _ _ 0 _ _ _ h, cell_of_row _ _ 1 _ _ _ h, cell_of_row _ _ 2 _ _ _ h, cell_of_row _ _ 3 _ _ _ h⟩
theorem htkE_ToTcC {P : Program} {md : Region.Mode} {Q : Exit → Act → World → Prop} {S : World → Prop} {ops : Array Oper} {f : Nat} {listed : Array Bool} {a : Act} {w : World} {v : Value} {oi : Oper} {X : Prop} (i : Nat) (q : X) (hi : ops[i]? = some oi := by rfl) (hB : TkE md ops listed i = true := by kernel_rfl) (hQ : ∀ c a w, Q (.panic c) (a.put oi.dst v) w → Q (.panic c) a w := by exact fun _ _ _ h => h) (hy : YieldsIf P ops S oi v a := by (refine Or.inl ⟨by rfl, ?_⟩; intro w' hSw; (try dsimp only at hSw); have cc0 := (bcell hSw).1; (try simp only [hng]); go_simp; (try with_reducible rfl))) (hS : S w := by assumption) (hx : X → headH P md ops Q S ops.size (endL md ops Q) f (listed.setIfInBounds i true) (a.put oi.dst v) w := by (intro qq; refine hnm ?_; exact qq)) : headH P md ops Q S ops.size (endL md ops Q) (f + 1) listed a w := headH_takeE hi hB hQ hy hS (hx q)
def PrRes (P lv : Nat) (o : List Bool) (kr : Nat) (w : World) (e : Ending) (w' : World) : Prop := (∃ kept : Bool, e = .returned (.tuple #[.bool true, .bool kept]) ∧ (kept = false → (setB7 P lv o kr).out = true)) ∧ Below w.heap.size w w'
theorem cr11 {W : World} {b : Nat} {xs : Array Value} {t : TypeId} (h : W.heap[b]? = some (.cells xs t)) : W.cell? ⟨b, 0, none⟩ = xs[0]? ∧ W.cell? ⟨b, 1, none⟩ = xs[1]? ∧ W.cell? ⟨b, 2, none⟩ = xs[2]? ∧ W.cell? ⟨b, 3, none⟩ = xs[3]? ∧ W.cell? ⟨b, 4, none⟩ = xs[4]? ∧ W.cell? ⟨b, 5, none⟩ = xs[5]? ∧ W.cell? ⟨b, 6, none⟩ = xs[6]? ∧ W.cell? ⟨b, 7, none⟩ = xs[7]? ∧ W.cell? ⟨b, 8, none⟩ = xs[8]? ∧ W.cell? ⟨b, 9, none⟩ = xs[9]? ∧ W.cell? ⟨b, 10, none⟩ = xs[10]? := ⟨cell_of_row _ _ 0 _ _ _ h, cell_of_row _ _ 1 _ _ _ h, cell_of_row _ _ 2 _ _ _ h, cell_of_row _ _ 3 _ _ _ h, cell_of_row _ _ 4 _ _ _ h, cell_of_row _ _ 5 _ _ _ h, cell_of_row _ _ 6 _ _ _ h, cell_of_row _ _ 7 _ _ _ h, cell_of_row _ _ 8 _ _ _ h, cell_of_row _ _ 9 _ _ _ h, cell_of_row _ _ 10 _ _ _ h⟩
theorem prints_any {v : VO} {ga : Option Addr} {gn : Nat} {g : Nat → Int} {sa : Option Addr} {sn : Nat} {ss : Nat → SV} {da : Option Addr} {dn : Nat} {d : Nat → Int} {s : SK} {ta : Option Addr} {tn : Nat} {t : Nat → RW} {w1 w : World} (h : TdIn v ga gn g sa sn ss da dn d s ta tn t w1) (gc sc dc tc : Nat) (k : LQ) (hk : k.ok s.bn) (m : Nat) (hM : IsM v k.r m) (x : Int) (hx : (opS d (prN v k.r g (m + 1))).tdiv k.unit = x) (hC : chB (prN v k.r g (m + 1)) = true ∧ x < 1000000) (P : Nat) (hP : s.P = (P : Int)) (hPP : 2 ≤ P ∧ P ≤ 1000) (lv cp : Nat) (hl : 2 ≤ lv ∧ lv ≤ 900000) (oa : Option Addr) (o : List Bool) (ho : o.length ≤ 6) (kr : Nat) (hkr : kr ≤ P) (bn : Nat) (hbn : k.bin = (bn : Int)) (he : eLo s tn t bn x ≤ (kr : Int) ∧ (kr : Int) ≤ eHi s tn t bn x) (hb : Below w1.heap.size w1 w) (hO : BoolsIn w oa o) :
  Calls Tryz.prog 13 #[v.val, .slice ga gn gc, .slice sa sn sc, .slice da dn dc, .agg s.cells, .slice ta tn tc, k.val, .slice oa o.length cp, .int .i64 (lv : Int)] w (PrRes P lv o kr w) := by
 have HT := Lib.hid h
 have HRN := Hd (fun (W' : World) (h1 : (setB7 P lv o kr).out = true) (hb : Below w.heap.size w W') => show PrRes P lv o kr w (.returned (.tuple #[.bool true, .bool false])) W' from ⟨⟨false, rfl, fun _ => h1⟩, hb⟩)
 have HRY := Hd (fun (W' : World) (hb : Below w.heap.size w W') => show PrRes P lv o kr w (.returned (.tuple #[.bool true, .bool true])) W' from ⟨⟨true, rfl, fun h => by cases h⟩, hb⟩)
 generalize PrRes P lv o kr w = RES at *
 have HTB := Lib.hid hb
 have HX0 := Hd (h.deep k hk m hM)
 obtain ⟨⟨rx, ry, rz, rdx, rdy, rdz⟩, bin, unit, rate, less, more⟩ := k
 dsimp only at hbn hx HX0
 subst hbn
 have HK := Lib.hid hk
 have HM := Lib.hid hM
 have HC := Lib.hid hC
 have HX := Lib.hid hx
 have HPP := Lib.hid hP
 have hxb : 0 ≤ x ∧ x < 1000000 := ⟨by rw [← hx]; exact HX0.out.2.1, hC.2⟩
 have hst := fun (W : World) (hb : Below w.heap.size w W) => Set_any P lv cp oa o W (hO.below hb) (by omega) hPP hl
 simp only [← hP] at hst
 have HST := Lib.hid hst
 have hbn2 : bn < s.bn := by have := hk.bin; dsimp only at this; omega
 have HBN := Lib.hid hbn2
 obtain ⟨f1, f2, f3, f4⟩ := fx_three w (.cells #[.int .i64 v.nx, .int .i64 v.ny, .int .i64 v.nz, .int .i64 v.size] 23) (.cells s.cells 30) (.cells #[.int .i64 rx, .int .i64 ry, .int .i64 rz, .int .i64 rdx, .int .i64 rdy, .int .i64 rdz, .int .i64 (bn : Int), .int .i64 unit, .int .i64 rate, .int .i64 less, .int .i64 more] 35)
 have HB := Lib.hid f1
 have HV := Lib.hid f2
 have HS := Lib.hid f3
 have HL := Lib.hid f4
 obtain ⟨n, hn⟩ : ∃ n, o.length = n := ⟨_, rfl⟩
 rw [hn] at HST ho ⊢
 clear f1 f2 f3 f4 h hb hk hM hC hx hst hO hP hn
 unfold VO.val LQ.val SK.cells at *
 dsimp only at *
 go_enter Tryz.func13, Tryz.ntmps13
 go_upto_region 1 with (fail)
 generalize World.alloc (World.alloc (World.alloc w _) _) _ = V at *
 obtain ⟨v0, v1, v2, v3⟩ := cr4 (HV).out; obtain ⟨s0, s1, s2, s3, s4, s5⟩ := cr6 (HS).out; obtain ⟨l0, l1, l2, l3, l4, l5, l6, l7, l8, l9, l10⟩ := cr11 (HL).out
 go_upto_region 2 with (go_at_call 31; refine (HST.out _ HB.out).mono ?_; rintro e W1 ⟨hcase, hb1⟩; (replace HB := Hd (HB.out.trans ((hb1).mono HB.out.size)); replace HV := Hd (keep_at HV.out hb1); replace HS := Hd (keep_at HS.out hb1); replace HL := Hd (keep_at HL.out hb1)); clear v0 v1 v2 v3 s0 s1 s2 s3 s4 s5 l0 l1 l2 l3 l4 l5 l6 l7 l8 l9 l10; clear hb1 HST; rcases hcase with ⟨hk0, rfl⟩ | ⟨lo, hi, hH, rfl⟩)
 ·have HB := Hd (HB.out.trans ((al_below W1 (spanRow (.int .i64 0) (.int .i64 0))).mono HB.out.size))
  unfold spanRow at HB
  generalize World.alloc W1 _ = W2 at *
  go_wp2
  (exact HRN.out _ (keptN_zero _ hk0 kr (by omega)) HB.out)
 ·have HB := Hd (HB.out.trans ((al_below W1 (spanRow (.int .i64 (lo : Int)) (.int .i64 (hi : Int)))).mono HB.out.size))
  have hb1 := al_below W1 (spanRow (.int .i64 (lo : Int)) (.int .i64 (hi : Int)))
  have HV := Hd (keep_at HV.out hb1)
  have HS := Hd (keep_at HS.out hb1)
  have HL := Hd (keep_at HL.out hb1)
  have HR := Hd (heap_alloc_new W1 (spanRow (.int .i64 (lo : Int)) (.int .i64 (hi : Int))))
  clear hb1
  unfold spanRow at HB HV HS HL HR
  generalize World.alloc W1 _ = W2 at *
  generalize W1.heap.size = rb at *
  have hHl := hH.le
  have HEX := Hd (fun (h0 : (setB7 P lv o kr).out = false) => show (lo : Int) ≤ (kr : Int) ∧ (kr : Int) ≤ (hi : Int) from by
   rcases Nat.lt_or_ge kr lo with h1 | h1
   ·have := hH.below kr h1; rw [h0] at this; cases this
   rcases Nat.lt_or_ge hi kr with h2 | h2
   ·have := hH.above kr h2 hkr; rw [h0] at this; cases this
   omega)
  have hr : (0 : Int) ≤ (lo : Int) ∧ (lo : Int) ≤ (hi : Int) ∧ (hi : Int) ≤ s.P := by have := HPP.out; omega
  have hz : 1 ≤ max 1 (n : Int) ∧ max 1 (n : Int) ≤ 1000000 := by omega
  obtain ⟨ol, oh, er, hor, hoc⟩ := HT.out.opacZ hz HBN.out hr
  have HOR := Lib.hid hor
  have HOC := Hd (hoc tc)
  clear hoc hor hz hr hH hHl
  obtain ⟨v0, v1, v2, v3⟩ := cr4 (HV).out; obtain ⟨s0, s1, s2, s3, s4, s5⟩ := cr6 (HS).out; obtain ⟨l0, l1, l2, l3, l4, l5, l6, l7, l8, l9, l10⟩ := cr11 (HL).out
  obtain ⟨q0, q1⟩ := cr2 HR.out
  go_upto_region 5 with (go_at_call 15; refine (HOC.out _ (HTB.out.trans ((HB.out.trans ((al_below W2 _).mono HB.out.size)).mono HTB.out.size)) _ _ (heap_alloc_new W2 _)).mono ?_; rintro e W4 ⟨rfl, hb4⟩; have hb3 := (al_below W2 (.cells #[.int .i64 (max 1 (n : Int)), .int .i64 0, .int .i64 0, .int .i64 0, .int .i64 0] 48)).trans (hb4.mono (al_below W2 _).size); (replace HB := Hd (HB.out.trans ((hb3).mono HB.out.size)); replace HV := Hd (keep_at HV.out hb3); replace HS := Hd (keep_at HS.out hb3); replace HL := Hd (keep_at HL.out hb3)); clear hb3 hb4; clear v0 v1 v2 v3 s0 s1 s2 s3 s4 s5 l0 l1 l2 l3 l4 l5 l6 l7 l8 l9 l10; clear q0 q1)
  have hb5 := al_below W4 (spanRow (.int .i64 ol) (.int .i64 oh))
  have HQ := Hd (heap_alloc_new W4 (spanRow (.int .i64 ol) (.int .i64 oh)))
  unfold spanRow at hb5 HQ
  (replace HB := Hd (HB.out.trans ((hb5).mono HB.out.size)); replace HV := Hd (keep_at HV.out hb5); replace HS := Hd (keep_at HS.out hb5); replace HL := Hd (keep_at HL.out hb5))
  clear hb5
  generalize World.alloc W4 _ = wy at *
  generalize W4.heap.size = qb at *
  rcases HOR.out with ⟨rfl, hrng, hall⟩ | ⟨rfl, hno⟩
  rotate_left
  ·have hn2 : (setB7 P lv o kr).out = true := by
    cases h0 : (setB7 P lv o kr).out with
    | true => rfl
    | false =>
     have := HEX.out h0
     exact (hno x hxb.1 (by omega) (by omega) (by omega)).elim
   clear HOR hno
   go_wp2
   (exact HRN.out _ hn2 HB.out)
  have HIN := Hd (fun (h0 : (setB7 P lv o kr).out = false) => show ol ≤ x ∧ x ≤ oh from by
   have := HEX.out h0
   exact hall x hxb.1 (by omega) (by omega) (by omega))
  clear HOR hall HEX HR
  obtain ⟨v0, v1, v2, v3⟩ := cr4 (HV).out; obtain ⟨s0, s1, s2, s3, s4, s5⟩ := cr6 (HS).out; obtain ⟨l0, l1, l2, l3, l4, l5, l6, l7, l8, l9, l10⟩ := cr11 (HL).out
  obtain ⟨q0, q1⟩ := cr2 HQ.out
  have t1 : ¬ ol < 0 := by omega
  have t2 : ¬ oh < ol := by omega
  have t3 : ¬ (1000000 : Int) < oh := by omega
  go_upto_region 9 with (fail)
  clear t1 t2 t3
  have hun := HK.out.unit
  dsimp only at hun
  have HSM := Hd (fun (h1 : ol ≤ x) (h2 : x ≤ oh) => sums_hold (o := opS d (prN v ⟨rx, ry, rz, rdx, rdy, rdz⟩ g (m + 1))) (u := unit) (lo := ol) (hi := oh) HX0.out.1 hun HX.out h1 h2 HC.out.2)
  have HSU := Hd (fun (W : World) => Sums_any ol oh unit W (by omega) (by omega) hun)
  have HSR := Hd (sum_ok (u := unit) (lo := ol) (hi := oh) (by omega) hun)
  have HSH := Hd (fun (W : World) (hb : Below w1.heap.size w1 W) => HT.out.shine gc ⟨rx, ry, rz, rdx, rdy, rdz⟩ HK.out.ray (ol * unit) (smHi oh unit) HSR.out hb)
  unfold binV at HSU
  unfold VO.val RY.val at HSH
  dsimp only at HSH
  generalize hsl : ol * unit = sl at *
  generalize hsh : smHi oh unit = sh at *
  clear hsl hsh
  have hqz := (blkL HQ.out)
  have hz0 := (blkL HV.out)
  have hz1 := (blkL HL.out)
  go_cut [24, 25] from 106 to 133 (fun s24 s25 wx => ∃ bb, s24 = .pointer (some ⟨bb, 0, none⟩) ∧ s25 = .int .i64 0 ∧ Hid (BmBox v ⟨rx, ry, rz, rdx, rdy, rdz⟩ g m wy.heap.size bb sl sh wy wx))
  case first =>
   refine wp_region_any (by kernel_rfl) ?_
   change wpAny _ _ _ _ _ _ _ (World.drew wy)
   have hS0 : Below wy.heap.size wy wy.drew := (Below.refl _ _).drew
   generalize World.drew wy = Wd at *
   refine any_of_full 16 (fun w' => Below wy.heap.size wy w') hS0 (fun hS => ?_)
   refine htkE_ToTcC 0 ?_
   refine htkE_ToTcC 1 ?_
   refine htkE_ToTcC 2 ?_
   refine htkE_ToTcC 3 ?_
   refine htkE_ToTcC 4 ?_
   refine htkE_ToTcC 5 ?_
   refine htkE_ToTcC 6 ?_
   refine htkE_ToTcC 7 ?_
   refine headH_factsE (S := fun w' => Below wy.heap.size wy w') (R := BmR 9) (G := BmG v ⟨rx, ry, rz, rdx, rdy, rdz⟩ g m 9 wy.heap.size sl sh) [(8, some 83), (9, some 84), (10, some 74), (11, some 85), (12, some 86), (13, some 24), (14, none), (15, some 25)] (by kernel_rfl) (BmG.step (by kernel_rfl)) hS ?_ ?_
   ·clear hS hS0
    intro p hp xs W hS hd A hA
    replace hA := Lib.hid hA
    simp only [List.mem_cons, List.not_mem_nil, or_false] at hp
    rcases hp with rfl | rfl | rfl | rfl | rfl | rfl | rfl | rfl
    ·have k81 := (hA.out ▸ (putL_out (d := 81) rfl).trans rfl : A.tmps[81]? = some _)
     have k82 := (hA.out ▸ (putL_out (d := 82) rfl).trans rfl : A.tmps[82]? = some _)
     refine FactOp.intro rfl (fun K hK => ?_); dsimp only
     go_simp
     refine (HSU.out _).mono ?_
     rintro e W' ⟨rfl, hb⟩
     obtain ⟨h1, h2⟩ := bm_call (c := 9) (i := 8) (by decide) hS (hb)
     exact hK.out _ _ h1 h2 ((BmG.sm rfl).2 rfl)
    ·have e8 := (BmG.sm rfl).1 (hd 8 (by kernel_rfl))
     have k83 : A.tmps[83]? = some (xs 8) := hA.out ▸ putL_at (i := 8) (d := 83) rfl (of_decide_eq_true (by kernel_rfl))
     rw [e8] at k83
     have k75 := (hA.out ▸ (putL_out (d := 75) rfl).trans rfl : A.tmps[75]? = some _)
     have k76 := (hA.out ▸ (putL_out (d := 76) rfl).trans rfl : A.tmps[76]? = some _)
     have k78 := (hA.out ▸ (putL_out (d := 78) rfl).trans rfl : A.tmps[78]? = some _)
     refine FactOp.intro rfl (fun K hK => ?_); dsimp only
     go_simp
     refine (HSH.out _ (HTB.out.trans ((HB.out.trans (hS.mono HB.out.size)).mono HTB.out.size))).mono ?_
     rintro e W' ⟨m', S, hM', hp, hs, hb, hres⟩
     obtain rfl := isM_eq hM' HM.out
     rcases hres with ⟨hle, ca, cc, wa, wc, rfl, ho1, ho2⟩ | ⟨⟨y, hy1, hy2⟩, rfl⟩
     ·obtain ⟨h1, h2⟩ := bm_call (c := 9) (i := 9) (by decide) hS (hb)
      exact hK.out _ _ h1 h2 ((BmG.cl (.inl rfl)).2 ⟨S, ca, cc, wa, wc, rfl, hp, hs, own_base ho1 hS.size, own_base ho2 hS.size⟩)
     ·have h3 := HC.out.1
      unfold chB at h3
      have h4 := List.all_eq_true.1 h3 y (hp.mem_iff.1 hy1)
      rw [decide_eq_true_eq] at h4
      omega
    ·obtain ⟨S, ca, cc, wa, wc, e1, hf⟩ := (BmG.cl (.inl rfl)).1 (hd 9 (by kernel_rfl))
     have k84 : A.tmps[84]? = some (xs 9) := hA.out ▸ putL_at (i := 9) (d := 84) rfl (of_decide_eq_true (by kernel_rfl))
     rw [e1] at k84
     refine FactOp.intro rfl (fun K hK => ?_); dsimp only
     go_simp
     obtain ⟨h1, h2⟩ := bm_call (c := 9) (i := 10) (by decide) hS (Below.refl _ W)
     exact hK.out _ _ h1 h2 ((BmG.cl (.inr rfl)).2 ⟨S, ca, cc, wa, wc, rfl, hf⟩)
    ·obtain ⟨S, ca, cc, wa, wc, e1, hf⟩ := (BmG.cl (.inr rfl)).1 (hd 10 (by kernel_rfl))
     have k74 : A.tmps[74]? = some (xs 10) := hA.out ▸ putL_at (i := 10) (d := 74) rfl (of_decide_eq_true (by kernel_rfl))
     rw [e1] at k74
     refine FactOp.intro rfl (fun K hK => ?_); dsimp only
     go_simp
     obtain ⟨h1, h2⟩ := bm_call (c := 9) (i := 11) (by decide) hS (Below.refl _ W)
     exact hK.out _ _ h1 h2 ((BmG.ex rfl).2 ⟨S, ca, cc, wa, wc, rfl, hf⟩)
    ·obtain ⟨S, ca, cc, wa, wc, e1, hf⟩ := (BmG.cl (.inr rfl)).1 (hd 10 (by kernel_rfl))
     have k74 : A.tmps[74]? = some (xs 10) := hA.out ▸ putL_at (i := 10) (d := 74) rfl (of_decide_eq_true (by kernel_rfl))
     rw [e1] at k74
     refine FactOp.intro rfl (fun K hK => ?_); dsimp only
     go_simp
     obtain ⟨h1, h2⟩ := bm_call (c := 9) (i := 12) (by decide) hS (Below.refl _ W)
     exact hK.out _ _ h1 h2 ((BmG.er (.inl rfl)).2 rfl)
    ·refine FactOp.intro rfl (fun K hK => ?_); dsimp only
     go_simp
     obtain ⟨h1, h2⟩ := bm_alloc (c := 9) (i := 13) (o := beamRow (.slice none 0 0) (.slice none 0 0) (.int .i64 0) (.int .i64 0)) (by decide) hS
     exact hK.out _ _ h1 h2 ((BmG.al rfl).2 ⟨_, _, _, _, _, rfl, hS.size, heap_alloc_new W _⟩)
    ·obtain ⟨bb, y0, y1, y2, y3, e13, hbb, hbx⟩ := (BmG.al rfl).1 (hd 13 (by kernel_rfl))
     obtain ⟨S, ca, cc, wa, wc, e11, hf⟩ := (BmG.ex rfl).1 (hd 11 (by kernel_rfl))
     have k24 : A.tmps[24]? = some (xs 13) := hA.out ▸ putL_at (i := 13) (d := 24) rfl (of_decide_eq_true (by kernel_rfl))
     rw [e13] at k24
     have k85 : A.tmps[85]? = some (xs 11) := hA.out ▸ putL_at (i := 11) (d := 85) rfl (of_decide_eq_true (by kernel_rfl))
     rw [e11] at k85
     obtain ⟨q0, q1, q2, q3⟩ := cr4 hbx
     obtain ⟨r0, r1, r2, r3⟩ := fr4 hbx
     refine FactOp.intro rfl (fun K hK => ?_); dsimp only
     go_simp
     obtain ⟨h1, h2, h3⟩ := bm_store (c := 9) (y0 := .slice ca S.length cc) (y1 := .slice wa S.length wc) (y2 := .int .i64 sl) (y3 := .int .i64 sh) hS hbb hbx
     exact hK.out undef _ h1 h2 ((BmG.st rfl).2 ⟨bb, S, ca, cc, wa, wc, e13, hbb, h3, hf.keep h2.keep⟩)
    ·have e12 := (BmG.er (.inl rfl)).1 (hd 12 (by kernel_rfl))
     have k86 : A.tmps[86]? = some (xs 12) := hA.out ▸ putL_at (i := 12) (d := 86) rfl (of_decide_eq_true (by kernel_rfl))
     rw [e12] at k86
     refine FactOp.intro rfl (fun K hK => ?_); dsimp only
     go_simp
     obtain ⟨h1, h2⟩ := bm_call (c := 9) (i := 15) (by decide) hS (Below.refl _ W)
     exact hK.out _ _ h1 h2 ((BmG.er (.inr rfl)).2 rfl)
   ·clear hS hS0
    intro xs W hS hg
    obtain ⟨bb, S, ca, cc, wa, wc, e13, hbb, hbx, hf⟩ := (BmG.st rfl).1 (hg (14, none) (by simp))
    have e15 := (BmG.er (.inr rfl)).1 (hg (15, some 25) (by simp))
    simp only [putL, Act.put, setAll, List.setIfInBounds_toArray, List.set_cons_zero, List.set_cons_succ, e13, e15]
    refine ⟨by kernel_rfl, ?_⟩
    go_wp2_with fail
    go_meet
    exact ⟨bb, rfl, rfl, Lib.hid ⟨hbb, hS, S, ca, cc, wa, wc, hbx, hf⟩⟩
  case rest =>
  obtain ⟨pb, rfl, rfl, HE⟩ := hcut
  rename World => wz
  obtain ⟨hpb, hbq, S, ca, cc, wa, wc, hpx, hf⟩ := HE.out
  clear v0 v1 v2 v3 s0 s1 s2 s3 s4 s5 l0 l1 l2 l3 l4 l5 l6 l7 l8 l9 l10 q0 q1 hz0 hz1 hqz HQ HSU HSH
  (replace HB := Hd (HB.out.trans ((hbq).mono HB.out.size)); replace HV := Hd (keep_at HV.out hbq); replace HS := Hd (keep_at HS.out hbq); replace HL := Hd (keep_at HL.out hbq))
  have HVO := Lib.hid HT.out.vol
  have HSL := Hd (hf.len HVO.out (rayB_iff.1 HK.out.ray) HM.out)
  have HBB := Hd (bm_beam HVO.out (rayB_iff.1 HK.out.ray) HT.out.grb HM.out hf.perm hf.sort (fun y hy => by have h1 := List.all_eq_true.1 (show (chsR (prN v ⟨rx, ry, rz, rdx, rdy, rdz⟩ g (m + 1))).all _ = true from HC.out.1) y hy; rw [decide_eq_true_eq] at h1; exact h1) HT.out.cells HSR.out (ca := ca) (cc := cc) (wa := wa) (wc := wc))
  have hch : checkN sn ss 1 (fun i => [bmS ca cc wa wc sl sh S].getD i se0) = 0 := check_beams (HT.out.chk fun _ => se0) (by decide) (fun i hi => by obtain rfl : i = 0 := (by omega); exact HBB.out)
  have HAG := Hd (fun (h0 : (setB7 P lv o kr).out = false) => show agreesB 1 (fun i => [bmS ca cc wa wc sl sh S].getD i se0) d = true from by
   have h1 := HIN.out h0
   have h2 := HSM.out h1.1 h1.2
   have h3 := agreesB_snoc (L := []) (p := bmS ca cc wa wc sl sh S) (d := d)
   refine h3.trans ?_
   rw [show inB (ofN (bmS ca cc wa wc sl sh S) d) (bmS ca cc wa wc sl sh S).lo (bmS ca cc wa wc sl sh S).hi = true from by rw [ofN_bmS hf.perm d]; exact inB_iff.2 h2]
   rfl)
  have hden := HT.out.den
  have hdi : ∀ c, c < sn → (ss c).lo ≤ d c ∧ d c ≤ (ss c).hi := fun c hc => inB_iff.1 (hden.2.2 c hc)
  have HBM := Hd (beams_one (heap_alloc_new wz (beamRow (.slice ca S.length cc) (.slice wa S.length wc) (.int .i64 sl) (.int .i64 sh))) HSL.out (hf.cl.alloc _) (hf.wt.alloc _))
  have hab := al_below wz (beamRow (.slice ca S.length cc) (.slice wa S.length wc) (.int .i64 sl) (.int .i64 sh))
  have HBA := Hd (HB.out.trans (hab.mono HB.out.size))
  have hSp := HT.out.S (HTB.out.trans (HBA.out.mono HTB.out.size))
  have HBD := Hd (fun (h0 : (setB7 P lv o kr).out = false) (c : Nat) (hc : c < sn) => td_bnd (checkN_shape hch) hdi (HAG.out h0) hc)
  have HNE := Hd (fun (h0 : (setB7 P lv o kr).out = false) => show allF sn ss 1 (fun i => [bmS ca cc wa wc sl sh S].getD i se0) ≠ [] from fun e => by have h1 := td_all (checkN_shape hch) hdi (HAG.out h0); rw [e] at h1; cases h1)
  have hn40 := (checkN_shape hch).n40
  obtain ⟨p0, p1, p2, p3⟩ := cr4 hpx
  have hpz := (blkL hpx)
  have HD := Lib.hid HT.out.de
  have hdn2 := hden.1
  subst hdn2
  by_cases hA : allF dn ss 1 (fun i => [bmS ca cc wa wc sl sh S].getD i se0) = []
  ·have HBO := Hd ((Bounds_any sa dn sc (some ⟨wz.heap.size, 0, none⟩) 1 1 ss (fun i => [bmS ca cc wa wc sl sh S].getD i se0) _ _ (Nat.le_refl _) hSp HBM.out).mono fun e w' h' => show e = .returned (.tuple #[.slice none 0 0, .int .i64 5]) ∧ Below _ _ w' from by
    have h2 := h'.2
    rw [if_pos hch, if_pos hA] at h2
    exact ⟨h2, h'.1⟩)
   have hn2 : (setB7 P lv o kr).out = true := by
    cases h0 : (setB7 P lv o kr).out with
    | true => rfl
    | false => exact absurd hA (HNE.out h0)
   unfold imageV beamRow at *
   clear hSp HBD HNE HAG HSM HIN hdi hden HBM hab hch hA HBB
   go_upto_region 13 with (go_at_call 19; refine HBO.out.mono ?_; rintro e w4 ⟨rfl, hb4⟩; have HB := Hd (HBA.out.trans (hb4.mono HBA.out.size)); clear hb4)
   go_wp2
   (exact HRN.out _ hn2 HB.out)
  have HBO := Hd (td_bounds (a := sa) (n := dn) (c := sc) (ba := some ⟨wz.heap.size, 0, none⟩) (bc := 1) hSp HBM.out hch hA)
  unfold imageV beamRow at *
  generalize bndT dn ss 1 (fun i => [bmS ca cc wa wc sl sh S].getD i se0) = bd at *
  clear hSp HNE HAG HSM HIN hdi hden HBM hab hch hA HBB
  go_upto_region 15 with (go_at_call 19; refine HBO.out.mono ?_; rintro e w4 ⟨⟨ob, rfl, hoz, hoc⟩, hb4⟩; have HBn := Hd (HBA.out.trans (hb4.mono HBA.out.size)); have HOC := Hd (And.intro hoz hoc); clear hb4 hoz hoc)
  rename World => w5
  clear HBO HBA HB HV HS HL p0 p1 p2 p3
  go_wp2
  go_loopw [28] (fun s28 wq => ∃ c : Nat, c ≤ dn ∧ s28 = .int .i64 (c : Int) ∧ Hid (Below w5.heap.size w5 wq)) (fun s28 _ => dn - (intOf s28).toNat)
  case atStart => exact ⟨0, Nat.zero_le _, rfl, Hd (Below.refl _ _)⟩
  case round =>
   obtain ⟨c, hc, rfl, HW⟩ := hrel
   rename World => wq
   have HBv := Hd (HBn.out.trans (HW.out.mono HBn.out.size))
   by_cases hcl : c < dn
   ·have hcl' : (c : Int) < (dn : Int) := by omega
    obtain ⟨db, dof, rfl, hdB, hdc⟩ := HD.out.get hcl
    have HBw := Hd (HTB.out.trans (HBv.out.mono HTB.out.size))
    have hd1 := ((bcell HBw.out).1 db _ hdB).trans hdc
    obtain ⟨o0, o1⟩ := HOC.out.2 c hcl
    have o0 := ((bcell HW.out).1 ob _ HOC.out.1).trans o0
    have o1 := ((bcell HW.out).1 ob _ HOC.out.1).trans o1
    have HBDc := Hd (fun h0 => HBD.out h0 c hcl)
    have z1 : db < wq.heap.size := Nat.lt_of_lt_of_le hdB HBw.out.size
    have z2 : ob < wq.heap.size := Nat.lt_of_lt_of_le HOC.out.1 HW.out.size
    clear hdc
    generalize bd c = q at *
    generalize d c = y at *
    by_cases g0 : y < q.lo
    ·have t1 : decide (y < q.lo) = true := decide_eq_true g0
     have hn2 : (setB7 P lv o kr).out = true := by
      cases h0 : (setB7 P lv o kr).out with
      | true => rfl
      | false => exact absurd (HBDc.out h0).1 (by omega)
     go_upto_region 20 with (fail)
     (refine wp_region_calm (wq.heap.size) (by kernel_rfl) (by kernel_rfl) ?_; (repeat (first | go_big_quiet_step (fail) | quiet_step (fail))); refine wpQuiet_nil (wqn ?_); intro xq)
     have HB := Hd (HBv.out.trans ((Calm.below xq).mono HBv.out.size))
     generalize Calm.val xq = W28 at *
     go_wp2
     (exact HRN.out _ hn2 HB.out)
    ·by_cases g1 : q.hi < y
     ·have t1 : decide (y < q.lo) = false := decide_eq_false g0
      have t2 : decide (q.hi < y) = true := decide_eq_true g1
      have hn2 : (setB7 P lv o kr).out = true := by
       cases h0 : (setB7 P lv o kr).out with
       | true => rfl
       | false => exact absurd (HBDc.out h0).2 (by omega)
      go_upto_region 20 with (fail)
      (refine wp_region_calm (wq.heap.size) (by kernel_rfl) (by kernel_rfl) ?_; (repeat (first | go_big_quiet_step (fail) | quiet_step (fail))); refine wpQuiet_nil (wqn ?_); intro xq)
      have HB := Hd (HBv.out.trans ((Calm.below xq).mono HBv.out.size))
      generalize Calm.val xq = W28 at *
      go_wp2
      (exact HRN.out _ hn2 HB.out)
     ·have t1 : decide (y < q.lo) = false := decide_eq_false g0
      have t2 : decide (q.hi < y) = false := decide_eq_false g1
      go_upto_region 20 with (fail)
      (refine wp_region_calm (wq.heap.size) (by kernel_rfl) (by kernel_rfl) ?_; (repeat (first | go_big_quiet_step (fail) | quiet_step (fail))); refine wpQuiet_nil (wqn ?_); intro xq)
      have HW2 := Hd (HW.out.trans ((Calm.below xq).mono HW.out.size))
      clear z1 z2 o0 o1 hd1 HW
      generalize Calm.val xq = W28 at *
      go_wp2
      go_roundw
      case rel => exact ⟨c + 1, by omega, by go_num, HW2⟩
      case measure => simp [intOf]; omega
   ·have hcl' : ¬ (c : Int) < (dn : Int) := by omega
    go_wp2
    exact HRY.out _ HBv.out
end Go.Proofs.YtgmpelhphnmknaaGreat
