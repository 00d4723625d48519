/- Part of the proof of the claim. -/
import Derived.Test.YtmncaipgefbalaaGreatDoorQay
import Derived.Shelf.SlSortCmp.NoneTotal
set_option maxRecDepth 100000
set_option maxHeartbeats 8000000
set_option linter.unusedVariables false
set_option linter.unusedSimpArgs false
namespace Go.Proofs.YtmncaipgefbalaaGreatDoor
section
open Go Go.RowKit Go.Shelf
def thL(e:EV)(J:Nat→Nat)(i:Nat):List HV:=(List.range i).map fun k=>e.hs (J k)
theorem kD0{e:EV}{J:Nat→Nat}{i k:Nat}(h:k<i)(z:HV):(thL e J i).getD k z=e.hs (J k):=by simp[thL,h]
theorem jO3(e:EV)(J:Nat→Nat)(i:Nat):thL e J (i+1)=thL e J i++[e.hs (J i)]:=by simp[thL,List.range_succ]
structure EV.Timely(e:EV)(x:TK):Prop where
 all:qU0 e.n e.ps x.n (fun k=>e.hs (x.J k))=0
 some:¬cH (qD8 e.ps (fun k=>e.hs (x.J k))) (x.n-1)<cL (qD9 e.ps (fun k=>e.hs (x.J k))) (x.n-1)
theorem xU3(e:EV)(x:TK)(view:Int)(N eb:Nat)(w:World)(hN:N≤w.heap.size)(hE:e.At N eb w)(hx:x.At N w)(hxo:x.Ok e.m)(hm8:e.m≤8)(hn:0<x.n)(hT:e.Timely x):
  Calls Tryz.prog 172 #[.pointer (some ⟨eb,0,none⟩),x.val view] w fun y w'=>(∃lo hi:Int,y= .returned (.tuple #[.agg #[.int .i64 lo,.int .i64 hi],.bool true]))∧Below w.heap.size w w':=by
 have hb0:Below w.heap.size w ((w.alloc (.cells #[.int .i64 view,.slice x.ja x.n x.jc,.slice x.sa x.n x.sc] 110)).alloc (.cells #[.int .i64 0,.int .i64 0] 47)):=((Q2 _ w).alloc (Q1 _) _).alloc (by simp) _
 have hX:((w.alloc (.cells #[.int .i64 view,.slice x.ja x.n x.jc,.slice x.sa x.n x.sc] 110)).alloc (.cells #[.int .i64 0,.int .i64 0] 47)).heap[w.heap.size]?=some (.cells #[.int .i64 view,.slice x.ja x.n x.jc,.slice x.sa x.n x.sc] 110):=(Q9 _ _ _ (by simp)).trans (Q3 w _)
 have hR:=Q3 (w.alloc (.cells #[.int .i64 view,.slice x.ja x.n x.jc,.slice x.sa x.n x.sc] 110)) (.cells #[.int .i64 0,.int .i64 0] 47)
 rw[show(w.alloc (.cells #[.int .i64 view,.slice x.ja x.n x.jc,.slice x.sa x.n x.sc] 110)).heap.size=w.heap.size+1 from by simp] at hR
 have hsz:((w.alloc (.cells #[.int .i64 view,.slice x.ja x.n x.jc,.slice x.sa x.n x.sc] 110)).alloc (.cells #[.int .i64 0,.int .i64 0] 47)).heap.size=w.heap.size+2:=by simp
 have HX:=Hd hX
 have HR:=Hd hR
 have HB0:=Hd hb0
 have HE:=Hd (hE.below (hb0.mono hN))
 have HJ:=Hd (hx.js.below (hb0.mono hN))
 have HLT:=Hd hxo.lt
 have hxm:=hxo.le
 have HCO:=Hd (fun(va:Option Addr) (vc:Nat) (W:World) (hP:Y2 W.heap.size W e.a e.n e.ps) (hH:qK7 W.heap.size W va x.n (fun k=>e.hs (x.J k))) (hc:x.n≤vc) (hd:vc≤maxLen)=>by
  have h:=jZ0 e.a e.n e.c e.ps va x.n vc (fun k=>e.hs (x.J k)) W W.heap.size (Q1 _) hP hH hT.all hn hc hd
  rw[if_neg hT.some] at h
  exact h)
 unfold TK.val
 unfold L3 at HCO
 obtain⟨ja,n,jc,J,sa,sc⟩:=x
 dsimp only at*
 generalize cL (qD9 e.ps (fun k=>e.hs (J k))) (n-1)=tlo at*
 generalize cH (qD8 e.ps (fun k=>e.hs (J k))) (n-1)=thi at*
 have HM:=Hd hm8
 have hn8:n≤8:=by omega
 clear hb0 hE hx hxo hxm hm8 hX hR hT
 go_enter Tryz.func172,Tryz.ntmps172
 go_upto_region 1 with(fail)
 generalize World.alloc (World.alloc w _) _=V at*
 have hV:w.heap.size+1<V.heap.size:=by omega
 have HO:=Hd (show V.ownsRow V.heap.size 61 6 (.slice none 0 0) 0 (hC (thL e J 0)) from⟨rfl,.inl ⟨rfl,rfl⟩⟩)
 have HZ:=Hd (Q2 V.heap.size V)
 have k1:=Q0 _ _ 1 _ _ _ HX.out
 clear hsz
 go_wp2
 clear k1
 go_loopw [6,14] (fun s6 s14 wr=>∃i:Nat,i≤n∧s14= .int .i64 (i:Int)∧∃la lc,s6= .slice la i lc∧Hid (wr.ownsRow V.heap.size 61 6 (.slice la i lc) i (hC (thL e J i)))∧Hid (Below V.heap.size V wr)) (fun _ s14 _=>n-(intOf s14).toNat)
 case atStart=>exact⟨0,by omega,rfl,none,0,rfl,HO,HZ⟩
 case round=>
  clear HO HZ
  obtain⟨i,hi,rfl,la,lc,rfl,HO,HZ⟩:=hrel
  by_cases hl:i<n
  ·have hl':(i:Int)<(n:Int):=by omega
   have hz:=HZ.out.size
   obtain⟨jb,jo,rfl,hjB,cj⟩:=(HJ.out.below (HZ.out.mono (by omega))).at' hl
   have hE2:=HE.out.below (HZ.out.mono (show N≤V.heap.size by omega))
   obtain⟨e0,e1,e2,e3,e4⟩:=hE2.cells
   have hji:=HLT.out i hl
   obtain⟨hb,ho,hha,hhB,h0,h1,h2,h3,h4,h5⟩:=hE2.hits.get hji
   rw[hha] at e1
   have hebl:eb<wr.heap.size:=by have:=hE2.lt;omega
   have HCT:=Hd (show hC (thL e J i)++(e.hs (J i)).cells=hC (thL e J (i+1)) from by rw[jO3,qO3,jR9])
   have hji0:(0:Int)≤((J i:Nat):Int):=by omega
   have hjim:((J i:Nat):Int)<(e.m:Int):=by omega
   clear hE2 hha e0 e2 e3 e4 hji
   generalize e.hs (J i)=hv at*
   obtain⟨p0,p1,p2,p3,p4,p5⟩:=hv
   unfold HV.cells at HCT
   dsimp only at h0 h1 h2 h3 h4 h5 HCT
   generalize J i=ji at*
   generalize e.m=em at*
   generalize e.hc=ehc at*
   obtain⟨i0,hi0,hz0,hz1,hz22⟩:=info_parts xG5
   have hcn:i+1≤maxLen∧(i+1)*48≤140737488355328:=by unfold maxLen;omega
   go_wp2_with(at_builtin;refine wpList_append_own _ rfl _ _ 53 rfl V.heap.size 61 i0 _ 6 48 Tryz.underlying53 hi0 hz0 hz1 hz22 rfl (by decide) _ i (hC (thL e J i)) rfl (HO.out.alloc _) ⟨wr.heap.size,0,none⟩ 1 1 (HV.cells ⟨p0,p1,p2,p3,p4,p5⟩) rfl rfl R4 jS4 hcn.1 hcn.2 (by simp;omega) ?_;intro v' W4 hown4 hgrow4 _;have hbf:=((J3 wr (.cells #[.int .i64 p0,.int .i64 p1,.int .i64 p2,.int .i64 p3,.int .i64 p4,.int .i64 p5] 61)).mono hz).grown hgrow4 (by simp;omega) (fun b hb=>L7 HO.out hb);obtain⟨a4,c4,hv4⟩:=Y6 hown4;subst hv4;unfold HV.cells at hown4;dsimp only at hown4;rw[HCT.out] at hown4;have HO4:=Hd hown4;have HZ4:=Hd (HZ.out.trans hbf);clear hbf hown4 hgrow4 h0 h1 h2 h3 h4 h5 e1 cj)
   go_roundw
   case rel=>first|exact⟨i+1,by omega,by go_num,a4,c4,rfl,HO4,HZ4⟩|((repeat apply Z9);exact⟨⟨i+1,by omega,by go_num,a4,c4,rfl,HO4,HZ4⟩,rfl⟩)
   case measure=>simp[intOf];omega
  ·obtain rfl:i=n:=by omega
   have hl':¬(i:Int)<(i:Int):=by omega
   have hz:=HZ.out.size
   have hE2:=HE.out.below (HZ.out.mono (show N≤V.heap.size by omega))
   obtain⟨e0,e1,e2,e3,e4⟩:=hE2.cells
   have hhits:=(xC6 HO.out (by unfold maxLen;omega)).2.2
   have hhits2:qK7 wr.heap.size wr la i (fun k=>e.hs (J k)):=by
    refine⟨hhits.1,?_⟩
    rcases hhits.2 with h|⟨b,off,ha,hB,hc⟩
    ·exact .inl h
    ·refine .inr ⟨b,off,ha,hB,fun k hk=> ?_⟩
     have:=hc k hk
     dsimp only at this
     rw[kD0 hk] at this
     exact this
   have hcap:i≤lc∧lc≤maxLen:=by
    rcases HO.out.2 with⟨hh,h0⟩|⟨g',cap,cur,h5,_,_,h6,h7,_⟩
    ·omega
    ·injection h5 with _ _ h8
     omega
   have HCC:=Hd (HCO.out la lc wr (hE2.planes.up (by omega)) hhits2 hcap.1 hcap.2)
   have HRr:=Hd (J0 HR.out HZ.out)
   have HF:=Hd (HB0.out.trans (HZ.out.mono (by omega)))
   have hebl:eb<wr.heap.size:=by have:=hE2.lt;omega
   clear hE2 hhits hhits2 HO HZ e1 e2 e3 e4
   go_upto_region 8 with(go_at_call 190;refine HCC.out.mono ?_;rintro y W5 ⟨rfl,hb5⟩;have HR5:=Hd (J0 HRr.out hb5);have HF5:=Hd (HF.out.trans (hb5.mono (by have:=HF.out.size;omega)));clear hb5 e0)
   have hb6:=J3 W5 (.cells #[.int .i64 tlo,.int .i64 thi] 47)
   have HS6:=Hd (Q3 W5 (.cells #[.int .i64 tlo,.int .i64 thi] 47))
   have HR6:=Hd (J0 HR5.out hb6)
   have HF6:=Hd (HF5.out.trans (hb6.mono HF5.out.size))
   clear hb6 HR5 HF5 HF HRr HCC
   generalize World.alloc W5 _=W6 at*
   obtain⟨s0,s1⟩:=M7 HS6.out
   obtain⟨r0,r1⟩:=M7 HR6.out
   obtain⟨f0,f1⟩:=fr2 HR6.out
   go_wp2
   have hrow:=Q4 _ _ 1 _ _ (.int .i64 thi) (Q4 W6 _ 0 _ _ (.int .i64 tlo) HR6.out)
   have hbl:=(HF6.out.setCell (p:=⟨w.heap.size+1,0,none⟩) (by dsimp only;omega) (.int .i64 tlo)).setCell (p:=⟨w.heap.size+1,1,none⟩) (by dsimp only;omega) (.int .i64 thi)
   generalize World.setCell (World.setCell W6 _ _) _ _=V5 at*
   obtain⟨q0,q1⟩:=M7 hrow
   exact Z2 (v:= .tuple #[.agg #[.int .i64 tlo,.int .i64 thi],.bool true]) (by simp[results,Tryz.results172,go_sem,q0,q1]) rfl ⟨⟨_,_,rfl⟩,hbl⟩
theorem I1{num den:Int}(hd:1≤den∧den≤100000):1≤F3 num den∧F3 num den≤100000:=by
 unfold F3
 have hg1:1≤Nat.gcd num.natAbs den.natAbs:=Nat.gcd_pos_of_pos_right _ (by omega)
 have hg2:((Nat.gcd num.natAbs den.natAbs:Nat):Int)∣den:=by
  have h1:((Nat.gcd num.natAbs den.natAbs:Nat):Int)∣((den.natAbs:Nat):Int):=Int.ofNat_dvd.2 (Nat.gcd_dvd_right _ _)
  rwa [show((den.natAbs:Nat):Int)=den from by omega] at h1
 generalize Nat.gcd num.natAbs den.natAbs=G at*
 obtain⟨k,hk⟩:=hg2
 have hk1:1≤k:=by
  by_cases h:1≤k
  ·exact h
  ·have:(G:Int)*k≤0:=Int.mul_nonpos_of_nonneg_of_nonpos (by omega) (by omega)
   omega
 have hk2:k≤(G:Int)*k:=by
  have:=Z7 (show(1:Int)≤(G:Int) by omega) (show 0≤k by omega)
  omega
 have e:den.tdiv (G:Int)=k:=by rw[hk,Int.mul_tdiv_cancel_left _ (by omega)]
 rw[e]
 omega
def kH4(x y:ST):Int:=Lib.compareInt (R7 x.sl x.dn*F3 y.sl y.dn) (R7 y.sl y.dn*F3 x.sl x.dn)
def cfB(p q:Bool)(r:Int):Int:=if p then(if q then r else-1) else if q then 1 else-r
def cfL(t:Nat→RW)(n:Nat)(x y:ST):Int:=cfB (qF1 x t n) (qF1 y t n) (kH4 x y)
theorem xL7(x y:Int): -1≤Lib.compareInt x y∧Lib.compareInt x y≤1:=by
 unfold Lib.compareInt
 split
 ·decide
 ·split<;>decide
theorem xE6(x y:ST)(sb:Nat)(a:Option Addr)(n c:Nat)(cv:Value)(t:Nat→RW)(B:Nat)(w:World)(hBw:B≤w.heap.size)(hT:S5 B w a n t)(hO:qQ2 n t)(hx:x.ok)(hy:y.ok)(hs:w.heap[sb]?=some (.cells #[.slice a n c,cv] 121)):
  Calls Tryz.prog 206 #[x.val,y.val,.pointer (some ⟨sb,0,none⟩)] w fun e w'=>e= .returned (.int .i64 (cfL t n x y))∧Grw w w':=by
 have HB:=Hd (((Grw.refl w).alloc (.cells #[.int .i64 x.sl,.int .i64 x.st,.int .i64 x.dn] 181)).alloc (.cells #[.int .i64 y.sl,.int .i64 y.st,.int .i64 y.dn] 181))
 have hnew:=Q3 (w.alloc (.cells #[.int .i64 x.sl,.int .i64 x.st,.int .i64 x.dn] 181)) (.cells #[.int .i64 y.sl,.int .i64 y.st,.int .i64 y.dn] 181)
 rw[show(w.alloc (.cells #[.int .i64 x.sl,.int .i64 x.st,.int .i64 x.dn] 181)).heap.size=w.heap.size+1 from by simp] at hnew
 have HY:=Hd hnew
 have HX:=Hd (show((w.alloc (.cells #[.int .i64 x.sl,.int .i64 x.st,.int .i64 x.dn] 181)).alloc (.cells #[.int .i64 y.sl,.int .i64 y.st,.int .i64 y.dn] 181)).heap[w.heap.size]?=some (.cells #[.int .i64 x.sl,.int .i64 x.st,.int .i64 x.dn] 181) from(Q9 _ _ _ (by simp)).trans (Q3 w _))
 clear hnew
 have HS:=Hd (J0 hs HB.out.below)
 have HLX:=Hd (fun W (hb:Below ((w.alloc (.cells #[.int .i64 x.sl,.int .i64 x.st,.int .i64 x.dn] 181)).alloc (.cells #[.int .i64 y.sl,.int .i64 y.st,.int .i64 y.dn] 181)).heap.size ((w.alloc (.cells #[.int .i64 x.sl,.int .i64 x.st,.int .i64 x.dn] 181)).alloc (.cells #[.int .i64 y.sl,.int .i64 y.st,.int .i64 y.dn] 181)) W)=>xI8 x a n c cv t B W (Q5 hBw (Q5 HB.out.below.size hb.size)) (hT.below ((HB.out.below.trans (hb.mono HB.out.below.size)).mono hBw)) hO hx)
 have HLY:=Hd (fun W (hb:Below ((w.alloc (.cells #[.int .i64 x.sl,.int .i64 x.st,.int .i64 x.dn] 181)).alloc (.cells #[.int .i64 y.sl,.int .i64 y.st,.int .i64 y.dn] 181)).heap.size ((w.alloc (.cells #[.int .i64 x.sl,.int .i64 x.st,.int .i64 x.dn] 181)).alloc (.cells #[.int .i64 y.sl,.int .i64 y.st,.int .i64 y.dn] 181)) W)=>xI8 y a n c cv t B W (Q5 hBw (Q5 HB.out.below.size hb.size)) (hT.below ((HB.out.below.trans (hb.mono HB.out.below.size)).mono hBw)) hO hy)
 have hxs:=hx.sl
 have hys:=hy.sl
 have hxd:=hx.dn
 have hyd:=hy.dn
 have HFX:=Hd (fun W=>zR0 x.sl x.dn W (by omega) (by omega))
 have HFY:=Hd (fun W=>zR0 y.sl y.dn W (by omega) (by omega))
 have hnx:=qC5 x.sl x.dn
 have hny:=qC5 y.sl y.dn
 have hdx:=I1 (num:=x.sl) hxd
 have hdy:=I1 (num:=y.sl) hyd
 have HCM:=Hd (fun W=>zW5 (R7 x.sl x.dn) (F3 x.sl x.dn) (R7 y.sl y.dn) (F3 y.sl y.dn) W (by omega) hdx (by omega) hdy)
 unfold cfL kH4
 have hr:=xL7 (R7 x.sl x.dn*F3 y.sl y.dn) (R7 y.sl y.dn*F3 x.sl x.dn)
 generalize Lib.compareInt (R7 x.sl x.dn*F3 y.sl y.dn) (R7 y.sl y.dn*F3 x.sl x.dn)=r at*
 unfold spV at HFX HFY
 generalize R7 x.sl x.dn=nx at*
 generalize F3 x.sl x.dn=dx at*
 generalize R7 y.sl y.dn=ny at*
 generalize F3 y.sl y.dn=dy at*
 generalize qF1 x t n=p at*
 generalize qF1 y t n=q at*
 unfold ST.val at HLX HLY
 unfold ST.val
 have hsl:=J5 hs
 have hneg:IntKind.i64.wrap (-r)= -r:=Z1 _ (by omega)
 clear hs hT hO hx hy hxs hys hxd hyd hnx hny hdx hdy hr
 go_enter Tryz.func206,Tryz.ntmps206
 go_upto_region 1 with(fail)
 generalize World.alloc (World.alloc w _) _=V at*
 have hvl:=HB.out.below.size
 have hxl:=J5 HX.out
 have hyl:=J5 HY.out
 have hsl2:=J5 HS.out
 have s0:=Q0 _ _ 0 _ _ _ HS.out
 have s1:=(Q0 _ _ 1 _ _ _ HS.out).trans (show _=some cv from rfl)
 obtain⟨x0,x1,x2⟩:=U4 HX.out
 obtain⟨y0,y1,y2⟩:=U4 HY.out
 refine qQ8 (V.heap.size) (by kernel_rfl) (by kernel_rfl) ?_
 repeat(first|go_big_quiet_step((first|(go_at_call 207;with_reducible exact Calls.gcalm_of (Q1 _) (HLX.out _ (F4.below _)))|(go_at_call 207;with_reducible exact Calls.gcalm_of (Q1 _) (HLY.out _ (F4.below _)))))|quiet_step((first|(go_at_call 207;with_reducible exact Calls.gcalm_of (Q1 _) (HLX.out _ (F4.below _)))|(go_at_call 207;with_reducible exact Calls.gcalm_of (Q1 _) (HLY.out _ (F4.below _))))))
 refine X4 ?_
 intro wz hz'
 obtain⟨xq,hz''⟩:=hz'
 subst hz''
 have hq:=xq.grw
 have HB1:=Hd (HB.out.trans hq)
 have HX1:=Hd (J0 HX.out hq.below)
 have HY1:=Hd (J0 HY.out hq.below)
 clear s0 s1 x0 x1 x2 y0 y1 y2 hq hvl
 generalize F4.val xq=V1 at*
 have hxl1:=J5 HX1.out
 have hyl1:=J5 HY1.out
 have x0:=Q0 _ _ 0 _ _ _ HX1.out
 have x2:=Q0 _ _ 2 _ _ _ HX1.out
 have y0:=Q0 _ _ 0 _ _ _ HY1.out
 have y2:=Q0 _ _ 2 _ _ _ HY1.out
 go_upto_region 2 with(fail)
 refine qQ8 (V1.heap.size) (by kernel_rfl) (by kernel_rfl) ?_
 repeat(first|go_big_quiet_step((first|(go_at_call 90;with_reducible exact Calls.gcalm_of (Q1 _) (HFX.out _))|(go_at_call 90;with_reducible exact Calls.gcalm_of (Q1 _) (HFY.out _))|(go_at_call 125;with_reducible exact Calls.gcalm_of (Q1 _) (HCM.out _))))|quiet_step((first|(go_at_call 90;with_reducible exact Calls.gcalm_of (Q1 _) (HFX.out _))|(go_at_call 90;with_reducible exact Calls.gcalm_of (Q1 _) (HFY.out _))|(go_at_call 125;with_reducible exact Calls.gcalm_of (Q1 _) (HCM.out _)))))
 refine X4 ?_
 intro wz hz'
 obtain⟨xq,hz''⟩:=hz'
 subst hz''
 have HB2:=Hd (HB1.out.trans xq.grw)
 generalize F4.val xq=V2 at*
 cases p with
 |true=>
  cases q with
  |true=>go_wp2;go_ret;exact⟨rfl,HB2.out⟩
  |false=>go_wp2;go_ret;exact⟨rfl,HB2.out⟩
 |false=>
  cases q with
  |true=>go_wp2;go_ret;exact⟨rfl,HB2.out⟩
  |false=>go_wp2;go_ret;exact⟨rfl,HB2.out⟩
end
section
open Go.Shelf
def Tryz.laysSortSt_ren:Go.Shelf.Ren:=⟨fun|6=>205|15=>156|14=>210|28=>186|29=>187|20=>212|21=>213|22=>214|23=>215|24=>216|25=>217|26=>218|27=>219|46=>220|47=>194|48=>195|49=>221|50=>222|57=>223|n=>n,fun|22=>119|24=>181|25=>315|3=>3|39=>263|0=>0|53=>290|55=>292|4=>4|46=>283|45=>282|50=>287|5=>5|9=>9|66=>300|70=>304|76=>311|77=>164|n=>n,fun|n=>n⟩
theorem Tryz.laysSortSt:Go.Proofs.SlLaysF0.n6 Tryz.prog Tryz.laysSortSt_ren:={
  mixed:=by kernel_rfl
  f6:=⟨Tryz.f205.name,by decide,Tryz.func205.trans (congrArg some (by kernel_rfl))⟩
  f14:=⟨Tryz.f210.name,by decide,Tryz.func210.trans (congrArg some (by kernel_rfl))⟩
  f15:=Tryz.func156.trans (congrArg some (by kernel_rfl))
  f20:=⟨Tryz.f212.name,by decide,Tryz.func212.trans (congrArg some (by kernel_rfl))⟩
  f21:=⟨Tryz.f213.name,by decide,Tryz.func213.trans (congrArg some (by kernel_rfl))⟩
  f22:=⟨Tryz.f214.name,by decide,Tryz.func214.trans (congrArg some (by kernel_rfl))⟩
  f23:=⟨Tryz.f215.name,by decide,Tryz.func215.trans (congrArg some (by kernel_rfl))⟩
  f24:=⟨Tryz.f216.name,by decide,Tryz.func216.trans (congrArg some (by kernel_rfl))⟩
  f25:=⟨Tryz.f217.name,by decide,Tryz.func217.trans (congrArg some (by kernel_rfl))⟩
  f26:=⟨Tryz.f218.name,by decide,Tryz.func218.trans (congrArg some (by kernel_rfl))⟩
  f27:=⟨Tryz.f219.name,by decide,Tryz.func219.trans (congrArg some (by kernel_rfl))⟩
  f28:=Tryz.func186.trans (congrArg some (by kernel_rfl))
  f29:=Tryz.func187.trans (congrArg some (by kernel_rfl))
  f46:=⟨Tryz.f220.name,by decide,Tryz.func220.trans (congrArg some (by kernel_rfl))⟩
  f47:=Tryz.func194.trans (congrArg some (by kernel_rfl))
  f48:=Tryz.func195.trans (congrArg some (by kernel_rfl))
  f49:=⟨Tryz.f221.name,by decide,Tryz.func221.trans (congrArg some (by kernel_rfl))⟩
  f50:=⟨Tryz.f222.name,by decide,Tryz.func222.trans (congrArg some (by kernel_rfl))⟩
  f57:=⟨Tryz.f223.name,by decide,Tryz.func223.trans (congrArg some (by kernel_rfl))⟩
  t0:=Tryz.underlying0
  a0:=Tryz.isAgg0
  z0:=Tryz.sizeOf0
  v0:=Tryz.zeroValue0
  t3:=Tryz.underlying3
  a3:=Tryz.isAgg3
  z3:=Tryz.sizeOf3
  v3:=Tryz.zeroValue3
  t4:=Tryz.underlying4
  a4:=Tryz.isAgg4
  z4:=Tryz.sizeOf4
  v4:=Tryz.zeroValue4
  t5:=Tryz.underlying5
  a5:=Tryz.isAgg5
  z5:=Tryz.sizeOf5
  v5:=Tryz.zeroValue5
  t9:=Tryz.underlying9
  a9:=Tryz.isAgg9
  z9:=Tryz.sizeOf9
  v9:=Tryz.zeroValue9
  t22:=Tryz.underlying119
  a22:=Tryz.isAgg119
  z22:=Tryz.sizeOf119
  v22:=Tryz.zeroValue119
  t25:=Tryz.underlying315
  a25:=Tryz.isAgg315
  z25:=Tryz.sizeOf315
  v25:=Tryz.zeroValue315
  t39:=Tryz.underlying263
  a39:=Tryz.isAgg263
  z39:=Tryz.sizeOf263
  v39:=Tryz.zeroValue263
  t45:=Tryz.underlying282
  a45:=Tryz.isAgg282
  z45:=Tryz.sizeOf282
  v45:=Tryz.zeroValue282
  t46:=Tryz.underlying283
  a46:=Tryz.isAgg283
  z46:=Tryz.sizeOf283
  v46:=Tryz.zeroValue283
  t50:=Tryz.underlying287
  a50:=Tryz.isAgg287
  z50:=Tryz.sizeOf287
  v50:=Tryz.zeroValue287
  t53:=Tryz.underlying290
  a53:=Tryz.isAgg290
  z53:=Tryz.sizeOf290
  v53:=Tryz.zeroValue290
  t55:=Tryz.underlying292
  a55:=Tryz.isAgg292
  z55:=Tryz.sizeOf292
  v55:=Tryz.zeroValue292
  t66:=Tryz.underlying300
  a66:=Tryz.isAgg300
  z66:=Tryz.sizeOf300
  v66:=Tryz.zeroValue300
  t70:=Tryz.underlying304
  a70:=Tryz.isAgg304
  z70:=Tryz.sizeOf304
  v70:=Tryz.zeroValue304
  t76:=Tryz.underlying311
  a76:=Tryz.isAgg311
  z76:=Tryz.sizeOf311
  v76:=Tryz.zeroValue311
  t77:=Tryz.underlying164
  a77:=Tryz.isAgg164
  z77:=Tryz.sizeOf164
  v77:=Tryz.zeroValue164}
end
section
open Go Go.RowKit
abbrev SO:={s:ST//s.ok}
instance:Inhabited SO:=⟨⟨⟨0,0,1⟩,⟨by decide,by decide,by decide⟩⟩⟩
def zW8(x:SO):List Value:=[.int .i64 x.1.sl,.int .i64 x.1.st,.int .i64 x.1.dn]
def cfO(t:Nat→RW)(n:Nat)(x y:SO):Int:=cfL t n x.1 y.1
theorem xV5{a b c:Int}{x y z:Int}(hx:0<x)(hy:0<y)(hz:0<z)(h1:a*y<b*x)(h2:b*z<c*y):a*z<c*x:=by
 have e1:=Int.mul_lt_mul_of_pos_right h1 hz
 have e2:=Int.mul_lt_mul_of_pos_right h2 hx
 have e3:a*y*z=a*z*y:=by rw[X6,X6,Int.mul_comm y z]
 have e4:b*x*z=b*z*x:=by rw[X6,X6,Int.mul_comm x z]
 have e5:c*y*x=c*x*y:=by rw[X6,X6,Int.mul_comm y x]
 exact Int.lt_of_mul_lt_mul_right (a:=y) (by omega) (by omega)
theorem qM9{a b c:Int}{x y z:Int}(hx:0<x)(hy:0<y)(hz:0<z)(h1:a*y≤b*x)(h2:b*z≤c*y):a*z≤c*x:=by
 have e1:=Z7 h1 (Int.le_of_lt hz)
 have e2:=Z7 h2 (Int.le_of_lt hx)
 have e3:a*y*z=a*z*y:=by rw[X6,X6,Int.mul_comm y z]
 have e4:b*x*z=b*z*x:=by rw[X6,X6,Int.mul_comm x z]
 have e5:c*y*x=c*x*y:=by rw[X6,X6,Int.mul_comm y x]
 exact Int.le_of_mul_le_mul_right (a:=y) (by omega) hy
theorem xL3(t:Nat→RW)(n:Nat)(x y:SO):ltOf (cfO t n) x y=true↔(if qF1 x.1 t n=true then(if qF1 y.1 t n=true then R7 x.1.sl x.1.dn*F3 y.1.sl y.1.dn<R7 y.1.sl y.1.dn*F3 x.1.sl x.1.dn else True) else(qF1 y.1 t n=false∧R7 y.1.sl y.1.dn*F3 x.1.sl x.1.dn<R7 x.1.sl x.1.dn*F3 y.1.sl y.1.dn)):=by
 unfold ltOf cfO cfL cfB kH4
 rw[decide_eq_true_iff]
 generalize R7 x.1.sl x.1.dn*F3 y.1.sl y.1.dn=p
 generalize R7 y.1.sl y.1.dn*F3 x.1.sl x.1.dn=q
 have h1:= @zW4 p q
 have h2:= @zW3 p q
 cases qF1 x.1 t n<;>cases qF1 y.1 t n
 ·simp only[Bool.false_eq_true,if_false,true_and];omega
 ·simp
 ·simp
 ·simp only[if_true];omega
theorem kJ9(t:Nat→RW)(n:Nat):Go.Sort.SWO (ltOf (cfO t n)) where
 irrefl x:=by
  rw[Bool.eq_false_iff,ne_eq,xL3]
  cases qF1 x.1 t n<;>simp
 trans x y z h1 h2:=by
  rw[xL3] at*
  have dx:=(I1 (num:=x.1.sl) x.2.dn).1
  have dy:=(I1 (num:=y.1.sl) y.2.dn).1
  have dz:=(I1 (num:=z.1.sl) z.2.dn).1
  revert h1 h2
  generalize F3 x.1.sl x.1.dn=x' at*
  generalize F3 y.1.sl y.1.dn=y' at*
  generalize F3 z.1.sl z.1.dn=z' at*
  cases qF1 x.1 t n<;>cases qF1 y.1 t n<;>cases qF1 z.1 t n<;>simp
  ·exact fun h1 h2=>xV5 (by omega) (by omega) (by omega) h2 h1
  ·exact fun h1 h2=>xV5 (by omega) (by omega) (by omega) h1 h2
 ntrans x y z h1 h2:=by
  rw[Bool.eq_false_iff] at*
  rw[ne_eq,xL3] at*
  have dx:=(I1 (num:=x.1.sl) x.2.dn).1
  have dy:=(I1 (num:=y.1.sl) y.2.dn).1
  have dz:=(I1 (num:=z.1.sl) z.2.dn).1
  revert h1 h2
  generalize F3 x.1.sl x.1.dn=x' at*
  generalize F3 y.1.sl y.1.dn=y' at*
  generalize F3 z.1.sl z.1.dn=z' at*
  cases qF1 x.1 t n<;>cases qF1 y.1 t n<;>cases qF1 z.1 t n<;>simp
  ·exact fun h1 h2=>qM9 (by omega) (by omega) (by omega) h1 h2
  ·exact fun h1 h2=>qM9 (by omega) (by omega) (by omega) h2 h1
theorem zB4(W:World)(blk n:Nat)(dk:Array SO)(os:Array Obj)(k:Nat)(hk:k<W.heap.size)(hn:k≠blk):(sortWorldK zW8 3 W blk 0 n dk os).heap[k]?=W.heap[k]? :=by
 unfold sortWorldK Go.Sort.putRowK
 rw[Go.Sort.heap_grow_old _ _ (by simpa [Go.Sort.putRow,Go.Sort.mapBlock,Go.Sort.ahead] using hk)]
 simp[Go.Sort.putRow,Go.Sort.mapBlock,Go.Sort.ahead,Array.getElem?_modify,Ne.symm hn]
theorem qD5(W:World)(blk n:Nat)(dk:Array SO)(os:Array Obj):W.heap.size≤(sortWorldK zW8 3 W blk 0 n dk os).heap.size:=by
 simp[sortWorldK,Go.Sort.grow,Go.Sort.putRowK,Go.Sort.putRow,Go.Sort.mapBlock,Go.Sort.ahead]
theorem jI9(x:SO):∀v∈zW8 x,v.oneCell'=true:=by
 intro v hv
 simp[zW8] at hv
 rcases hv with rfl|rfl|rfl<;>rfl
theorem jB7(args:Array Value)(W:World):(callFunc 206 args).run Tryz.prog W= .ok (.enter 206 args) W:=enters_of Tryz.func206 (by kernel_rfl) rfl args W
def vL(L:List SO):List ST:=L.map (·.1)
theorem kQ1{L:List SO}{i:Nat}(h:i<L.length):(vL L).getD i ST.zero=(L[i]'h).1:=by
 unfold vL
 rw[X3,List.getElem?_map,Z5 h]
 rfl
theorem jB6(L:List SO)(va:Option Addr)(vc base:Nat)(sb:Nat)(a:Option Addr)(n c:Nat)(cv:Value)(t:Nat→RW)(B:Nat)(W:World)(hBw:B≤base)(hT:S5 B W a n t)(hO:qQ2 n t)
  (hown:W.ownsRow base 181 3 (.slice va L.length vc) L.length (stC (vL L))) (hs:W.heap[sb]?=some (.cells #[.slice a n c,cv] 121)) (hsb:sb<base) (hL:1≤L.length∧L.length≤2400):
  Calls Tryz.prog 205 #[.slice va L.length vc,.func (.func 206) #[] #[.pointer (some ⟨sb,0,none⟩)]] W fun e w'=>e= .returned (.tuple #[])∧∃D:List SO,D.Perm L∧S5 w'.heap.size w' va L.length (tC (vL D))∧Below base W w':=by
 have hlv:(vL L).length=L.length:=by simp[vL]
 obtain⟨b,rfl,hb1,hb2⟩:=qJ6 hown hL.1
 have hsize:L.toArray.size=L.length:=by simp
 have hget:∀i (h:i<L.length),L.toArray[i]! =L[i]:=fun i h=>by
  rw[getElem!_pos _ i (by simpa using h)];simp
 have hH:Go.Sort.HoldsK zW8 3 W b 0 L.toArray:=fun j hj=>by
  rw[Go.Sort.size_flatK] at hj
  have hj2:j<L.length*3:=by simpa using hj
  have e1:j/3<L.length:=by omega
  obtain⟨g0,g1,g2⟩:=xQ4 (vL L) (j/3) (by omega)
  unfold tC at g0 g1 g2
  rw[kQ1 e1] at g0 g1 g2
  rw[Go.Sort.get_flatK _ _ _ _ hj,hget _ e1,Nat.zero_add]
  have hcell:=hown.cellAt j (by omega)
  refine⟨?_,hown.frozenAt j⟩
  have h3:j%3=0∨j%3=1∨j%3=2:=by omega
  rcases h3 with h|h|h
  ·have e2:j=j/3*3:=by omega
   rw[h]
   rw[e2] at hcell
   rw[←e2] at hcell g0
   rw[hcell,g0]
   rfl
  ·have e2:j=j/3*3+1:=by omega
   rw[h]
   rw[←e2] at g1
   rw[hcell,g1]
   rfl
  ·have e2:j=j/3*3+2:=by omega
   rw[h]
   rw[←e2] at g2
   rw[hcell,g2]
   rfl
 have hcmp:CmpLays Tryz.prog 206 #[.pointer (some ⟨sb,0,none⟩)] zW8 3 (cfO t n) b 0 L.toArray.size W:=fun m os dk hdk x y=>by
  have hbl:Below base W (sortWorldK zW8 3 W b 0 m dk os):=⟨rfl,rfl,rfl,qD5 W b m dk os,fun k hk=>zB4 W b m dk os k (by omega) (by omega)⟩
  have hz:=qD5 W b m dk os
  refine(xE6 x.1 y.1 sb a n c cv t B _ (by omega) (hT.below (hbl.mono hBw)) hO x.2 y.2 ((hbl.block sb hsb).trans hs)).mono ?_
  rintro e w' ⟨he,hg⟩
  exact⟨he,hg.ex⟩
 have hcon:=AnyQ.slices_SortFunc Tryz.laysSortSt 3 Tryz.isAgg181 Tryz.sizeOf181 zW8 (fun _=>rfl) jI9 (cfO t n) (kJ9 t n) 206 #[.pointer (some ⟨sb,0,none⟩)] b 0 vc L.toArray W jB7 hcmp hH hb2 (by rw[hsize];omega)
 rw[hsize] at hcon
 change Calls Tryz.prog 205 _ _ _ at hcon
 refine hcon.mono fun e w' ⟨he,d',q,os,hp',hs',hw⟩=>⟨he,d'.toList,?_,?_,?_⟩
 ·have hd:d'.size=L.length:=by rw[hp'.1,hsize]
  have:=hp'.2.2
  rw[show d'.extract 0 L.length=d' from by rw[←hd];simp,show L.toArray.extract 0 L.length=L.toArray from by rw[←hsize];simp] at this
  simpa using this
 ·have hd:d'.size=L.length:=by rw[hp'.1,hsize]
  have hz:=qD5 W b q d' os
  refine .inr ⟨b,0,rfl,by rw[hw];omega,fun i hi=> ?_⟩
  have hi':i<d'.size:=by omega
  have hh:=holdsK_sortWorldK_c zW8 3 W b 0 L.toArray d' q os hH hb2 (by rw[hd,hsize])
  have c0:=(hh.cell (i:=i) (c:=0) hi' (by decide)).1
  have c1:=(hh.cell (i:=i) (c:=1) hi' (by decide)).1
  have c2:=(hh.cell (i:=i) (c:=2) hi' (by decide)).1
  have hg:d'[i]! =d'.toList[i]'(by simpa using hi'):=by rw[getElem!_pos d' i hi'];simp
  rw[hg] at c0 c1 c2
  rw[hw]
  unfold tC
  rw[kQ1 (L:=d'.toList) (by simpa using hi')]
  exact⟨c0,c1,c2⟩
 ·rw[hw]
  exact⟨rfl,rfl,rfl,qD5 W b q d' os,fun k hk=>zB4 W b q d' os k (by omega) (by omega)⟩
end
end Go.Proofs.YtmncaipgefbalaaGreatDoor
