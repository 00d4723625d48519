/- Part of the proof of the claim. -/
import Derived.Test.YtmncaipgefbalaaGreatDoorQbe
import Derived.Test.YtmncaipgefbalaaGreatDoorQay
set_option maxRecDepth 100000
set_option maxHeartbeats 8000000
set_option linter.unusedVariables false
set_option linter.unusedSimpArgs false
namespace Go.Proofs.YtmncaipgefbalaaGreatDoor
section
open Go Go.RowKit
theorem kQ5(a:Option Addr)(N m c:Nat)(ts:Nat→TI)(vs:Nat→Int)(B:Nat)(w:World)(hBw:B≤w.heap.size)(hT:qT5 B w a m ts)(hO:qG7 N m ts=true)(hA:T1 N m ts N vs=true):
  Calls Tryz.prog 27 #[jY2 N a m c,.slice none 0 0] w fun e w'=>e= .returned (.tuple #[.pointer (some ⟨w.heap.size+1,0,none⟩),.int .i64 0])∧qT6 B N a m c ts (w.heap.size+1) w'∧Below w.heap.size w w':=by
 have HT:=Hd hT
 have HCK:=Hd (fun W (h:Below w.heap.size w W)=>xX6 a N m c ts W B (Q5 hBw h.size) (hT.below (h.mono hBw)) hO)
 have HTN:=Hd (fun q W (h1:Below w.heap.size w W) (h2:qT6 B N a m c ts q W)=>kD2 a N m c ts vs B q W (Q5 hBw h1.size) h2 (J5 h2.box) hO hA)
 clear hT hO hA
 go_enter Tryz.func27,Tryz.ntmps27
 go_upto_region 1 with(fail)
 have hb1:=(Q2 _ w).alloc (Q1 _) (.cells #[.int .i64 (N:Int),.slice a m c] 38)
 have hx1:=Q3 w (.cells #[.int .i64 (N:Int),.slice a m c] 38)
 have hz1:(w.alloc (.cells #[.int .i64 (N:Int),.slice a m c] 38)).heap.size=w.heap.size+1:=by simp
 generalize World.alloc w _=V at*
 obtain⟨k0,k1⟩:=M7 hx1
 simp only[P2] at k0 k1
 have hvl:=J5 hx1
 have HB1:=Hd hb1
 have HX1:=Hd hx1
 have HZ1:=Hd hz1
 clear hb1 hx1 hz1
 go_upto_region 2 with(fail)
 have hb2:=(Q2 _ V).alloc (Q1 _) (.cells #[.int .i64 (N:Int),.slice a m c,.map none] 152)
 have hx2:=Q3 V (.cells #[.int .i64 (N:Int),.slice a m c,.map none] 152)
 rw[HZ1.out] at hx2 ⊢
 have HB2:=Hd (HB1.out.trans (hb2.mono HB1.out.size))
 have HN2:=Hd (Y0 HX1.out hb2)
 have HW2:=Hd (show qT6 B N a m c ts (w.heap.size+1) _ from⟨hx2,HT.out.below (HB2.out.mono hBw)⟩)
 clear hb2 hx2 k0 k1 HX1 hvl
 generalize World.alloc V _=W2 at*
 obtain⟨k0,k1⟩:=M7 HN2.out
 simp only[P2] at k0 k1
 go_wp2_with(go_at_call 64;refine(HCK.out _ HB2.out).mono ?_;rintro e W3 ⟨rfl,hb3⟩;have HB3:=Hd (HB2.out.trans (hb3.mono HB2.out.size));have HW3:=Hd (HW2.out.below (Q5 hBw HB2.out.size) hb3);clear hb3 k0 k1 HN2)
 go_loopw [17] (fun s17 wr=>s17= .int .i64 0∧Hid (Below w.heap.size w wr)∧Hid (qT6 B N a m c ts (w.heap.size+1) wr)) (fun _ _=>0)
 case atStart=>exact⟨rfl,HB3,HW3⟩
 case round=>
  clear HB3 HW3
  obtain⟨rfl,HB3,HW3⟩:=hrel
  go_wp2_with(go_at_call 66;refine(HTN.out _ _ HB3.out HW3.out).mono ?_;rintro e W4 ⟨rfl,hb4⟩;have HB4:=Hd (HB3.out.trans (hb4.mono HB3.out.size));have HW4:=Hd (HW3.out.below (Q5 hBw HB3.out.size) hb4);clear hb4)
  exact Z2 (v:= .tuple #[.pointer (some ⟨w.heap.size+1,0,none⟩),.int .i64 0]) (by simp[results,Tryz.results27,go_sem]) rfl ⟨rfl,HW4.out,HB4.out⟩
structure jE1(N m:Nat)(ts:Nat→TI)(b:Nat)(f g:Nat→FV)(W:World):Prop where
 row:SR 47 W b N (fun i=>⟨-(f i).len,(g i).len⟩)
 low:∃r,r≤N∧F5 ((K8 ts m).map SP.tw) 0 N r f
 high:∃r,r≤N∧F5 ((K8 ts m).map SP.fr) 0 N r g
theorem jJ3{l:List WY}{n N r:Nat}{d:Nat→FV}(h:F5 l n N r d)(hl:l.length*r<900)(x:Nat): -1000000000000≤(d x).len∧(d x).len≤1000000000000:=by
 have h2:(l.length:Int)*r<900:=by
  have:((l.length*r:Nat):Int)=(l.length:Int)*r:=by simp
  omega
 rcases h.ok x with e|e
 ·rw[e];exact⟨by decide,by decide⟩
 ·have h3:=e.uses
  have h4:=e.len
  omega
theorem zK9(d:Nat→FV){i:Nat}(hi:i<40):(A2 d)[i*2]?=some (.int .i64 (d i).len):=by
 unfold A2
 rw[List.getElem?_map,List.getElem?_range (by omega)]
 simp only[Option.map_some,qG1]
 rw[if_pos (by omega),show i*2/2=i by omega]
theorem xX5(a:Option Addr)(N m c:Nat)(ts:Nat→TI)(vs:Nat→Int)(B:Nat)(w:World)(hBw:B≤w.heap.size)(hT:qT5 B w a m ts)(hO:qG7 N m ts=true)(hA:T1 N m ts N vs=true)(hN8:N≤8)(hm12:m≤12)(hnv:qV1 w)(hw0:0<w.heap.size):
  Calls Tryz.prog 11 #[jY2 N a m c] w fun e w'=>∃b f g,e= .returned (.tuple #[.slice (some ⟨b,0,none⟩) N N,.int .i64 0])∧jE1 N m ts b f g w'∧Below w.heap.size w w':=by
 have HT:=Hd hT
 have hN1:=(U9.1 hO).2.1
 have HWV:=Hd (fun W (h:Below w.heap.size w W)=>kQ5 a N m c ts vs B W (Q5 hBw h.size) (hT.below (h.mono hBw)) hO hA)
 have HTO:=Hd (fun q W (h:Below w.heap.size w W) (h2:qT6 B N a m c ts q W)=>jL5 a N m c 0 ts vs B q W (Q5 hBw h.size) h2 hO hA hN8 hm12 (by omega) (hnv.below h hw0))
 have HFR:=Hd (fun q W (h:Below w.heap.size w W) (h2:qT6 B N a m c ts q W)=>xH7 a N m c 0 ts vs B q W (Q5 hBw h.size) h2 hO hA hN8 hm12 (by omega) (hnv.below h hw0))
 have hl1:=(zF6 hO).2.2
 have hl2:=(qA9 hO).2.2
 have HFB:=Hd (fun(f:Nat→FV) (h:∃r,r≤N∧F5 ((K8 ts m).map SP.tw) 0 N r f) x=>show-1000000000000≤(f x).len∧(f x).len≤1000000000000 from by
  obtain⟨r,h1,h2⟩:=h
  have h3:((K8 ts m).map SP.tw).length*r≤24*8:=X8 (by omega) (by omega)
  exact jJ3 h2 (by omega) x)
 have hmk:=xR6 N (by omega)
 clear hT hO hA hnv hl1 hl2
 go_enter Tryz.func11,Tryz.ntmps11
 go_upto_region 1 with(fail)
 have HV:=Hd ((Q2 _ w).alloc (Q1 _) (.cells #[.int .i64 (N:Int),.slice a m c] 38))
 have hx1:=Q3 w (.cells #[.int .i64 (N:Int),.slice a m c] 38)
 generalize World.alloc w _=V at*
 have HX:=Hd hx1
 obtain⟨k0,k1⟩:=M7 hx1
 simp only[P2] at k0 k1
 have hvl:=J5 hx1
 clear hx1
 go_upto_region 4 with(go_at_call 27;refine(HWV.out _ HV.out).mono ?_;rintro e W1 ⟨rfl,hwb,hb1⟩;have HB1:=Hd (HV.out.trans (hb1.mono HV.out.size));have HX1:=Hd (Y0 HX.out hb1);have HWB:=Hd hwb;clear hb1 hwb k0 k1)
 refine wp_region_lit ?_
 (refine wpList_plain rfl (fun K hK=> ?_);go_simp)
 (refine hK _ _ ?_;clear hK K;refine hnm ?_)
 (refine wpList_plain rfl (fun K hK=> ?_);go_simp)
 refine(HTO.out _ _ HB1.out HWB.out).mono ?_
 rintro e W2 ⟨f,rfl,hf,hb2⟩
 (refine hK _ _ ?_;clear hK K;refine hnm ?_)
 have HB2:=Hd (HB1.out.trans (hb2.mono HB1.out.size))
 have HX2:=Hd (Y0 HX1.out hb2)
 have HWB2:=Hd (HWB.out.below (Q5 hBw HB1.out.size) hb2)
 have HF:=Hd hf
 clear hb2 hf HWB HX1
 (refine wpList_plain rfl (fun K hK=> ?_);go_simp)
 (refine hK _ _ ?_;clear hK K;refine hnm ?_)
 (refine wpList_plain rfl (fun K hK=> ?_);go_simp)
 refine(HFR.out _ _ HB2.out HWB2.out).mono ?_
 rintro e W3 ⟨g,rfl,hg,hb3⟩
 (refine hK _ _ ?_;clear hK K;refine hnm ?_)
 have HB3:=Hd (HB2.out.trans (hb3.mono HB2.out.size))
 have HX3:=Hd (Y0 HX2.out hb3)
 have HG:=Hd hg
 clear hb3 hg HWB2 HX2 HB2 HB1
 (refine wpList_plain rfl (fun K hK=> ?_);go_simp)
 (refine hK _ _ ?_;clear hK K;refine hnm ?_)
 (refine wpList_plain rfl (fun K hK=> ?_);go_simp)
 (refine hK _ _ ?_;clear hK K;refine hnm ?_)
 have hz4:((W3.alloc (.cells Tryz.zeroCells91 91)).alloc (.cells Tryz.zeroCells91 91)).heap.size=W3.heap.size+1+1:=by simp
 have hb4:=((Q2 _ W3).alloc (Q1 _) (.cells Tryz.zeroCells91 91)).alloc (by simp) (.cells Tryz.zeroCells91 91)
 have hr1:=(zK8 W3).alloc (.cells Tryz.zeroCells91 91)
 have hr2:=zK8 (W3.alloc (.cells Tryz.zeroCells91 91))
 rw[show(W3.alloc (.cells Tryz.zeroCells91 91)).heap.size=W3.heap.size+1 from by simp] at hr2
 (try simp only[World.heap_size_alloc])
 generalize World.alloc (World.alloc W3 _) _=W4 at*
 have hth1:=zE9 hr1
 have hth2:=zE9 hr2
 have hx4:=Y0 HX3.out hb4
 have hbw4:=HB3.out.trans (hb4.mono HB3.out.size)
 have hw3l:=HB3.out.size
 have hxl3:=J5 HX3.out
 clear hr1 hr2 hb4 HX3
 refine wpList_store_mid rfl 91 _ _ rfl W3.heap.size 0 (A2 f).toArray rfl rfl (by rw[qX3];exact hth1) (by rw[qX3];exact qK2) (zF9 f) ?_
 refine hnm ?_
 have hq1:=World.rangeAt_setCells_same W4 W3.heap.size 0 (A2 f) (by rw[qL7];exact hth1)
 have hth2:=World.there_setCells hth2 W3.heap.size 0 (A2 f)
 have hx5:=(E5 (b:=W3.heap.size) (c:=w.heap.size) (by omega) (A2 f) 0 W4).trans hx4
 have hbw5:=R5 (show w.heap.size≤W3.heap.size by omega) (A2 f) 0 W4 hbw4
 clear hth1 hx4 hbw4 hz4
 generalize World.setCells W4 _ _ _=W5 at*
 refine wpList_store_mid rfl 91 _ _ rfl (W3.heap.size+1) 0 (A2 g).toArray rfl rfl (by rw[qX3];exact hth2) (by rw[qX3];exact qK2) (zF9 g) ?_
 refine hnm ?_
 have hq2:=World.rangeAt_setCells_same W5 (W3.heap.size+1) 0 (A2 g) (by rw[qL7];exact hth2)
 have hq1:=E7 hq1 (E5 (b:=W3.heap.size+1) (c:=W3.heap.size) (by omega) (A2 g) 0 W5)
 have hx6:=(E5 (b:=W3.heap.size+1) (c:=w.heap.size) (by omega) (A2 g) 0 W5).trans hx5
 have hbw6:=R5 (show w.heap.size≤W3.heap.size+1 by omega) (A2 g) 0 W5 hbw5
 clear hth2 hx5 hbw5
 generalize World.setCells W5 _ _ _=W6 at*
 simp only[wpList]
 have HQ1:=Hd hq1
 have HQ2:=Hd hq2
 have HX6:=Hd hx6
 have HB6:=Hd hbw6
 clear hq1 hq2 hx6 hbw6
 generalize W3.heap.size=b1 at*
 have k0:=Q0 _ _ 0 _ _ _ HX6.out
 go_upto_region 6 with(fail)
 have hm0:=SR.made W6 47 N
 have hb7:=(Q2 _ W6).alloc (Q1 _) (.cells (madeCells #[.int .i64 0,.int .i64 0] (N*2)) 47)
 have HB7:=Hd (HB6.out.trans (hb7.mono HB6.out.size))
 have hcb1:W6.cell? ⟨b1,0,none⟩=some _:=HQ1.out 0 _ (zK9 f (i:=0) (by omega))
 have hcb2:W6.cell? ⟨b1+1,0,none⟩=some _:=HQ2.out 0 _ (zK9 g (i:=0) (by omega))
 have hbl1:=World.block_lt_of_cell? W6 _ hcb1
 have hbl2:=World.block_lt_of_cell? W6 _ hcb2
 dsimp only at hbl1 hbl2
 have HQ1:=Hd (E7 HQ1.out (hb7.block _ hbl1))
 have HQ2:=Hd (E7 HQ2.out (hb7.block _ hbl2))
 clear hb7 HB6 k0 hcb1 hcb2
 generalize World.alloc W6 _=W7 at*
 have hobl:=HB7.out.size
 have hwl6:w.heap.size≤W6.heap.size:=by omega
 generalize W6.heap.size=ob at*
 have HM:=Hd hm0
 clear hm0 hmk
 go_wp2
 go_loopw [27] (fun s27 wr=>∃i:Nat,i≤N∧s27= .int .i64 (i:Int)∧Hid (SR 47 wr ob N (fun j=>if j<i then⟨-(f j).len,(g j).len⟩ else⟨0,0⟩))∧Hid (wr.rangeAt b1 0 (A2 f))∧Hid (wr.rangeAt (b1+1) 0 (A2 g))∧Hid (Below w.heap.size w wr)) (fun s27 _=>N-(intOf s27).toNat)
 case atStart=>exact⟨0,by omega,rfl,Hd (HM.out.congr (fun j _=>by simp)),HQ1,HQ2,HB7⟩
 case round=>
  clear HM HQ1 HQ2 HB7
  obtain⟨i,hi,rfl,HM,HQ1,HQ2,HB7⟩:=hrel
  by_cases hlt:i<N
  ·have hlt':(i:Int)<(N:Int):=by omega
   have h40:(i:Int)<40:=by omega
   have c1:=HQ1.out _ _ (zK9 f (i:=i) (by omega))
   have c2:=HQ2.out _ _ (zK9 g (i:=i) (by omega))
   rw[Nat.zero_add] at c1 c2
   have hl1:b1<wr.heap.size:=World.block_lt_of_cell? wr _ c1
   have hl2:b1+1<wr.heap.size:=World.block_lt_of_cell? wr _ c2
   have hb:=HFB.out f HF.out i
   have hneg:IntKind.i64.wrap (-(f i).len)= -(f i).len:=Z1 _ (by omega)
   go_upto_region 9 with(fail)
   (refine M0 (wr.heap.size) 13 (by kernel_rfl) (by kernel_rfl) ?_;simp only[List.take_succ_cons,List.take_zero,X7,List.drop_zero];(repeat(first|go_big_quiet_step(fail)|quiet_step(fail)));refine X4 (wqn ?_);intro xq)
   have hq:=xq.below
   have hol:=HM.out.lt
   have HM2:=Hd (HM.out.step hq)
   have HB8:=Hd (HB7.out.trans (hq.mono HB7.out.size))
   have HQ12:=Hd (E7 HQ1.out (hq.block _ hl1))
   have HQ22:=Hd (E7 HQ2.out (hq.block _ hl2))
   have hx8:=HM2.out.lt
   clear hq c1 c2 hneg HM HB7 HQ1 HQ2
   generalize K9.val xq=W8 at*
   obtain⟨d0,d1⟩:=HM2.out.cell hlt
   have g0:=HM2.out.frozen (i*2)
   have g1:=HM2.out.frozen (i*2+1)
   go_wp2
   have hs:=HM2.out.set hlt (-(f i).len) (g i).len
   have hbe:=(HB8.out.setCell (p:=⟨ob,i*2,none⟩) hwl6 (.int .i64 (-(f i).len))).setCell (p:=⟨ob,i*2+1,none⟩) hwl6 (.int .i64 (g i).len)
   have hr1:=E7 HQ12.out ((Q6 (W8.setCell ⟨ob,i*2,none⟩ (.int .i64 (-(f i).len))) ⟨ob,i*2+1,none⟩ b1 (.int .i64 (g i).len) (by dsimp only;omega)).trans (Q6 W8 ⟨ob,i*2,none⟩ b1 (.int .i64 (-(f i).len)) (by dsimp only;omega)))
   have hr2:=E7 HQ22.out ((Q6 (W8.setCell ⟨ob,i*2,none⟩ (.int .i64 (-(f i).len))) ⟨ob,i*2+1,none⟩ (b1+1) (.int .i64 (g i).len) (by dsimp only;omega)).trans (Q6 W8 ⟨ob,i*2,none⟩ (b1+1) (.int .i64 (-(f i).len)) (by dsimp only;omega)))
   go_roundw
   case rel=>
    refine⟨i+1,by omega,by go_num,Hd (hs.congr (fun j hj=> ?_)),Hd hr1,Hd hr2,Hd hbe⟩
    by_cases e:j=i
    ·subst e;simp
    ·by_cases e2:j<i
     ·rw[if_neg e,if_pos e2,if_pos (by omega)]
     ·rw[if_neg e,if_neg e2,if_neg (by omega)]
   case measure=>simp[intOf];omega
  ·obtain rfl:i=N:=by omega
   have hlt':¬(i:Int)<(i:Int):=by omega
   go_wp2
   exact Z2 (v:= .tuple #[.slice (some ⟨ob,0,none⟩) i i,.int .i64 0]) (by simp[results,Tryz.results11,go_sem]) rfl ⟨ob,rfl,⟨f,g,⟨HM.out.congr (fun j hj=>by simp[hj]),HF.out,HG.out⟩⟩,HB7.out⟩
end
section
open Go.RowKit
theorem D0.congr{B:Nat}{w:World}{a:Option Addr}{n:Nat}{f g:Nat→Int}(h:D0 B w a n f)(e:∀i,i<n→f i=g i):D0 B w a n g:=by
 rcases h with h|⟨b,off,ha,hB,hc⟩
 ·exact .inl h
 ·exact .inr ⟨b,off,ha,hB,fun i hi=>by rw[←e i hi];exact hc i hi⟩
theorem R8.congr{B:Nat}{w:World}{a:Option Addr}{n:Nat}{f g:Nat→DV}(h:R8 B w a n f)(e:∀i,i<n→f i=g i):R8 B w a n g:=by
 rcases h with h|⟨b,off,ha,hB,hc⟩
 ·exact .inl h
 ·exact .inr ⟨b,off,ha,hB,fun i hi=>by rw[←e i hi];exact hc i hi⟩
structure jF9(p q:PR):Prop where
 kind:p.kind=q.kind
 view:p.view=q.view
 z:p.z=q.z
 first:p.first=q.first
 pitch:p.pitch=q.pitch
 strips:p.strips=q.strips
 spill:p.spill=q.spill
 olo:p.olo=q.olo
 ohi:p.ohi=q.ohi
 clo:p.clo=q.clo
 chi:p.chi=q.chi
 jitter:p.jitter=q.jitter
 least:p.least=q.least
 dn:p.dn=q.dn
 en:p.en=q.en
 ds:p.ds=q.ds
 es:p.es=q.es
end
section
open Go.ChangeShapes Go.WideShapes Go.ChangeAt Go.RowKit Go.Deep Go.Joins
structure PSV where
 lo:Int
 hi:Int
instance:Nonempty PSV:=⟨⟨0,0⟩⟩
def qX6(B:Nat)(w:World)(a:Option Addr)(n:Nat)(ss:Nat→PSV):Prop:=
 n≤maxLen∧(n=0∨∃b off,a=some ⟨b,off,none⟩∧b<B∧∀i,i<n→w.cell? ⟨b,off+i*2,none⟩=some (.int .i64 (ss i).lo)∧w.cell? ⟨b,off+i*2+1,none⟩=some (.int .i64 (ss i).hi))
theorem qX6.below{B:Nat}{w w':World}{a:Option Addr}{n:Nat}{ss:Nat→PSV}(h:qX6 B w a n ss)(hb:Below B w w'):qX6 B w' a n ss:=by
 refine⟨h.1,?_⟩
 rcases h.2 with h|⟨b,off,ha,hB,hc⟩
 ·exact .inl h
 ·exact .inr ⟨b,off,ha,hB,fun i hi=>⟨((J9 hb).1 _ _ hB).trans (hc i hi).1,((J9 hb).1 _ _ hB).trans (hc i hi).2⟩⟩
section
variable {H:Type}{enc:TypeId×Value→H}{w:World}{base:Nat}{held:Bool}
end
end
section
open Go.RowKit
def qE1(p:PR)(o c:PSV)(A:Option Addr×Nat×Option Addr×Nat):PR:={p with olo:=o.lo,ohi:=o.hi,clo:=c.lo,chi:=c.hi,da:=A.1,dc:=A.2.1,ea:=A.2.2.1,ec:=A.2.2.2}
def qE9(ps:Nat→PR)(os cs:Nat→PSV)(A:Nat→Option Addr×Nat×Option Addr×Nat)(i:Nat):PR:=qE1 (ps i) (os i) (cs i) (A i)
def xX9(ps:Nat→PR)(os cs:Nat→PSV)(i:Nat):PR:=qE1 (ps i) (os i) (cs i) ((ps i).da,(ps i).dc,(ps i).ea,(ps i).ec)
theorem jX3(ps:Nat→PR)(os cs:Nat→PSV)(A:Nat→Option Addr×Nat×Option Addr×Nat)(i:Nat):jF9 (xX9 ps os cs i) (qE9 ps os cs A i):=
 ⟨rfl,rfl,rfl,rfl,rfl,rfl,rfl,rfl,rfl,rfl,rfl,rfl,rfl,rfl,rfl,rfl,rfl⟩
theorem jN5(n:Nat)(ps:Nat→PR)(os cs:Nat→PSV)(A:Nat→Option Addr×Nat×Option Addr×Nat):K7 n (qE9 ps os cs A)=K7 n (xX9 ps os cs):=by
 have:C8 (qE9 ps os cs A)=C8 (xX9 ps os cs):=funext fun j=>rfl
 rw[K7,K7,this]
def qG6(p:PR)(o c:PSV):Bool:=decide (p.olo≤o.lo)&&(decide (o.hi≤p.ohi)&&(decide (p.clo≤c.lo)&&decide (c.hi≤p.chi)))
def zM1(ps:Nat→PR)(os cs:Nat→PSV):Nat→Bool
 |0=>true
 |k+1=>zM1 ps os cs k&&qG6 (ps k) (os k) (cs k)
theorem jY1{p:PR}{o c:PSV}:qG6 p o c=true↔p.olo≤o.lo∧o.hi≤p.ohi∧p.clo≤c.lo∧c.hi≤p.chi:=by simp[qG6]
theorem xB6{ps:Nat→PR}{os cs:Nat→PSV}:∀{n:Nat},zM1 ps os cs n=true↔∀i,i<n→qG6 (ps i) (os i) (cs i)=true
 |0=>by simp[zM1]
 |n+1=>by
  rw[zM1,Q8,xB6]
  exact⟨fun h i hi=>by(by_cases e:i=n;subst e;exact h.2;exact h.1 i (by omega)),fun h=>⟨fun i hi=>h i (by omega),h n (by omega)⟩⟩
def qI8(n:Nat)(ps:Nat→PR)(on:Nat)(os:Nat→PSV)(cn:Nat)(cs:Nat→PSV):Int:=
 if on=n∧cn=n then(if K7 n (xX9 ps os cs)=true then(if zM1 ps os cs n=true then 0 else 7) else 2) else 2
def zV1(w:World)(n:Nat)(Q:Nat→PR)(E:Int)(e:Ending)(w':World):Prop:=
 ∃(m:Nat) (a:Option Addr) (c:Nat) (qs:Nat→PR),e= .returned (.tuple #[.agg #[.slice a m c],.int .i64 E])∧(E=0→m=n∧Y2 w'.heap.size w' a m qs∧∀i,i<m→jF9 (Q i) (qs i))∧(¬E=0→m=0∧a=none∧c=0)∧Below w.heap.size w w'
theorem O0{w w':World}{n:Nat}{Q:Nat→PR}{E F:Int}(h:F=E)(h0:¬E=0)(hb:Below w.heap.size w w'):zV1 w n Q F (.returned (.tuple #[.agg #[.slice none 0 0],.int .i64 E])) w':=
 ⟨0,none,0,fun _=>kQ7,by rw[h],fun e=>absurd (h.symm.trans e) h0,fun _=>⟨rfl,rfl,rfl⟩,hb⟩
theorem qS7{p:PR}(h:K6 p=true):p.dn≤50∧p.en≤100:=by
 simp only[K6,Q8] at h
 obtain⟨_,_,hk,hd⟩:=h
 constructor
 ·by_cases e:p.kind=2
  ·rw[U8,if_pos e] at hk
   simp only[E6,Q8,J8] at hk
   omega
  ·rw[U8,if_neg e] at hk
   have:(p.dn:Int)=0:=by simpa using hk
   omega
 ·simp only[qF9,Q8,Z8] at hd
  omega
theorem qX6.up{B B':Nat}{w:World}{a:Option Addr}{n:Nat}{ss:Nat→PSV}(h:qX6 B w a n ss)(hb:B≤B'):qX6 B' w a n ss:=by
 refine⟨h.1,?_⟩
 rcases h.2 with h|⟨b,off,ha,hB,hc⟩
 ·exact .inl h
 ·exact .inr ⟨b,off,ha,by omega,hc⟩
theorem qX6.get{B:Nat}{w:World}{a:Option Addr}{n:Nat}{ss:Nat→PSV}(h:qX6 B w a n ss){i:Nat}(hi:i<n):∃b off,a=some ⟨b,off,none⟩∧b<B∧w.cell? ⟨b,off+i*2,none⟩=some (.int .i64 (ss i).lo)∧w.cell? ⟨b,off+i*2+1,none⟩=some (.int .i64 (ss i).hi):=by
 rcases h.2 with h|⟨b,off,ha,hB,hc⟩
 ·omega
 ·exact⟨b,off,ha,hB,(hc i hi).1,(hc i hi).2⟩
abbrev AB(a:Option Addr)(n c:Nat)(w wx:World):Prop:=wx.cell? ⟨w.heap.size,0,none⟩=some (.slice a n c)∧wx.cell? ⟨w.heap.size+1,0,none⟩=some (.slice none 0 0)∧wx.frozen? ⟨w.heap.size+1,0,none⟩=false∧w.heap.size<wx.heap.size∧w.heap.size+1<wx.heap.size∧Below w.heap.size w wx
theorem qT3{a:Option Addr}{n c:Nat}{w:World}{t t':TypeId}:AB a n c w ((w.alloc (.cells #[.slice a n c] t)).alloc (.cells #[.slice none 0 0] t')):=
 ⟨Q0 _ _ _ _ _ _ (qN1 _ _ _),Q0 _ _ _ _ _ _ (qO5 _ _ _),by go_simp,by simp;omega,by simp,((Q2 _ _).alloc (Q1 _) _).alloc (by simp) _⟩
theorem qK8{a:Option Addr}{n c:Nat}{w W wy:World}(h:AB a n c w W)(hb:Below W.heap.size W wy):AB a n c w wy:=by
 obtain⟨h1,h2,h3,h4,h5,h6⟩:=h
 obtain⟨hc,hf⟩:=J9 hb
 have:=hb.size
 exact⟨(hc _ _ h4).trans h1,(hc _ _ h5).trans h2,(hf _ _ h5).trans h3,by omega,by omega,h6.trans (hb.mono (by omega))⟩
structure AL(ps:Nat→PR)(os cs:Nat→PSV)(tp td ti:TypeId)(x8 k:Nat)(v:Value)(A:Nat→Option Addr×Nat×Option Addr×Nat)(wr:World):Prop where
 lt:x8<wr.heap.size
 box:wr.cell? ⟨x8,0,none⟩=some v
 free:wr.frozen? ⟨x8,0,none⟩=false
 row:wr.ownsRow (x8+1) tp 15 v k (qD0 (qE9 ps os cs A) k)
 dr:∀i,i<k→wr.ownsRow (x8+1) td 3 (.slice (A i).1 (ps i).dn (A i).2.1) (ps i).dn (qJ0 (ps i).ds (ps i).dn)
 de:∀i,i<k→wr.ownsRow (x8+1) ti 1 (.slice (A i).2.2.1 (ps i).en (A i).2.2.2) (ps i).en (B5 (ps i).es (ps i).en)
theorem AL.planes{ps:Nat→PR}{os cs:Nat→PSV}{tp td ti:TypeId}{x8 k:Nat}{v:Value}{A:Nat→Option Addr×Nat×Option Addr×Nat}{wr:World}(h:AL ps os cs tp td ti x8 k v A wr)(hk:k≤maxLen)(hn:∀i,i<k→(ps i).dn≤maxLen∧(ps i).en≤maxLen):
  ∃a c,v= .slice a k c∧Y2 wr.heap.size wr a k (qE9 ps os cs A):=by
 obtain⟨a,c,rfl⟩:=Y6 h.row
 exact⟨a,c,rfl,(zD2 h.row hk (fun i hi=>⟨(hn i hi).1,(hn i hi).2,(zD0 (h.dr i hi)).2,(zD1 (h.de i hi)).2⟩)).2⟩
theorem AL.step{ps:Nat→PR}{os cs:Nat→PSV}{tp td ti:TypeId}{x8 k:Nat}{v v':Value}{A:Nat→Option Addr×Nat×Option Addr×Nat}{wr wx w6:World}(h:AL ps os cs tp td ti x8 k v A wr)(htd:tp≠td)(hti:tp≠ti)(B4:Option Addr×Nat×Option Addr×Nat)(hb:Below wr.heap.size wr wx)(o:Obj)
  (hd:wx.ownsRow (x8+1) td 3 (.slice B4.1 (ps k).dn B4.2.1) (ps k).dn (qJ0 (ps k).ds (ps k).dn)) (he:wx.ownsRow (x8+1) ti 1 (.slice B4.2.2.1 (ps k).en B4.2.2.2) (ps k).en (B5 (ps k).es (ps k).en))
  (hg:(wx.alloc o).grownBy w6 v.ownBlock) (hr:w6.ownsRow (x8+1) tp 15 v' (k+1) (qD0 (qE9 ps os cs A) k++(qE1 (ps k) (os k) (cs k) B4).cells)):
  AL ps os cs tp td ti x8 (k+1) v' (fun i=>if i=k then B4 else A i) (w6.setCell ⟨x8,0,none⟩ v'):=by
 have hx:x8<wx.heap.size:=Z4 h.lt hb.size
 have hrow:wx.ownsRow (x8+1) tp 15 v k (qD0 (qE9 ps os cs A) k):=K4 h.row hb
 have hv:∀g,v.ownBlock=some g→x8+1≤g:=fun g hg=>(hrow.lt g hg).1
 have hne:some x8≠v.ownBlock:=fun e=>by have:=hv x8 e.symm;omega
 have hsz:wx.heap.size+1≤w6.heap.size:=by have:=hg.size;simpa using this
 have hx8:w6.heap[x8]?=wx.heap[x8]? :=(hg.block x8 (by simp;omega) hne).trans (Q9 wx o x8 hx)
 have hx8':w6.heap[x8]?=wr.heap[x8]? :=hx8.trans (hb.block x8 h.lt)
 have keep:∀{t:TypeId} {m:Nat} {u:Value} {n:Nat} {xs:List Value},tp≠t→wx.ownsRow (x8+1) t m u n xs→(w6.setCell ⟨x8,0,none⟩ v').ownsRow (x8+1) t m u n xs:=fun ht hu=>
  ownsRow_setCell_below ((hu.alloc o).kept hg (kM3 (hu.alloc o) (hrow.alloc o) (Ne.symm ht))) (by show x8<x8+1;omega) _
 refine⟨by simp[World.setCell];omega,?_,?_,?_,?_,?_⟩
 ·refine World.cell?_setCell_same' _ _ _ ?_
  rw[X5 (w:=wr) (a:=⟨x8,0,none⟩) hx8',h.box];rfl
 ·rw[World.frozen?_setCell,World.frozen?_of_block (w:=wr) (a:=⟨x8,0,none⟩) hx8'];exact h.free
 ·have e:qD0 (qE9 ps os cs (fun i=>if i=k then B4 else A i)) (k+1)=qD0 (qE9 ps os cs A) k++(qE1 (ps k) (os k) (cs k) B4).cells:=by
   rw[qD0,F8,zZ9 k (g:=fun i=>(qE9 ps os cs A i).cells) (fun i hi=>by simp[qE9,show ¬i=k by omega])]
   simp[qE9,qD0]
  rw[e]
  exact ownsRow_setCell_below hr (by show x8<x8+1;omega) _
 ·intro i hi
  by_cases e:i=k
  ·subst e;simp only[if_true];exact keep htd hd
  ·simp only[if_neg e];exact keep htd (K4 (h.dr i (by omega)) hb)
 ·intro i hi
  by_cases e:i=k
  ·subst e;simp only[if_true];exact keep hti he
  ·simp only[if_neg e];exact keep hti (K4 (h.de i (by omega)) hb)
theorem AL.start{ps:Nat→PR}{os cs:Nat→PSV}{tp td ti t:TypeId}{w:World}(A:Nat→Option Addr×Nat×Option Addr×Nat):AL ps os cs tp td ti w.heap.size 0 (.slice none 0 0) A (w.alloc (.cells #[.slice none 0 0] t)):=
 ⟨by simp,by go_simp,by go_simp,World.ownsRow_nil _ _ _ _,fun i hi=>by omega,fun i hi=>by omega⟩
theorem AL.at6{ps:Nat→PR}{os cs:Nat→PSV}{tp td ti:TypeId}{x8 k:Nat}{v:Value}{A:Nat→Option Addr×Nat×Option Addr×Nat}{wr wx w6:World}(h:AL ps os cs tp td ti x8 k v A wr)(hb:Below wr.heap.size wr wx)(o:Obj)(hg:(wx.alloc o).grownBy w6 v.ownBlock):
  w6.cell? ⟨x8,0,none⟩=some v∧w6.frozen? ⟨x8,0,none⟩=false∧x8<w6.heap.size∧Below x8 wr w6:=by
 have hx:x8<wx.heap.size:=Z4 h.lt hb.size
 have hrow:wx.ownsRow (x8+1) tp 15 v k (qD0 (qE9 ps os cs A) k):=K4 h.row hb
 have hv:∀g,v.ownBlock=some g→x8+1≤g:=fun g hg=>(hrow.lt g hg).1
 have hne:some x8≠v.ownBlock:=fun e=>by have:=hv x8 e.symm;omega
 have hsz:wx.heap.size+1≤w6.heap.size:=by have:=hg.size;simpa using this
 have hx8:w6.heap[x8]?=wx.heap[x8]? :=(hg.block x8 (by simp;omega) hne).trans (Q9 wx o x8 hx)
 have hx8':w6.heap[x8]?=wr.heap[x8]? :=hx8.trans (hb.block x8 h.lt)
 refine⟨?_,?_,by omega,((hb.mono (Nat.le_of_lt h.lt)).alloc (by omega) o).grown hg (by simp;omega) (fun g hg=>by have:=hv g hg;omega)⟩
 ·rw[X5 (w:=wr) (a:=⟨x8,0,none⟩) hx8',h.box]
 ·rw[World.frozen?_of_block (w:=wr) (a:=⟨x8,0,none⟩) hx8'];exact h.free
theorem AL.planesS{ps:Nat→PR}{os cs:Nat→PSV}{tp td ti:TypeId}{x8 k m c:Nat}{a:Option Addr}{A:Nat→Option Addr×Nat×Option Addr×Nat}{wr wz:World}(h:AL ps os cs tp td ti x8 k (.slice a m c) A wr)(hk:k≤maxLen)(hn:∀i,i<k→(ps i).dn≤maxLen∧(ps i).en≤maxLen)(hb:Below wr.heap.size wr wz){p:Addr}(hp:p.block<x8+1)(u:Value):
  Y2 (wz.setCell p u).heap.size (wz.setCell p u) a k (qE9 ps os cs A):=
 (zD2 (ownsRow_setCell_below (K4 h.row hb) hp u) hk (fun i hi=>⟨(hn i hi).1,(hn i hi).2,(zD0 (ownsRow_setCell_below (K4 (h.dr i hi) hb) hp u)).2,(zD1 (ownsRow_setCell_below (K4 (h.de i hi) hb) hp u)).2⟩)).2
theorem kE9{a:Option Addr}{n c:Nat}{w W wy:World}(h:AB a n c w W)(hb:Below (w.heap.size+2) W wy):AB a n c w wy:=by
 obtain⟨h1,h2,h3,h4,h5,h6⟩:=h
 obtain⟨hc,hf⟩:=J9 hb
 have:=hb.size
 exact⟨(hc _ _ (by omega)).trans h1,(hc _ _ (by omega)).trans h2,(hf _ _ (by omega)).trans h3,by omega,by omega,h6.trans (hb.mono (by omega))⟩
theorem xS5{p:PR}:∀u∈p.cells,u.oneCell'=true:=by
 intro u hu
 simp only[PR.cells,List.mem_cons,List.not_mem_nil,or_false] at hu
 rcases hu with rfl|rfl|rfl|rfl|rfl|rfl|rfl|rfl|rfl|rfl|rfl|rfl|rfl|rfl|rfl<;>rfl
end
end Go.Proofs.YtmncaipgefbalaaGreatDoor
