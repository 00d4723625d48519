/- Part of the proof of the claim. -/
import Derived.Test.YtmncaipgefbalaaGreatDoorQal
set_option maxRecDepth 100000
set_option maxHeartbeats 8000000
set_option linter.unusedVariables false
set_option linter.unusedSimpArgs false
namespace Go.Proofs.YtmncaipgefbalaaGreatDoor
section
open Go Go.RowKit
theorem kR4{W:World}{b:Nat}{v0 v1 v2 v3 v4 v5 v6 v7 v8 v9 v10 v11 v12 v13 v14:Value}{t:TypeId}(h:W.heap[b]?=some (.cells #[v0,v1,v2,v3,v4,v5,v6,v7,v8,v9,v10,v11,v12,v13,v14] t)):W.cell? ⟨b,0,none⟩=some v0∧W.cell? ⟨b,1,none⟩=some v1∧W.cell? ⟨b,2,none⟩=some v2∧W.cell? ⟨b,3,none⟩=some v3∧W.cell? ⟨b,4,none⟩=some v4∧W.cell? ⟨b,5,none⟩=some v5∧W.cell? ⟨b,6,none⟩=some v6∧W.cell? ⟨b,7,none⟩=some v7∧W.cell? ⟨b,8,none⟩=some v8∧W.cell? ⟨b,9,none⟩=some v9∧W.cell? ⟨b,10,none⟩=some v10∧W.cell? ⟨b,11,none⟩=some v11∧W.cell? ⟨b,12,none⟩=some v12∧W.cell? ⟨b,13,none⟩=some v13∧W.cell? ⟨b,14,none⟩=some v14:=⟨Q0 _ _ 0 _ _ _ h,Q0 _ _ 1 _ _ _ h,Q0 _ _ 2 _ _ _ h,Q0 _ _ 3 _ _ _ h,Q0 _ _ 4 _ _ _ h,Q0 _ _ 5 _ _ _ h,Q0 _ _ 6 _ _ _ h,Q0 _ _ 7 _ _ _ h,Q0 _ _ 8 _ _ _ h,Q0 _ _ 9 _ _ _ h,Q0 _ _ 10 _ _ _ h,Q0 _ _ 11 _ _ _ h,Q0 _ _ 12 _ _ _ h,Q0 _ _ 13 _ _ _ h,Q0 _ _ 14 _ _ _ h⟩
theorem qJ7{W:World}{base:Nat}{e:TypeId}{s:Nat}{v:Value}{n:Nat}{xs:List Value}(h:W.ownsRow base e s v n xs):∀g,v.ownBlock=some g→g<W.heap.size:=by
 intro g hg
 rcases h.2 with⟨rfl,_⟩|⟨g',cap',cur',rfl,_,hg',_⟩
 ·cases hg
 ·simp only[Value.ownBlock,Option.some.injEq] at hg
  subst hg
  exact J5 hg'
structure RcB(w V:World)(hb:Nat)(h:HV)(wx:World):Prop where
 below:Below w.heap.size w wx
 size:V.heap.size≤wx.heap.size
 keep:∀b,b<V.heap.size→b≠hb→wx.heap[b]?=V.heap[b]?
 os:wx.os=V.os
 tape:wx.tape=V.tape
 output:wx.output=V.output
 hit:wx.heap[hb]?=some (.cells #[.int .i64 h.plane,.int .i64 h.channel,.int .i64 h.many,.int .i64 h.drift,.int .i64 h.charge,.int .i64 h.time] 61)
theorem RcB.set{w V:World}{hb o:Nat}{h h':HV}{wx wy:World}{v:Value}(H:RcB w V hb h wx)(hw:w.heap.size≤hb)(hy:Below wx.heap.size wx wy)(hc:(#[.int .i64 h.plane,.int .i64 h.channel,.int .i64 h.many,.int .i64 h.drift,.int .i64 h.charge,.int .i64 h.time]:Array Value).setIfInBounds o v= #[.int .i64 h'.plane,.int .i64 h'.channel,.int .i64 h'.many,.int .i64 h'.drift,.int .i64 h'.charge,.int .i64 h'.time]):RcB w V hb h' (wy.setCell ⟨hb,o,none⟩ v):=by
 have hl:=H.size
 refine⟨(H.below.trans (hy.mono H.below.size)).setCell (p:=⟨hb,o,none⟩) hw v,by have:=hy.size;simp[World.setCell];omega,fun b hb1 hb2=> ?_,hy.os.trans H.os,hy.tape.trans H.tape,hy.output.trans H.output,?_⟩
 ·exact(Q6 wy ⟨hb,o,none⟩ b v hb2).trans ((hy.block b (by omega)).trans (H.keep b hb1 hb2))
 ·rw[←hc]
  exact Q4 wy hb o _ _ v (Y0 H.hit hy)
theorem qA5(a:Option Addr)(n c:Nat)(ps:Nat→PR)(view:Int)(p:PG)(w:World)(B:Nat)(hBw:B≤w.heap.size)(hP:Y2 B w a n ps)(hp:p.mem B w)(hCk:K7 n ps=true)(hOK:qF6 n ps p):
  Calls Tryz.prog 13 #[L3 a n c,.int .i64 view,p.val] w fun e w'=>∃v,e= .returned (.tuple #[v,.int .i64 ((O6 p view ps n).2:Int)])∧w'.ownsRow w.heap.size 61 6 v (O6 p view ps n).1.length (hC (O6 p view ps n).1)∧Below w.heap.size w w':=by
 have hn16:=(P1 hCk).2
 have HC:=Hd hCk
 have HP:=Hd hP
 have HM:=Hd hp
 have HO:=Hd hOK
 have HLN:=Hd (zE2 p view ps)
 have HHT:=Hd (fun i (hi:i<n) W (h:Below w.heap.size w W) h1=>jG3 a n c ps h1 W B (Q5 hBw h.size) (hP.below (h.mono hBw)) hCk i hi)
 have HSE:=Hd (fun i (hi:i<n) lo hi' W (h:Below w.heap.size w W) (hm:(ps i).mem B W)=>xD9 (ps i) lo hi' W B (Q5 hBw h.size) hm (G0 (M3 hCk hi)))
 have HV:=Hd (((Q2 _ w).alloc (Q1 _) (.cells #[.slice a n c] 24)).alloc (by simp) p.box)
 have hx:=(Q9 (w.alloc (.cells #[.slice a n c] 24)) p.box w.heap.size (by simp)).trans (Q3 w _)
 have hy:=Q3 (w.alloc (.cells #[.slice a n c] 24)) p.box
 rw[show(w.alloc (.cells #[.slice a n c] 24)).heap.size=w.heap.size+1 from by simp] at hy
 have HX:=Hd hx
 have HY:=Hd hy
 have HR0:=Hd (show O6 p view ps 0=([],0) from rfl)
 have HRS:=Hd (fun i=>show O6 p view ps (i+1)=(if qG8 p view (ps i)=true then O6 p view ps i else if qG9 p (ps i) i=true then((O6 p view ps i).1++[G8 p (ps i) i],(O6 p view ps i).2) else if qJ9 p (ps i)=true then((O6 p view ps i).1,(O6 p view ps i).2+1) else O6 p view ps i) from rfl)
 generalize hrc:O6 p view ps=rcf at*
 clear hP hp hCk hOK hx hy hrc
 go_enter Tryz.func13,Tryz.ntmps13
 go_upto_region 1 with(fail)
 generalize World.alloc (World.alloc w _) _=V at*
 go_wp2
 go_loopg [8,9,10] n (fun k s8 s9 s10 wr=>∃i:Nat,i≤n∧k=n-i∧s10= .int .i64 (i:Int)∧s9= .int .i64 ((rcf i).2:Int)∧Hid (wr.ownsRow w.heap.size 61 6 s8 (rcf i).1.length (hC (rcf i).1))∧Hid (Below w.heap.size w wr)∧Hid (wr.heap[w.heap.size]?=some (.cells #[.slice a n c] 24))∧Hid (wr.heap[w.heap.size+1]?=some p.box))
 case atStart=>exact⟨0,Nat.zero_le _,rfl,rfl,by rw[HR0.out];rfl,Hd (by rw[HR0.out];exact⟨rfl,.inl ⟨rfl,rfl⟩⟩),HV,HX,HY⟩
 case round=>
  clear HV HX HY HR0
  obtain⟨i,hi,hgk,rfl,rfl,HW,HB,HX,HY⟩:=hrel
  have k0:=Q0 _ _ 0 _ _ _ HX.out
  have hwl:=J5 HX.out
  have hyl:=J5 HY.out
  by_cases hlt:i<n
  ·have hlt':(i:Int)<(n:Int):=by omega
   obtain⟨b,off,rfl,hbB,⟨c0,c1,c2,c3,c4,c5,c6,c7,c8,c9,c10,c11,c12,c13,c14⟩,hm⟩:=(HP.out.below (HB.out.mono hBw)).get hlt
   have hbl:b<wr.heap.size:=by omega
   have hpl:=HO.out.pl i hlt
   have hsh:=G0 (M3 HC.out hlt)
   have hst:=HO.out.start
   have hsl:=HO.out.slope
   have htm:=HO.out.time
   have HLE:=Hd (HLN.out i)
   have HRSi:=HRS.out i
   have HHi:=Hd (fun W h h1 (h2:h1.plane=(i:Int))=>HHT.out i hlt W h h1 h2)
   have HSi:=Hd (HSE.out i hlt)
   generalize rcf i=r0 at*
   generalize ps i=x at*
   have HR1:=Hd HRSi
   have hzb:=hsh.z
   have hfb:=hsh.first
   have hpb:=hsh.pitch
   have hcb:=hsh.clock
   have hob:=hsh.off
   have hmz:=zB3 (K:=5) (M:=100000) (by decide) hsl (y:=x.z) (by omega)
   have hok:=hpl.off
   have hck:=hpl.clk
   clear HRSi hpl hsh
   go_upto_region 7 with(fail)
   have hb1:=(Q2 _ wr).alloc (Q1 _) (.cells #[.int .i64 x.kind,.int .i64 x.view,.int .i64 x.z,.int .i64 x.first,.int .i64 x.pitch,.int .i64 x.strips,.int .i64 x.spill,.int .i64 x.olo,.int .i64 x.ohi,.int .i64 x.clo,.int .i64 x.chi,.int .i64 x.jitter,.int .i64 x.least,.slice x.da x.dn x.dc,.slice x.ea x.en x.ec] 50)
   have hz:=Q3 wr (.cells #[.int .i64 x.kind,.int .i64 x.view,.int .i64 x.z,.int .i64 x.first,.int .i64 x.pitch,.int .i64 x.strips,.int .i64 x.spill,.int .i64 x.olo,.int .i64 x.ohi,.int .i64 x.clo,.int .i64 x.chi,.int .i64 x.jitter,.int .i64 x.least,.slice x.da x.dn x.dc,.slice x.ea x.en x.ec] 50)
   have HB1:=Hd (HB.out.trans (hb1.mono HB.out.size))
   have HX1:=Hd (Y0 HX.out hb1)
   have HY1:=Hd (Y0 HY.out hb1)
   have HW1:=Hd (HW.out.alloc (.cells #[.int .i64 x.kind,.int .i64 x.view,.int .i64 x.z,.int .i64 x.first,.int .i64 x.pitch,.int .i64 x.strips,.int .i64 x.spill,.int .i64 x.olo,.int .i64 x.ohi,.int .i64 x.clo,.int .i64 x.chi,.int .i64 x.jitter,.int .i64 x.least,.slice x.da x.dn x.dc,.slice x.ea x.en x.ec] 50))
   have HM1:=Hd (hm.below ((Q2 wr.heap.size wr).alloc (Q1 _) (.cells #[.int .i64 x.kind,.int .i64 x.view,.int .i64 x.z,.int .i64 x.first,.int .i64 x.pitch,.int .i64 x.strips,.int .i64 x.spill,.int .i64 x.olo,.int .i64 x.ohi,.int .i64 x.clo,.int .i64 x.chi,.int .i64 x.jitter,.int .i64 x.least,.slice x.da x.dn x.dc,.slice x.ea x.en x.ec] 50)|>.mono (by have:=HB.out.size;omega)))
   clear hb1 c0 c1 c2 c3 c4 c5 c6 c7 c8 c9 c10 c11 c12 c13 c14 k0
   generalize World.alloc wr _=V1 at*
   generalize wr.heap.size=xb at*
   have HZ:=Hd hz
   have z1:=Q0 _ _ 1 _ _ _ hz
   have z2:=Q0 _ _ 2 _ _ _ hz
   have hzl:=J5 hz
   have hyl1:=J5 HY1.out
   obtain⟨y0,y1⟩:=M7 HY1.out
   obtain⟨mz,hmz2⟩:∃mz,p.slope*x.z=mz:=⟨_,rfl⟩
   rw[hmz2] at hmz
   have hple:rPl p x=p.start+mz:=by unfold rPl;rw[hmz2]
   have hw1:IntKind.i64.wrap mz=mz:=Z1 _ (by omega)
   have hw2:IntKind.i64.wrap (p.start+mz)=p.start+mz:=Z1 _ (by omega)
   have HO1:=Hd (show qG8 p view x=((x.view !=view)||(decide (p.start+mz< -1000000)||decide (1000000<p.start+mz))) from by unfold qG8;rw[hple])
   have HY2:=Hd (show rY p x i=p.start+mz-p.os i-x.first from by unfold rY;rw[hple])
   have HMU:=Hd (show qJ9 p x=I7 x (p.start+mz) (p.start+mz) from by unfold qJ9;rw[hple])
   clear hple
   have HSK:=Hd (fun(h:qG8 p view x=true)=>show rcf (i+1)=r0 from by rw[HR1.out,if_pos h])
   have HIN:=Hd (fun(h:qG8 p view x=false)=>show rcf (i+1)=(if qG9 p x i=true then(r0.1++[G8 p x i],r0.2) else if qJ9 p x=true then(r0.1,r0.2+1) else r0) from by rw[HR1.out,if_neg (by rw[h];decide)])
   clear HR1
   by_cases hv:x.view=view
   case neg=>
    have hv':(x.view !=view)=true:=by simpa using hv
    have HE:=Hd (HSK.out (by rw[HO1.out,hv',Bool.true_or]))
    clear hv
    go_wp2
    go_roundg (n-(i+1))
    case measure=>omega
    case rel=>exact⟨i+1,by omega,by omega,by go_num,by rw[HE.out],by rw[HE.out];exact HW1,HB1,HX1,HY1⟩
   have hv':(x.view !=view)=false:=by simpa using hv
   have HVW:=Hd hv
   clear hv
   by_cases hl1:p.start+mz< -1000000
   ·have HE:=Hd (HSK.out (by rw[HO1.out,Z0 hl1,Bool.true_or,Bool.or_true]))
    have hl1':decide (p.start+mz< -1000000)=true:=Z0 hl1
    clear hl1
    go_wp2
    go_roundg (n-(i+1))
    case measure=>omega
    case rel=>exact⟨i+1,by omega,by omega,by go_num,by rw[HE.out],by rw[HE.out];exact HW1,HB1,HX1,HY1⟩
   by_cases hl2:1000000<p.start+mz
   ·have HE:=Hd (HSK.out (by rw[HO1.out,Z0 hl2,Bool.or_true,Bool.or_true]))
    have hl1':decide (p.start+mz< -1000000)=false:=Q7 hl1
    have hl2':decide (1000000<p.start+mz)=true:=Z0 hl2
    clear hl1 hl2
    go_wp2
    go_roundg (n-(i+1))
    case measure=>omega
    case rel=>exact⟨i+1,by omega,by omega,by go_num,by rw[HE.out],by rw[HE.out];exact HW1,HB1,HX1,HY1⟩
   have HIN2:=Hd (HIN.out (by rw[HO1.out,hv',Q7 hl1,Q7 hl2];rfl))
   have hl1':decide (p.start+mz< -1000000)=false:=Q7 hl1
   have hl2':decide (1000000<p.start+mz)=false:=Q7 hl2
   have HL1:=Hd (show-1000000≤p.start+mz∧p.start+mz≤1000000 from⟨by omega,by omega⟩)
   clear HIN HSK HO1 hl1 hl2
   have z12:=Q0 _ _ 12 _ _ _ hz
   go_upto_region 10 with(fail)
   have hb2:=(Q2 _ V1).alloc (Q1 _) (.cells #[.int .i64 (i:Int),.int .i64 0,.int .i64 1,.int .i64 0,.int .i64 x.least,.int .i64 0] 61)
   have hh:=Q3 V1 (.cells #[.int .i64 (i:Int),.int .i64 0,.int .i64 1,.int .i64 0,.int .i64 x.least,.int .i64 0] 61)
   have hz2:(V1.alloc (.cells #[.int .i64 (i:Int),.int .i64 0,.int .i64 1,.int .i64 0,.int .i64 x.least,.int .i64 0] 61)).heap.size=V1.heap.size+1:=by simp
   have HW2:=Hd (HW1.out.alloc (.cells #[.int .i64 (i:Int),.int .i64 0,.int .i64 1,.int .i64 0,.int .i64 x.least,.int .i64 0] 61))
   have HB2:=Hd (HB1.out.trans (hb2.mono HB1.out.size))
   have HX2:=Hd (Y0 HX1.out hb2)
   have HYY:=Hd (Y0 HY1.out hb2)
   have HZ2:=Hd (Y0 HZ.out hb2)
   have HM2:=Hd (HM1.out.below (hb2.mono (by have:=HB1.out.size;omega)))
   clear hb2 z1 z2 z12 y0 y1 hz HB1 HX1 HY1 HZ HM1
   generalize World.alloc V1 _=V2 at*
   have hxl:=J5 HX2.out
   have hyl:=J5 HYY.out
   have hzl2:=J5 HZ2.out
   have hhl:=J5 hh
   have hw1l:=HB2.out.size
   have hwv1:w.heap.size≤V1.heap.size:=by omega
   have HGB:=Hd (qJ7 HW1.out)
   generalize V1.heap.size=hb at*
   have hne1:xb≠hb:=by omega
   have HR0:=Hd (show RcB w V2 hb ⟨i,0,1,0,x.least,0⟩ V2 from⟨HB2.out,Q1 _,fun _ _ _=>rfl,rfl,rfl,rfl,hh⟩)
   clear hh hz2 HW1
   have z0:=Q0 _ _ 0 _ _ _ HZ2.out
   go_upto_if 55 with(fail)
   go_cut [] from 17 to 107 (fun wx=>Hid (RcB w V2 hb ⟨i,0,1,0,x.least,qR2 p x i⟩ wx))
   case first=>
    by_cases hk:x.kind=3
    ·have hk':(x.kind !=3)=false:=by simp[hk]
     have HT:=Hd (show qR2 p x i=0 from by unfold qR2;rw[if_pos hk])
     clear hk
     go_wp2
     go_meet
     exact Hd (by rw[HT.out];exact HR0.out)
    ·have hk':(x.kind !=3)=true:=by simpa using hk
     have HT:=Hd (show qR2 p x i=p.time+p.ks i from by unfold qR2;rw[if_neg hk])
     clear hk
     obtain⟨kb,ko,hka,hkB,ck⟩:=(HM.out.ks.below (HB2.out.mono hBw)).at' (i:=i) (by have:=HO.out.kn;omega)
     have hkbl:kb<V2.heap.size:=by omega
     have hik:(i:Int)<(p.kn:Int):=by have:=HO.out.kn;omega
     have y2:=Q0 _ _ 2 _ _ _ HYY.out
     have y4:=Q0 _ _ 4 _ _ _ HYY.out
     rw[hka] at y4
     have hwt:IntKind.i64.wrap (p.time+p.ks i)=p.time+p.ks i:=Z1 _ (by omega)
     have hhl2:=J5 HR0.out.hit
     go_upto_region 11 with(fail)
     simp only[P2] at y2 y4
     (refine M0 (V2.heap.size) 9 (by kernel_rfl) (by kernel_rfl) ?_;simp only[List.take_succ_cons,List.take_zero,X7,List.drop_zero];(repeat(first|go_big_quiet_step(fail)|quiet_step(fail)));refine X4 (wqn ?_);intro xq)
     have hq:=xq.below
     have hs9:=RcB.set (o:=5) (h':=⟨i,0,1,0,x.least,qR2 p x i⟩) (v:= .int .i64 (p.time+p.ks i)) HR0.out hwv1 hq (by rw[HT.out];rfl)
     have HS9:=Hd hs9
     have hhc:=(Q0 _ _ 5 _ _ _ (Y0 HR0.out.hit hq)).trans (show _=some (Value.int .i64 0) from rfl)
     have hhf:=Z3 _ _ 5 _ _ (Y0 HR0.out.hit hq)
     have hhl3:=J5 (Y0 HR0.out.hit hq)
     clear hq hs9 y2 y4 ck
     generalize K9.val xq=V3 at*
     go_wp2
     go_meet
     exact HS9
   case rest=>
    clear HR0 z0
    have HR1:=hcut
    clear hcut
    have hkY:=HR1.out.keep (w.heap.size+1) hyl (by omega)
    have hkZ:=HR1.out.keep xb hzl2 hne1
    have hkX:=HR1.out.keep w.heap.size hxl (by omega)
    have HYc:=Hd (hkY.trans HYY.out)
    have HZc:=Hd (hkZ.trans HZ2.out)
    have HXc:=Hd (hkX.trans HX2.out)
    have HBc:=Hd HR1.out.below
    clear hkY hkZ hkX
    have hylc:=J5 HYc.out
    have hzlc:=J5 HZc.out
    have hwlc:=HBc.out.size
    obtain⟨ob,oo,hoa,hoB,co⟩:=(HM.out.os.below (HBc.out.mono hBw)).at' (i:=i) (by have:=HO.out.on;omega)
    have hobl:ob<wc.heap.size:=by omega
    have hio:(i:Int)<(p.on:Int):=by have:=HO.out.on;omega
    have y3:=Q0 _ _ 3 _ _ _ HYc.out
    have z3:=Q0 _ _ 3 _ _ _ HZc.out
    rw[hoa] at y3
    simp only[P2] at y3 z3
    have HLL:=HL1.out
    have hw3:IntKind.i64.wrap (p.start+mz-p.os i)=p.start+mz-p.os i:=Z1 _ (by omega)
    have hw4:IntKind.i64.wrap (p.start+mz-p.os i-x.first)=p.start+mz-p.os i-x.first:=Z1 _ (by omega)
    have HYB:=Hd (show-4000000≤p.start+mz-p.os i-x.first∧p.start+mz-p.os i-x.first≤4000000 from⟨by omega,by omega⟩)
    clear HLL
    go_upto_region 12 with(fail)
    (refine J4 (wc.heap.size) (by kernel_rfl) (by kernel_rfl) ?_;(repeat(first|go_big_quiet_step(fail)|quiet_step(fail)));refine X4 (wqn ?_);intro xq)
    have hq:=xq.below
    have HR2:=Hd (show RcB w V2 hb ⟨i,0,1,0,x.least,qR2 p x i⟩ xq.val from⟨HBc.out.trans (hq.mono hwlc),Q5 HR1.out.size hq.size,fun b h1 h2=>(hq.block b (Z4 h1 HR1.out.size)).trans (HR1.out.keep b h1 h2),hq.os.trans HR1.out.os,hq.tape.trans HR1.out.tape,hq.output.trans HR1.out.output,Y0 HR1.out.hit hq⟩)
    have HZd:=Hd (Y0 HZc.out hq)
    have hzld:=J5 HZd.out
    have z4:=Q0 _ _ 4 _ _ _ HZd.out
    clear hq y3 z3 co HR1 HYc HZc HXc hylc hzlc hobl hio hw3 hw4
    generalize K9.val xq=V4 at*
    obtain⟨yy,hyy⟩:∃yy,p.start+mz-p.os i-x.first=yy:=⟨_,rfl⟩
    rw[hyy] at HY2 HYB
    rw[hyy]
    clear hyy
    have HPT:=Hd hpb
    have hh1:=Q0 _ _ 1 _ _ _ HR2.out.hit
    have hh1f:=Z3 _ _ 1 _ _ HR2.out.hit
    have hhl4:=J5 HR2.out.hit
    go_upto_if 76 with(fail)
    go_cut [] from 17 to 107 (fun wx=>Hid (RcB w V2 hb (G8 p x i) wx))
    case first=>
     by_cases hy0:0≤yy
     ·have hy0':decide (yy≥0)=true:=Z0 hy0
      have HCH:=Hd (show qA1 p x i=yy/x.pitch from by unfold qA1;rw[HY2.out,if_pos hy0])
      have hpz:x.pitch≠0:=by omega
      have htd:yy.tdiv x.pitch=yy/x.pitch:=Int.tdiv_eq_ediv_of_nonneg hy0
      have hqb:0≤yy/x.pitch∧yy/x.pitch≤4000000:=⟨Int.ediv_nonneg hy0 (by omega),Int.le_trans (Int.ediv_le_self _ hy0) HYB.out.2⟩
      have hwq:IntKind.i64.wrap (yy/x.pitch)=yy/x.pitch:=Z1 _ (by omega)
      have hwq2:IntKind.i64.wrap (yy.tdiv x.pitch)=yy/x.pitch:=by rw[htd,hwq]
      go_wp2
      go_meet
      exact Hd (by first|exact RcB.set (o:=1) (h':=G8 p x i) HR2.out hwv1 (Q2 _ _) (by unfold G8;rw[HCH.out];rfl)|(rw[htd];exact RcB.set (o:=1) (h':=G8 p x i) HR2.out hwv1 (Q2 _ _) (by unfold G8;rw[HCH.out];rfl)))
     ·have hy0':decide (yy≥0)=false:=Q7 hy0
      have HCH:=Hd (show qA1 p x i= -1 from by unfold qA1;rw[HY2.out,if_neg hy0])
      go_wp2
      go_meet
      exact Hd (RcB.set (o:=1) (h':=G8 p x i) HR2.out hwv1 (Q2 _ _) (by unfold G8;rw[HCH.out];rfl))
    case rest=>
     have HR3:=hcut
     clear hcut HR2 hh1 hh1f hhl4 z4 HZd hzld
     have hkY:=HR3.out.keep (w.heap.size+1) hyl (by omega)
     have hkZ:=HR3.out.keep xb hzl2 hne1
     have hkX:=HR3.out.keep w.heap.size hxl (by omega)
     have Cy:=Hd (hkY.trans HYY.out)
     have Cz:=Hd (hkZ.trans HZ2.out)
     have Cx:=Hd (hkX.trans HX2.out)
     have Cb:=Hd HR3.out.below
     have Cw:=Hd (L5 HW2.out (fun g hg=>HR3.out.keep g (by have:=HGB.out g hg;omega) (by have:=HGB.out g hg;omega)))
     have Cm:=Hd (HM2.out.below (show Below B V2 wc from⟨HR3.out.os,HR3.out.tape,HR3.out.output,HR3.out.size,fun b h1=>HR3.out.keep b (by omega) (by omega)⟩))
     have HHc:=Hd HR3.out.hit
     clear hkY hkZ hkX
     have hcyl:=J5 Cy.out
     have hcxl:=J5 Cx.out
     have hchl:=J5 HHc.out
     have hcwl:=Cb.out.size
     obtain⟨sb,so,hsa,hsB,cs⟩:=(HM.out.ss.below (Cb.out.mono hBw)).get (i:=i) (by have:=HO.out.sn;omega)
     have hsbl:sb<wc.heap.size:=by omega
     have his:(i:Int)<(p.sn:Int):=by have:=HO.out.sn;omega
     have y5:=Q0 _ _ 5 _ _ _ Cy.out
     rw[hsa] at y5
     have x0:=Q0 _ _ 0 _ _ _ Cx.out
     obtain⟨z0,z1,z2,z3,z4,z5,z6,z7,z8,z9,z10,z11,z12,z13,z14⟩:=kR4 Cz.out
     have hczl:=J5 Cz.out
     obtain⟨h0,h1,h2,h3,h4,h5⟩:=cr6 HHc.out
     simp only[P2] at y5 x0 h0 h1 h2 h3 h4 h5
     cases hss:p.ss i with
     |false=>
      rw[hss] at cs
      have HE:=Hd (show rcf (i+1)=(if qJ9 p x=true then(r0.1,r0.2+1) else r0) from by
       rw[HIN2.out,if_neg (by unfold qG9;rw[hss];simp)])
      clear hss
      cases hmu:qJ9 p x with
      |true=>
       have HE2:=Hd (show rcf (i+1)=(r0.1,r0.2+1) from by rw[HE.out,hmu];rfl)
       rw[HMU.out] at hmu
       have HQ:=Hd hmu
       clear hmu
       go_wp2_with(go_at_call 34;refine(HSi.out _ _ _ Cb.out Cm.out (by have:=HL1.out;omega) (by have:=HL1.out;omega)).mono ?_;rintro e W7 ⟨rfl,hb7⟩;rw[HQ.out];have HB7:=Hd (Cb.out.trans (hb7.mono Cb.out.size));have HX7:=Hd (Y0 Cx.out hb7);have HY7:=Hd (Y0 Cy.out hb7);have HW7:=Hd (L5 Cw.out (fun g hg=>hb7.block g (qJ7 Cw.out g hg)));clear hb7)
       go_roundg (n-(i+1))
       case measure=>omega
       case rel=>exact⟨i+1,by omega,by omega,by go_num,by rw[HE2.out];have hq3:=HLE.out;exact congrArg (Value.int .i64) (by unfold wrap64;simp only[Int.natCast_add];omega),by rw[HE2.out];exact HW7,HB7,HX7,HY7⟩
      |false=>
       have HE2:=Hd (show rcf (i+1)=r0 from by rw[HE.out,hmu];rfl)
       rw[HMU.out] at hmu
       have HQ:=Hd hmu
       clear hmu
       go_wp2_with(go_at_call 34;refine(HSi.out _ _ _ Cb.out Cm.out (by have:=HL1.out;omega) (by have:=HL1.out;omega)).mono ?_;rintro e W7 ⟨rfl,hb7⟩;rw[HQ.out];have HB7:=Hd (Cb.out.trans (hb7.mono Cb.out.size));have HX7:=Hd (Y0 Cx.out hb7);have HY7:=Hd (Y0 Cy.out hb7);have HW7:=Hd (L5 Cw.out (fun g hg=>hb7.block g (qJ7 Cw.out g hg)));clear hb7)
       go_roundg (n-(i+1))
       case measure=>omega
       case rel=>exact⟨i+1,by omega,by omega,by go_num,by rw[HE2.out],by rw[HE2.out];exact HW7,HB7,HX7,HY7⟩
     |true=>
      rw[hss] at cs
      have hcall:=HHi.out wc Cb.out (G8 p x i) rfl
      cases hhb:C7 x (G8 p x i) with
      |false=>
       rw[hhb] at hcall
       have HCL:=Hd hcall
       have HE:=Hd (show rcf (i+1)=(if qJ9 p x=true then(r0.1,r0.2+1) else r0) from by
        rw[HIN2.out,if_neg (by unfold qG9;rw[hss,hhb];simp)])
       clear hss hhb hcall
       go_upto_region 18 with(go_at_call 33;refine HCL.out.mono ?_;rintro e W5 ⟨rfl,hb5⟩;have Db:=Hd (Cb.out.trans (hb5.mono Cb.out.size));have Dx:=Hd (Y0 Cx.out hb5);have Dy:=Hd (Y0 Cy.out hb5);have Dz:=Hd (Y0 Cz.out hb5);have Dm:=Hd (Cm.out.below (hb5.mono (by omega)));have Dw:=Hd (L5 Cw.out (fun g hg=>hb5.block g (qJ7 Cw.out g hg)));clear hb5 z0 z1 z2 z3 z4 z5 z6 z7 z8 z9 z10 z11 z12 z13 z14 x0 y5 cs h0 h1 h2 h3 h4 h5)
       obtain⟨z0,z1,z2,z3,z4,z5,z6,z7,z8,z9,z10,z11,z12,z13,z14⟩:=kR4 Dz.out
       have hdzl:=J5 Dz.out
       cases hmu:qJ9 p x with
       |true=>
        have HE2:=Hd (show rcf (i+1)=(r0.1,r0.2+1) from by rw[HE.out,hmu];rfl)
        rw[HMU.out] at hmu
        have HQ:=Hd hmu
        clear hmu
        go_wp2_with(go_at_call 34;refine(HSi.out _ _ _ Db.out Dm.out (by have:=HL1.out;omega) (by have:=HL1.out;omega)).mono ?_;rintro e W7 ⟨rfl,hb7⟩;rw[HQ.out];have HB7:=Hd (Db.out.trans (hb7.mono Db.out.size));have HX7:=Hd (Y0 Dx.out hb7);have HY7:=Hd (Y0 Dy.out hb7);have HW7:=Hd (L5 Dw.out (fun g hg=>hb7.block g (qJ7 Dw.out g hg)));clear hb7)
        go_roundg (n-(i+1))
        case measure=>omega
        case rel=>exact⟨i+1,by omega,by omega,by go_num,by rw[HE2.out];have hq3:=HLE.out;exact congrArg (Value.int .i64) (by unfold wrap64;simp only[Int.natCast_add];omega),by rw[HE2.out];exact HW7,HB7,HX7,HY7⟩
       |false=>
        have HE2:=Hd (show rcf (i+1)=r0 from by rw[HE.out,hmu];rfl)
        rw[HMU.out] at hmu
        have HQ:=Hd hmu
        clear hmu
        go_wp2_with(go_at_call 34;refine(HSi.out _ _ _ Db.out Dm.out (by have:=HL1.out;omega) (by have:=HL1.out;omega)).mono ?_;rintro e W7 ⟨rfl,hb7⟩;rw[HQ.out];have HB7:=Hd (Db.out.trans (hb7.mono Db.out.size));have HX7:=Hd (Y0 Dx.out hb7);have HY7:=Hd (Y0 Dy.out hb7);have HW7:=Hd (L5 Dw.out (fun g hg=>hb7.block g (qJ7 Dw.out g hg)));clear hb7)
        go_roundg (n-(i+1))
        case measure=>omega
        case rel=>exact⟨i+1,by omega,by omega,by go_num,by rw[HE2.out],by rw[HE2.out];exact HW7,HB7,HX7,HY7⟩
      |true=>
       rw[hhb] at hcall
       have HCL:=Hd hcall
       have HE:=Hd (show rcf (i+1)=(r0.1++[G8 p x i],r0.2) from by
        rw[HIN2.out,if_pos (by unfold qG9;rw[hss,hhb];rfl)])
       clear hss hhb hcall z0 z1 z2 z3 z4 z5 z6 z7 z8 z9 z10 z11 z12 z13 z14
       go_upto_region 17 with(go_at_call 33;refine HCL.out.mono ?_;rintro e W5 ⟨rfl,hb5⟩;have Db:=Hd (Cb.out.trans (hb5.mono Cb.out.size));have Dx:=Hd (Y0 Cx.out hb5);have Dy:=Hd (Y0 Cy.out hb5);have Dh:=Hd (Y0 HHc.out hb5);have Dw:=Hd (L5 Cw.out (fun g hg=>hb5.block g (qJ7 Cw.out g hg)));clear hb5 x0 y5 cs h0 h1 h2 h3 h4 h5)
       obtain⟨h0,h1,h2,h3,h4,h5⟩:=cr6 Dh.out
       simp only[P2] at h0 h1 h2 h3 h4 h5
       have hdhl:=J5 Dh.out
       obtain⟨i0,hi0,hz0,hz1,hz2⟩:=info_parts xG5
       have hlen:r0.1.length+1≤100:=by have:=HLE.out;omega
       have hdwl:=Db.out.size
       go_wp2_with(at_builtin;refine wpList_append_own _ rfl _ _ 53 rfl w.heap.size 61 i0 _ 6 48 Tryz.underlying53 hi0 hz0 hz1 hz2 rfl (by decide) _ r0.1.length (hC r0.1) rfl (Dw.out.alloc _) ⟨W5.heap.size,0,none⟩ 1 1 (HV.cells (G8 p x i)) rfl rfl R4 jS4 (by unfold maxLen;omega) (by omega) (by simp;omega) ?_;intro v' w6 hown6 hgrow6 hnil6)
       have hsw5:(W5.alloc (.cells (HV.cells (G8 p x i)).toArray 61)).heap.size=W5.heap.size+1:=by simp
       go_roundg (n-(i+1))
       case measure=>omega
       case rel=>
        have hb8:Below w.heap.size w w6:=(Db.out.alloc hdwl _).grown hgrow6 (by simp;omega) (fun b hb=>L7 Dw.out hb)
        have hk8:∀{b:Nat} {t:TypeId} {f:Nat×Nat} {cur:Array Value},W5.heap[b]?=some (.cells cur t f)→61≠t→w6.heap[b]?=some (.cells cur t f):=fun {b t f cur} h ht=>(hgrow6.block b (by have:=J5 h;simp;omega) (Ne.symm (B0 Dw.out h ht))).trans ((heap_alloc_old W5 _ (J5 h)).trans h)
        exact⟨i+1,by omega,by omega,by go_num,by rw[HE.out],Hd (by rw[HE.out,qO3,jR9,Z6];exact hown6),Hd hb8,Hd (hk8 Dx.out (by decide)),Hd (hk8 Dy.out (by decide))⟩
  ·obtain rfl:i=n:=by omega
   have hlt':¬(i:Int)<(i:Int):=by omega
   obtain⟨va,vc,rfl⟩:=Y6 HW.out
   go_wp2
   exact Z2 (v:= .tuple #[.slice va (rcf i).1.length vc,.int .i64 ((rcf i).2:Int)]) (by simp[results,Tryz.results13,go_sem]) rfl ⟨_,rfl,HW.out,HB.out⟩
end
end Go.Proofs.YtmncaipgefbalaaGreatDoor
