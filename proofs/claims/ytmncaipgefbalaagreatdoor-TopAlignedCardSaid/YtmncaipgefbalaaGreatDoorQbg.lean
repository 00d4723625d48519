/- Part of the proof of the claim. -/
import Derived.Test.YtmncaipgefbalaaGreatDoorQbf
import Derived.Test.YtmncaipgefbalaaGreatDoorQbd
set_option maxRecDepth 100000
set_option maxHeartbeats 8000000
set_option linter.unusedVariables false
set_option linter.unusedSimpArgs false
namespace Go.Proofs.YtmncaipgefbalaaGreatDoor
section
open Go.RowKit
theorem xP6:(Tryz.prog.info? 50).map (fun i=>(i.zero,i.size,i.bytes))=some (some (.agg #[.int .i64 0,.int .i64 0,.int .i64 0,.int .i64 0,.int .i64 0,.int .i64 0,.int .i64 0,.int .i64 0,.int .i64 0,.int .i64 0,.int .i64 0,.int .i64 0,.int .i64 0,.slice none 0 0,.slice none 0 0]),15,152):=by kernel_rfl
def pF(p:PR)(j:Nat):Value:=p.cells.getD j undef
theorem kM4{w:World}{p:PR}{t:TypeId}:(w.alloc (.cells #[.int .i64 p.kind,.int .i64 p.view,.int .i64 p.z,.int .i64 p.first,.int .i64 p.pitch,.int .i64 p.strips,.int .i64 p.spill,.int .i64 p.olo,.int .i64 p.ohi,.int .i64 p.clo,.int .i64 p.chi,.int .i64 p.jitter,.int .i64 p.least,.slice p.da p.dn p.dc,.slice p.ea p.en p.ec] t)).rowIs w.heap.size t 15 (pF p):=
 World.rowIs_alloc w _ t (pF p) (fun i hi=>by
  match i,hi with
  |0,_|1,_|2,_|3,_|4,_|5,_|6,_|7,_|8,_|9,_|10,_|11,_|12,_|13,_|14,_=>rfl)
theorem qB0{w:World}{b:Nat}{t:TypeId}{n:Nat}{f:Nat→Value}(h:w.rowIs b t n f)(m:Nat):(w.drewN m).rowIs b t n f:=h.of_block (by simp)
theorem jG7{w:World}{b:Nat}{t:TypeId}{p:PR}{o c:PSV}(h:w.rowIs b t 15 (pF p)):
  ((((w.setCell ⟨b,7,none⟩ (.int .i64 o.lo)).setCell ⟨b,8,none⟩ (.int .i64 o.hi)).setCell ⟨b,9,none⟩ (.int .i64 c.lo)).setCell ⟨b,10,none⟩ (.int .i64 c.hi)).rowIs b t 15 (pF (qE1 p o c (p.da,p.dc,p.ea,p.ec))):=
 ((((h.set 7 _).set 8 _).set 9 _).set 10 _).congr fun i hi=>by
  match i,hi with
  |0,_|1,_|2,_|3,_|4,_|5,_|6,_|7,_|8,_|9,_|10,_|11,_|12,_|13,_|14,_=>rfl
theorem xT6{w:World}{b:Nat}{t:TypeId}{p:PR}{o c:PSV}{A:Option Addr×Nat×Option Addr×Nat}{a1:Option Addr}{c1:Nat}{a2:Option Addr}{c2:Nat}(h:w.rowIs b t 15 (pF (qE1 p o c A))):
  ((w.setCell ⟨b,13,none⟩ (.slice a1 p.dn c1)).setCell ⟨b,14,none⟩ (.slice a2 p.en c2)).rowIs b t 15 (pF (qE1 p o c (a1,c1,a2,c2))):=
 ((h.set 13 _).set 14 _).congr fun i hi=>by
  match i,hi with
  |0,_|1,_|2,_|3,_|4,_|5,_|6,_|7,_|8,_|9,_|10,_|11,_|12,_|13,_|14,_=>rfl
theorem xZ4(a:Option Addr)(n c:Nat)(ps:Nat→PR)(oa:Option Addr)(on od:Nat)(os:Nat→PSV)(ca:Option Addr)(cn cd:Nat)(cs:Nat→PSV)(w:World)(B:Nat)(hBw:B≤w.heap.size)(hP:Y2 B w a n ps)(hO:qX6 B w oa on os)(hK:qX6 B w ca cn cs)(E:Int)(hE:E=if K7 n ps=true then qI8 n ps on os cn cs else 2):
  Calls Tryz.prog 12 #[L3 a n c,.slice oa on od,.slice ca cn cd] w (zV1 w n (xX9 ps os cs) E):=by
 have hn:=hP.1
 have hon:=hO.1
 have hcn:=hK.1
 unfold maxLen at hn hon hcn
 have HP:=Hd hP
 have HO:=Hd hO
 have HK:=Hd hK
 have HE:=Hd hE
 clear hP hO hK hE
 cases hC:K7 n ps
 ·have HE2:=Hd (show E=2 by rw[HE.out,hC];rfl)
  go_enter Tryz.func12,Tryz.ntmps12
  go_wp2_with(go_at_call 30;refine(N8 a n c ps _ B (by simp;omega) (HP.out.below (((Q2 B w).alloc hBw _).alloc (by simp;omega) _))).mono ?_;rintro e wy ⟨rfl,hby⟩;rw[hC];obtain⟨l0,l1,l2,l3,l4,l5⟩:=qK8 qT3 hby;clear hby)
  (refine Z2 (v:= .tuple #[.agg #[.slice none 0 0],.int .i64 2]) ?_ rfl ?_;(·simp[results,Tryz.results12,go_sem,l1]))
  exact O0 HE2.out (by decide) (l5.setCell (p:=⟨_,_,_⟩) (by simp) _)
 have HC:=Hd hC
 by_cases hon':on=n
 case neg=>
  have HE2:=Hd (show E=2 by rw[HE.out,if_pos hC,qI8,if_neg (fun h=>hon' h.1)])
  have h1:((on:Int) !=(n:Int))=true:=by simp;omega
  clear hon'
  go_enter Tryz.func12,Tryz.ntmps12
  go_wp2_with(go_at_call 30;refine(N8 a n c ps _ B (by simp;omega) (HP.out.below (((Q2 B w).alloc hBw _).alloc (by simp;omega) _))).mono ?_;rintro e wy ⟨rfl,hby⟩;rw[hC];obtain⟨l0,l1,l2,l3,l4,l5⟩:=qK8 qT3 hby;clear hby)
  (refine Z2 (v:= .tuple #[.agg #[.slice none 0 0],.int .i64 2]) ?_ rfl ?_;(·simp[results,Tryz.results12,go_sem,l1]))
  exact O0 HE2.out (by decide) (l5.setCell (p:=⟨_,_,_⟩) (by simp) _)
 by_cases hcn':cn=n
 case neg=>
  have HE2:=Hd (show E=2 by rw[HE.out,if_pos hC,qI8,if_neg (fun h=>hcn' h.2)])
  have h1:((cn:Int) !=(n:Int))=true:=by simp;omega
  clear hcn'
  obtain rfl:n=on:=hon'.symm
  go_enter Tryz.func12,Tryz.ntmps12
  go_wp2_with(go_at_call 30;refine(N8 a n c ps _ B (by simp;omega) (HP.out.below (((Q2 B w).alloc hBw _).alloc (by simp;omega) _))).mono ?_;rintro e wy ⟨rfl,hby⟩;rw[hC];obtain⟨l0,l1,l2,l3,l4,l5⟩:=qK8 qT3 hby;clear hby)
  (refine Z2 (v:= .tuple #[.agg #[.slice none 0 0],.int .i64 2]) ?_ rfl ?_;(·simp[results,Tryz.results12,go_sem,l1]))
  exact O0 HE2.out (by decide) (l5.setCell (p:=⟨_,_,_⟩) (by simp) _)
 obtain rfl:n=on:=hon'.symm
 obtain rfl:n=cn:=hcn'.symm
 have HE2:=Hd (show E=if K7 n (xX9 ps os cs)=true then(if zM1 ps os cs n=true then 0 else 7) else 2 by rw[HE.out,if_pos hC,qI8,if_pos ⟨rfl,rfl⟩])
 have hn16:=(P1 hC).2
 have HN0:=Hd (show zM1 ps os cs 0=true from rfl)
 have HNS:=Hd (fun k=>show zM1 ps os cs (k+1)=(zM1 ps os cs k&&qG6 (ps k) (os k) (cs k)) from rfl)
 clear HE
 generalize zM1 ps os cs=NB at*
 go_enter Tryz.func12,Tryz.ntmps12
 go_wp2_with(go_at_call 30;refine(N8 a n c ps _ B (by simp;omega) (HP.out.below (((Q2 B w).alloc hBw _).alloc (by simp;omega) _))).mono ?_;rintro e wy ⟨rfl,hby⟩;rw[hC];obtain⟨l0,l1,l2,l3,l4,l5⟩:=qK8 qT3 hby;clear hby)
 go_loopw [9,35] (fun s9 t wr=>∃k:Nat,k≤n∧t= .int .i64 (k:Int)∧s9= .bool (NB k)∧AB a n c w wr∧∃v A,AL ps os cs 50 95 3 wy.heap.size k v A wr) (fun _ t _=>n-(intOf t).toNat)
 case atStart=>exact⟨0,Nat.zero_le _,rfl,by rw[HN0.out],qK8 ⟨l0,l1,l2,l3,l4,l5⟩ ((Q2 _ _).alloc (Q1 _) _),_,fun _=>(none,0,none,0),AL.start _⟩
 case round=>
  have hx2:w.heap.size+2≤wy.heap.size:=by omega
  clear l0 l1 l2 l3 l4 l5
  obtain⟨k,hk,rfl,rfl,⟨l0,l1,l2,l3,l4,l5⟩,v,A,hAL⟩:=hrel
  have HAL:=Hd hAL
  have hx8:=hAL.lt
  have hbox:=hAL.box
  have hfree:=hAL.free
  clear hAL
  by_cases hlt:k<n
  ·obtain⟨b,off,rfl,hbB,⟨c0,c1,c2,c3,c4,c5,c6,c7,c8,c9,c10,c11,c12,c13,c14⟩,hm⟩:=(HP.out.below (l5.mono hBw)).get hlt
   obtain⟨ob,oo,rfl,hoB,o0,o1⟩:=(HO.out.below (l5.mono hBw)).get hlt
   obtain⟨kb,ko,rfl,hkB,k0,k1⟩:=(HK.out.below (l5.mono hBw)).get hlt
   have hbz:b<wr.heap.size:=by omega
   have hoz:ob<wr.heap.size:=by omega
   have hkz:kb<wr.heap.size:=by omega
   have hNS:=HNS.out k
   have hpr:=qS7 (M3 HC.out hlt)
   have HM:=Hd hm
   generalize hp:ps k=p at*
   have HPK:=Hd hp
   generalize hso:os k=o at*
   have HOK:=Hd hso
   generalize hsc:cs k=q at*
   have HCK:=Hd hsc
   have HNK:=Hd hNS
   clear hNS hp hso hsc hm
   generalize NB k=N0 at*
   go_upto_region 8 with(fail)
   go_cut [9] from 40 to 84 (fun s9 wx=>s9= .bool (NB (k+1))∧wx.rowIs wr.heap.size 50 15 (pF p)∧Below wr.heap.size wr wx)
   case first=>
    have HR:=Hd (kM4 (w:=wr) (p:=p) (t:=50))
    cases N0
    ·go_quiet (fail)
     go_wp2_with fail
     go_meet
     exact⟨by rw[HNK.out];rfl,qB0 HR.out _,below_drewN ((Q2 _ _).alloc (Q1 _) _) _⟩
    ·by_cases h1:p.olo≤o.lo
     ·have h1':decide (p.olo≤o.lo)=true:=Z0 h1
      by_cases h2:o.hi≤p.ohi
      ·have h2':decide (o.hi≤p.ohi)=true:=Z0 h2
       by_cases h3:p.clo≤q.lo
       ·have h3':decide (p.clo≤q.lo)=true:=Z0 h3
        have HNA:=Hd (show qG6 p o q=decide (q.hi≤p.chi) by rw[qG6,h1',h2',h3'];rfl)
        go_quiet (fail)
        go_wp2_with fail
        go_meet
        exact⟨by rw[HNK.out,HNA.out];first|rfl|simp,qB0 HR.out _,below_drewN ((Q2 _ _).alloc (Q1 _) _) _⟩
       ·have h3':decide (p.clo≤q.lo)=false:=Q7 h3
        have HNA:=Hd (show qG6 p o q=false by rw[qG6,h1',h2',h3'];rfl)
        go_quiet (fail)
        go_wp2_with fail
        go_meet
        exact⟨by rw[HNK.out,HNA.out];rfl,qB0 HR.out _,below_drewN ((Q2 _ _).alloc (Q1 _) _) _⟩
      ·have h2':decide (o.hi≤p.ohi)=false:=Q7 h2
       have HNA:=Hd (show qG6 p o q=false by rw[qG6,h1',h2'];rfl)
       go_quiet (fail)
       go_wp2_with fail
       go_meet
       exact⟨by rw[HNK.out,HNA.out];rfl,qB0 HR.out _,below_drewN ((Q2 _ _).alloc (Q1 _) _) _⟩
     ·have h1':decide (p.olo≤o.lo)=false:=Q7 h1
      have HNA:=Hd (show qG6 p o q=false by rw[qG6,h1'];rfl)
      go_quiet (fail)
      go_wp2_with fail
      go_meet
      exact⟨by rw[HNK.out,HNA.out];rfl,qB0 HR.out _,below_drewN ((Q2 _ _).alloc (Q1 _) _) _⟩
   obtain⟨rfl,hR,hBc⟩:=hcut
   obtain⟨hcc,hfc⟩:=J9 hBc
   have HR:=Hd hR
   have hszc:=hR.lt
   have q7:=hR.cell (i:=7) (by omega)
   have q8:=hR.cell (i:=8) (by omega)
   have q9:=hR.cell (i:=9) (by omega)
   have q10:=hR.cell (i:=10) (by omega)
   have g7:=hR.frozen 7
   have g8:=hR.frozen 8
   have g9:=hR.frozen 9
   have g10:=hR.frozen 10
   clear c0 c1 c2 c3 c4 c5 c6 c7 c8 c9 c10 c11 c12 c13 c14 hR
   go_upto_region 9 with(fail)
   go_cut [] from 85 to 94 (fun wx=>wx.rowIs wr.heap.size 50 15 (pF (qE1 p o q (p.da,p.dc,p.ea,p.ec)))∧Below wr.heap.size wr wx)
   case first=>
    go_region
    all_goals(go_wp2_with fail)
    all_goals go_meet
    exact⟨(jG7 HR.out).drew,((((hBc.setCell (p:=⟨_,_,_⟩) (by simp) _).setCell (p:=⟨_,_,_⟩) (by simp) _).setCell (p:=⟨_,_,_⟩) (by simp) _).setCell (p:=⟨_,_,_⟩) (by simp) _).drew⟩
   clear q7 q8 q9 q10 g7 g8 g9 g10 HR hcc hfc hBc hszc o0 o1 k0 k1
   obtain⟨hR,hBc⟩:=hcut
   obtain⟨hcc,hfc⟩:=J9 hBc
   have HR:=Hd hR
   have hszc:=hR.lt
   have q13:_=some (Value.slice p.da p.dn p.dc):=hR.cell (i:=13) (by omega)
   have q14:_=some (Value.slice p.ea p.en p.ec):=hR.cell (i:=14) (by omega)
   have g13:=hR.frozen 13
   have g14:=hR.frozen 14
   have hle:B≤wr.heap.size:=by omega
   have hle2:B≤wc.heap.size:=by omega
   have hmn:p.dn≤1000∧p.en≤1000:=⟨by omega,by omega⟩
   obtain⟨hmn1,hmn2⟩:=hmn
   have HD:=Hd (HM.out.2.2.1.below (hBc.mono hle))
   have HI:=Hd (HM.out.2.2.2.below (hBc.mono hle))
   have HNd:=Hd (show p.da=none→p.dn=0 from fun e=>by rcases HM.out.2.2.1 with h|⟨_,_,h,_⟩;exact h;rw[e] at h;cases h)
   have HNe:=Hd (show p.ea=none→p.en=0 from fun e=>by rcases HM.out.2.2.2 with h|⟨_,_,h,_⟩;exact h;rw[e] at h;cases h)
   clear hR
   go_upto_region 10 with(fail)
   go_cut [] from 95 to 102 (fun wx=>∃B4:Option Addr×Nat×Option Addr×Nat,wx.rowIs wr.heap.size 50 15 (pF (qE1 p o q B4))∧wx.ownsRow (wy.heap.size+1) 95 3 (.slice B4.1 p.dn B4.2.1) p.dn (qJ0 p.ds p.dn)∧wx.ownsRow (wy.heap.size+1) 3 1 (.slice B4.2.2.1 p.en B4.2.2.2) p.en (B5 p.es p.en)∧Below wr.heap.size wr wx)
   case first=>
    have hWd:Below wc.heap.size wc wc.drew:=(Q2 _ _).drew
    go_region_with (first
     |(go_at_call 31;refine(xL6 p.da p.dn p.dc p.ds _ B (Q5 hle2 (Below.size (by first|(with_reducible exact hW2)|(with_reducible exact hWd)))) (HD.out.below (Below.mono (by first|(with_reducible exact hW2)|(with_reducible exact hWd)) hle2)) hmn1 HNd.out).mono ?_;rintro e w1 ⟨a1,d1,rfl,own1,hb1⟩;have hW1:=Below.trans (by first|(with_reducible exact hW2)|(with_reducible exact hWd)) (hb1.mono (Below.size (by first|(with_reducible exact hW2)|(with_reducible exact hWd))));have own1:=P8 own1 (Below.size (by first|(with_reducible exact hW2)|(with_reducible exact hWd)));(try have own2:=K4 own2 hb1);obtain⟨hc1,hf1⟩:=J9 hW1;have hz1:=hW1.size;clear hb1)
     |(go_at_call 32;refine(qD1 p.ea p.en p.ec p.es _ B (Q5 hle2 (Below.size (by first|(with_reducible exact hW1)|(with_reducible exact hWd)))) (HI.out.below (Below.mono (by first|(with_reducible exact hW1)|(with_reducible exact hWd)) hle2)) hmn2 HNe.out).mono ?_;rintro e w2 ⟨a2,d2,rfl,own2,hb2⟩;have hW2:=Below.trans (by first|(with_reducible exact hW1)|(with_reducible exact hWd)) (hb2.mono (Below.size (by first|(with_reducible exact hW1)|(with_reducible exact hWd))));have own2:=P8 own2 (Below.size (by first|(with_reducible exact hW1)|(with_reducible exact hWd)));(try have own1:=K4 own1 hb2);obtain⟨hc2,hf2⟩:=J9 hW2;have hz2:=hW2.size;clear hb2))
    all_goals(go_wp2_with fail)
    all_goals go_meet
    all_goals exact⟨(a1,d1,a2,d2),xT6 (HR.out.of_block (hW2.block _ hszc)),P8 (ownsRow_setCell_below (ownsRow_setCell_below own1 (by exact hszc) _) (by exact hszc) _) (by omega),P8 (ownsRow_setCell_below (ownsRow_setCell_below own2 (by exact hszc) _) (by exact hszc) _) (by omega),((hBc.trans (hW2.mono (by omega))).setCell (p:=⟨_,_,_⟩) (by simp) _).setCell (p:=⟨_,_,_⟩) (by simp) _⟩
   clear q13 q14 g13 g14 HR hcc hfc hBc hszc hle2 HD HI HNd HNe hbox hfree
   obtain⟨B4,hR,hd,he,hBc⟩:=hcut
   have hszc:=hR.lt
   have r0:_=some (Value.int .i64 p.kind):=hR.cell (i:=0) (by omega)
   have r1:_=some (Value.int .i64 p.view):=hR.cell (i:=1) (by omega)
   have r2:_=some (Value.int .i64 p.z):=hR.cell (i:=2) (by omega)
   have r3:_=some (Value.int .i64 p.first):=hR.cell (i:=3) (by omega)
   have r4:_=some (Value.int .i64 p.pitch):=hR.cell (i:=4) (by omega)
   have r5:_=some (Value.int .i64 p.strips):=hR.cell (i:=5) (by omega)
   have r6:_=some (Value.int .i64 p.spill):=hR.cell (i:=6) (by omega)
   have r7:_=some (Value.int .i64 o.lo):=hR.cell (i:=7) (by omega)
   have r8:_=some (Value.int .i64 o.hi):=hR.cell (i:=8) (by omega)
   have r9:_=some (Value.int .i64 q.lo):=hR.cell (i:=9) (by omega)
   have r10:_=some (Value.int .i64 q.hi):=hR.cell (i:=10) (by omega)
   have r11:_=some (Value.int .i64 p.jitter):=hR.cell (i:=11) (by omega)
   have r12:_=some (Value.int .i64 p.least):=hR.cell (i:=12) (by omega)
   have r13:_=some (Value.slice B4.1 p.dn B4.2.1):=hR.cell (i:=13) (by omega)
   have r14:_=some (Value.slice B4.2.2.1 p.en B4.2.2.2):=hR.cell (i:=14) (by omega)
   have hbx8:wc.cell? ⟨wy.heap.size,0,none⟩=some v:=(hBc.cell (p:=⟨wy.heap.size,0,none⟩) hx8).trans HAL.out.box
   have hxc:wy.heap.size<wc.heap.size:=by omega
   have hown:=K4 HAL.out.row hBc
   have HAB:=Hd (show AB _ n c w wr from⟨l0,l1,l2,l3,l4,l5⟩)
   clear hR l0 l1 l2 l3 l4 l5
   obtain⟨i0,hi,hz0,hz1,hz2⟩:=info_parts xP6
   go_wp2_with(at_builtin;refine wpList_append_own _ rfl _ _ 22 rfl (wy.heap.size+1) 50 i0 _ 15 152 Tryz.underlying22 hi hz0 hz1 hz2 rfl (by decide) _ k _ rfl (hown.alloc _) ⟨wc.heap.size,0,none⟩ 1 1 (qE1 p o q B4).cells rfl rfl R4 xS5 (by unfold maxLen;omega) (by omega) (by simp;omega) ?_;intro v' w6 hown6 hgrow6 hnil6;obtain⟨a6,c6,rfl⟩:=Y6 hown6;obtain⟨y0,y1,y2,y3⟩:=HAL.out.at6 hBc _ hgrow6)
   go_roundw
   case rel=>
    refine⟨k+1,by omega,by go_num,rfl,kE9 HAB.out ((y3.mono hx2).setCell (p:=⟨_,_,_⟩) (by simp;omega) _),_,_,HAL.out.step (by decide) (by decide) B4 hBc _ ?_ ?_ hgrow6 ?_⟩
    ·rw[HPK.out];exact hd
    ·rw[HPK.out];exact he
    ·rw[HPK.out,HOK.out,HCK.out];exact hown6
   case measure=>simp[intOf];omega
  ·obtain rfl:n=k:=by omega
   obtain⟨va,vc,rfl,hPl⟩:=HAL.out.planes (by unfold maxLen;omega) (fun i hi=>by have:=qS7 (M3 HC.out hi);unfold maxLen;omega)
   have HPl:=Hd hPl
   clear hPl
   have HQA:=Hd (jN5 n ps os cs A)
   have HQs:=Hd (fun i=>jX3 ps os cs A i)
   cases hQ:K7 n (xX9 ps os cs)
   ·have HE3:=Hd (show E=2 by rw[HE2.out,hQ];rfl)
    go_wp2_with(go_at_call 30;refine(N8 va n vc (qE9 ps os cs A) _ _ (Q1 _) HPl.out).mono ?_;rintro e wz ⟨rfl,hbz⟩;rw[HQA.out,hQ];obtain⟨l0,l1,l2,l3,l4,l5⟩:=qK8 ⟨l0,l1,l2,l3,l4,l5⟩ hbz;obtain⟨hcz,hfz⟩:=J9 hbz;clear hbz)
    (refine Z2 (v:= .tuple #[.agg #[.slice none 0 0],.int .i64 2]) ?_ rfl ?_;(·simp[results,Tryz.results12,go_sem,l1]))
    exact O0 HE3.out (by decide) (l5.setCell (p:=⟨_,_,_⟩) (by simp) _)
   ·cases hN:NB n
    ·have HE3:=Hd (show E=7 by rw[HE2.out,hQ,hN];rfl)
     go_wp2_with(go_at_call 30;refine(N8 va n vc (qE9 ps os cs A) _ _ (Q1 _) HPl.out).mono ?_;rintro e wz ⟨rfl,hbz⟩;rw[HQA.out,hQ];obtain⟨l0,l1,l2,l3,l4,l5⟩:=qK8 ⟨l0,l1,l2,l3,l4,l5⟩ hbz;obtain⟨hcz,hfz⟩:=J9 hbz;clear hbz)
     (refine Z2 (v:= .tuple #[.agg #[.slice none 0 0],.int .i64 7]) ?_ rfl ?_;(·simp[results,Tryz.results12,go_sem,l1]))
     exact O0 HE3.out (by decide) (l5.setCell (p:=⟨_,_,_⟩) (by simp) _)
    ·have HE3:=Hd (show E=0 by rw[HE2.out,hQ,hN];rfl)
     go_wp2_with(go_at_call 30;refine(N8 va n vc (qE9 ps os cs A) _ _ (Q1 _) HPl.out).mono ?_;rintro e wz ⟨rfl,hbz⟩;rw[HQA.out,hQ];obtain⟨l0,l1,l2,l3,l4,l5⟩:=qK8 ⟨l0,l1,l2,l3,l4,l5⟩ hbz;obtain⟨hcz,hfz⟩:=J9 hbz;have HBZ:=Hd hbz;have hx8z:=hbz.size;clear hbz)
     refine Z2 (v:= .tuple #[.agg #[.slice va n vc],.int .i64 0]) ?_ rfl ?_
     ·simp[results,Tryz.results12,go_sem,l1]
     ·refine⟨n,va,vc,qE9 ps os cs A,by rw[HE3.out],fun _=>⟨rfl,?_,fun i hi=>HQs.out i⟩,fun h=>absurd HE3.out h,l5.setCell (p:=⟨_,_,_⟩) (by simp) _⟩
      exact HAL.out.planesS (by unfold maxLen;omega) (fun i hi=>by have:=qS7 (M3 HC.out hi);unfold maxLen;omega) HBZ.out (by show w.heap.size+1<wy.heap.size+1;omega) _
end
section
open Go Go.RowKit
theorem jX6{N m:Nat}{ts:Nat→TI}{b:Nat}{f g:Nat→FV}{W:World}{vs:Nat→Int}(h:jE1 N m ts b f g W)(hO:qG7 N m ts=true)(hA:T1 N m ts N vs=true)(hN8:N≤8)(hm12:m≤12)(h0:vs 0=0)(hB:∀x,x<N→-1000000≤vs x∧vs x≤1000000){x:Nat}(hx:x<N):
  (-(f x).len≤vs x∧vs x≤(g x).len)∧(-1000000000000≤(f x).len∧(f x).len≤1000000000000)∧(-1000000000000≤(g x).len∧(g x).len≤1000000000000):=by
 obtain⟨r,hr,h1⟩:=h.low
 obtain⟨r2,hr2,h2⟩:=h.high
 have l1:((K8 ts m).map SP.tw).length*r<900:=by
  have:=X8 (zF6 hO).2.2 hr
  have:2*m*N≤24*8:=X8 (by omega) hN8
  omega
 have l2:((K8 ts m).map SP.fr).length*r2<900:=by
  have:=X8 (qA9 hO).2.2 hr2
  have:2*m*N≤24*8:=X8 (by omega) hN8
  omega
 have k1:=h1.holds (v:=fun x=> -vs x) l1 (xI6 hA) (fun x hx=>by have:=hB x hx;omega) (by omega) hx
 have k2:=h2.holds (v:=vs) l2 (zA9 hA) hB (by omega) hx
 refine⟨⟨by omega,by omega⟩,k1.2,k2.2⟩
structure Aln(x q:PR)(o:Int):Prop where
 same:q={x with olo:=q.olo,ohi:=q.ohi,da:=q.da,dc:=q.dc,ea:=q.ea,ec:=q.ec}
 lo:x.olo≤q.olo∧q.olo≤o
 hi:q.ohi≤x.ohi∧o≤q.ohi
theorem jM0{x q:PR}{o c:PSV}{A:Option Addr×Nat×Option Addr×Nat}{t:Int}(h:jF9 (qE1 x o c A) q)(hc:c.lo=x.clo∧c.hi=x.chi)(h1:x.olo≤o.lo∧o.lo≤t)(h2:o.hi≤x.ohi∧t≤o.hi):Aln x q t:=by
 obtain⟨a1,a2,a3,a4,a5,a6,a7,a8,a9,a10,a11,a12,a13,a14,a15,a16,a17⟩:=h
 cases x
 cases q
 unfold qE1 at*
 dsimp only at*
 subst a1 a2 a3 a4 a5 a6 a7 a8 a9 a12 a13 a14 a15 a16 a17
 obtain⟨c1,c2⟩:=hc
 rw[c1] at a10
 rw[c2] at a11
 subst a10 a11
 exact⟨rfl,h1,h2⟩
theorem Aln.shaped{x q:PR}{o:Int}(h:Aln x q o)(hS:S8 x):S8 q:=by
 have h1:=h.lo
 have h2:=h.hi
 have h3:=hS.off
 have h4:=hS.low
 have h5:=hS.high
 rw[h.same]
 exact⟨hS.view,hS.z,hS.first,hS.pitch,hS.strips,hS.spill,⟨by dsimp only;omega,by dsimp only;omega,by dsimp only;omega⟩,hS.clock,hS.jitter,hS.least,by dsimp only;omega,by dsimp only;omega⟩
theorem Aln.proper{x q:PR}{o:Int}(h:Aln x q o)(hP:K6 x=true):K6 q=true:=by
 have hP':=hP
 simp only[K6,Q8] at hP ⊢
 refine⟨by rw[h.same];exact hP.1,E8.2 (h.shaped (E8.1 hP.2.1)),?_,?_⟩
 ·rw[h.same];exact hP.2.2.1
 ·rw[h.same];exact hP.2.2.2
theorem Aln.z{x q:PR}{o:Int}(h:Aln x q o):q.z=x.z:=by rw[h.same]
theorem zP6{n:Nat}{ps qs:Nat→PR}{os:Nat→Int}(h:∀i,i<n→Aln (ps i) (qs i) (os i))(hC:K7 n ps=true):K7 n qs=true:=by
 unfold K7 at hC ⊢
 simp only[Q8,Y9] at hC ⊢
 refine⟨fun j hj=> ?_,hC.2⟩
 have h1:=hC.1 j hj
 unfold C8 at h1 ⊢
 simp only[Q8,Bool.or_eq_true,Z8,beq_iff_eq] at h1 ⊢
 refine⟨(h j hj).proper h1.1,?_⟩
 rw[(h j hj).z,(h (j-1) (by omega)).z]
 exact h1.2
theorem jM1{n:Nat}{ps qs:Nat→PR}{p:PG}(h:∀i,i<n→Aln (ps i) (qs i) (p.os i))(hOK:qF6 n ps p):qF6 n qs p:=by
 refine⟨hOK.on,hOK.kn,hOK.sn,hOK.start,hOK.slope,hOK.time,fun i hi=> ?_⟩
 have h1:=hOK.pl i hi
 have h2:=h i hi
 refine⟨by rw[h2.same];exact h1.kind,⟨h2.lo.2,h2.hi.2⟩,by rw[h2.same];exact h1.clk,by rw[h2.same];exact h1.film⟩
theorem qU1{x q:PR}{o:Int}{p:PG}{i:Nat}(h:Aln x q o):G8 p q i=G8 p x i∧qG9 p q i=qG9 p x i:=by
 rw[h.same]
 exact⟨rfl,rfl⟩
theorem xW8{x q:PR}{o:Int}{p:PG}{view:Int}(h:Aln x q o):qG8 p view q=qG8 p view x:=by rw[h.same];rfl
theorem jL9{x q:PR}{o:Int}{p:PG}(h:Aln x q o)(hm:qJ9 p x=true):qJ9 p q=true:=by
 unfold qJ9 I7 at*
 rw[qN3] at hm ⊢
 have h1:=h.lo
 have h2:=h.hi
 have e1:rPl p q=rPl p x:=by rw[h.same];rfl
 have e2:C6 q=C6 x:=by rw[h.same];rfl
 have e3:q.pitch=x.pitch∧q.strips=x.strips:=by rw[h.same];exact⟨rfl,rfl⟩
 have e4:∀c,Y1 q c=Y1 x c:=fun c=>by rw[h.same];rfl
 rw[e1,e2,e3.1,e3.2]
 obtain⟨k1,k2⟩:=hm
 simp only[Q8,Z8] at k1 ⊢
 exact⟨⟨by omega,by omega⟩,fun c hc hd hh=>k2 c hc (by rw[←e4];exact hd) ⟨by omega,by omega⟩⟩
theorem xJ0{n:Nat}{ps qs:Nat→PR}{p:PG}{view:Int}(h:∀i,i<n→Aln (ps i) (qs i) (p.os i)):F2 p view qs n=F2 p view ps n:=by
 unfold F2
 refine List.filter_congr fun i hi=> ?_
 have hi':=h i (List.mem_range.1 hi)
 rw[xW8 hi',(qU1 hi').2]
theorem xK0{Q R:Nat→Bool}:∀n,(∀i,i<n→Q i=true→R i=true)→qX9 Q n≤qX9 R n
 |0,_=>Q1 _
 |n+1,h=>by
  have h1:=xK0 n (fun i hi=>h i (by omega))
  unfold qX9
  cases e:Q n
  ·simp;omega
  ·rw[h n (by omega) e]
   simp;omega
theorem kX9{n:Nat}{ps qs:Nat→PR}{p:PG}{view:Int}(h:∀i,i<n→Aln (ps i) (qs i) (p.os i)):qX9 (zC1 p view ps) n≤qX9 (zC1 p view qs) n:=by
 refine xK0 n fun i hi hq=> ?_
 unfold zC1 at*
 simp only[Q8] at hq ⊢
 rw[xW8 (h i hi),(qU1 (h i hi)).2]
 exact⟨hq.1,hq.2.1,jL9 (h i hi) hq.2.2⟩
theorem kJ0{n:Nat}{ps qs:Nat→PR}{p:PG}{view:Int}(h:∀i,i<n→Aln (ps i) (qs i) (p.os i)):(O6 p view qs n).1=(O6 p view ps n).1∧(O6 p view ps n).2≤(O6 p view qs n).2:=by
 rw[qN5,qN5]
 refine⟨?_,kX9 h⟩
 dsimp only
 rw[xJ0 h]
 refine List.map_congr_left fun i hi=>(qU1 (h i (qA4.1 hi).1)).1
theorem jL8{x q:PR}{o:Int}{p:PG}{i:Nat}(h:Aln x q o)(hk:x.kind≠2):(Y5 x (G8 p x i) 0).lo≤(Y5 q (G8 p x i) 0).lo∧(Y5 q (G8 p x i) 0).hi≤(Y5 x (G8 p x i) 0).hi:=by
 have h1:=h.lo
 have h2:=h.hi
 have hkq:q.kind≠2:=by rw[h.same];exact hk
 have e1:gA q (G8 p x i)=gA x (G8 p x i):=by rw[h.same];rfl
 have e2:gB q (G8 p x i)=gB x (G8 p x i):=by rw[h.same];rfl
 rw[qV9 hk,qV9 hkq,e1,e2]
 exact⟨by dsimp only;omega,by dsimp only;omega⟩
theorem jX2{n:Nat}{ps:Nat→PR}{os cs:Nat→PSV}{O:Nat→Int}(hC:K7 n ps=true)(h1:∀i,i<n→(ps i).olo≤(os i).lo∧(os i).lo≤O i)(h2:∀i,i<n→(os i).hi≤(ps i).ohi∧O i≤(os i).hi)(hc:∀i,i<n→(cs i).lo=(ps i).clo∧(cs i).hi=(ps i).chi):qI8 n ps n os n cs=0:=by
 have hA:∀i,i<n→Aln (ps i) (xX9 ps os cs i) (O i):=fun i hi=>jM0 (x:=ps i) (o:=os i) (c:=cs i) (A:=((ps i).da,(ps i).dc,(ps i).ea,(ps i).ec)) ⟨rfl,rfl,rfl,rfl,rfl,rfl,rfl,rfl,rfl,rfl,rfl,rfl,rfl,rfl,rfl,rfl,rfl⟩ (hc i hi) (h1 i hi) (h2 i hi)
 unfold qI8
 rw[if_pos ⟨rfl,rfl⟩,if_pos (zP6 hA hC),if_pos (xB6.2 fun i hi=>jY1.2 ⟨(h1 i hi).1,(h2 i hi).1,by have:=hc i hi;omega,by have:=hc i hi;omega⟩)]
theorem xC5{w:World}{base:Nat}{e:TypeId}{k:Nat}{v:Value}{n:Nat}{xs:List Value}(h:w.ownsRow base e k v n xs):∃a c,v= .slice a n c∧(0<n→n≤c∧c≤maxLen):=by
 rcases h.2 with⟨rfl,h0⟩|⟨g,cap,cur,rfl,hb,hg,hnc,hcm,hcs,htake⟩
 ·subst h0
  exact⟨none,0,rfl,fun h=>absurd h (by decide)⟩
 ·exact⟨_,_,rfl,fun _=>⟨hnc,hcm⟩⟩
theorem xO7{n:Nat}{ps:Nat→PR}{p:PG}{view:Int}(hCk:K7 n ps=true)(hOK:qF6 n ps p){k:Nat}(hk:k<(F2 p view ps n).length):∃j,j=(F2 p view ps n).getD k 0∧j<n∧(O6 p view ps n).1.getD k hv0=G8 p (ps j) j∧C7 (ps j) (G8 p (ps j) j)=true∧C2 (ps j) (G8 p (ps j) j)=1:=by
 have h1:=qA4.1 (xD8 hk)
 have h2:C7 (ps ((F2 p view ps n).getD k 0)) (G8 p (ps ((F2 p view ps n).getD k 0)) ((F2 p view ps n).getD k 0))=true:=by
  have h:=h1.2.2
  unfold qG9 at h
  simp only[Q8] at h
  exact h.2
 have h3:=hOK.pl _ h1.1
 refine⟨_,rfl,h1.1,?_,h2,(zB5 (I3 hCk h1.1) h3.kind h3.off h2).2.2.2.2⟩
 rw[qN5]
 dsimp only
 rw[X3,List.getElem?_map,Z5 hk,X3,Z5 hk]
 rfl
theorem kJ1{x q:PR}{p:PG}{i:Nat}(h:Aln x q (p.os i))(hS:S8 x)(hk:x.kind≠2)(hh:C7 x (G8 p x i)=true):C7 q (G8 p x i)=true∧C2 q (G8 p x i)=1:=by
 have h2:C7 q (G8 p x i)=true:=by rw[h.same];exact hh
 have h3:=(zB5 (p:=p) (i:=i) (h.shaped hS) (by rw[h.same];exact hk) ⟨h.lo.2,h.hi.2⟩ (by rw[(qU1 h).1];exact h2)).2.2.2.2
 rw[(qU1 h).1] at h3
 exact⟨h2,h3⟩
end
section
open Go Go.RowKit Go.Shelf
def kD6(m:Nat)(V:Int)(w:World)(y:Ending)(w':World):Prop:=
 (∃fb ev fv ta tc t,y= .returned (.tuple #[.pointer (some ⟨fb,0,none⟩),.int .i64 0])∧w'.heap[fb]?=some (.cells #[ev,fv,.slice ta 1 tc] 173)∧TL w'.heap.size w' V ta [t]∧t.Ok m∧t.n=m)∧Below w.heap.size w w'
structure zU5(V:Int)(m i fb pb eb:Nat)(e:EV)(N:Nat)(fa:Option Addr)(k fc:Nat)(F:List TK)(w:World):Prop where
 len:F.length=k
 z0:k=0→fa=none∧fc=0
 own:w.ownsRow 0 110 3 (.slice fa k fc) k (trC V F)
 el:∀x∈F,x.At w.heap.size w∧x.Ok m∧1≤x.n
 cnt:F.countP (fun u=>u.n==m)=if V≤(i:Int) then 1 else 0
 le:k≤256
 nil:¬V≤(i:Int)→F=[]
 box:w.heap[fb]?=some (.cells #[.pointer (some ⟨eb,0,none⟩),.slice fa k fc,.slice none 0 0] 173)
 ptr:w.heap[pb]?=some (.cells #[.pointer (some ⟨fb,0,none⟩)] 168)
 ev:e.At N eb w
 hN:N≤fb
theorem D0.off{N:Nat}{w w':World}{a:Option Addr}{n fb:Nat}{f:Nat→Int}{v0 v1 v2:Value}{t:TypeId}(h:D0 N w a n f)(hb:w.heap[fb]?=some (.cells #[v0,v1,v2] t))(h0:∀x,v0≠.int .i64 x)(h1:∀x,v1≠.int .i64 x)(h2:∀x,v2≠.int .i64 x)(hk:∀b,b<N→b≠fb→w'.heap[b]?=w.heap[b]?):D0 N w' a n f:=by
 by_cases hn:n=0
 ·exact .inl hn
 ·rcases h with h|⟨b,off,ha,hB,hc⟩
  ·exact .inl h
  ·have hne:b≠fb:=fun e=>by
    have h3:=hc 0 (by omega)
    rw[e,Nat.add_zero,Q0 _ _ off _ _ _ hb] at h3
    match off,h3 with
    |0,h3=>exact h0 _ (Option.some.inj h3)
    |1,h3=>exact h1 _ (Option.some.inj h3)
    |2,h3=>exact h2 _ (Option.some.inj h3)
    |k+3,h3=>simp at h3
   exact .inr ⟨b,off,ha,hB,fun i hi=>(X5 (hk b hB hne)).trans (hc i hi)⟩
theorem TK.At.off{x:TK}{N:Nat}{w w':World}{fb:Nat}{v0 v1 v2:Value}{t:TypeId}(h:x.At N w)(hb:w.heap[fb]?=some (.cells #[v0,v1,v2] t))(h0:∀x,v0≠.int .i64 x)(h1:∀x,v1≠.int .i64 x)(h2:∀x,v2≠.int .i64 x)(hk:∀b,b<N→b≠fb→w'.heap[b]?=w.heap[b]?):x.At N w':=⟨h.js.off hb h0 h1 h2 hk,h.ss.off hb h0 h1 h2 hk⟩
theorem jW7(p:Option Addr)(x:Int):Value.pointer p≠.int .i64 x:=by intro h;cases h
theorem jQ0(a:Option Addr)(n c:Nat)(x:Int):Value.slice a n c≠.int .i64 x:=by intro h;cases h
theorem jR4{F:List TK}{m:Nat}(hok:∀x∈F,x.Ok m∧1≤x.n)(h1:F.countP (fun u=>u.n==m)=1){x:TK}(hx:x∈F):(!(F.any (zL8 x)))=true↔x.n=m:=by
 constructor
 ·intro h
  by_cases e:x.n=m
  ·exact e
  ·exfalso
   obtain⟨y,hy,hyn⟩:=List.countP_pos_iff.1 (show 0<F.countP (fun u=>u.n==m) by omega)
   have hyn:y.n=m:=by simpa using hyn
   have hxm:=(hok x hx).1.le
   have hs:xE8 y x=true:=by
    unfold xE8
    refine Y3 (fun i hi=>zU7 (k:=x.J i) (by have:=(hok x hx).1.lt i hi;omega) ?_)
    have:=(hok y hy).1.full hyn (x.J i) ((hok x hx).1.lt i hi)
    rw[Z8,this]
   have h2:F.any (zL8 x)=true:=List.any_eq_true.2 ⟨y,hy,by unfold zL8;rw[hs,Z0 (show x.n<y.n by omega)];rfl⟩
   rw[h2] at h
   cases h
 ·intro e
  have h2:F.any (zL8 x)=false:=by
   rw[List.any_eq_false]
   intro y hy
   have:=(hok y hy).1.le
   unfold zL8
   rw[Q7 (show ¬x.n<y.n by omega)]
   simp
  rw[h2]
  rfl
theorem zU5.next{V:Int}{m i fb pb eb:Nat}{e:EV}{N:Nat}{fa fa':Option Addr}{k fc k' fc':Nat}{F':List TK}{W:World}(hbox:W.heap[fb]?=some (.cells #[.pointer (some ⟨eb,0,none⟩),.slice fa k fc,.slice none 0 0] 173))(hptr:W.heap[pb]?=some (.cells #[.pointer (some ⟨fb,0,none⟩)] 168))(hev:e.At N eb W)(hN:N≤fb)(hne:pb≠fb)
  (hlen:F'.length=k') (hz0:k'=0→fa'=none∧fc'=0) (hown:W.ownsRow 0 110 3 (.slice fa' k' fc') k' (trC V F')) (hel:∀x∈F',x.At W.heap.size W∧x.Ok m∧1≤x.n) (hcnt:F'.countP (fun u=>u.n==m)=if V≤((i+1:Nat):Int) then 1 else 0) (hle:k'≤256) (hnil:¬V≤((i+1:Nat):Int)→F'=[]):
  zU5 V m (i+1) fb pb eb e N fa' k' fc' F' (W.setCell ⟨fb,1,none⟩ (.slice fa' k' fc')):=by
 have hoff:=B0 hown hbox (by decide)
 have hk:∀b,b≠fb→(W.setCell ⟨fb,1,none⟩ (.slice fa' k' fc')).heap[b]?=W.heap[b]? :=fun b h=>Q6 W ⟨fb,1,none⟩ b _ h
 have hz:W.heap.size≤(W.setCell ⟨fb,1,none⟩ (.slice fa' k' fc')).heap.size:=by simp[World.setCell]
 exact⟨hlen,hz0,L5 hown (fun g hg=>hk g (fun e=>hoff (by rw[hg,e]))),fun x hx=>⟨((hel x hx).1.off hbox (jW7 _) (jQ0 _ _ _) (jQ0 _ _ _) (fun b _ h=>hk b h)).up hz,(hel x hx).2⟩,hcnt,hle,hnil,Q4 W fb 1 _ _ _ hbox,(hk pb hne).trans hptr,hev.same hz (fun b hb=>hk b (by omega)),hN⟩
theorem zQ7{P:Program}{w:World}{ops:Array Oper}{o:Oper}{a:Act}{K:Act→World→Prop}{Q:Exit→Act→World→Prop}{E:Prop}(hgd:o.guard=none)(s x:Operand)(t:TypeId)
  (ho:o.op= .call {callee:= .builtin .append,args:= #[s,x],argTypes:= #[t,t]}) (base:Nat) (e:TypeId) (i:TypeInfo) (size:Nat) (ht:P.underlying t=some (.slice e)) (hi:P.info? e=some i)
  (v:Value) (n:Nat) (xs:List Value) (hs:a.eval s=v) (hown:w.ownsRow base e size v n xs) (c:Nat) (hx:a.eval x= .slice none 0 c) (h:K (a.put o.dst v) w):if Region.wanted o (yielded ops a.tmps)=true then Oper.wp P o a w K Q else E:=by
 have hw:Region.wanted o (yielded ops a.tmps)=true:=by simp[Region.wanted,hgd]
 rw[if_pos hw]
 have hr:=qY4 (P:=P) (w:=w) base t o.type e i size ht hi v n xs hown c
 unfold Oper.wp execOp
 simp only[ho,resolve,invoke,builtin,Sem.run_bind,Sem.run_pure,Result.andThen_ok,List.map_toArray,List.map_cons,List.map_nil,hs,hx,hr]
 exact h
theorem TL.cellsT{N:Nat}{w:World}{V:Int}{a:Option Addr}{L:List TK}(h:TL N w V a L){ad:Addr}(ha:a=some ad)(hne:L≠[]):∀j u,(trC V L)[j]?=some u→w.cell? (ad.add j)=some u:=by
 rcases h.row with h0|⟨b,off,ha',hB,hc⟩
 ·exact absurd h0 hne
 ·intro j u hu
  rw[ha] at ha'
  injection ha' with ha'
  subst ha'
  have hj:j<L.length*3:=by
   have:=(List.getElem?_eq_some_iff.1 hu).1
   rw[jQ4] at this
   exact this
  have hi:j/3<L.length:=by omega
  obtain⟨x,hx⟩:∃x,L[j/3]?=some x:=⟨_,Z5 hi⟩
  obtain⟨g0,g1,g2⟩:=xQ9 V L (j/3) x hx
  obtain⟨c0,c1,c2⟩:=hc (j/3) x hx
  rw[qT8]
  have hr:j%3=0∨j%3=1∨j%3=2:=by omega
  rcases hr with e|e|e
  ·rw[show j=j/3*3 by omega] at hu
   rw[show off+j=off+j/3*3 by omega,c0]
   exact g0.symm.trans hu
  ·rw[show j=j/3*3+1 by omega] at hu
   rw[show off+j=off+j/3*3+1 by omega,c1]
   exact g1.symm.trans hu
  ·rw[show j=j/3*3+2 by omega] at hu
   rw[show off+j=off+j/3*3+2 by omega,c2]
   exact g2.symm.trans hu
theorem kD3(V:Int)(L:List TK):∀u∈trC V L,u.oneCell'=true:=by
 intro u hu
 unfold trC at hu
 rw[List.mem_flatMap] at hu
 obtain⟨s,_,h⟩:=hu
 simp at h
 rcases h with rfl|rfl|rfl<;>rfl
theorem kW7:∀W:World,(Instr.index 215 (.agg #[.int .i64 1,.int .i64 2]) (.int .i64 0)).run Tryz.prog W= .ok (.int .i64 1) W:=by
 intro W;kernel_rfl
theorem kW8:∀W:World,(Instr.index 215 (.agg #[.int .i64 1,.int .i64 2]) (.int .i64 1)).run Tryz.prog W= .ok (.int .i64 2) W:=by
 intro W;kernel_rfl
theorem D5{P:Program}{md:Region.Mode}{Q:Exit→Act→World→Prop}{S:World→Prop}{l:List Oper}{n f:Nat}{listed:Array Bool}{a:Act}{w:World}{v:Value}{oi:Oper}{X:Prop}(i:Nat)(q:X)(hi:l.toArray[i]?=some oi:=by rfl)(hB:TkB md l n listed i=true:=by kernel_rfl)(hQ:∀c a w,Q (.panic c) (a.put oi.dst v) w→Q (.panic c) a w:=by exact fun _ _ _ h=>h)(hy:YieldsIf P l.toArray S oi v a:=by(refine Or.inl ⟨by rfl,?_⟩;intro w' hSw;(try dsimp only at hSw);have cc0:=(J9 hSw).1;(try simp only[hng]);go_simp;(try with_reducible rfl)))(hS:S w:=by assumption)(hx:X→M5 P md l.toArray Q S n (C0 P md l Q n) f (listed.setIfInBounds i true) (a.put oi.dst v) w:=by(intro qq;refine hnm ?_;exact qq)):M5 P md l.toArray Q S n (C0 P md l Q n) (f+1) listed a w:=L9 hi hB hQ hy hS (hx q)
theorem jT2(a:Option Addr)(n c:Nat)(ps:Nat→PR)(ha:Option Addr)(m hc:Nat)(hs:Nat→HV)(P:Nat→Nat)(need miss view:Int)(B:Nat)(w:World)(hBw:B≤w.heap.size)(hP:Y2 B w a n ps)(hH:qK7 B w ha m hs)(hC:K7 n ps=true)(h1:1≤need∧need≤16)(h2:0≤miss∧miss≤16)(hm:m≤8)
  (hpl:∀k,k<m→(hs k).plane=(P k:Int)∧P k<n∧C7 (ps (P k)) (hs k)=true∧C2 (ps (P k)) (hs k)=1) (A b0:Int) (Q:Nat→Bool)
  (hg:∀ga gc,EV.Good ⟨a,n,c,ps,ha,m,hc,hs,P,ga,gc,fun k=>U3 (Y5 (ps (P k)) (hs k) 0),need,miss,view⟩ A b0 Q):
  Calls Tryz.prog 77 #[L3 a n c,.agg #[.int .i64 need,.int .i64 miss],.slice ha m hc,.slice none 0 0] w (kD6 m view w):=by
 have HB:=Hd (((Q2 _ w).alloc (Q1 _) (.cells #[.slice a n c] 24)).alloc (by simp) (.cells #[.int .i64 need,.int .i64 miss] 26))
 have hx:=(Q9 (w.alloc (.cells #[.slice a n c] 24)) (.cells #[.int .i64 need,.int .i64 miss] 26) w.heap.size (by simp)).trans (Q3 w _)
 have hr:=Q3 (w.alloc (.cells #[.slice a n c] 24)) (.cells #[.int .i64 need,.int .i64 miss] 26)
 rw[show(w.alloc (.cells #[.slice a n c] 24)).heap.size=w.heap.size+1 from by simp] at hr
 have HX:=Hd hx
 have HR:=Hd hr
 have HOP:=Hd (fun W (hb:Below w.heap.size w W)=>xO3 a n c ps ha m hc hs P need miss view B W (Q5 hBw hb.size) (hP.below (hb.mono hBw)) (hH.below (hb.mono hBw)) hC h1 h2 hm hpl)
 have hvw:=(hg none 0).vw
 have hm1:=(hg none 0).ok.m8.1
 obtain⟨E,hE⟩:∃E:Option Addr→Nat→EV,E=fun ga gc=>⟨a,n,c,ps,ha,m,hc,hs,P,ga,gc,fun k=>U3 (Y5 (ps (P k)) (hs k) 0),need,miss,view⟩:=⟨_,rfl⟩
 have hg2:∀ga gc,EV.Good (E ga gc) A b0 Q:=fun ga gc=>by rw[hE];exact hg ga gc
 have hEm:∀ga gc,(E ga gc).m=m:=fun ga gc=>by rw[hE]
 have hEv:∀ga gc,(E ga gc).view=view:=fun ga gc=>by rw[hE]
 rw[←hE] at HOP
 have HG:=Hd hg2
 have HEM:=Hd hEm
 have HEV:=Hd hEv
 have HCH:=Hd (fun ga gc N eb W (hN:N≤W.heap.size) (h:(E ga gc).At N eb W) (V:Int)=>show Calls Tryz.prog 109 #[.pointer (some ⟨eb,0,none⟩),.int .i64 V] W (jE4 m (if V=view then m else 0) V W) from by
  have h2:=xJ7 (E ga gc) N eb (if V=view then m else 0) V W hN h (hg2 ga gc).ok (by
   rw[hEm,hEv]
   by_cases e:V=view
   ·exact .inl ⟨e,if_pos e⟩
   ·exact .inr ⟨e,if_neg e⟩) (fun hv x W' h1 h2 h3 h4=>(hg2 ga gc).agree eb x W' h1 h2 h3 h4 V)
  rw[hEm] at h2
  exact h2)
 have HFI:=Hd (fun ga gc N eb W (hN:N≤W.heap.size) (h:(E ga gc).At N eb W) (x:TK) (hx:x.At W.heap.size W) (hxo:x.Ok m) (hxn:1≤x.n)=>show Calls Tryz.prog 111 (#[.pointer (some ⟨eb,0,none⟩)]++ #[x.val view]++ #[]) W (fun y w'=>(∃b,y= .returned (.bool b)∧(x.n=m→b=true))∧Below W.heap.size W w') from by
  have h2:=(hg2 ga gc).fit x W.heap.size eb W (Q1 _) (h.up hN) hx (by rw[hEm];exact hxo) hxn
  rw[hEm,hEv] at h2
  exact h2)
 unfold L3 at HOP
 unfold L3
 generalize hres:kD6 m view w=RES
 have HRES:=Hd hres
 clear hx hr hP hH hC h1 h2 hpl hg hE hg2 hEm hEv hres
 go_enter Tryz.func77,Tryz.ntmps77
 go_upto_region 1 with(fail)
 generalize World.alloc (World.alloc w _) _=V0 at*
 have x0:=Q0 _ _ 0 _ _ _ HX.out
 obtain⟨r0,r1⟩:=M7 HR.out
 go_upto_region 6 with(first
  |(go_at_call 78;refine(HOP.out _ HB.out).mono ?_;rintro y W1 ⟨⟨eb,ga,gc,rfl,hev,hebw⟩,hb1⟩;have HE1:=Hd hev;have HB1:=Hd (HB.out.trans (hb1.mono HB.out.size));clear hev hb1 x0 r0 r1 HX HR HOP)
  |(go_at_call 108;refine(zG5 _).mono ?_;rintro y w' ⟨rfl,rfl⟩))
 go_upto_region 7 with(fail)
 have hb2:=((Q2 _ W1).alloc (Q1 _) (.cells #[.pointer (some ⟨eb,0,none⟩),.slice none 0 0,.slice none 0 0] 173)).alloc (by simp) (.cells #[.pointer (some ⟨W1.heap.size,0,none⟩)] 168)
 have hfb:=(Q9 (W1.alloc (.cells #[.pointer (some ⟨eb,0,none⟩),.slice none 0 0,.slice none 0 0] 173)) (.cells #[.pointer (some ⟨W1.heap.size,0,none⟩)] 168) W1.heap.size (by simp)).trans (Q3 W1 _)
 have hpb:=Q3 (W1.alloc (.cells #[.pointer (some ⟨eb,0,none⟩),.slice none 0 0,.slice none 0 0] 173)) (.cells #[.pointer (some ⟨W1.heap.size,0,none⟩)] 168)
 rw[show(W1.alloc (.cells #[.pointer (some ⟨eb,0,none⟩),.slice none 0 0,.slice none 0 0] 173)).heap.size=W1.heap.size+1 from by simp] at hpb
 have hwf:w.heap.size≤W1.heap.size:=HB1.out.size
 have HB2:=Hd (HB1.out.trans (hb2.mono HB1.out.size))
 have HS0:=Hd (show zU5 view m 0 W1.heap.size (W1.heap.size+1) eb (E ga gc) W1.heap.size none 0 0 [] _ from⟨rfl,fun _=>⟨rfl,rfl⟩,World.ownsRow_nil _ _ _ _,fun x hx=>(by cases hx),by rw[if_neg (by rcases hvw with h|h<;>rw[h]<;>decide)];rfl,by omega,fun _=>rfl,hfb,hpb,HE1.out.below hb2,Q1 _⟩)
 clear hb2 hfb hpb HE1 HB1
 generalize World.alloc (World.alloc W1 _) _=V2 at*
 generalize W1.heap.size=fb at*
 go_wp2
 go_loopw [37] (fun s37 wr=>∃i:Nat,i≤2∧s37= .int .i64 (i:Int)∧∃fa k fc F,Hid (zU5 view m i fb (fb+1) eb (E ga gc) fb fa k fc F wr)∧Hid (Below w.heap.size w wr)) (fun s37 _=>2-(intOf s37).toNat)
 case atStart=>exact⟨0,by omega,rfl,none,0,0,[],HS0,HB2⟩
 case round=>
  clear HS0 HB2
  obtain⟨i,hi,rfl,fa,k,fc,F,HS,HBr⟩:=hrel
  by_cases hl:i<2
  ·have hl':(i:Int)<2:=by omega
   have hix:∀W:World,(Instr.index 215 (.agg #[.int .i64 1,.int .i64 2]) (.int .i64 (i:Int))).run Tryz.prog W= .ok (.int .i64 ((i+1:Nat):Int)) W:=by
    intro W
    have:i=0∨i=1:=by omega
    rcases this with rfl|rfl
    ·exact kW7 W
    ·exact kW8 W
   obtain⟨V,hV⟩:∃V:Int,((i+1:Nat):Int)=V:=⟨_,rfl⟩
   rw[hV] at hix
   have HVi:=Hd hV
   clear hV
   go_upto_region 10 with(fail)
   have hfr:=J5 HS.out.box
   have hpr:=J5 HS.out.ptr
   have HCi:=Hd (HCH.out ga gc fb eb wr (by omega) HS.out.ev V)
   clear hix
   generalize hMM:(if V=view then m else 0)=MM at*
   go_upto_region 13 with(go_at_call 109;refine HCi.out.mono ?_;rintro y W3 ⟨⟨la,lc,L,rfl,hTL,hok,h256,hcnt,h0⟩,hb3⟩;have HTL:=Hd hTL;have HL:=Hd (And.intro hok (And.intro h256 (And.intro hcnt h0)));have HB3:=Hd hb3;clear hTL hok h256 hcnt h0 hb3)
   have HBx:=HB3.out
   have HS3:=Hd (show zU5 view m i fb (fb+1) eb (E ga gc) fb fa k fc F W3 from⟨HS.out.len,HS.out.z0,K4 HS.out.own HBx,fun x hx=>⟨((HS.out.el x hx).1.below HBx).up HBx.size,(HS.out.el x hx).2⟩,HS.out.cnt,HS.out.le,HS.out.nil,J0 HS.out.box HBx,J0 HS.out.ptr HBx,HS.out.ev.below (HBx.mono (by omega)),HS.out.hN⟩)
   have HB4:=Hd (HBr.out.trans (HBx.mono HBr.out.size))
   clear HBx HS HBr HCi HB3 hfr hpr
   have hmf:∀(fn:Fn) (first cap:Array Value) (w:World),(Instr.makeFunc fn first cap).run Tryz.prog w= .ok (.func fn first cap) w:=fun _ _ _ _=>rfl
   refine wp_region_any (by kernel_rfl) ?_
   change wpAny _ _ _ _ _ _ _ (World.drew W3)
   have hdb:Below W3.heap.size W3 W3.drew:=(Q2 _ W3).drew
   have HS5:=Hd (show zU5 view m i fb (fb+1) eb (E ga gc) fb fa k fc F W3.drew from⟨HS3.out.len,HS3.out.z0,K4 HS3.out.own hdb,fun x hx=>⟨(HS3.out.el x hx).1.below hdb,(HS3.out.el x hx).2⟩,HS3.out.cnt,HS3.out.le,HS3.out.nil,J0 HS3.out.box hdb,J0 HS3.out.ptr hdb,HS3.out.ev.below (hdb.mono (by have:=J5 HS3.out.box;omega)),HS3.out.hN⟩)
   have HTL5:=Hd (show TL W3.drew.heap.size W3.drew V la L from HTL.out.below hdb)
   have HB5:=Hd (HB4.out.trans (hdb.mono HB4.out.size))
   clear hdb HS3 HTL HB4
   generalize World.drew W3=Wd at*
   have p0:=Q0 _ _ 0 _ _ _ HS5.out.ptr
   have f1:=Q0 _ _ 1 _ _ _ HS5.out.box
   have lfb:=J5 HS5.out.box
   have lpb:=J5 HS5.out.ptr
   have HVW:=Hd (fun(h:L≠[])=>show V=view from by
    by_cases e:V=view
    ·exact e
    ·rw[if_neg e] at hMM
     exact absurd (HL.out.2.2.2 hMM.symm) h)
   have HFL:=Hd (zB0 111 #[.pointer (some ⟨eb,0,none⟩)] #[] (fun x b=>x.n=m→b=true) la L lc V Wd.heap.size Wd (Q1 _) (by have:=HL.out.2.1;omega) HTL5.out kH8 (fun W hb x hx=>by
    have hv:=HVW.out (fun e=>by rw[e] at hx;cases hx)
    rw[hv]
    have hok:=HL.out.1 x hx
    exact HFI.out ga gc fb eb W (by have:=hb.size;omega) (HS5.out.ev.below (hb.mono (by omega))) x (((HTL5.out.el x hx).below hb).up hb.size) hok.1 hok.2))
   refine B1 10 10 (fun w':World=>Below Wd.heap.size Wd w') (by kernel_rfl) (Q2 _ _) (fun hS=> ?_)
   refine D5 0 ?_
   refine D5 1 ?_
   refine D5 2 ?_
   refine D5 3 ?_
   refine D5 4 ?_
   refine D5 5 ?_
   refine D5 6 ?_
   refine D5 7 ?_
   refine V7 8 ?_
   refine V8 rfl (fun K hK=> ?_)
   (try simp only[hng])
   go_simp
   refine HFL.out.mono ?_
   rintro y W6 ⟨⟨ma,mc,Mf,rfl,hmT,hmz,hmo,hme,hml,hmq⟩,hb6⟩
   refine hK.out _ _ hb6 (fun hS2=> ?_)
   have HM6:=Hd (And.intro hmT (And.intro hmz (And.intro hmo (And.intro hme (And.intro hml hmq)))))
   have HB6:=Hd hb6
   clear hK K hS hmT hmz hmo hme hml hmq hb6 p0 f1 HFL
   refine hnm ?_
   refine V7 9 ?_
   refine V8 rfl (fun K hK=> ?_)
   have hz6:=HB6.out.size
   obtain⟨j0,hj0,hj1,hj2,hj3⟩:=info_parts qH4
   have hML:Mf.length≤256:=Q5 HM6.out.2.2.2.2.1 HL.out.2.1
   by_cases hVv:V=view
   ·have hF:=HS5.out.nil (by have:=HVi.out;omega)
    have hk0:k=0:=by rw[←HS5.out.len,hF];rfl
    obtain⟨rfl,rfl⟩:=HS5.out.z0 hk0
    subst hk0
    have hmne:Mf≠[]:=fun e=>by
     have h2:=HM6.out.2.2.2.2.2 (fun u=>u.n==m) (fun x _ b hr hq=>hr (by simpa using hq))
     rw[e,HL.out.2.2.1,←hMM,if_pos hVv,if_pos (by omega)] at h2
     simp at h2
    refine zK0 rfl (.tmp 52) (.tmp 56) 106 rfl 0 110 j0 _ 3 56 Tryz.underlying106 hj0 hj1 hj2 hj3 rfl (by decide) (.slice none 0 0) 0 [] (by rfl) (World.ownsRow_nil _ _ _ _) ma Mf.length mc (trC V Mf) (by rfl) (jQ4 V Mf) ?_ (kD3 V Mf) (by unfold maxLen;omega) (by omega) (Nat.zero_le _) (fun v' W7 ho7 hg7=> ?_)
    ·rcases HM6.out.1.row with h|⟨b,off,e1,_,_⟩
     ·exact absurd h hmne
     ·exact .inr ⟨_,e1,HM6.out.1.cellsT e1 hmne⟩
    obtain⟨a7,c7,hv7⟩:=Y6 ho7
    subst hv7
    have hall7:∀b,b<W6.heap.size→W7.heap[b]?=W6.heap[b]? :=fun b hb=>hg7.block b hb (by simp[Value.ownBlock])
    have h67:Below W6.heap.size W6 W7:=⟨hg7.os,hg7.tape,hg7.output,hg7.size,hall7⟩
    have HB7:=Hd (HB6.out.trans (h67.mono hz6))
    refine hK.out _ _ HB7.out (fun hS3=> ?_)
    clear hK K hS2
    refine hnm ?_
    change C0 _ _ _ _ _ _ _ _
    refine⟨by kernel_rfl,?_⟩
    simp only[X7,List.drop_zero]
    rw[Nat.zero_add,List.nil_append] at ho7
    have hfn:=zU5.next (i:=i) (J0 HS5.out.box HB7.out) (J0 HS5.out.ptr HB7.out) (HS5.out.ev.below (HB7.out.mono (by omega))) HS5.out.hN (by omega) rfl (fun h=>absurd (List.eq_nil_of_length_eq_zero h) hmne) (hVv▸ho7) (fun x hx=>⟨((HM6.out.1.el x hx).below h67).up h67.size,HL.out.1 x (HM6.out.2.2.2.1 x hx).1⟩) (by
     have h2:=HM6.out.2.2.2.2.2 (fun u=>u.n==m) (fun x _ b hr hq=>hr (by simpa using hq))
     rw[h2,HL.out.2.2.1,←hMM,if_pos hVv,if_pos (by omega),if_pos (by rw[HVi.out,hVv];exact Int.le_refl _)]) hML (fun h=>absurd (show view≤((i+1:Nat):Int) by rw[HVi.out,hVv];exact Int.le_refl _) h)
    have hbw:=(HB5.out.trans (HB7.out.mono HB5.out.size)).setCell (p:=⟨fb,1,none⟩) (by show w.heap.size≤fb;omega) (.slice a7 Mf.length c7)
    rw[Nat.zero_add] at*
    (have f8:=Z3 _ _ 1 _ _ (J0 HS5.out.box HB7.out);have c8:=(Q0 _ _ 1 _ _ _ (J0 HS5.out.box HB7.out)).trans (show _=some (Value.slice _ _ _) from rfl);have HFN9:=Hd (hfn);have HBW9:=Hd (hbw);clear HS5 HTL5 HB5 HM6 HB6 HB7 HL HVW;go_wp2;go_roundw;(case rel=>first|exact⟨i+1,by omega,by go_num,a7,Mf.length,c7,Mf,HFN9,HBW9⟩|((repeat apply Z9);exact⟨⟨i+1,by omega,by go_num,a7,Mf.length,c7,Mf,HFN9,HBW9⟩,rfl⟩));(case measure=>(simp[intOf];omega)))
   ·have hL0:=HL.out.2.2.2 (by rw[←hMM,if_neg hVv])
    have hM0:Mf=[]:=List.eq_nil_of_length_eq_zero (by have:=HM6.out.2.2.2.2.1;rw[hL0] at this;simpa using this)
    obtain⟨rfl,rfl⟩:=HM6.out.2.1 hM0
    subst hM0
    refine zQ7 rfl (.tmp 52) (.tmp 56) 106 rfl 0 110 j0 3 Tryz.underlying106 hj0 (.slice fa k fc) k (trC view F) rfl (K4 HS5.out.own HB6.out) 0 rfl ?_
    have HB7:=HB6
    refine hK.out _ _ HB7.out (fun hS3=> ?_)
    clear hK K hS2
    refine hnm ?_
    change C0 _ _ _ _ _ _ _ _
    refine⟨by kernel_rfl,?_⟩
    simp only[X7,List.drop_zero]
    have hvi:=HVi.out
    have hfn:=zU5.next (i:=i) (J0 HS5.out.box HB7.out) (J0 HS5.out.ptr HB7.out) (HS5.out.ev.below (HB7.out.mono (by omega))) HS5.out.hN (by omega) HS5.out.len HS5.out.z0 (K4 HS5.out.own HB7.out) (fun x hx=>⟨((HS5.out.el x hx).1.below HB7.out).up HB7.out.size,(HS5.out.el x hx).2⟩) (by
     rw[HS5.out.cnt]
     by_cases e:view≤(i:Int)
     ·rw[if_pos e,if_pos (by omega)]
     ·rw[if_neg e,if_neg (by omega)]) HS5.out.le (fun h=>HS5.out.nil (by omega))
    have hbw:=(HB5.out.trans (HB7.out.mono HB5.out.size)).setCell (p:=⟨fb,1,none⟩) (by show w.heap.size≤fb;omega) (.slice fa k fc)
    (have f8:=Z3 _ _ 1 _ _ (J0 HS5.out.box HB7.out);have c8:=(Q0 _ _ 1 _ _ _ (J0 HS5.out.box HB7.out)).trans (show _=some (Value.slice _ _ _) from rfl);have HFN9:=Hd (hfn);have HBW9:=Hd (hbw);clear HS5 HTL5 HB5 HM6 HB6 HB7 HL HVW;go_wp2;go_roundw;(case rel=>first|exact⟨i+1,by omega,by go_num,fa,k,fc,F,HFN9,HBW9⟩|((repeat apply Z9);exact⟨⟨i+1,by omega,by go_num,fa,k,fc,F,HFN9,HBW9⟩,rfl⟩));(case measure=>(simp[intOf];omega)))
  ·obtain rfl:i=2:=by omega
   have hl':¬((2:Nat):Int)<2:=by omega
   have hmf:∀(fn:Fn) (first cap:Array Value) (w:World),(Instr.makeFunc fn first cap).run Tryz.prog w= .ok (.func fn first cap) w:=fun _ _ _ _=>rfl
   go_upto_region 15 with(fail)
   have hbr:=HBr.out.size
   refine wp_region_any (by kernel_rfl) ?_
   change wpAny _ _ _ _ _ _ _ (World.drew wr)
   have hdb:Below wr.heap.size wr wr.drew:=(Q2 _ wr).drew
   have HS5:=Hd (show zU5 view m 2 fb (fb+1) eb (E ga gc) fb fa k fc F wr.drew from⟨HS.out.len,HS.out.z0,K4 HS.out.own hdb,fun x hx=>⟨(HS.out.el x hx).1.below hdb,(HS.out.el x hx).2⟩,HS.out.cnt,HS.out.le,HS.out.nil,J0 HS.out.box hdb,J0 HS.out.ptr hdb,HS.out.ev.below (hdb.mono (by have:=J5 HS.out.box;omega)),HS.out.hN⟩)
   have HB5:=Hd (HBr.out.trans (hdb.mono HBr.out.size))
   clear hdb HS HBr
   generalize World.drew wr=Wd at*
   have p0:=Q0 _ _ 0 _ _ _ HS5.out.ptr
   have f1:=Q0 _ _ 1 _ _ _ HS5.out.box
   have lfb:=J5 HS5.out.box
   have lpb:=J5 HS5.out.ptr
   have hc1:F.countP (fun u=>u.n==m)=1:=by
    rw[HS5.out.cnt,if_pos (by rcases hvw with h|h<;>rw[h]<;>decide)]
   have HC1:=Hd hc1
   have HTL5:=Hd (show TL Wd.heap.size Wd view fa F from qN9 (c:=fc) (by rw[HS5.out.len];exact HS5.out.own) (Q1 _) (fun x hx=>(HS5.out.el x hx).1))
   have hfl:=zB0 112 #[] #[.pointer (some ⟨fb+1,0,none⟩)] (fun x b=>b=true↔x.n=m) fa F fc view Wd.heap.size Wd (Q1 _) (by have:=HS5.out.len;have:=HS5.out.le;omega) HTL5.out kL7 (fun W hb x hx=>by
    have hok:=(HS5.out.el x hx).2
    refine(kV6 x view F fa fc Wd.heap.size fb (fb+1) (.pointer (some ⟨eb,0,none⟩)) (.slice none 0 0) W hb.size ((HS5.out.el x hx).1.below hb) (by have:=hok.1.le;omega) (HTL5.out.below hb) (by have:=HS5.out.len;have:=HS5.out.le;omega) (fun y hy=>by have:=(HS5.out.el y hy).2.1.le;omega) (J0 HS5.out.ptr hb) (by rw[HS5.out.len];exact J0 HS5.out.box hb)).mono ?_
    rintro y w' ⟨rfl,hb'⟩
    exact⟨⟨_,rfl,jR4 (fun x hx=>(HS5.out.el x hx).2) HC1.out hx⟩,hb'⟩)
   rw[HS5.out.len] at hfl
   have HFL:=Hd hfl
   clear hfl hc1
   refine B1 7 7 (fun w':World=>Below Wd.heap.size Wd w') (by kernel_rfl) (Q2 _ _) (fun hS=> ?_)
   refine D5 0 ?_
   refine D5 1 ?_
   refine D5 2 ?_
   refine D5 3 ?_
   refine D5 4 ?_
   refine D5 5 ?_
   refine V7 6 ?_
   refine V8 rfl (fun K hK=> ?_)
   (try simp only[hng])
   go_simp
   refine HFL.out.mono ?_
   rintro y W6 ⟨⟨ma,mc,Mf,rfl,hmT,hmz,hmo,hme,hml,hmq⟩,hb6⟩
   refine hK.out _ _ hb6 (fun hS2=> ?_)
   have hlen1:Mf.length=1:=by
    have h2:=hmq (fun u=>u.n==m) (fun x _ b hr hq=>hr.2 (by simpa using hq))
    rw[HC1.out] at h2
    rw[←h2]
    symm
    rw[List.countP_eq_length]
    intro x hx
    have:=(hme x hx).2.1 rfl
    simpa using this
   obtain⟨t,rfl⟩:=List.length_eq_one_iff.1 hlen1
   have ht:=hme t (by simp)
   have htm:t.n=m:=ht.2.1 rfl
   have hto:=(HS5.out.el t ht.1).2.1
   have htA:=hmT.el t (by simp)
   have HM6:=Hd (And.intro htm (And.intro hto (And.intro htA hmo)))
   have HB6:=Hd hb6
   clear hK K hS hmT hmz hmo hme hml hmq hb6 p0 f1 HFL hlen1 ht htm hto htA
   refine hnm ?_
   change C0 _ _ _ _ _ _ _ _
   refine⟨by kernel_rfl,?_⟩
   simp only[X7,List.drop_zero]
   have hb6:=J0 HS5.out.box HB6.out
   have hp6:=J0 HS5.out.ptr HB6.out
   have f8:=Z3 _ _ 2 _ _ hb6
   have c8:=Q0 _ _ 2 _ _ _ hb6
   have hoff:=B0 HM6.out.2.2.2 hb6 (by decide)
   have hk9:∀b,b≠fb→(W6.setCell ⟨fb,2,none⟩ (.slice ma 1 mc)).heap[b]?=W6.heap[b]? :=fun b h=>Q6 W6 ⟨fb,2,none⟩ b _ h
   have hz9:W6.heap.size≤(W6.setCell ⟨fb,2,none⟩ (.slice ma 1 mc)).heap.size:=by simp[World.setCell]
   have HF9:=Hd (Q4 W6 fb 2 _ _ (.slice ma 1 mc) hb6)
   have HP9:=Hd ((hk9 (fb+1) (by omega)).trans hp6)
   have HT9:=Hd (qN9 (W:=W6.setCell ⟨fb,2,none⟩ (.slice ma 1 mc)) (L:=[t]) (c:=mc) (L5 HM6.out.2.2.2 (fun g hg=>hk9 g (fun e=>hoff (by rw[hg,e])))) (Q1 _) (fun x hx=>by
    obtain rfl:x=t:=by simpa using hx
    exact(HM6.out.2.2.1.off hb6 (jW7 _) (jQ0 _ _ _) (jQ0 _ _ _) (fun b _ h=>hk9 b h)).up hz9))
   have HB9:=Hd ((HB5.out.trans (HB6.out.mono HB5.out.size)).setCell (p:=⟨fb,2,none⟩) (by show w.heap.size≤fb;omega) (.slice ma 1 mc))
   clear hb6 hp6 hoff hk9 hz9 HS5 HTL5 HB5 HB6
   go_upto_region 16 with(fail)
   generalize World.setCell W6 _ _=W9 at*
   have p0:=Q0 _ _ 0 _ _ _ HP9.out
   have f2:=Q0 _ _ 2 _ _ _ HF9.out
   have lf9:=J5 HF9.out
   have HR:=Hd (show RES (.returned (.tuple #[.pointer (some ⟨fb,0,none⟩),.int .i64 0])) W9 from by
    rw[←HRES.out]
    exact⟨⟨fb,_,_,ma,mc,t,rfl,HF9.out,HT9.out,HM6.out.2.1,HM6.out.1⟩,HB9.out⟩)
   clear HRES HM6 HT9
   go_wp2_with(go_at_call 116;refine(jI8 ma mc _ _).mono ?_;rintro y w' ⟨⟨v,rfl⟩,rfl⟩)
   exact HR.out
end
end Go.Proofs.YtmncaipgefbalaaGreatDoor
