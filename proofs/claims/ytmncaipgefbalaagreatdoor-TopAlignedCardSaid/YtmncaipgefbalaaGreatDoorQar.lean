/- Part of the proof of the claim. -/
import Derived.Test.YtmncaipgefbalaaGreatDoorQaq
import Derived.Lib.QuietBelow
import Derived.Test.YtmncaipgefbalaaGreatDoorQam
set_option maxRecDepth 100000
set_option maxHeartbeats 8000000
set_option linter.unusedVariables false
set_option linter.unusedSimpArgs false
namespace Go.Proofs.YtmncaipgefbalaaGreatDoor
section
open Go Go.RowKit Go.Shelf
def tC(C:List ST)(i:Nat):RW:=⟨(C.getD i ST.zero).sl,(C.getD i ST.zero).st,(C.getD i ST.zero).dn⟩
theorem xQ4:∀(C:List ST) (i:Nat),i<C.length→(stC C)[i*3]?=some (.int .i64 (tC C i).key)∧(stC C)[i*3+1]?=some (.int .i64 (tC C i).lo)∧(stC C)[i*3+2]?=some (.int .i64 (tC C i).hi)
 |[],i,h=>by simp at h
 |s::C,0,h=>⟨rfl,rfl,rfl⟩
 |s::C,i+1,h=>by
  have ih:=xQ4 C i (by simpa using h)
  have e:stC (s::C)= .int .i64 s.sl:: .int .i64 s.st:: .int .i64 s.dn::stC C:=rfl
  rw[e,show(i+1)*3=i*3+3 by omega]
  exact ih
theorem zT0{W:World}{base:Nat}{va:Option Addr}{vc:Nat}{C:List ST}(h:W.ownsRow base 181 3 (.slice va C.length vc) C.length (stC C))(h0:0<C.length):S5 W.heap.size W va C.length (tC C):=by
 obtain⟨g,rfl,h1,h2⟩:=qJ6 h h0
 refine .inr ⟨g,0,rfl,h2,fun i hi=> ?_⟩
 obtain⟨e0,e1,e2⟩:=xQ4 C i hi
 rw[Nat.zero_add]
 exact⟨(h.cellAt (i*3) (by omega)).trans e0,(h.cellAt (i*3+1) (by omega)).trans e1,(h.cellAt (i*3+2) (by omega)).trans e2⟩
def plC(C:List ST)(z:Int)(i:Nat):SV:=⟨atN (C.getD i ST.zero) z,(C.getD i ST.zero).dn⟩
theorem xS6{C:List ST}{z:Int}(hC:∀s∈C,s.ok)(hz: -100000≤z∧z≤200000):∀i,i<C.length→U1 (plC C z i):=by
 intro i hi
 have hs:(C.getD i ST.zero).ok:=by
  rw[X3,Z5 hi]
  exact hC _ (List.getElem_mem hi)
 exact⟨jX4 hs hz,hs.dn⟩
theorem jK6:(Tryz.prog.info? 69).map (fun i=>(i.zero,i.size,i.bytes))=some (some (.agg #[.int .i64 0,.int .i64 0]),2,16):=by kernel_rfl
theorem kP9(args:Array Value)(W:World):(callFunc 124 args).run Tryz.prog W= .ok (.enter 124 args) W:=enters_of Tryz.func124 (by kernel_rfl) rfl args W
theorem kR0(args:Array Value)(W:World):(callFunc 126 args).run Tryz.prog W= .ok (.enter 126 args) W:=enters_of Tryz.func126 (by kernel_rfl) rfl args W
def loP(C:List ST)(z:Int):SV:=F6 ltF (plC C z) (C.length-1)
def hiP(C:List ST)(z:Int):SV:=F6 gtF (plC C z) (C.length-1)
def frV(p:SV):Value:=spV (R7 p.lo p.hi) (F3 p.lo p.hi)
theorem kK5(W:World)(x y:Int):∀j u,([.int .i64 x,.int .i64 y]:List Value)[j]?=some u→(W.alloc (.cells #[.int .i64 x,.int .i64 y] 69)).cell? ((⟨W.heap.size,0,none⟩:Addr).add j)=some u:=by
 intro j u h
 have hr:=Q3 W (.cells #[.int .i64 x,.int .i64 y] 69)
 have:=Q0 _ _ j _ _ _ hr
 rw[List.getElem?_toArray,h] at this
 rw[←this]
 cases j with
 |zero=>rfl
 |succ j=>simp[Addr.add]
theorem kL1(x y:Int):∀u∈([.int .i64 x,.int .i64 y]:List Value),u.oneCell'=true:=by
 intro u hu
 simp at hu
 rcases hu with rfl|rfl<;>rfl
theorem zZ4(f:Nat)(caps:Array Value)(L:Nat→SV)(av:Value)(C:List ST)(va:Option Addr)(vc B:Nat)(w:World)(hBw:B≤w.heap.size)(hT:S5 B w va C.length (tC C))(hok:∀i,i<C.length→U1 (L i))(hlen:1≤C.length∧C.length≤2400)
  (eg:∀args W,(callFunc f args).run Tryz.prog W= .ok (.enter f args) W)
  (hC:∀i,i<C.length→∀W,Below w.heap.size w W→Calls Tryz.prog f (#[.agg #[.int .i64 (tC C i).key,.int .i64 (tC C i).lo,.int .i64 (tC C i).hi]]++caps) W fun e w'=>e= .returned (.agg #[.int .i64 (L i).lo,.int .i64 (L i).hi])∧Below W.heap.size W w'):
  Calls Tryz.prog 83 #[.agg #[av,.slice va C.length vc],.func (.func f) #[] caps] w fun e w'=>e= .returned (.tuple #[frV (F6 ltF L (C.length-1)),frV (F6 gtF L (C.length-1))])∧Below w.heap.size w w':=by
 have HPL:=Hd hC
 have HEX1:=Hd (fun la lc W (hl:qV3 W.heap.size W la C.length L) (hc:C.length≤lc∧lc≤maxLen)=>show Calls Tryz.prog 123 #[.slice la C.length lc,.func (.func 124) #[] #[]] W fun e w'=>e= .returned (.agg #[.int .i64 (F6 ltF L (C.length-1)).lo,.int .i64 (F6 ltF L (C.length-1)).hi])∧Below W.heap.size W w' from zZ8 124 ltF la C.length lc L W.heap.size W (Q1 _) hl ⟨hlen.1,hc⟩ hok kP9 (fun W p q hp hq=>xJ1 p q W hp hq))
 have HEX2:=Hd (fun la lc W (hl:qV3 W.heap.size W la C.length L) (hc:C.length≤lc∧lc≤maxLen)=>show Calls Tryz.prog 123 #[.slice la C.length lc,.func (.func 126) #[] #[]] W fun e w'=>e= .returned (.agg #[.int .i64 (F6 gtF L (C.length-1)).lo,.int .i64 (F6 gtF L (C.length-1)).hi])∧Below W.heap.size W w' from zZ8 126 gtF la C.length lc L W.heap.size W (Q1 _) hl ⟨hlen.1,hc⟩ hok kR0 (fun W p q hp hq=>xJ2 p q W hp hq))
 have hlo:U1 (F6 ltF L (C.length-1)):=U7 (fun i hi=>hok i (by omega))
 have hhi:U1 (F6 gtF L (C.length-1)):=U7 (fun i hi=>hok i (by omega))
 have HF1:=Hd (fun W=>show Calls Tryz.prog 90 #[.int .i64 (F6 ltF L (C.length-1)).lo,.int .i64 (F6 ltF L (C.length-1)).hi] W fun e w'=>e= .returned (.agg #[.int .i64 (R7 (F6 ltF L (C.length-1)).lo (F6 ltF L (C.length-1)).hi),.int .i64 (F3 (F6 ltF L (C.length-1)).lo (F6 ltF L (C.length-1)).hi)])∧Below W.heap.size W w' from qU9 (F6 ltF L (C.length-1)).lo (F6 ltF L (C.length-1)).hi W (by have:=hlo.nm;omega) (by have:=hlo.dn;omega))
 have HF2:=Hd (fun W=>show Calls Tryz.prog 90 #[.int .i64 (F6 gtF L (C.length-1)).lo,.int .i64 (F6 gtF L (C.length-1)).hi] W fun e w'=>e= .returned (.agg #[.int .i64 (R7 (F6 gtF L (C.length-1)).lo (F6 gtF L (C.length-1)).hi),.int .i64 (F3 (F6 gtF L (C.length-1)).lo (F6 gtF L (C.length-1)).hi)])∧Below W.heap.size W w' from qU9 (F6 gtF L (C.length-1)).lo (F6 gtF L (C.length-1)).hi W (by have:=hhi.nm;omega) (by have:=hhi.dn;omega))
 unfold frV spV
 generalize R7 (F6 ltF L (C.length-1)).lo (F6 ltF L (C.length-1)).hi=a0 at*
 generalize F3 (F6 ltF L (C.length-1)).lo (F6 ltF L (C.length-1)).hi=a1 at*
 generalize R7 (F6 gtF L (C.length-1)).lo (F6 gtF L (C.length-1)).hi=b0 at*
 generalize F3 (F6 gtF L (C.length-1)).lo (F6 gtF L (C.length-1)).hi=b1 at*
 generalize(F6 ltF L (C.length-1)).lo=x0 at*
 generalize(F6 ltF L (C.length-1)).hi=x1 at*
 generalize(F6 gtF L (C.length-1)).lo=y0 at*
 generalize(F6 gtF L (C.length-1)).hi=y1 at*
 clear hlo hhi hok hC
 generalize tC C=t at*
 generalize C.length=m at*
 have HB:=Hd ((((Q2 _ w).alloc (Q1 _) (.cells #[av,.slice va m vc] 121)).alloc (by simp) (.cells #[.int .i64 0,.int .i64 0] 69)).alloc (by simp;omega) (.cells #[.int .i64 0,.int .i64 0] 69))
 obtain⟨_,h2,h3,h4⟩:=qG5 w (.cells #[av,.slice va m vc] 121) (.cells #[.int .i64 0,.int .i64 0] 69) (.cells #[.int .i64 0,.int .i64 0] 69)
 have HT:=Hd (hT.below (HB.out.mono hBw))
 have hVs:(((w.alloc (.cells #[av,.slice va m vc] 121)).alloc (.cells #[.int .i64 0,.int .i64 0] 69)).alloc (.cells #[.int .i64 0,.int .i64 0] 69)).heap.size=w.heap.size+3:=by simp
 have HE1:=Hd h2
 have HE2:=Hd h3
 have HE3:=Hd h4
 have HVS:=Hd hVs
 clear h2 h3 h4 hT hVs
 go_enter Tryz.func83,Tryz.ntmps83
 go_upto_region 2 with(fail)
 generalize World.alloc (World.alloc (World.alloc w _) _) _=V at*
 have k1:=Q0 _ _ 1 _ _ _ HE1.out
 have hVz:w.heap.size+3≤V.heap.size:=Nat.le_of_eq HVS.out.symm
 have HO:=Hd (show V.ownsRow (w.heap.size+3) 69 2 (.slice none 0 0) 0 (sC L 0) from⟨rfl,.inl ⟨rfl,rfl⟩⟩)
 go_wp2
 clear k1
 go_loopw [6,14] (fun s6 s14 wr=>∃i:Nat,i≤m∧s14= .int .i64 (i:Int)∧∃la lc,s6= .slice la i lc∧Hid (wr.ownsRow (w.heap.size+3) 69 2 (.slice la i lc) i (sC L i))∧Hid (wr.heap[w.heap.size+1]?=some (.cells #[.int .i64 0,.int .i64 0] 69)∧wr.heap[w.heap.size+1+1]?=some (.cells #[.int .i64 0,.int .i64 0] 69))∧Hid (S5 B wr va m t)∧Hid (Below w.heap.size w wr)∧w.heap.size+3≤wr.heap.size) (fun _ s14 _=>m-(intOf s14).toNat)
 case atStart=>exact⟨0,by omega,rfl,none,0,rfl,HO,Hd ⟨HE2.out,HE3.out⟩,HT,HB,hVz⟩
 case round=>
  clear HO HE1 HE2 HE3 HT HB hVz
  obtain⟨i,hi,rfl,la,lc,rfl,HO,HE,HT,HB,hVz⟩:=hrel
  by_cases hl:i<m
  ·have hl':(i:Int)<(m:Int):=by omega
   obtain⟨b,off,rfl,hbB,c0,c1,c2⟩:=HT.out.get hl
   have HPi:=Hd (HPL.out i hl)
   have HN:=Hd (show [.int .i64 (L i).lo,.int .i64 (L i).hi]=sC (fun _=>L i) 1 from rfl)
   have HCT:=Hd (show sC L i++[.int .i64 (L i).lo,.int .i64 (L i).hi]=sC L (i+1) from by
    rw[HN.out,kM7]
    refine jI1 (fun j hj=> ?_)
    by_cases e:j<i
    ·rw[if_pos e]
    ·rw[if_neg e,show j=i by omega])
   obtain⟨k0',hk0⟩:∃r,t i=r:=⟨_,rfl⟩
   rw[hk0] at HPi c0 c1 c2
   obtain⟨x,y,u⟩:=k0'
   dsimp only at HPi c0 c1 c2
   clear hk0 HN
   go_upto_region 5 with(fail)
   have hb2:=J3 wr (.cells #[.int .i64 x,.int .i64 y,.int .i64 u] 181)
   have HG2:=Hd (Q3 wr (.cells #[.int .i64 x,.int .i64 y,.int .i64 u] 181))
   have HO2:=Hd (K4 HO.out hb2)
   have HE2:=Hd (And.intro (J0 HE.out.1 hb2) (J0 HE.out.2 hb2))
   have HT2:=Hd (HT.out.below (hb2.mono (Q5 hBw HB.out.size)))
   have HB2:=Hd (HB.out.trans (hb2.mono HB.out.size))
   have hz2:=Q5 hVz hb2.size
   clear hb2 HO HE HT HB hVz c0 c1 c2
   generalize World.alloc wr _=W2 at*
   generalize wr.heap.size=g at*
   obtain⟨g0,g1,g2⟩:=U4 HG2.out
   obtain⟨i0,hi0,hz0,hz1,hz22⟩:=info_parts jK6
   have hcn:i+1≤maxLen∧(i+1)*16≤140737488355328:=by unfold maxLen;omega
   generalize(L i).lo=p0 at*
   generalize(L i).hi=p1 at*
   go_wp2_with(first
    |(refine(HPi.out _ HB2.out).mono ?_;rintro e W3 ⟨rfl,hb3⟩;have HO3:=Hd (K4 HO2.out hb3);have HE3:=Hd (And.intro (J0 HE2.out.1 hb3) (J0 HE2.out.2 hb3));have HT3:=Hd (HT2.out.below (hb3.mono (Q5 hBw HB2.out.size)));have HB3:=Hd (HB2.out.trans (hb3.mono HB2.out.size));have hz3:=Q5 hz2 hb3.size;clear hb3 HO2 HE2 HT2 HB2 HG2 g0 g1 g2)
    |(at_builtin;refine wpList_append_own _ rfl _ _ 229 rfl (w.heap.size+3) 69 i0 _ 2 16 Tryz.underlying229 hi0 hz0 hz1 hz22 rfl (by decide) _ i (sC L i) rfl (HO3.out.alloc _) ⟨W3.heap.size,0,none⟩ 1 1 [.int .i64 p0,.int .i64 p1] rfl rfl (kK5 W3 _ _) (kL1 _ _) hcn.1 hcn.2 (by simp;omega) ?_;intro v' W4 hown4 hgrow4 _;have hbf:=((J3 W3 (.cells #[.int .i64 p0,.int .i64 p1] 69)).mono (show w.heap.size+3≤W3.heap.size from hz3)).grown hgrow4 (by simp;omega) (fun b hb=>L7 HO3.out hb);obtain⟨a4,c4,hv4⟩:=Y6 hown4;subst hv4;rw[HCT.out] at hown4;have HO4:=Hd hown4;have HE4:=Hd (And.intro ((hbf.block _ (by omega)).trans HE3.out.1) ((hbf.block _ (by omega)).trans HE3.out.2));have HT4:=Hd (HT3.out.below (hbf.mono (by omega)));have HB4:=Hd (HB3.out.trans (hbf.mono (by omega)));have hz4:=Q5 hz3 hbf.size;clear hbf hown4 hgrow4))
   go_roundw
   case rel=>first|exact⟨i+1,by omega,by go_num,a4,c4,rfl,HO4,HE4,HT4,HB4,hz4⟩|((repeat apply Z9);exact⟨⟨i+1,by omega,by go_num,a4,c4,rfl,HO4,HE4,HT4,HB4,hz4⟩,rfl⟩)
   case measure=>simp[intOf];omega
  ·obtain rfl:i=m:=by omega
   have hl':¬(i:Int)<(i:Int):=by omega
   have hmx:i≤lc∧lc≤maxLen:=by
    obtain⟨g,h1,h2,h3⟩:=qJ6 HO.out (show 0<i by omega)
    rcases HO.out.2 with⟨_,h⟩|⟨g',cap,cur,h5,_,_,h6,h7,_⟩
    ·omega
    ·injection h5 with _ _ h8
     omega
   have HSP:=Hd (fun W' (hb:Below wr.heap.size wr W')=>show qV3 W'.heap.size W' la i L from by
    obtain⟨g,rfl,h1,h2⟩:=qJ6 HO.out (show 0<i by omega)
    refine⟨by unfold maxLen;omega,.inr ⟨g,0,rfl,Z4 h2 hb.size,fun j hj=> ?_⟩⟩
    have e:=(J9 hb).1
    rw[Nat.zero_add,e _ _ h2,e _ _ h2,HO.out.cellAt (j*2) (by omega),HO.out.cellAt (j*2+1) (by omega),A0 (by omega),A0 (by omega),if_pos (by omega),if_neg (by omega),show j*2/2=j by omega,show(j*2+1)/2=j by omega]
    exact⟨rfl,rfl⟩)
   clear HO HPL HT
   go_upto_region 8 with(go_at_call 123;refine(HEX1.out la lc wr (HSP.out wr (Q2 _ _)) hmx).mono ?_;rintro e W1 ⟨rfl,hb1⟩;have HQ1:=Hd hb1;clear hb1)
   have hb2:=J3 W1 (.cells #[.int .i64 x0,.int .i64 x1] 69)
   have HX2:=Hd (Q3 W1 (.cells #[.int .i64 x0,.int .i64 x1] 69))
   have HQ2:=Hd (HQ1.out.trans (hb2.mono HQ1.out.size))
   have hlt1:=HQ1.out.size
   clear hb2 HQ1 HEX1
   generalize World.alloc W1 _=W2 at*
   generalize W1.heap.size=gx at*
   go_upto_region 9 with(go_at_call 123;refine(HEX2.out la lc W2 (HSP.out W2 HQ2.out) hmx).mono ?_;rintro e W3 ⟨rfl,hb3⟩;have HQ3:=Hd (HQ2.out.trans (hb3.mono HQ2.out.size));have HX3:=Hd (J0 HX2.out hb3);clear hb3 HQ2 HX2)
   have hb4:=J3 W3 (.cells #[.int .i64 y0,.int .i64 y1] 69)
   have HY4:=Hd (Q3 W3 (.cells #[.int .i64 y0,.int .i64 y1] 69))
   have HX4:=Hd (J0 HX3.out hb4)
   have HQ4:=Hd (HQ3.out.trans (hb4.mono HQ3.out.size))
   clear hb4 HQ3 HX3 HEX2 HSP
   generalize World.alloc W3 _=W4 at*
   generalize W3.heap.size=gy at*
   have HE4:=Hd (And.intro (J0 HE.out.1 HQ4.out) (J0 HE.out.2 HQ4.out))
   have HB4:=Hd (HB.out.trans (HQ4.out.mono HB.out.size))
   clear HQ4 HE HB
   obtain⟨k0,k1⟩:=M7 HX4.out
   obtain⟨m0,m1⟩:=M7 HY4.out
   have lx:=(J5 HX4.out)
   have ly:=(J5 HY4.out)
   (refine M0 (W4.heap.size) 10 (by kernel_rfl) (by kernel_rfl) ?_;simp only[List.take_succ_cons,List.take_zero,X7,List.drop_zero];(repeat(first|go_big_quiet_step((go_at_call 90;first|(with_reducible exact Calls.calm_of (Q1 _) (HF1.out _))|(with_reducible exact Calls.calm_of (Q1 _) (HF2.out _))))|quiet_step((go_at_call 90;first|(with_reducible exact Calls.calm_of (Q1 _) (HF1.out _))|(with_reducible exact Calls.calm_of (Q1 _) (HF2.out _))))));refine X4 (wqn ?_);intro xq)
   have hq:=xq.below
   have HE5:=Hd (And.intro (J0 HE4.out.1 hq) (J0 HE4.out.2 hq))
   have HB5:=Hd (HB4.out.trans (hq.mono HB4.out.size))
   clear hq HE4 HB4 HX4 HY4 k0 k1 m0 m1 lx ly
   generalize K9.val xq=V2 at*
   (obtain⟨r0,r1⟩:=M7 HE5.out.1;obtain⟨s0,s1⟩:=M7 HE5.out.2;obtain⟨f0,f1⟩:=fr2 HE5.out.1;obtain⟨g0,g1⟩:=fr2 HE5.out.2;go_wp2;have hne:w.heap.size+1≠w.heap.size+1+1:=(by omega);have hr1:=Q4 _ _ 1 _ _ (.int .i64 a1) (Q4 V2 _ 0 _ _ (.int .i64 a0) HE5.out.1);have hr2:=((Q6 _ ⟨w.heap.size+1,1,none⟩ (w.heap.size+1+1) (.int .i64 a1) (Ne.symm hne)).trans (Q6 V2 ⟨w.heap.size+1,0,none⟩ (w.heap.size+1+1) (.int .i64 a0) (Ne.symm hne))).trans HE5.out.2;have hr3:=Q4 _ _ 1 _ _ (.int .i64 b1) (Q4 _ _ 0 _ _ (.int .i64 b0) hr2);have hr4:=((Q6 _ ⟨w.heap.size+1+1,1,none⟩ (w.heap.size+1) (.int .i64 b1) hne).trans (Q6 _ ⟨w.heap.size+1+1,0,none⟩ (w.heap.size+1) (.int .i64 b0) hne)).trans hr1;have hbl:=(((HB5.out.setCell (p:=⟨w.heap.size+1,0,none⟩) (by dsimp only;omega) (.int .i64 a0)).setCell (p:=⟨w.heap.size+1,1,none⟩) (by dsimp only;omega) (.int .i64 a1)).setCell (p:=⟨w.heap.size+1+1,0,none⟩) (by dsimp only;omega) (.int .i64 b0)).setCell (p:=⟨w.heap.size+1+1,1,none⟩) (by dsimp only;omega) (.int .i64 b1);generalize World.setCell (World.setCell (World.setCell (World.setCell V2 _ _) _ _) _ _) _ _=V6 at*;obtain⟨q0,q1⟩:=M7 hr4;obtain⟨q2,q3⟩:=M7 hr3;exact Z2 (v:= .tuple #[.agg #[.int .i64 a0,.int .i64 a1],.agg #[.int .i64 b0,.int .i64 b1]]) (by simp[results,Tryz.results83,go_sem,q0,q1,q2,q3]) rfl ⟨rfl,hbl⟩)
theorem kS3(args:Array Value)(W:World):(callFunc 91 args).run Tryz.prog W= .ok (.enter 91 args) W:=enters_of Tryz.func91 (by kernel_rfl) rfl args W
theorem xJ3(z:Int)(av:Value)(C:List ST)(va:Option Addr)(vc qz B:Nat)(w:World)(hBw:B≤w.heap.size)(hT:S5 B w va C.length (tC C))(hC:∀s∈C,s.ok)(hlen:1≤C.length∧C.length≤2400)(hz: -100000≤z∧z≤200000)(hq:w.heap[qz]?=some (.cells #[.int .i64 z] 3)):
  Calls Tryz.prog 83 #[.agg #[av,.slice va C.length vc],.func (.func 91) #[] #[.pointer (some ⟨qz,0,none⟩)]] w fun e w'=>e= .returned (.tuple #[frV (loP C z),frV (hiP C z)])∧Below w.heap.size w w':=by
 exact zZ4 91 #[.pointer (some ⟨qz,0,none⟩)] (plC C z) av C va vc B w hBw hT (xS6 hC hz) hlen kS3 (fun i hi W hb=>xC8 (C.getD i ST.zero) z qz W (by
  rw[X3,Z5 hi]
  exact hC _ (List.getElem_mem hi)) hz (J0 hq hb))
theorem kV8(W:World)(o1 o2 o3 o4:Obj):Below W.heap.size W ((((W.alloc o1).alloc o2).alloc o3).alloc o4)∧((((W.alloc o1).alloc o2).alloc o3).alloc o4).heap[W.heap.size]?=some o1∧((((W.alloc o1).alloc o2).alloc o3).alloc o4).heap[W.heap.size+1]?=some o2∧((((W.alloc o1).alloc o2).alloc o3).alloc o4).heap[W.heap.size+1+1]?=some o3∧((((W.alloc o1).alloc o2).alloc o3).alloc o4).heap[W.heap.size+1+1+1]?=some o4:=by
 obtain⟨h1,h2,h3,h4⟩:=qG5 W o1 o2 o3
 have z3:(((W.alloc o1).alloc o2).alloc o3).heap.size=W.heap.size+3:=by simp
 generalize((W.alloc o1).alloc o2).alloc o3=V at*
 refine⟨h1.alloc h1.size o4,?_,?_,?_,?_⟩
 ·rw[Q9 _ _ _ (by omega)];exact h2
 ·rw[Q9 _ _ _ (by omega)];exact h3
 ·rw[Q9 _ _ _ (by omega)];exact h4
 ·have:=Q3 V o4
  rwa [z3] at this
theorem xS7(z:Int)(a:Option Addr)(n c:Nat)(t:Nat→RW)(C:List ST)(va:Option Addr)(vc B base:Nat)(w:World)(hBw:B≤w.heap.size)(hG:S5 B w a n t)(hn:1≤n∧n≤200)(hf:R6 t n=false)
  (hO:w.ownsRow base 181 3 (.slice va C.length vc) C.length (stC C)) (hC:∀s∈C,s.ok) (hlen:1≤C.length∧C.length≤2400) (hz: -100000≤z∧z≤200000):
  Calls Tryz.prog 49 #[.agg #[.slice a n c,.slice va C.length vc],.int .i64 z] w fun e w'=>e= .returned (.tuple #[frV (loP C z),frV (hiP C z)])∧Below w.heap.size w w':=by
 have hst:=zT0 hO hlen.1
 obtain⟨h1,h2,h3,h4,h5⟩:=kV8 w (.cells #[.slice a n c,.slice va C.length vc] 121) (.cells #[.int .i64 z] 3) (.cells #[.int .i64 0,.int .i64 0] 69) (.cells #[.int .i64 0,.int .i64 0] 69)
 have HF:=Hd (fun W (hb:Below w.heap.size w W)=>qJ2 a n c t B W (Q5 hBw hb.size) (hG.below (hb.mono hBw)) hn)
 rw[hf] at HF
 have HBD:=Hd (fun W (hb:Below w.heap.size w W) (hq:W.heap[w.heap.size+1]?=some (.cells #[.int .i64 z] 3))=>xJ3 z (.slice a n c) C va vc (w.heap.size+1) w.heap.size W hb.size (hst.below hb) hC hlen hz hq)
 unfold frV spV at HBD
 unfold frV spV
 generalize R7 (loP C z).lo (loP C z).hi=a0 at*
 generalize F3 (loP C z).lo (loP C z).hi=a1 at*
 generalize R7 (hiP C z).lo (hiP C z).hi=b0 at*
 generalize F3 (hiP C z).lo (hiP C z).hi=b1 at*
 generalize C.length=m at*
 have HB:=Hd h1
 have HS:=Hd h2
 have HZ:=Hd h3
 have HE:=Hd (And.intro h4 h5)
 clear h1 h2 h3 h4 h5 hst hG hO hC hf hlen
 go_enter Tryz.func49,Tryz.ntmps49
 go_upto_region 1 with(fail)
 generalize World.alloc (World.alloc (World.alloc (World.alloc w _) _) _) _=V at*
 have k0:=Q0 _ _ 0 _ _ _ HS.out
 go_upto_region 4 with(go_at_call 88;refine(HF.out _ HB.out).mono ?_;rintro e W1 ⟨rfl,hb1⟩;have HB1:=Hd (HB.out.trans (hb1.mono HB.out.size));have HS1:=Hd (J0 HS.out hb1);have HZ1:=Hd (J0 HZ.out hb1);have HE1:=Hd (And.intro (J0 HE.out.1 hb1) (J0 HE.out.2 hb1));clear hb1 k0 HB HS HZ HE)
 obtain⟨k0,k1⟩:=M7 HS1.out
 go_wp2_with(go_at_call 83;refine(HBD.out _ HB1.out HZ1.out).mono ?_;rintro e V2 ⟨rfl,hb5⟩;have HB5:=Hd (HB1.out.trans (hb5.mono HB1.out.size));have HE5:=Hd (And.intro (J0 HE1.out.1 hb5) (J0 HE1.out.2 hb5));clear hb5 k0 k1;obtain⟨r0,r1⟩:=M7 HE5.out.1;obtain⟨s0,s1⟩:=M7 HE5.out.2;obtain⟨f0,f1⟩:=fr2 HE5.out.1;obtain⟨g0,g1⟩:=fr2 HE5.out.2)
 (have hne:w.heap.size+1+1≠w.heap.size+1+1+1:=(by omega);have hr1:=Q4 _ _ 1 _ _ (.int .i64 a1) (Q4 V2 _ 0 _ _ (.int .i64 a0) HE5.out.1);have hr2:=((Q6 _ ⟨w.heap.size+1+1,1,none⟩ (w.heap.size+1+1+1) (.int .i64 a1) (Ne.symm hne)).trans (Q6 V2 ⟨w.heap.size+1+1,0,none⟩ (w.heap.size+1+1+1) (.int .i64 a0) (Ne.symm hne))).trans HE5.out.2;have hr3:=Q4 _ _ 1 _ _ (.int .i64 b1) (Q4 _ _ 0 _ _ (.int .i64 b0) hr2);have hr4:=((Q6 _ ⟨w.heap.size+1+1+1,1,none⟩ (w.heap.size+1+1) (.int .i64 b1) hne).trans (Q6 _ ⟨w.heap.size+1+1+1,0,none⟩ (w.heap.size+1+1) (.int .i64 b0) hne)).trans hr1;have hbl:=(((HB5.out.setCell (p:=⟨w.heap.size+1+1,0,none⟩) (by dsimp only;omega) (.int .i64 a0)).setCell (p:=⟨w.heap.size+1+1,1,none⟩) (by dsimp only;omega) (.int .i64 a1)).setCell (p:=⟨w.heap.size+1+1+1,0,none⟩) (by dsimp only;omega) (.int .i64 b0)).setCell (p:=⟨w.heap.size+1+1+1,1,none⟩) (by dsimp only;omega) (.int .i64 b1);generalize World.setCell (World.setCell (World.setCell (World.setCell V2 _ _) _ _) _ _) _ _=V6 at*;obtain⟨q0,q1⟩:=M7 hr4;obtain⟨q2,q3⟩:=M7 hr3;exact Z2 (v:= .tuple #[.agg #[.int .i64 a0,.int .i64 a1],.agg #[.int .i64 b0,.int .i64 b1]]) (by simp[results,Tryz.results49,go_sem,q0,q1,q2,q3]) rfl ⟨rfl,hbl⟩)
def qM2(a:Option Addr)(n c:Nat)(t:Nat→RW)(base:Nat)(w:World)(e:Ending)(w':World):Prop:=
 ∃C va vc,e= .returned (.tuple #[.agg #[.slice a n c,.slice va C.length vc],.int .i64 0])∧F7 t n (G7 t n) C∧(1≤C.length∧C.length≤2400)∧w'.ownsRow base 181 3 (.slice va C.length vc) C.length (stC C)∧Below w.heap.size w w'
theorem zC8(fv:Value)(a:Option Addr)(n c:Nat)(t:Nat→RW)(B:Nat)(w:World)(hBw:B≤w.heap.size)(hT:S5 B w a n t)(hO:qQ2 n t)(hc:n≤c∧c≤maxLen)(hf:R6 t n=false)(hs:∃s∈G7 t n,qY6 s t n=true):
  Calls Tryz.prog 47 #[.slice a n c,fv] w (qM2 a n c t w.heap.size w):=by
 have HB:=Hd (J3 w (.cells #[.slice none 0 0,.slice none 0 0] 121))
 have HR:=Hd (Q3 w (.cells #[.slice none 0 0,.slice none 0 0] 121))
 have hn:=hO.len
 have HCK:=Hd (fun W (hb:Below w.heap.size w W)=>qR0 a n c t B W (Q5 hBw hb.size) (hT.below (hb.mono hBw)) hO)
 have HLN:=Hd (fun W (hb:Below w.heap.size w W)=>jV3 a n c t B W (Q5 hBw hb.size) (hT.below (hb.mono hBw)) hO hc hf)
 have HSM:=Hd (fun ca cn cc W (hb:Below w.heap.size w W)=>jI6 a ca n c cn cc t B W (Q5 hBw hb.size) (hT.below (hb.mono hBw)) (by omega) hf)
 have HFL:=Hd (fun W (hb:Below w.heap.size w W)=>qJ2 a n c t B W (Q5 hBw hb.size) (hT.below (hb.mono hBw)) (by omega))
 rw[hf] at HFL
 have HPOS:=Hd (fun C (h:F7 t n (G7 t n) C)=>show 1≤C.length from by
  obtain⟨s,h1,h2⟩:=hs
  obtain⟨c,h3,_⟩:=h.all s h1 h2
  cases C with
  |nil=>cases h3
  |cons x l=>simp)
 have HRES:=Hd (fun C va vc W (h1:F7 t n (G7 t n) C) (h2:1≤C.length∧C.length≤2400) (h3:W.ownsRow w.heap.size 181 3 (.slice va C.length vc) C.length (stC C)) (h4:Below w.heap.size w W)=>show qM2 a n c t w.heap.size w (.returned (.tuple #[.agg #[.slice a n c,.slice va C.length vc],.int .i64 0])) W from⟨C,va,vc,rfl,h1,h2,h3,h4⟩)
 generalize qM2 a n c t w.heap.size w=RES at*
 clear hT hO hc hf hs
 go_enter Tryz.func47,Tryz.ntmps47
 go_upto_region 1 with(fail)
 generalize World.alloc w _=V at*
 go_upto_region 3 with(go_at_call 85;refine(HCK.out _ HB.out).mono ?_;rintro e W1 ⟨rfl,hb1⟩;have HB1:=Hd (HB.out.trans (hb1.mono HB.out.size));have HR1:=Hd (J0 HR.out hb1);clear hb1 HB HR)
 go_upto_region 4 with(go_at_call 86;refine(HLN.out _ HB1.out).mono ?_;rintro e W2 ⟨C,v,rfl,hcor,hlen,hown,hb2⟩;obtain⟨va,vc,hv⟩:=Y6 hown;subst hv;have HCR:=Hd hcor;have hcl:=And.intro (HPOS.out C hcor) hlen;have HOW:=Hd (P8 hown HB1.out.size);have HB2:=Hd (HB1.out.trans (hb2.mono HB1.out.size));have HR2:=Hd (J0 HR1.out hb2);clear hb2 hown hcor hlen HB1 HR1)
 have hb3:=J3 W2 (.cells #[.slice a n c,.slice va C.length vc] 121)
 have HX3:=Hd (Q3 W2 (.cells #[.slice a n c,.slice va C.length vc] 121))
 have HB3:=Hd (HB2.out.trans (hb3.mono HB2.out.size))
 have HR3:=Hd (J0 HR2.out hb3)
 have HO3:=Hd (K4 HOW.out hb3)
 clear hb3 HB2 HR2 HOW
 generalize World.alloc W2 _=W3 at*
 generalize W2.heap.size=x at*
 have HST:=Hd (show decide (0<C.length)=true from Z0 (by omega))
 have HSM:=Hd (fun W (hb:Below w.heap.size w W)=>HSM.out va C.length vc W hb)
 rw[HST.out] at HSM
 clear HST
 obtain⟨m,hm⟩:∃m,C.length=m:=⟨_,rfl⟩
 have HRES:=Hd (fun W h3 h4=>HRES.out C va vc W HCR.out hcl h3 h4)
 have HCS:=Hd (show ∃cs,stC C=cs from⟨_,rfl⟩)
 obtain⟨cs,hcs⟩:=HCS.out
 rw[hm,hcs] at HRES HO3
 rw[hm] at HX3 HSM
 rw[hm]
 obtain⟨k0,k1⟩:=M7 HX3.out
 go_upto_region 6 with(go_at_call 87;refine(HSM.out _ HB3.out).mono ?_;rintro e W4 ⟨rfl,hb4⟩;have HX4:=Hd (J0 HX3.out hb4);have HB4:=Hd (HB3.out.trans (hb4.mono HB3.out.size));have HR4:=Hd (J0 HR3.out hb4);have HO4:=Hd (K4 HO3.out hb4);clear hb4 k0 k1 HX3 HB3 HR3 HO3)
 obtain⟨k0,k1⟩:=M7 HX4.out
 go_wp2_with(go_at_call 88;refine(HFL.out _ HB4.out).mono ?_;rintro e W5 ⟨rfl,hb5⟩;have HX5:=Hd (J0 HX4.out hb5);have HB5:=Hd (HB4.out.trans (hb5.mono HB4.out.size));have HR5:=Hd (J0 HR4.out hb5);have HO5:=Hd (K4 HO4.out hb5);clear hb5 k0 k1 HX4 HB4 HR4 HO4;obtain⟨k0,k1⟩:=M7 HX5.out;obtain⟨r0,r1⟩:=M7 HR5.out;obtain⟨f0,f1⟩:=fr2 HR5.out)
 have hrow:=Q4 _ _ 1 _ _ (.slice va m vc) (Q4 W5 _ 0 _ _ (.slice a n c) HR5.out)
 have hbl:=(HB5.out.setCell (p:=⟨w.heap.size,0,none⟩) (Q1 _) (.slice a n c)).setCell (p:=⟨w.heap.size,1,none⟩) (Q1 _) (.slice va m vc)
 have hvr:=B0 HO5.out HR5.out (by decide)
 have how:=L5 (w':=(W5.setCell ⟨w.heap.size,0,none⟩ (.slice a n c)).setCell ⟨w.heap.size,1,none⟩ (.slice va m vc)) HO5.out (fun g hg=>(Q6 _ ⟨w.heap.size,1,none⟩ g _ (fun e=>hvr (by rw[hg,e]))).trans (Q6 W5 ⟨w.heap.size,0,none⟩ g _ (fun e=>hvr (by rw[hg,e]))))
 generalize World.setCell (World.setCell W5 _ _) _ _=V6 at*
 obtain⟨q0,q1⟩:=M7 hrow
 exact Z2 (v:= .tuple #[.agg #[.slice a n c,.slice va m vc],.int .i64 0]) (by simp[results,Tryz.results47,go_sem,q0,q1]) rfl (HRES.out V6 how hbl)
def jD6(n:Nat)(t:Nat→RW)(z:Int)(w:World)(e:Ending)(w':World):Prop:=
 (∃C,F7 t n (G7 t n) C∧e= .returned (.tuple #[frV (loP C z),frV (hiP C z),.int .i64 0]))∧Below w.heap.size w w'
theorem jD7(z:Int)(a:Option Addr)(n c:Nat)(t:Nat→RW)(B:Nat)(w:World)(hBw:B≤w.heap.size)(hT:S5 B w a n t)(hO:qQ2 n t)(hc:n≤c∧c≤maxLen)(hf:R6 t n=false)(hs:∃s∈G7 t n,qY6 s t n=true)(hz: -100000≤z∧z≤200000):
  Calls Tryz.prog 19 #[.slice a n c,.int .i64 z] w (jD6 n t z w):=by
 obtain⟨h1,h2,h3,h4⟩:=qG5 w (.cells #[.int .i64 z] 3) (.cells #[.int .i64 0,.int .i64 0] 69) (.cells #[.int .i64 0,.int .i64 0] 69)
 have hn:=hO.len
 have HOP:=Hd (fun fv W (hb:Below w.heap.size w W)=>zC8 fv a n c t B W (Q5 hBw hb.size) (hT.below (hb.mono hBw)) hO hc hf hs)
 have HPL:=Hd (fun C va vc base W (hb:Below w.heap.size w W) (hown:W.ownsRow base 181 3 (.slice va C.length vc) C.length (stC C)) (hC:∀s∈C,s.ok) (hl:1≤C.length∧C.length≤2400)=>xS7 z a n c t C va vc B base W (Q5 hBw hb.size) (hT.below (hb.mono hBw)) (by omega) hf hown hC hl hz)
 have HOK:=Hd (fun C (h:F7 t n (G7 t n) C)=>show ∀s∈C,s.ok from fun s hs=>E3 hO s (h.from' s hs).1)
 have HRES:=Hd (fun C W (h1:F7 t n (G7 t n) C) (hb:Below w.heap.size w W)=>show jD6 n t z w (.returned (.tuple #[frV (loP C z),frV (hiP C z),.int .i64 0])) W from⟨⟨C,h1,rfl⟩,hb⟩)
 unfold qM2 at HOP
 generalize jD6 n t z w=RES at*
 have HIN:=Hd (G2 hz.1 hz.2)
 have HB:=Hd h1
 have HZ:=Hd h2
 have HE:=Hd (And.intro h3 h4)
 clear h1 h2 h3 h4 hT hO hc hf hs hz
 go_enter Tryz.func19,Tryz.ntmps19
 go_upto_region 1 with(fail)
 generalize World.alloc (World.alloc (World.alloc w _) _) _=V at*
 have z0:=Q0 _ _ 0 _ _ _ HZ.out
 go_upto_region 3 with(go_at_call 46;refine(qH9 _ _ _ _).mono ?_;rintro e w' ⟨rfl,rfl⟩;rw[HIN.out])
 clear z0
 go_upto_region 4 with(go_at_call 47;refine(HOP.out _ _ HB.out).mono ?_;rintro e W1 ⟨C,va,vc,rfl,hcor,hcl,hown,hb1⟩;have HCR:=Hd hcor;have HOW:=Hd hown;have HB1:=Hd (HB.out.trans (hb1.mono HB.out.size));have HZ1:=Hd (J0 HZ.out hb1);have HE1:=Hd (And.intro (J0 HE.out.1 hb1) (J0 HE.out.2 hb1));clear hb1 hcor hown HB HZ HE HOP)
 have hb2:=J3 W1 (.cells #[.slice a n c,.slice va C.length vc] 121)
 have HX2:=Hd (Q3 W1 (.cells #[.slice a n c,.slice va C.length vc] 121))
 have HB2:=Hd (HB1.out.trans (hb2.mono HB1.out.size))
 have HZ2:=Hd (J0 HZ1.out hb2)
 have HE2:=Hd (And.intro (J0 HE1.out.1 hb2) (J0 HE1.out.2 hb2))
 have HO2:=Hd (K4 HOW.out hb2)
 clear hb2 HB1 HZ1 HE1 HOW
 generalize World.alloc W1 _=W2 at*
 generalize W1.heap.size=x at*
 have HPL:=Hd (HPL.out C va vc _ W2 HB2.out HO2.out (HOK.out C HCR.out) hcl)
 have HRES:=Hd (fun W hb=>HRES.out C W HCR.out hb)
 clear HOK HCR hcl HO2
 unfold frV spV at HPL HRES
 generalize R7 (loP C z).lo (loP C z).hi=a0 at*
 generalize F3 (loP C z).lo (loP C z).hi=a1 at*
 generalize R7 (hiP C z).lo (hiP C z).hi=b0 at*
 generalize F3 (hiP C z).lo (hiP C z).hi=b1 at*
 generalize C.length=m at*
 obtain⟨k0,k1⟩:=M7 HX2.out
 have z0:=Q0 _ _ 0 _ _ _ HZ2.out
 go_upto_region 7 with(go_at_call 49;refine HPL.out.mono ?_;rintro e W3 ⟨rfl,hb3⟩;have HB3:=Hd (HB2.out.trans (hb3.mono HB2.out.size));have HE3:=Hd (And.intro (J0 HE2.out.1 hb3) (J0 HE2.out.2 hb3));clear hb3 k0 k1 z0 HB2 HE2 HZ2 HX2 HPL)
 have hb4:Below W3.heap.size W3 ((W3.alloc (.cells #[.int .i64 a0,.int .i64 a1] 69)).alloc (.cells #[.int .i64 b0,.int .i64 b1] 69)):=((Q2 _ W3).alloc (Q1 _) _).alloc (by simp) _
 have e1:((W3.alloc (.cells #[.int .i64 a0,.int .i64 a1] 69)).alloc (.cells #[.int .i64 b0,.int .i64 b1] 69)).heap[W3.heap.size]?=some (.cells #[.int .i64 a0,.int .i64 a1] 69):=(Q9 _ _ _ (by simp)).trans (Q3 W3 _)
 have e2:=Q3 (W3.alloc (.cells #[.int .i64 a0,.int .i64 a1] 69)) (.cells #[.int .i64 b0,.int .i64 b1] 69)
 rw[show(W3.alloc (.cells #[.int .i64 a0,.int .i64 a1] 69)).heap.size=W3.heap.size+1 from by simp] at e2
 have hwx:w.heap.size+1+1<W3.heap.size:=(J5 HE3.out.2)
 have HB5:=Hd (HB3.out.trans (hb4.mono HB3.out.size))
 have HE5:=Hd (And.intro (J0 HE3.out.1 hb4) (J0 HE3.out.2 hb4))
 clear hb4 HB3 HE3
 generalize World.alloc (World.alloc W3 _) _=V2 at*
 generalize W3.heap.size=y at*
 obtain⟨k0,k1⟩:=M7 e1
 obtain⟨m0,m1⟩:=M7 e2
 clear e1 e2
 obtain⟨r0,r1⟩:=M7 HE5.out.1;obtain⟨s0,s1⟩:=M7 HE5.out.2;obtain⟨f0,f1⟩:=fr2 HE5.out.1;obtain⟨g0,g1⟩:=fr2 HE5.out.2
 go_region
 have hne:w.heap.size+1≠w.heap.size+1+1:=by omega
 have hr1:=Q4 _ _ 1 _ _ (.int .i64 a1) (Q4 V2 _ 0 _ _ (.int .i64 a0) HE5.out.1)
 have hr2:=((Q6 _ ⟨w.heap.size+1,1,none⟩ (w.heap.size+1+1) (.int .i64 a1) (Ne.symm hne)).trans (Q6 V2 ⟨w.heap.size+1,0,none⟩ (w.heap.size+1+1) (.int .i64 a0) (Ne.symm hne))).trans HE5.out.2
 have hr3:=Q4 _ _ 1 _ _ (.int .i64 b1) (Q4 _ _ 0 _ _ (.int .i64 b0) hr2)
 have hr4:=((Q6 _ ⟨w.heap.size+1+1,1,none⟩ (w.heap.size+1) (.int .i64 b1) hne).trans (Q6 _ ⟨w.heap.size+1+1,0,none⟩ (w.heap.size+1) (.int .i64 b0) hne)).trans hr1
 have hbl:=((((HB5.out.setCell (p:=⟨w.heap.size+1,0,none⟩) (by dsimp only;omega) (.int .i64 a0)).setCell (p:=⟨w.heap.size+1,1,none⟩) (by dsimp only;omega) (.int .i64 a1)).setCell (p:=⟨w.heap.size+1+1,0,none⟩) (by dsimp only;omega) (.int .i64 b0)).setCell (p:=⟨w.heap.size+1+1,1,none⟩) (by dsimp only;omega) (.int .i64 b1)).drew
 rw[←heap_drew] at hr3 hr4
 generalize World.drew _=V6 at*
 obtain⟨q0,q1⟩:=M7 hr4
 obtain⟨q2,q3⟩:=M7 hr3
 go_wp2
 exact Z2 (v:= .tuple #[.agg #[.int .i64 a0,.int .i64 a1],.agg #[.int .i64 b0,.int .i64 b1],.int .i64 0]) (by simp[results,Tryz.results19,go_sem,q0,q1,q2,q3]) rfl (HRES.out V6 hbl)
structure Grw(w w':World):Prop where
 below:Below w.heap.size w w'
 drawn:w.drawn≤w'.drawn
theorem Grw.refl(w:World):Grw w w:=⟨Q2 _ _,Q1 _⟩
theorem Grw.trans{a b c:World}(h:Grw a b)(k:Grw b c):Grw a c:=⟨h.below.trans (k.below.mono h.below.size),Q5 h.drawn k.drawn⟩
theorem Grw.alloc{a w:World}(h:Grw a w)(o:Obj):Grw a (w.alloc o):=⟨h.below.alloc h.below.size o,h.drawn⟩
theorem Grw.setCell{a w:World}(h:Grw a w){p:Addr}(hp:a.heap.size≤p.block)(v:Value):Grw a (w.setCell p v):=⟨h.below.setCell hp v,h.drawn⟩
theorem Grw.ex{w w':World}(h:Grw w w'):∃q os,w'=Go.Sort.grow (w.drewN q) os:=by
 obtain⟨p,hp⟩:=regrown_of_below h.below
 have hd:w'.drawn=p.d:=by rw[hp];rfl
 have hle:=h.drawn
 refine⟨p.d-w.drawn,p.os,hp.trans ?_⟩
 have e:redrawn w p.d=w.drewN (p.d-w.drawn):=by
  unfold redrawn World.drewN
  rw[show w.drawn+(p.d-w.drawn)=p.d from by omega]
 rw[e]
structure F4(B:Nat)(W:World) where
 val:World
 below:Below B W val
 drawn:W.drawn≤val.drawn
instance {B:Nat} {W:World}:Nonempty (F4 B W):=⟨⟨W,Q2 _ _,Q1 _⟩⟩
theorem F4.cell{B:Nat}{W:World}(x:F4 B W){b o:Nat}(h:b<B):x.val.cell? ⟨b,o,none⟩=W.cell? ⟨b,o,none⟩:=x.below.cell (p:=⟨b,o,none⟩) h
theorem F4.frozen{B:Nat}{W:World}(x:F4 B W){b o:Nat}(h:b<B):x.val.frozen? ⟨b,o,none⟩=W.frozen? ⟨b,o,none⟩:=x.below.frozen (p:=⟨b,o,none⟩) h
attribute [go_sem] F4.cell F4.frozen
theorem F4.grw{W:World}(x:F4 W.heap.size W):Grw W x.val:=⟨x.below,x.drawn⟩
theorem qQ8{P:Program}(B:Nat){id:Nat}{Q:Exit→Act→World→Prop}{a:Act}{w:World}{l:List Oper}(hm:P.follows .mixedOrders=true)(hB:Region.lexB .any l.toArray=true)
  (h:wpQuiet P l.toArray (fun w'=>∃x:F4 B w,w'=x.val) (fun a'=>∀w',(∃x:F4 B w,w'=x.val)→Q .normal a' w') l a):(Code.region id l.toArray true).wp P Q a w:=
 wp_region_quiet (C:=fun w'=>∃x:F4 B w,w'=x.val) hm hB ⟨⟨w.drew,(Q2 _ _).drew,by simp⟩,rfl⟩ (by simpa using h)
theorem qM0{P:Program}(B:Nat)(n:Nat){id:Nat}{Q:Exit→Act→World→Prop}{a:Act}{w:World}{l:List Oper}(hm:P.follows .mixedOrders=true)(hB:Region.lexTailB .any l.toArray n=true)
  (h:wpQuiet P l.toArray (fun w'=>∃x:F4 B w,w'=x.val) (fun a'=>∀w',(∃x:F4 B w,w'=x.val)→wpList P l.toArray Q (l.drop n) a' w') (l.take n) a):(Code.region id l.toArray true).wp P Q a w:=
 qQ0 (C:=fun w'=>∃x:F4 B w,w'=x.val) n hm hB ⟨⟨w.drew,(Q2 _ _).drew,by simp⟩,rfl⟩ h
theorem Calls.gcalm_of{P:Program}{f:FuncId}{args:Array Value}{B:Nat}{W:World}{x:F4 B W}{v:Value}(hB:B≤W.heap.size)
  (h:Calls P f args x.val fun e w'=>e= .returned v∧Grw x.val w'):Calls P f args x.val fun e w''=>e= .returned v∧∃y:F4 B W,w''=y.val:=
 h.mono fun _ w1 ⟨he,hb⟩=>⟨he,⟨w1,x.below.trans (hb.below.mono (Q5 hB x.below.size)),Q5 x.drawn hb.drawn⟩,rfl⟩
theorem jR6(a b:Nat)(w:World)(ha:a≤1000000000000000)(hb:b≤1000000000000000):
  Calls Tryz.prog 133 #[.int .i64 (a:Int),.int .i64 (b:Int)] w fun e w'=>e= .returned (.int .i64 (Nat.gcd a b:Int))∧Grw w w':=by
 have HB0:=Hd (Grw.refl w)
 obtain⟨G,hG⟩:∃G,Nat.gcd a b=G:=⟨_,rfl⟩
 rw[hG]
 have HG:=Hd hG
 clear hG
 go_enter Tryz.func133,Tryz.ntmps133
 go_wp2
 go_loopw [0,1] (fun x y wr=>∃p q:Nat,x= .int .i64 (p:Int)∧y= .int .i64 (q:Int)∧p≤1000000000000000∧q≤1000000000000000∧Hid (Nat.gcd p q=G)∧Hid (Grw w wr)) (fun _ y _=>(intOf y).toNat)
 case atStart=>exact⟨a,b,rfl,rfl,ha,hb,HG,HB0⟩
 case round=>
  clear HB0
  obtain⟨p,q,rfl,rfl,hp,hq,HE,HB⟩:=hrel
  by_cases h0:0<q
  ·have h0':(0:Int)<(q:Int):=by omega
   have hqz:(q:Int)≠0:=by omega
   have hm:((p:Int)).tmod (q:Int)=((p%q:Nat):Int):=by rw[Int.ofNat_tmod]
   have hm2:(p:Int)%(q:Int)=((p%q:Nat):Int):=by rw[Int.natCast_emod]
   have hlt:=Nat.mod_lt p h0
   have HE2:=Hd (show Nat.gcd q (p%q)=G from by rw[←HE.out,Nat.gcd_comm p q,Nat.gcd_rec q p,Nat.gcd_comm])
   generalize p%q=r at*
   go_upto_region 2 with(fail)
   (refine qQ8 (wr.heap.size) (by kernel_rfl) (by kernel_rfl) ?_;(repeat(first|go_big_quiet_step(fail)|quiet_step(fail)));refine X4 ?_;intro wz hz';obtain⟨xq,hz''⟩:=hz';subst hz'')
   have HB2:=Hd (HB.out.trans xq.grw)
   generalize F4.val xq=V2 at*
   clear HB HE hm hm2
   go_wp2
   go_roundw
   case rel=>exact⟨q,r,rfl,rfl,hq,by omega,HE2,HB2⟩
   case measure=>simp[intOf];omega
  ·obtain rfl:q=0:=by omega
   have HE2:=Hd (show p=G from by rw[←HE.out,Nat.gcd_zero_right])
   clear HE
   go_wp2
   go_ret
   exact⟨by rw[←HE2.out];rfl,HB.out⟩
theorem zR0(num den:Int)(w:World)(hn: -1000000000000000≤num∧num≤1000000000000000)(hd:1≤den∧den≤1000000000000000):
  Calls Tryz.prog 90 #[.int .i64 num,.int .i64 den] w fun e w'=>e= .returned (spV (R7 num den) (F3 num den))∧Grw w w':=by
 have HGC:=Hd (fun W=>jR6 num.natAbs den.natAbs W (by omega) (by omega))
 have hg1:1≤Nat.gcd num.natAbs den.natAbs:=Nat.gcd_pos_of_pos_right _ (by omega)
 have hg2:(Nat.gcd num.natAbs den.natAbs:Int)≤den:=by have:=Nat.gcd_le_right num.natAbs (show 0<den.natAbs by omega);omega
 unfold R7 F3 spV
 have hq1:num.tdiv (Nat.gcd num.natAbs den.natAbs:Int)≤1000000000000000∧-1000000000000000≤num.tdiv (Nat.gcd num.natAbs den.natAbs:Int):=by
  have h1:(num.tdiv (Nat.gcd num.natAbs den.natAbs:Int)).natAbs≤num.natAbs:=by rw[Int.natAbs_tdiv];exact Nat.div_le_self _ _
  omega
 have hq2:den.tdiv (Nat.gcd num.natAbs den.natAbs:Int)≤1000000000000000∧-1000000000000000≤den.tdiv (Nat.gcd num.natAbs den.natAbs:Int):=by
  have h1:(den.tdiv (Nat.gcd num.natAbs den.natAbs:Int)).natAbs≤den.natAbs:=by rw[Int.natAbs_tdiv];exact Nat.div_le_self _ _
  omega
 have hda:((den.natAbs:Nat):Int)=den:=by omega
 have hna:((num.natAbs:Nat):Int)=max num (-num):=by omega
 rw[hda] at HGC
 have hdd:den/(Nat.gcd num.natAbs den.natAbs:Int)=den.tdiv (Nat.gcd num.natAbs den.natAbs:Int):=(Int.tdiv_eq_ediv_of_nonneg (by omega)).symm
 generalize hG:Nat.gcd num.natAbs den.natAbs=G at*
 generalize hN:num.tdiv (G:Int)=N at*
 generalize hD:den.tdiv (G:Int)=D at*
 generalize num.natAbs=na at*
 clear hG hda
 have HB:=Hd ((Grw.refl w).alloc (.cells #[.int .i64 0,.int .i64 0] 69))
 have HX:=Hd (Q3 w (.cells #[.int .i64 0,.int .i64 0] 69))
 have HGZ:(G:Int)≠0:=by omega
 have hm1:IntKind.i64.wrap (-num)= -num:=Z1 _ (by omega)
 have hm2:IntKind.i64.wrap N=N:=Z1 _ (by omega)
 have hm3:IntKind.i64.wrap D=D:=Z1 _ (by omega)
 rw[hna] at HGC
 clear hna
 go_enter Tryz.func90,Tryz.ntmps90
 go_upto_region 1 with(fail)
 generalize World.alloc w _=V at*
 go_upto_region 2 with(go_at_call 133;with_reducible refine(HGC.out _).mono ?_;rintro e W1 ⟨rfl,hb1⟩;have HB1:=Hd (HB.out.trans hb1);have HX1:=Hd (J0 HX.out hb1.below);clear hb1)
 (refine qM0 (W1.heap.size) 7 (by kernel_rfl) (by kernel_rfl) ?_;simp only[List.take_succ_cons,List.take_zero,X7,List.drop_zero];(repeat(first|go_big_quiet_step(fail)|quiet_step(fail)));refine X4 ?_;intro wz hz';obtain⟨xq,hz''⟩:=hz';subst hz'')
 have hq:=xq.grw
 have HB2:=Hd (HB1.out.trans hq)
 have HX2:=Hd (J0 HX1.out hq.below)
 clear hq
 generalize F4.val xq=V2 at*
 obtain⟨p0,p1⟩:=M7 HX2.out
 obtain⟨f0,f1⟩:=fr2 HX2.out
 simp only[P2] at p0 p1
 go_wp2
 have hrow:=Q4 _ _ 1 _ _ (.int .i64 D) (Q4 V2 _ 0 _ _ (.int .i64 N) HX2.out)
 have hbl:=(HB2.out.setCell (p:=⟨w.heap.size,0,none⟩) (by dsimp only;omega) (.int .i64 N)).setCell (p:=⟨w.heap.size,1,none⟩) (by dsimp only;omega) (.int .i64 D)
 generalize World.setCell (World.setCell V2 _ _) _ _=V5 at*
 obtain⟨q0,q1⟩:=M7 hrow
 exact Z2 (v:= .agg #[.int .i64 N,.int .i64 D]) (by simp[results,Tryz.results90,go_sem,q0,q1]) rfl ⟨rfl,hbl⟩
theorem zW5(an ad bn bd:Int)(w:World)(h1: -600000000000≤an∧an≤600000000000)(h2:1≤ad∧ad≤100000)(h3: -600000000000≤bn∧bn≤600000000000)(h4:1≤bd∧bd≤100000):
  Calls Tryz.prog 125 #[.agg #[.int .i64 an,.int .i64 ad],.agg #[.int .i64 bn,.int .i64 bd]] w fun e w'=>e= .returned (.int .i64 (Lib.compareInt (an*bd) (bn*ad)))∧Grw w w':=by
 have b1:=qS6 (K:=600000000000) (M:=100000) (by decide) h1 (y:=bd) (by omega)
 have b2:=qS6 (K:=600000000000) (M:=100000) (by decide) h3 (y:=ad) (by omega)
 generalize hm1:an*bd=m1 at*
 generalize hm2:bn*ad=m2 at*
 have hcon:=fun W'=>AnyG.cmp_Compare_int Tryz.laysCmpCh m1 m2 W'
 change ∀W',Calls Tryz.prog 161 _ _ _ at hcon
 have HC:=Hd hcon
 have HB:=Hd (((Grw.refl w).alloc (.cells #[.int .i64 an,.int .i64 ad] 69)).alloc (.cells #[.int .i64 bn,.int .i64 bd] 69))
 generalize Lib.compareInt m1 m2=r at*
 clear hcon
 go_enter Tryz.func125,Tryz.ntmps125
 go_wp2_with(go_at_call 161;refine(HC.out _).mono ?_;rintro e w' ⟨rfl,rfl⟩)
 go_ret
 exact⟨rfl,HB.out⟩
theorem xG3(f:Nat)(ptr:Value)(a:Option Addr)(n c:Nat)(t:Nat→RW)(B:Nat)(p:Nat→Bool)(w:World)(hBw:B≤w.heap.size)(hn:n≤200)(hT:S5 B w a n t)
  (eg:∀args W,(callFunc f args).run Tryz.prog W= .ok (.enter f args) W)
  (hC:∀W,Grw w W→∀i,i<n→Calls Tryz.prog f #[(t i).agg,ptr] W fun e w'=>e= .returned (.bool (p i))∧Grw W w'):
  Calls Tryz.prog 166 #[.slice a n c,.func (.func f) #[] #[ptr]] w fun e w'=>e= .returned (.int .i64 (if G9 n p<n then(G9 n p:Int) else-1))∧Grw w w':=by
 have HC:=Hd hC
 have HF:=Hd (fun i (hi:i<n) (hn:∀j,j<i→p j=false) (h:p i=true)=>show(if G9 n p<n then(G9 n p:Int) else-1)=(i:Int) from by rw[qW0 hi hn h,if_pos hi])
 have HG:=Hd (fun(hn:∀j,j<n→p j=false)=>show(if G9 n p<n then(G9 n p:Int) else-1)= -1 from by rw[T6 hn,if_neg (Nat.lt_irrefl _)])
 have HT:=Hd hT
 have HB0:=Hd (Grw.refl w)
 generalize(if G9 n p<n then(G9 n p:Int) else-1)=F at*
 clear hT hC
 go_enter Tryz.func166,Tryz.ntmps166
 go_wp2
 go_loopw [8] (fun x wr=>∃i:Nat,i≤n∧x= .int .i64 (i:Int)∧Hid (∀j,j<i→p j=false)∧Hid (Grw w wr)) (fun x _=>n-(intOf x).toNat)
 case atStart=>exact⟨0,Nat.zero_le _,rfl,Hd (fun j hj=>by omega),HB0⟩
 case round=>
  clear HB0
  obtain⟨i,hi,rfl,HN,HB0⟩:=hrel
  by_cases hlt:i<n
  ·have hlt':(i:Int)<(n:Int):=by omega
   obtain⟨b1,off,rfl,hbB,c0,c1,c2⟩:=(HT.out.below (HB0.out.below.mono hBw)).get hlt
   have HCi:=Hd (HC.out wr HB0.out i hlt)
   obtain⟨r,hr⟩:∃r,t i=r:=⟨_,rfl⟩
   rw[hr] at HCi c0 c1 c2
   obtain⟨k,lo,hi'⟩:=r
   unfold RW.agg at HCi
   dsimp only at HCi c0 c1 c2
   clear hr
   cases hpi:p i with
   |true=>
    rw[hpi] at HCi
    have HFi:=Hd (HF.out i hlt HN.out hpi)
    clear hpi HC HF HG HN
    go_wp2_with(refine HCi.out.mono ?_;rintro e W1 ⟨rfl,hb1⟩;have HB1:=Hd (HB0.out.trans hb1);clear hb1 c0 c1 c2)
    go_ret
    exact⟨by rw[HFi.out];rfl,HB1.out⟩
   |false=>
    rw[hpi] at HCi
    have HN2:=Hd (show ∀j,j<i+1→p j=false from fun j hj=>by
     by_cases e:j=i
     ·rw[e,hpi]
     ·exact HN.out j (by omega))
    clear hpi HC HF HG HN
    go_wp2_with(refine HCi.out.mono ?_;rintro e W1 ⟨rfl,hb1⟩;have HB1:=Hd (HB0.out.trans hb1);clear hb1 c0 c1 c2)
    go_roundw
    case rel=>exact⟨i+1,by omega,by go_num,HN2,HB1⟩
    case measure=>simp[intOf];omega
  ·obtain rfl:i=n:=by omega
   have HGi:=Hd (HG.out HN.out)
   clear HC HF HG HN
   go_wp2
   go_ret
   exact⟨by rw[HGi.out];rfl,HB0.out⟩
theorem zG6(f:Nat)(ptr:Value)(a:Option Addr)(n c:Nat)(t:Nat→RW)(B:Nat)(p:Nat→Bool)(w:World)(hBw:B≤w.heap.size)(hn:n≤200)(hT:S5 B w a n t)
  (eg:∀args W,(callFunc f args).run Tryz.prog W= .ok (.enter f args) W)
  (hC:∀W,Grw w W→∀i,i<n→Calls Tryz.prog f #[(t i).agg,ptr] W fun e w'=>e= .returned (.bool (p i))∧Grw W w'):
  Calls Tryz.prog 131 #[.slice a n c,.func (.func f) #[] #[ptr]] w fun e w'=>e= .returned (.bool (U6 n p))∧Grw w w':=by
 have HI:=Hd (xG3 f ptr a n c t B p w hBw hn hT eg hC)
 unfold U6
 by_cases h:G9 n p<n
 ·rw[if_pos h] at HI
  have HD:=Hd (Z0 h)
  rw[HD.out]
  generalize G9 n p=k at*
  have h1:(0:Int)≤(k:Int):=by omega
  clear hC hT h HD
  go_enter Tryz.func131,Tryz.ntmps131
  go_wp2_with(go_at_call 166;refine HI.out.mono ?_;rintro e W1 ⟨rfl,hb1⟩)
  go_ret
  exact⟨rfl,hb1⟩
 ·rw[if_neg h] at HI
  have HD:=Hd (Q7 h)
  rw[HD.out]
  generalize G9 n p=k at*
  clear hC hT h HD
  go_enter Tryz.func131,Tryz.ntmps131
  go_wp2_with(go_at_call 166;refine HI.out.mono ?_;rintro e W1 ⟨rfl,hb1⟩)
  go_ret
  exact⟨rfl,hb1⟩
def jV9(s:ST)(g:RW):Bool:=decide (atN s g.key=g.lo*s.dn)
def qF1(s:ST)(t:Nat→RW)(n:Nat):Bool:=U6 n (fun i=>jV9 s (t i))
theorem kL8(args:Array Value)(W:World):(callFunc 211 args).run Tryz.prog W= .ok (.enter 211 args) W:=enters_of Tryz.func211 (by kernel_rfl) rfl args W
theorem jT3(s:ST)(x:Nat)(r:RW)(w:World)(hx:w.heap[x]?=some (.cells #[.int .i64 s.sl,.int .i64 s.st,.int .i64 s.dn] 181))(hs:s.ok)(hz:0≤r.key∧r.key≤100000)(hg: -1000000≤r.lo∧r.lo≤r.hi∧r.hi≤1000000):
  Calls Tryz.prog 211 #[r.agg,.pointer (some ⟨x,0,none⟩)] w fun e w'=>e= .returned (.bool (jV9 s r))∧Grw w w':=by
 have HB:=Hd ((Grw.refl w).alloc (.cells #[.int .i64 r.key,.int .i64 r.lo,.int .i64 r.hi] 63))
 have HX:=Hd (Q3 w (.cells #[.int .i64 r.key,.int .i64 r.lo,.int .i64 r.hi] 63))
 have HS:=Hd (J0 hx HB.out.below)
 have hb1:=qS6 (K:=2000000) (M:=100000) (by decide) hs.sl (y:=r.key) (by omega)
 have hb2:=qS6 (K:=1000000) (M:=100000) (by decide) (x:=r.lo) (by omega) (y:=s.dn) (by have:=hs.dn;omega)
 have hst:=hs.st
 have HV:=Hd (show jV9 s r=decide (s.st+s.sl*r.key=r.lo*s.dn) from rfl)
 generalize jV9 s r=v at*
 unfold RW.agg
 generalize hm1:s.sl*r.key=m1 at*
 generalize hm2:r.lo*s.dn=m2 at*
 have hw1:IntKind.i64.wrap m1=m1:=Z1 _ (by omega)
 have hw2:IntKind.i64.wrap m2=m2:=Z1 _ (by omega)
 have hw3:IntKind.i64.wrap (s.st+m1)=s.st+m1:=Z1 _ (by omega)
 clear hx hs hz hg
 go_enter Tryz.func211,Tryz.ntmps211
 go_upto_region 1 with(fail)
 generalize World.alloc w _=V at*
 obtain⟨k0,k1⟩:=M7 HX.out
 obtain⟨s0,s1,s2⟩:=U4 HS.out
 simp only[P2] at k0 k1 s0 s1 s2
 go_wp2
 go_ret
 exact⟨by rw[HV.out];rfl,HB.out⟩
theorem xI8(s:ST)(a:Option Addr)(n c:Nat)(cv:Value)(t:Nat→RW)(B:Nat)(w:World)(hBw:B≤w.heap.size)(hT:S5 B w a n t)(hO:qQ2 n t)(hs:s.ok):
  Calls Tryz.prog 207 #[.agg #[.slice a n c,cv],s.val] w fun e w'=>e= .returned (.bool (qF1 s t n))∧Grw w w':=by
 have HB:=Hd (((Grw.refl w).alloc (.cells #[.slice a n c,cv] 121)).alloc (.cells #[.int .i64 s.sl,.int .i64 s.st,.int .i64 s.dn] 181))
 have hnew:=Q3 (w.alloc (.cells #[.slice a n c,cv] 121)) (.cells #[.int .i64 s.sl,.int .i64 s.st,.int .i64 s.dn] 181)
 rw[show(w.alloc (.cells #[.slice a n c,cv] 121)).heap.size=w.heap.size+1 from by simp] at hnew
 have HX:=Hd hnew
 have HS:=Hd (show((w.alloc (.cells #[.slice a n c,cv] 121)).alloc (.cells #[.int .i64 s.sl,.int .i64 s.st,.int .i64 s.dn] 181)).heap[w.heap.size]?=some (.cells #[.slice a n c,cv] 121) from(Q9 _ _ _ (by simp)).trans (Q3 w _))
 clear hnew
 have HC:=Hd (zG6 211 (.pointer (some ⟨w.heap.size+1,0,none⟩)) a n c t B (fun i=>jV9 s (t i)) ((w.alloc (.cells #[.slice a n c,cv] 121)).alloc (.cells #[.int .i64 s.sl,.int .i64 s.st,.int .i64 s.dn] 181)) (Q5 hBw HB.out.below.size) (by have:=hO.len;omega) (hT.below (HB.out.below.mono hBw)) kL8 (fun W hb i hi=>jT3 s (w.heap.size+1) (t i) W (J0 HX.out hb.below) hs (hO.z i hi) (hO.span i hi)))
 unfold qF1 ST.val
 generalize U6 n (fun i=>jV9 s (t i))=r at*
 clear hT hO hs
 go_enter Tryz.func207,Tryz.ntmps207
 go_upto_region 1 with(fail)
 generalize World.alloc (World.alloc w _) _=V at*
 have k0:=Q0 _ _ 0 _ _ _ HS.out
 go_wp2_with(go_at_call 131;refine HC.out.mono ?_;rintro e W1 ⟨rfl,hb1⟩;have HB1:=Hd (HB.out.trans hb1);clear hb1 k0)
 go_ret
 exact⟨rfl,HB1.out⟩
structure EV where
 a:Option Addr
 n:Nat
 c:Nat
 ps:Nat→PR
 ha:Option Addr
 m:Nat
 hc:Nat
 hs:Nat→HV
 P:Nat→Nat
 ga:Option Addr
 gc:Nat
 G:Nat→RW
 need:Int
 miss:Int
 view:Int
def EV.row(e:EV):List Value:=[.slice e.a e.n e.c,.slice e.ha e.m e.hc,.slice e.ga e.m e.gc,.int .i64 e.need,.int .i64 e.miss]
def zV4(N:Nat)(w:World)(a:Option Addr)(m:Nat)(G:Nat→RW):Prop:=
 m=0∨∃b off,a=some ⟨b,off,none⟩∧b<N∧∀i,i<m→∃xb xo xc,w.cell? ⟨b,off+i,none⟩=some (.slice (some ⟨xb,xo,none⟩) 1 xc)∧xb<N∧w.cell? ⟨xb,xo,none⟩=some (.int .i64 (G i).key)∧w.cell? ⟨xb,xo+1,none⟩=some (.int .i64 (G i).lo)∧w.cell? ⟨xb,xo+2,none⟩=some (.int .i64 (G i).hi)
theorem zV4.below{N:Nat}{w w':World}{a:Option Addr}{m:Nat}{G:Nat→RW}(h:zV4 N w a m G)(hb:Below N w w'):zV4 N w' a m G:=by
 rcases h with h|⟨b,off,ha,hB,hc⟩
 ·exact .inl h
 ·have c:=(J9 hb).1
  refine .inr ⟨b,off,ha,hB,fun i hi=> ?_⟩
  obtain⟨xb,xo,xc,h1,h4,h5,h6,h7⟩:=hc i hi
  exact⟨xb,xo,xc,(c _ _ hB).trans h1,h4,(c _ _ h4).trans h5,(c _ _ h4).trans h6,(c _ _ h4).trans h7⟩
structure EV.At(e:EV)(N eb:Nat)(w:World):Prop where
 lt:eb<N
 box:w.heap[eb]?=some (.cells e.row.toArray 226)
 planes:Y2 N w e.a e.n e.ps
 hits:qK7 N w e.ha e.m e.hs
 gates:zV4 N w e.ga e.m e.G
theorem EV.At.below{e:EV}{N eb:Nat}{w w':World}(h:e.At N eb w)(hb:Below N w w'):e.At N eb w':=⟨h.lt,(hb.block _ h.lt).trans h.box,h.planes.below hb,h.hits.below hb,h.gates.below hb⟩
structure EV.Ok(e:EV):Prop where
 ck:K7 e.n e.ps=true
 m8:1≤e.m∧e.m≤8
 pl:∀k,k<e.m→(e.hs k).plane=(e.P k:Int)∧e.P k<e.n
 inc:∀j k,j<k→k<e.m→e.P j<e.P k
 vw:∀k,k<e.m→(e.ps (e.P k)).view=e.view
 key:∀k,k<e.m→(e.G k).key=(e.ps (e.P k)).z
 cap:e.m≤e.hc∧e.hc≤maxLen
theorem EV.At.cells{e:EV}{N eb:Nat}{w:World}(h:e.At N eb w):w.cell? ⟨eb,0,none⟩=some (.slice e.a e.n e.c)∧w.cell? ⟨eb,1,none⟩=some (.slice e.ha e.m e.hc)∧w.cell? ⟨eb,2,none⟩=some (.slice e.ga e.m e.gc)∧w.cell? ⟨eb,3,none⟩=some (.int .i64 e.need)∧w.cell? ⟨eb,4,none⟩=some (.int .i64 e.miss):=
 ⟨Q0 _ _ 0 _ _ _ h.box,Q0 _ _ 1 _ _ _ h.box,Q0 _ _ 2 _ _ _ h.box,Q0 _ _ 3 _ _ _ h.box,Q0 _ _ 4 _ _ _ h.box⟩
theorem xO2(e:EV)(N eb:Nat)(i:Nat)(w:World)(hN:N≤w.heap.size)(hE:e.At N eb w)(hO:e.Ok)(hi:i<e.m):
  Calls Tryz.prog 121 #[.pointer (some ⟨eb,0,none⟩),.int .i64 (i:Int)] w fun x w'=>x= .returned (.int .i64 e.view)∧Below w.heap.size w w':=by
 obtain⟨e0,e1,e2,e3,e4⟩:=hE.cells
 obtain⟨hb,ho,hha,hhB,h0,_⟩:=hE.hits.get hi
 obtain⟨hpl,hpn⟩:=hO.pl i hi
 obtain⟨pb,po,hpa,hpB,⟨p0,p1,_⟩,_⟩:=hE.planes.get hpn
 have hv:=hO.vw i hi
 have hel:eb<w.heap.size:=Z4 hE.lt hN
 have hbl:hb<w.heap.size:=Z4 hhB hN
 have hpl2:pb<w.heap.size:=Z4 hpB hN
 rw[hpl] at h0
 rw[hv] at p1
 have hi0:(0:Int)≤(i:Int):=by omega
 have him:(i:Int)<(e.m:Int):=by omega
 have hpn2:(e.P i:Int)<(e.n:Int):=by omega
 rw[hha] at e1
 rw[hpa] at e0
 clear hE hO hpl hv hha hpa p0 e2 e3 e4
 generalize e.P i=k at*
 generalize e.m=m at*
 generalize e.n=n at*
 generalize e.view=vw at*
 generalize e.hc=hc at*
 generalize e.c=c at*
 go_enter Tryz.func121,Tryz.ntmps121
 go_upto_region 1 with(fail)
 (refine J4 (w.heap.size) (by kernel_rfl) (by kernel_rfl) ?_;(repeat(first|go_big_quiet_step(fail)|quiet_step(fail)));refine X4 (wqn ?_);intro xq)
 have HB:=Hd xq.below
 generalize K9.val xq=V at*
 go_wp2
 go_ret
 exact⟨rfl,HB.out⟩
end
end Go.Proofs.YtmncaipgefbalaaGreatDoor
