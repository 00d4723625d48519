/- Part of the proof of the claim. -/
import Derived.Test.YtmncaipgefbalaaGreatDoorQar
set_option maxRecDepth 100000
set_option maxHeartbeats 8000000
set_option linter.unusedVariables false
set_option linter.unusedSimpArgs false
namespace Go.Proofs.YtmncaipgefbalaaGreatDoor
section
open Go Go.RowKit Go.Shelf
theorem xM0(a:Option Addr)(n c:Nat)(t:Nat→RW)(B:Nat)(w:World)(hBw:B≤w.heap.size)(hT:S5 B w a n t)(hn:1≤n∧n≤200)(h1n:n=1):
  Calls Tryz.prog 89 #[.agg #[.slice a n c]] w fun e w'=>e= .returned (.agg #[.int .i64 (t 0).lo,.int .i64 (t 0).hi])∧Below w.heap.size w w':=by
 obtain⟨h1,h2,h3⟩:Below w.heap.size w ((w.alloc (.cells #[.slice a n c] 118)).alloc (.cells #[.int .i64 0,.int .i64 0] 47))∧((w.alloc (.cells #[.slice a n c] 118)).alloc (.cells #[.int .i64 0,.int .i64 0] 47)).heap[w.heap.size]?=some (.cells #[.slice a n c] 118)∧((w.alloc (.cells #[.slice a n c] 118)).alloc (.cells #[.int .i64 0,.int .i64 0] 47)).heap[w.heap.size+1]?=some (.cells #[.int .i64 0,.int .i64 0] 47):=by
  refine⟨((Q2 _ w).alloc (Q1 _) _).alloc (by simp) _,(Q9 _ _ _ (by simp)).trans (Q3 w _),?_⟩
  have:=Q3 (w.alloc (.cells #[.slice a n c] 118)) (.cells #[.int .i64 0,.int .i64 0] 47)
  rwa [show(w.alloc (.cells #[.slice a n c] 118)).heap.size=w.heap.size+1 from by simp] at this
 have HB:=Hd h1
 have HL:=Hd h2
 have HR:=Hd h3
 have HT:=Hd (hT.below (h1.mono hBw))
 clear h1 h2 h3 hT
 have hn0:(0:Int)<(n:Int):=by omega
 have HN1:=Hd h1n
 clear h1n
 go_enter Tryz.func89,Tryz.ntmps89
 go_upto_region 1 with(fail)
 generalize World.alloc (World.alloc w _) _=V at*
 obtain⟨b,off,rfl,hbB,c0,c1,c2⟩:=HT.out.get (show 0<n from hn.1)
 rw[Nat.zero_mul,Nat.add_zero] at c0 c1 c2
 have k0:=Q0 _ _ 0 _ _ _ HL.out
 have lt1:w.heap.size<V.heap.size:=(J5 HL.out)
 have lt2:b<V.heap.size:=zG2 c0
 go_region
 have hbd:Below V.heap.size V (V.alloc (Obj.cells #[Value.int IntKind.i64 (t 0).lo,Value.int IntKind.i64 (t 0).hi] 47)).drew:=(J3 V _).drew
 have HO:=Hd (show ∃lo hi:Int,Hid (lo=(t 0).lo∧hi=(t 0).hi)∧(V.alloc (Obj.cells #[Value.int IntKind.i64 (t 0).lo,Value.int IntKind.i64 (t 0).hi] 47)).drew.heap[V.heap.size]?=some (.cells #[.int .i64 lo,.int .i64 hi] 47) from⟨_,_,⟨rfl,rfl⟩,Q3 V _⟩)
 have HB1:=Hd (HB.out.trans (hbd.mono HB.out.size))
 have HL1:=Hd (J0 HL.out hbd)
 have HR1:=Hd (J0 HR.out hbd)
 have HT1:=Hd (HT.out.below (hbd.mono (Q5 hBw HB.out.size)))
 have hg:=HB.out.size
 have hr1:=(J5 HR.out)
 have hbV:B≤V.heap.size:=Q5 hBw hg
 clear hbd k0 c0 c1 c2 lt1 lt2 HB HL HR HT
 generalize World.drew _=V1 at*
 generalize V.heap.size=x at*
 have HK:=Hd (show w.heap.size+1<x from hr1)
 clear hr1
 have k0:=Q0 _ _ 0 _ _ _ HL1.out
 go_wp2
 clear k0
 go_loopw [20] (fun s20 wr=>∃i:Nat,i≤n∧s20= .int .i64 (i:Int)∧Hid (∃lo hi:Int,Hid (lo=(t 0).lo∧hi=(t 0).hi)∧wr.heap[x]?=some (.cells #[.int .i64 lo,.int .i64 hi] 47))∧Hid (wr.heap[w.heap.size+1]?=some (.cells #[.int .i64 0,.int .i64 0] 47))∧Hid (S5 B wr (some ⟨b,off,none⟩) n t)∧Hid (Below w.heap.size w wr)) (fun s20 _=>n-(intOf s20).toNat)
 case atStart=>exact⟨0,by omega,rfl,HO,HR1,HT1,HB1⟩
 case round=>
  clear HO HR1 HT1 HB1 HL1
  obtain⟨i,hi,rfl,HO,HR1,HT1,HB1⟩:=hrel
  by_cases hl:i<n
  ·have hl':(i:Int)<(n:Int):=by omega
   have HI0:=Hd (show i=0 from by have:=HN1.out;omega)
   obtain⟨lo,hi',HLH,ho⟩:=HO.out
   obtain⟨b',off',hbo,_,c0,c1,c2⟩:=HT1.out.get hl
   obtain⟨rfl,rfl⟩:b=b'∧off=off':=by
    have h:=Option.some.inj hbo
    injection h with h1 h2
    exact⟨h1,h2⟩
   have HM:=Hd (show Hid (max lo (t i).lo=(t 0).lo∧min hi' (t i).hi=(t 0).hi) from by obtain⟨h1,h2⟩:=HLH.out;rw[HI0.out,h1,h2];exact⟨by omega,by omega⟩)
   go_upto_region 5 with(fail)
   have hb:=J3 wr (Obj.cells #[Value.int IntKind.i64 (t i).key,Value.int IntKind.i64 (t i).lo,Value.int IntKind.i64 (t i).hi] 63)
   have HG:=Hd (Q3 wr (Obj.cells #[Value.int IntKind.i64 (t i).key,Value.int IntKind.i64 (t i).lo,Value.int IntKind.i64 (t i).hi] 63))
   have HO2:=Hd (J0 ho hb)
   have HR2:=Hd (J0 HR1.out hb)
   have HT2:=Hd (HT1.out.below (hb.mono (by have:=HB1.out.size;omega)))
   have HB2:=Hd (HB1.out.trans (hb.mono HB1.out.size))
   clear hb c0 c1 c2 ho HO HR1 HT1 HB1 HLH
   generalize World.alloc wr _=V2 at*
   generalize wr.heap.size=g at*
   obtain⟨x0,x1⟩:=M7 HO2.out
   have y1:=Q0 _ _ 1 _ _ _ HG.out
   have y2:=Q0 _ _ 2 _ _ _ HG.out
   have lx:=(J5 HO2.out)
   have ly:=(J5 HG.out)
   obtain⟨f0,f1⟩:=fr2 HO2.out
   have gx:x≠g:=by rintro rfl;have h:=HO2.out;rw[HG.out] at h;cases h
   go_region
   have hrow':=Q4 _ _ 1 _ _ (Value.int .i64 (min hi' (t i).hi)) (Q4 V2 _ 0 _ _ (Value.int .i64 (max lo (t i).lo)) HO2.out)
   have hrow:((V2.setCell ⟨x,0,none⟩ (Value.int .i64 (max lo (t i).lo))).setCell ⟨x,1,none⟩ (Value.int .i64 (min hi' (t i).hi))).drew.heap[x]?=some (.cells #[.int .i64 (max lo (t i).lo),.int .i64 (min hi' (t i).hi)] 47):=by rw[heap_drew];simpa using hrow'
   have hbl:=(Q2 x V2).setCell (p:=⟨x,0,none⟩) (by dsimp only;omega) (Value.int .i64 (max lo (t i).lo))|>.setCell (p:=⟨x,1,none⟩) (by dsimp only;omega) (Value.int .i64 (min hi' (t i).hi))|>.drew
   have HO3:=Hd (show ∃l0 h0:Int,Hid (l0=(t 0).lo∧h0=(t 0).hi)∧((V2.setCell ⟨x,0,none⟩ (Value.int .i64 (max lo (t i).lo))).setCell ⟨x,1,none⟩ (Value.int .i64 (min hi' (t i).hi))).drew.heap[x]?=some (.cells #[.int .i64 l0,.int .i64 h0] 47) from⟨max lo (t i).lo,min hi' (t i).hi,HM.out,hrow⟩)
   have HR3:=Hd ((hbl.block _ HK.out).trans HR2.out)
   have HT3:=Hd (HT2.out.below (hbl.mono hbV))
   have HB3:=Hd (HB2.out.trans (hbl.mono hg))
   clear hrow hrow' hbl x0 x1 y1 y2 lx ly f0 f1 gx HO2 HR2 HT2 HB2 HG
   generalize World.drew _=V3 at*
   go_wp2
   go_roundw
   case rel=>first|exact⟨i+1,by omega,by go_num,HO3,HR3,HT3,HB3⟩|((repeat apply Z9);exact⟨⟨i+1,by omega,by go_num,HO3,HR3,HT3,HB3⟩,rfl⟩)
   case measure=>simp[intOf];omega
  ·obtain rfl:i=n:=by omega
   have hl':¬(i:Int)<(i:Int):=by omega
   obtain⟨lo,hi',HLH,ho⟩:=HO.out
   obtain⟨x0,x1⟩:=M7 ho
   obtain⟨r0,r1⟩:=M7 HR1.out
   obtain⟨f0,f1⟩:=fr2 HR1.out
   go_wp2
   have hrow:=Q4 _ _ 1 _ _ (Value.int .i64 hi') (Q4 wr _ 0 _ _ (Value.int .i64 lo) HR1.out)
   have hbl:=(HB1.out.setCell (p:=⟨w.heap.size+1,0,none⟩) (by dsimp only;omega) (Value.int .i64 lo)).setCell (p:=⟨w.heap.size+1,1,none⟩) (by dsimp only;omega) (Value.int .i64 hi')
   generalize World.setCell (World.setCell wr _ _) _ _=V5 at*
   obtain⟨q0,q1⟩:=M7 hrow
   exact Z2 (v:= .agg #[.int .i64 lo,.int .i64 hi']) (by simp[results,Tryz.results89,go_sem,q0,q1]) rfl ⟨by rw[HLH.out.1,HLH.out.2],hbl⟩
theorem zB2{t:Nat→RW}{n:Nat}(h:n=1):R6 t n=true:=by
 subst h
 unfold R6 U6
 have:G9 1 (fun i=>decide ((t i).key≠(t 0).key))=1:=T6 (fun j hj=>by
  have:j=0:=by omega
  subst this
  simp)
 rw[this]
 rfl
theorem jI7(a:Option Addr)(n c:Nat)(t:Nat→RW)(B:Nat)(w:World)(hBw:B≤w.heap.size)(hT:S5 B w a n t)(hn:1≤n∧n≤200)(h1:n=1)(hs:(t 0).lo≤(t 0).hi):
  Calls Tryz.prog 87 #[.agg #[.slice a n c,.slice none 0 0]] w fun e w'=>e= .returned (.bool true)∧Below w.heap.size w w':=by
 have HB:=Hd (J3 w (.cells #[.slice a n c,.slice none 0 0] 121))
 have HX:=Hd (Q3 w (.cells #[.slice a n c,.slice none 0 0] 121))
 have HC:=Hd (fun W (hb:Below w.heap.size w W)=>xM0 a n c t B W (Q5 hBw hb.size) (hT.below (hb.mono hBw)) hn h1)
 have HF:=Hd (fun W (hb:Below w.heap.size w W)=>qJ2 a n c t B W (Q5 hBw hb.size) (hT.below (hb.mono hBw)) hn)
 rw[zB2 h1] at HF
 have hlt:=(J5 HX.out)
 generalize(t 0).lo=lo at*
 generalize(t 0).hi=hi at*
 clear hT h1
 go_enter Tryz.func87,Tryz.ntmps87
 go_upto_region 1 with(fail)
 generalize World.alloc w _=V at*
 have k0:=Q0 _ _ 0 _ _ _ HX.out
 go_upto_region 2 with(go_at_call 89;refine(HC.out _ HB.out).mono ?_;rintro e W1 ⟨rfl,hb1⟩;have HB1:=Hd (HB.out.trans (hb1.mono HB.out.size));have HX1:=Hd (J0 HX.out hb1);clear k0 hb1 HB HX)
 have hb2:=J3 W1 (Obj.cells #[Value.int IntKind.i64 lo,Value.int IntKind.i64 hi] 47)
 have HS2:=Hd (Q3 W1 (Obj.cells #[Value.int IntKind.i64 lo,Value.int IntKind.i64 hi] 47))
 have HB2:=Hd (HB1.out.trans (hb2.mono HB1.out.size))
 have HX2:=Hd (J0 HX1.out hb2)
 clear hb2 HX1
 generalize World.alloc W1 _=W2 at*
 have k0:=Q0 _ _ 0 _ _ _ HX2.out
 go_upto_region 4 with(go_at_call 88;refine(HF.out _ HB2.out).mono ?_;rintro e W3 ⟨rfl,hb3⟩;have HB3:=Hd (HB2.out.trans (hb3.mono HB2.out.size));have HS3:=Hd (J0 HS2.out hb3);clear k0 hb3 HX2 HS2;obtain⟨k0,k1⟩:=M7 HS3.out)
 go_ret
 exact⟨rfl,HB3.out⟩
theorem jV4(a:Option Addr)(n c:Nat)(t:Nat→RW)(B:Nat)(w:World)(hBw:B≤w.heap.size)(hT:S5 B w a n t)(hn:1≤n∧n≤200)(h1:n=1):
  Calls Tryz.prog 86 #[.slice a n c] w fun e w'=>e= .returned (.agg #[.slice a n c,.slice none 0 0])∧Below w.heap.size w w':=by
 have HF:=Hd (fun W (hb:Below w.heap.size w W)=>qJ2 a n c t B W (Q5 hBw hb.size) (hT.below (hb.mono hBw)) hn)
 rw[zB2 h1] at HF
 have hV:Below w.heap.size w ((w.alloc (.cells #[.slice none 0 0,.slice none 0 0] 121)).alloc (.cells #[.slice a n c,.slice none 0 0] 121)):=((Q2 _ w).alloc (Q1 _) _).alloc (by simp) _
 have e1:((w.alloc (.cells #[.slice none 0 0,.slice none 0 0] 121)).alloc (.cells #[.slice a n c,.slice none 0 0] 121)).heap[w.heap.size]?=some (.cells #[.slice none 0 0,.slice none 0 0] 121):=(Q9 _ _ _ (by simp)).trans (Q3 w _)
 have e2:=Q3 (w.alloc (.cells #[.slice none 0 0,.slice none 0 0] 121)) (.cells #[.slice a n c,.slice none 0 0] 121)
 rw[show(w.alloc (.cells #[.slice none 0 0,.slice none 0 0] 121)).heap.size=w.heap.size+1 from by simp] at e2
 have HV:=Hd hV
 have HE1:=Hd e1
 have HE2:=Hd e2
 clear hV e1 e2 hT h1
 go_enter Tryz.func86,Tryz.ntmps86
 go_upto_region 2 with(fail)
 generalize World.alloc (World.alloc w _) _=V at*
 have k0:=Q0 _ _ 0 _ _ _ HE2.out
 have r0:=Q0 _ _ 0 _ _ _ HE1.out
 go_wp2_with(go_at_call 88;refine(HF.out _ HV.out).mono ?_;rintro e W1 ⟨rfl,hb1⟩;have HW1:=Hd (HV.out.trans (hb1.mono HV.out.size));have HR1:=Hd (J0 HE1.out hb1);have HO1:=Hd (J0 HE2.out hb1);clear hb1 HE1 HE2 k0 r0 HV;obtain⟨k0,k1⟩:=M7 HO1.out;obtain⟨r0,r1⟩:=M7 HR1.out;obtain⟨f0,f1⟩:=fr2 HR1.out)
 have hrow:=Q4 _ _ 1 _ _ (.slice none 0 0) (Q4 W1 _ 0 _ _ (.slice a n c) HR1.out)
 have hbl:=(HW1.out.setCell (p:=⟨w.heap.size,0,none⟩) (Q1 _) (.slice a n c)).setCell (p:=⟨w.heap.size,1,none⟩) (Q1 _) (.slice none 0 0)
 generalize World.setCell (World.setCell W1 _ _) _ _=V6 at*
 obtain⟨q0,q1⟩:=M7 hrow
 exact Z2 (v:= .agg #[.slice a n c,.slice none 0 0]) (by simp[results,Tryz.results86,go_sem,q0,q1]) rfl ⟨rfl,hbl⟩
theorem xC4(f:Nat)(caps:Array Value)(a:Option Addr)(n c:Nat)(t:Nat→RW)(B:Nat)(w:World)(hBw:B≤w.heap.size)(hT:S5 B w a n t)(hO:qQ2 n t)(h1:n=1)
  (eg:∀args W,(callFunc f args).run Tryz.prog W= .ok (.enter f args) W)
  (hC:∀W,Below w.heap.size w W→Calls Tryz.prog f (#[.agg #[.slice a n c]]++caps) W fun e w'=>e= .returned (.bool false)∧Below W.heap.size W w'):
  Calls Tryz.prog 47 #[.slice a n c,.func (.func f) #[] caps] w fun e w'=>e= .returned (.tuple #[.agg #[.slice none 0 0,.slice none 0 0],.int .i64 6])∧Below w.heap.size w w':=by
 have HB:=Hd (J3 w (.cells #[.slice none 0 0,.slice none 0 0] 121))
 have HR:=Hd (Q3 w (.cells #[.slice none 0 0,.slice none 0 0] 121))
 have hn:=hO.len
 have HCK:=Hd (fun W (hb:Below w.heap.size w W)=>qR0 a n c t B W (Q5 hBw hb.size) (hT.below (hb.mono hBw)) hO)
 have HLN:=Hd (fun W (hb:Below w.heap.size w W)=>jV4 a n c t B W (Q5 hBw hb.size) (hT.below (hb.mono hBw)) (by omega) h1)
 have HSM:=Hd (fun W (hb:Below w.heap.size w W)=>jI7 a n c t B W (Q5 hBw hb.size) (hT.below (hb.mono hBw)) (by omega) h1 (hO.span 0 (by omega)).2.1)
 have HFL:=Hd (fun W (hb:Below w.heap.size w W)=>qJ2 a n c t B W (Q5 hBw hb.size) (hT.below (hb.mono hBw)) (by omega))
 rw[zB2 h1] at HFL
 have HFV:=Hd hC
 clear hT hO hC h1
 go_enter Tryz.func47,Tryz.ntmps47
 go_upto_region 1 with(fail)
 generalize World.alloc w _=V at*
 go_upto_region 3 with(go_at_call 85;refine(HCK.out _ HB.out).mono ?_;rintro e W1 ⟨rfl,hb1⟩;have HB1:=Hd (HB.out.trans (hb1.mono HB.out.size));have HR1:=Hd (J0 HR.out hb1);clear hb1 HB HR)
 go_upto_region 4 with(go_at_call 86;refine(HLN.out _ HB1.out).mono ?_;rintro e W2 ⟨rfl,hb2⟩;have HB2:=Hd (HB1.out.trans (hb2.mono HB1.out.size));have HR2:=Hd (J0 HR1.out hb2);clear hb2 HB1 HR1)
 have hb3:=J3 W2 (.cells #[.slice a n c,.slice none 0 0] 121)
 have HX3:=Hd (Q3 W2 (.cells #[.slice a n c,.slice none 0 0] 121))
 have HB3:=Hd (HB2.out.trans (hb3.mono HB2.out.size))
 have HR3:=Hd (J0 HR2.out hb3)
 clear hb3 HB2 HR2
 generalize World.alloc W2 _=W3 at*
 generalize W2.heap.size=x at*
 obtain⟨k0,k1⟩:=M7 HX3.out
 go_upto_region 6 with(go_at_call 87;refine(HSM.out _ HB3.out).mono ?_;rintro e W4 ⟨rfl,hb4⟩;have HX4:=Hd (J0 HX3.out hb4);have HB4:=Hd (HB3.out.trans (hb4.mono HB3.out.size));have HR4:=Hd (J0 HR3.out hb4);clear hb4 k0 k1 HX3 HB3 HR3)
 have k0:=Q0 _ _ 0 _ _ _ HX4.out
 go_wp2_with(first|(go_at_call 88;refine(HFL.out _ HB4.out).mono ?_;rintro e W5 ⟨rfl,hb5⟩;have HX5:=Hd (J0 HX4.out hb5);have HB5:=Hd (HB4.out.trans (hb5.mono HB4.out.size));have HR5:=Hd (J0 HR4.out hb5);clear hb5 k0 HX4 HB4 HR4;have k0:=Q0 _ _ 0 _ _ _ HX5.out)|(refine(HFV.out _ HB5.out).mono ?_;rintro e W6 ⟨rfl,hb6⟩;have HB6:=Hd (HB5.out.trans (hb6.mono HB5.out.size));have HR6:=Hd (J0 HR5.out hb6);clear hb6 k0 HX5 HR5 HB5;obtain⟨r0,r1⟩:=M7 HR6.out;obtain⟨f0,f1⟩:=fr2 HR6.out))
 have hrow:=Q4 _ _ 1 _ _ (.slice none 0 0) (Q4 W6 _ 0 _ _ (.slice none 0 0) HR6.out)
 have hbl:=(HB6.out.setCell (p:=⟨w.heap.size,0,none⟩) (Q1 _) (.slice none 0 0)).setCell (p:=⟨w.heap.size,1,none⟩) (Q1 _) (.slice none 0 0)
 generalize World.setCell (World.setCell W6 _ _) _ _=V6 at*
 obtain⟨q0,q1⟩:=M7 hrow
 exact Z2 (v:= .tuple #[.agg #[.slice none 0 0,.slice none 0 0],.int .i64 6]) (by simp[results,Tryz.results47,go_sem,q0,q1]) rfl ⟨rfl,hbl⟩
end
end Go.Proofs.YtmncaipgefbalaaGreatDoor
