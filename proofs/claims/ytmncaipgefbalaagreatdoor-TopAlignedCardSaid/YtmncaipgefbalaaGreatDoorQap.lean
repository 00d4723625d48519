/- Part of the proof of the claim. -/
import Derived.Test.YtmncaipgefbalaaGreatDoorQao
set_option maxRecDepth 100000
set_option maxHeartbeats 8000000
set_option linter.unusedVariables false
set_option linter.unusedSimpArgs false
namespace Go.Proofs.YtmncaipgefbalaaGreatDoor
section
open Go Go.RowKit Go.Shelf
theorem xP0(f:Nat)(ptr:Value)(a:Option Addr)(n c:Nat)(t:Nat→RW)(B:Nat)(p:Nat→Bool)(w:World)(hBw:B≤w.heap.size)(hn:n≤200)(hT:S5 B w a n t)
  (eg:∀args W,(callFunc f args).run Tryz.prog W= .ok (.enter f args) W)
  (hC:∀W,Below w.heap.size w W→∀i,i<n→Calls Tryz.prog f #[(t i).agg,ptr] W fun e w'=>e= .returned (.bool (p i))∧Below W.heap.size W w'):
  Calls Tryz.prog 166 #[.slice a n c,.func (.func f) #[] #[ptr]] w fun e w'=>e= .returned (.int .i64 (if G9 n p<n then(G9 n p:Int) else-1))∧Below w.heap.size w w':=by
 have HC:=Hd hC
 have HF:=Hd (fun i (hi:i<n) (hn:∀j,j<i→p j=false) (h:p i=true)=>show(if G9 n p<n then(G9 n p:Int) else-1)=(i:Int) from by rw[qW0 hi hn h,if_pos hi])
 have HG:=Hd (fun(hn:∀j,j<n→p j=false)=>show(if G9 n p<n then(G9 n p:Int) else-1)= -1 from by rw[T6 hn,if_neg (Nat.lt_irrefl _)])
 have HT:=Hd hT
 have HB0:=Hd (Q2 w.heap.size w)
 generalize(if G9 n p<n then(G9 n p:Int) else-1)=F at*
 clear hT hC
 go_enter Tryz.func166,Tryz.ntmps166
 go_wp2
 go_loopw [8] (fun x wr=>∃i:Nat,i≤n∧x= .int .i64 (i:Int)∧Hid (∀j,j<i→p j=false)∧Hid (Below w.heap.size w wr)) (fun x _=>n-(intOf x).toNat)
 case atStart=>exact⟨0,Nat.zero_le _,rfl,Hd (fun j hj=>by omega),HB0⟩
 case round=>
  clear HB0
  obtain⟨i,hi,rfl,HN,HB0⟩:=hrel
  by_cases hlt:i<n
  ·have hlt':(i:Int)<(n:Int):=by omega
   obtain⟨b1,off,rfl,hbB,c0,c1,c2⟩:=(HT.out.below (HB0.out.mono hBw)).get hlt
   have HCi:=Hd (HC.out wr HB0.out i hlt)
   obtain⟨r,hr⟩:∃r,t i=r:=⟨_,rfl⟩
   rw[hr] at HCi c0 c1 c2
   obtain⟨k,lo,hi'⟩:=r
   unfold RW.agg at HCi
   dsimp only at HCi c0 c1 c2
   clear hr
   cases hpi:p i with
   |true=>
    rw[hpi] at HCi
    have HFi:=Hd (HF.out i hlt HN.out hpi)
    clear hpi HC HF HG HN
    go_wp2_with(refine HCi.out.mono ?_;rintro e W1 ⟨rfl,hb1⟩;have HB1:=Hd (HB0.out.trans (hb1.mono HB0.out.size));clear hb1 c0 c1 c2)
    go_ret
    exact⟨by rw[HFi.out];rfl,HB1.out⟩
   |false=>
    rw[hpi] at HCi
    have HN2:=Hd (show ∀j,j<i+1→p j=false from fun j hj=>by
     by_cases e:j=i
     ·rw[e,hpi]
     ·exact HN.out j (by omega))
    clear hpi HC HF HG HN
    go_wp2_with(refine HCi.out.mono ?_;rintro e W1 ⟨rfl,hb1⟩;have HB1:=Hd (HB0.out.trans (hb1.mono HB0.out.size));clear hb1 c0 c1 c2)
    go_roundw
    case rel=>exact⟨i+1,by omega,by go_num,HN2,HB1⟩
    case measure=>simp[intOf];omega
  ·obtain rfl:i=n:=by omega
   have HGi:=Hd (HG.out HN.out)
   clear HC HF HG HN
   go_wp2
   go_ret
   exact⟨by rw[HGi.out];rfl,HB0.out⟩
def U6(n:Nat)(p:Nat→Bool):Bool:=decide (G9 n p<n)
theorem qP6(f:Nat)(ptr:Value)(a:Option Addr)(n c:Nat)(t:Nat→RW)(B:Nat)(p:Nat→Bool)(w:World)(hBw:B≤w.heap.size)(hn:n≤200)(hT:S5 B w a n t)
  (eg:∀args W,(callFunc f args).run Tryz.prog W= .ok (.enter f args) W)
  (hC:∀W,Below w.heap.size w W→∀i,i<n→Calls Tryz.prog f #[(t i).agg,ptr] W fun e w'=>e= .returned (.bool (p i))∧Below W.heap.size W w'):
  Calls Tryz.prog 131 #[.slice a n c,.func (.func f) #[] #[ptr]] w fun e w'=>e= .returned (.bool (U6 n p))∧Below w.heap.size w w':=by
 have HI:=Hd (xP0 f ptr a n c t B p w hBw hn hT eg hC)
 unfold U6
 by_cases h:G9 n p<n
 ·rw[if_pos h] at HI
  have HD:=Hd (Z0 h)
  rw[HD.out]
  generalize G9 n p=k at*
  have h1:(0:Int)≤(k:Int):=by omega
  clear hC hT h HD
  go_enter Tryz.func131,Tryz.ntmps131
  go_wp2_with(go_at_call 166;refine HI.out.mono ?_;rintro e W1 ⟨rfl,hb1⟩)
  go_ret
  exact⟨rfl,hb1⟩
 ·rw[if_neg h] at HI
  have HD:=Hd (Q7 h)
  rw[HD.out]
  generalize G9 n p=k at*
  clear hC hT h HD
  go_enter Tryz.func131,Tryz.ntmps131
  go_wp2_with(go_at_call 166;refine HI.out.mono ?_;rintro e W1 ⟨rfl,hb1⟩)
  go_ret
  exact⟨rfl,hb1⟩
theorem jJ4(a:Option Addr)(n c:Nat)(t:Nat→RW)(B q:Nat)(r:RW)(w:World)(hq:qQ1 B a n c t q w)(hn:1≤n):
  Calls Tryz.prog 132 #[r.agg,.pointer (some ⟨q,0,none⟩)] w fun e w'=>e= .returned (.bool (decide (r.key≠(t 0).key)))∧Below w.heap.size w w':=by
 have k0:=Q0 _ _ 0 _ _ _ hq.box
 have hql:=(J5 hq.box)
 obtain⟨b,off,rfl,_,c0,_,_⟩:=hq.rows.get (show 0<n from hn)
 rw[Nat.zero_mul,Nat.add_zero] at c0
 have hbl:b<w.heap.size:=by
  simp only[World.cell?,Option.bind_eq_bind] at c0
  by_cases h:b<w.heap.size
  ·exact h
  ·rw[Array.getElem?_eq_none (by omega)] at c0
   cases c0
 have hn0:(0:Int)<(n:Int):=by omega
 obtain⟨k,lo,hi⟩:=r
 have HB:=Hd (J3 w (.cells #[.int .i64 k,.int .i64 lo,.int .i64 hi] 63))
 have HX:=Hd (Q3 w (.cells #[.int .i64 k,.int .i64 lo,.int .i64 hi] 63))
 show Calls Tryz.prog 132 #[.agg #[.int .i64 k,.int .i64 lo,.int .i64 hi],_] w fun e w'=>e= .returned (.bool (decide (k≠(t 0).key)))∧Below w.heap.size w w'
 generalize(t 0).key=k1 at*
 clear hq
 have hbk:=HB.out
 have HXk:=Hd ((hbk.cell (p:=⟨q,0,none⟩) hql).trans k0)
 have HXc:=Hd ((hbk.cell (p:=⟨b,off,none⟩) hbl).trans c0)
 have hsz:=hbk.size
 clear k0 c0
 go_enter Tryz.func132,Tryz.ntmps132
 go_upto_region 1 with(fail)
 generalize World.alloc w _=V at*
 have k0:=HXk.out
 have c0:=HXc.out
 have g0:=Q0 _ _ 0 _ _ _ HX.out
 have lt1:w.heap.size<V.heap.size:=(J5 HX.out)
 have lt2:q<V.heap.size:=by omega
 have lt3:b<V.heap.size:=by omega
 (refine M0 (V.heap.size) 8 (by kernel_rfl) (by kernel_rfl) ?_;simp only[List.take_succ_cons,List.take_zero,X7,List.drop_zero];(repeat(first|go_big_quiet_step(fail)|quiet_step(fail)));refine X4 (wqn ?_);intro xq)
 have hq:=xq.below
 have HB2:=Hd (HB.out.trans (hq.mono HB.out.size))
 clear hq
 generalize K9.val xq=V2 at*
 go_wp2
 go_ret
 exact⟨by rw[show(k !=k1)=decide (k≠k1) by by_cases h:k=k1<;>simp[h]];rfl,HB2.out⟩
def R6(t:Nat→RW)(n:Nat):Bool:= !U6 n (fun i=>decide ((t i).key≠(t 0).key))
theorem kK3(args:Array Value)(W:World):(callFunc 132 args).run Tryz.prog W= .ok (.enter 132 args) W:=enters_of Tryz.func132 (by kernel_rfl) rfl args W
theorem kF9(args:Array Value)(W:World):(callFunc 164 args).run Tryz.prog W= .ok (.enter 164 args) W:=enters_of Tryz.func164 (by kernel_rfl) rfl args W
theorem qJ2(a:Option Addr)(n c:Nat)(t:Nat→RW)(B:Nat)(w:World)(hBw:B≤w.heap.size)(hT:S5 B w a n t)(hn:1≤n∧n≤200):
  Calls Tryz.prog 88 #[.agg #[.slice a n c]] w fun e w'=>e= .returned (.bool (R6 t n))∧Below w.heap.size w w':=by
 have HB:=Hd (J3 w (.cells #[.slice a n c] 118))
 have HX:=Hd (Q3 w (.cells #[.slice a n c] 118))
 have HG:=Hd (show qQ1 B a n c t w.heap.size (w.alloc (.cells #[.slice a n c] 118)) from⟨HX.out,hT.below (HB.out.mono hBw)⟩)
 have HC:=Hd (qP6 132 (.pointer (some ⟨w.heap.size,0,none⟩)) a n c t B (fun i=>decide ((t i).key≠(t 0).key)) (w.alloc (.cells #[.slice a n c] 118)) (Q5 hBw HB.out.size) hn.2 HG.out.rows kK3 (fun W hb i hi=>jJ4 a n c t B w.heap.size (t i) W (HG.out.below (Q5 hBw HB.out.size) hb) hn.1))
 unfold R6
 generalize U6 n (fun i=>decide ((t i).key≠(t 0).key))=r at*
 clear hT HG
 go_enter Tryz.func88,Tryz.ntmps88
 go_upto_region 1 with(fail)
 generalize World.alloc w _=V at*
 have k0:=Q0 _ _ 0 _ _ _ HX.out
 go_wp2_with(go_at_call 131;refine HC.out.mono ?_;rintro e W1 ⟨rfl,hb1⟩;have HB1:=Hd (HB.out.trans (hb1.mono HB.out.size));clear hb1 k0)
 go_ret
 exact⟨rfl,HB1.out⟩
theorem jL6(s:ST)(x:Nat)(r:RW)(w:World)(hx:w.heap[x]?=some (.cells #[.int .i64 s.sl,.int .i64 s.st,.int .i64 s.dn] 181))(hs:s.ok)(hz:0≤r.key∧r.key≤100000)(hg: -1000000≤r.lo∧r.lo≤r.hi∧r.hi≤1000000):
  Calls Tryz.prog 164 #[r.agg,.pointer (some ⟨x,0,none⟩)] w fun e w'=>e= .returned (.bool (!zX5 s r))∧Below w.heap.size w w':=by
 have HP:=Hd (fun W=>xS4 s r W hs hz hg)
 have HB:=Hd (J3 w (.cells #[.int .i64 r.key,.int .i64 r.lo,.int .i64 r.hi] 63))
 have HX:=Hd (Q3 w (.cells #[.int .i64 r.key,.int .i64 r.lo,.int .i64 r.hi] 63))
 have HS:=Hd (J0 hx HB.out)
 generalize zX5 s r=v at*
 unfold ST.val RW.agg at HP
 unfold RW.agg
 clear hx hs hz hg
 go_enter Tryz.func164,Tryz.ntmps164
 go_upto_region 1 with(fail)
 generalize World.alloc w _=V at*
 obtain⟨k0,k1,k2⟩:=U4 HX.out
 obtain⟨s0,s1,s2⟩:=U4 HS.out
 simp only[P2] at k0 k1 k2 s0 s1 s2
 go_wp2_with(go_at_call 165;refine(HP.out _).mono ?_;rintro e W1 ⟨rfl,hb1⟩;have HB1:=Hd (HB.out.trans (hb1.mono HB.out.size));clear hb1 k0 k1 k2 s0 s1 s2)
 go_ret
 exact⟨rfl,HB1.out⟩
def qY6(s:ST)(t:Nat→RW)(n:Nat):Bool:= !U6 n (fun i=> !zX5 s (t i))
theorem kX8(s:ST)(a:Option Addr)(n c:Nat)(cv:Value)(t:Nat→RW)(B:Nat)(w:World)(hBw:B≤w.heap.size)(hT:S5 B w a n t)(hO:qQ2 n t)(hs:s.ok):
  Calls Tryz.prog 130 #[.agg #[.slice a n c,cv],s.val] w fun e w'=>e= .returned (.bool (qY6 s t n))∧Below w.heap.size w w':=by
 have HB:=Hd (((Q2 _ w).alloc (Q1 _) (.cells #[.slice a n c,cv] 121)).alloc (by simp) (.cells #[.int .i64 s.sl,.int .i64 s.st,.int .i64 s.dn] 181))
 have hnew:=Q3 (w.alloc (.cells #[.slice a n c,cv] 121)) (.cells #[.int .i64 s.sl,.int .i64 s.st,.int .i64 s.dn] 181)
 rw[show(w.alloc (.cells #[.slice a n c,cv] 121)).heap.size=w.heap.size+1 from by simp] at hnew
 have HX:=Hd hnew
 have HS:=Hd (show((w.alloc (.cells #[.slice a n c,cv] 121)).alloc (.cells #[.int .i64 s.sl,.int .i64 s.st,.int .i64 s.dn] 181)).heap[w.heap.size]?=some (.cells #[.slice a n c,cv] 121) from(Q9 _ _ _ (by simp)).trans (Q3 w _))
 clear hnew
 have HC:=Hd (qP6 164 (.pointer (some ⟨w.heap.size+1,0,none⟩)) a n c t B (fun i=> !zX5 s (t i)) ((w.alloc (.cells #[.slice a n c,cv] 121)).alloc (.cells #[.int .i64 s.sl,.int .i64 s.st,.int .i64 s.dn] 181)) (Q5 hBw HB.out.size) (by have:=hO.len;omega) (hT.below (HB.out.mono hBw)) kF9 (fun W hb i hi=>jL6 s (w.heap.size+1) (t i) W (J0 HX.out hb) hs (hO.z i hi) (hO.span i hi)))
 unfold qY6 ST.val
 generalize U6 n (fun i=> !zX5 s (t i))=r at*
 clear hT hO hs
 go_enter Tryz.func130,Tryz.ntmps130
 go_upto_region 1 with(fail)
 generalize World.alloc (World.alloc w _) _=V at*
 have k0:=Q0 _ _ 0 _ _ _ HS.out
 go_wp2_with(go_at_call 131;refine HC.out.mono ?_;rintro e W1 ⟨rfl,hb1⟩;have HB1:=Hd (HB.out.trans (hb1.mono HB.out.size));clear hb1 k0)
 go_ret
 exact⟨rfl,HB1.out⟩
theorem zG2{W:World}{b o:Nat}{v:Value}(h:W.cell? ⟨b,o,none⟩=some v):b<W.heap.size:=by
 simp only[World.cell?,Option.bind_eq_bind] at h
 by_cases hb:b<W.heap.size
 ·exact hb
 ·rw[Array.getElem?_eq_none (by omega)] at h
  cases h
theorem xL9(a:Option Addr)(n c:Nat)(t:Nat→RW)(B:Nat)(w:World)(hBw:B≤w.heap.size)(hT:S5 B w a n t)(hn:1≤n∧n≤200):
  Calls Tryz.prog 89 #[.agg #[.slice a n c]] w fun e w'=>(∃lo hi:Int,e= .returned (.agg #[.int .i64 lo,.int .i64 hi]))∧Below w.heap.size w w':=by
 obtain⟨h1,h2,h3⟩:Below w.heap.size w ((w.alloc (.cells #[.slice a n c] 118)).alloc (.cells #[.int .i64 0,.int .i64 0] 47))∧((w.alloc (.cells #[.slice a n c] 118)).alloc (.cells #[.int .i64 0,.int .i64 0] 47)).heap[w.heap.size]?=some (.cells #[.slice a n c] 118)∧((w.alloc (.cells #[.slice a n c] 118)).alloc (.cells #[.int .i64 0,.int .i64 0] 47)).heap[w.heap.size+1]?=some (.cells #[.int .i64 0,.int .i64 0] 47):=by
  refine⟨((Q2 _ w).alloc (Q1 _) _).alloc (by simp) _,(Q9 _ _ _ (by simp)).trans (Q3 w _),?_⟩
  have:=Q3 (w.alloc (.cells #[.slice a n c] 118)) (.cells #[.int .i64 0,.int .i64 0] 47)
  rwa [show(w.alloc (.cells #[.slice a n c] 118)).heap.size=w.heap.size+1 from by simp] at this
 have HB:=Hd h1
 have HL:=Hd h2
 have HR:=Hd h3
 have HT:=Hd (hT.below (h1.mono hBw))
 clear h1 h2 h3 hT
 have hn0:(0:Int)<(n:Int):=by omega
 go_enter Tryz.func89,Tryz.ntmps89
 go_upto_region 1 with(fail)
 generalize World.alloc (World.alloc w _) _=V at*
 obtain⟨b,off,rfl,hbB,c0,c1,c2⟩:=HT.out.get (show 0<n from hn.1)
 rw[Nat.zero_mul,Nat.add_zero] at c0 c1 c2
 have k0:=Q0 _ _ 0 _ _ _ HL.out
 have lt1:w.heap.size<V.heap.size:=(J5 HL.out)
 have lt2:b<V.heap.size:=zG2 c0
 go_region
 have hbd:Below V.heap.size V (V.alloc (Obj.cells #[Value.int IntKind.i64 (t 0).lo,Value.int IntKind.i64 (t 0).hi] 47)).drew:=(J3 V _).drew
 have HO:=Hd (show ∃lo hi:Int,(V.alloc (Obj.cells #[Value.int IntKind.i64 (t 0).lo,Value.int IntKind.i64 (t 0).hi] 47)).drew.heap[V.heap.size]?=some (.cells #[.int .i64 lo,.int .i64 hi] 47) from⟨_,_,Q3 V _⟩)
 have HB1:=Hd (HB.out.trans (hbd.mono HB.out.size))
 have HL1:=Hd (J0 HL.out hbd)
 have HR1:=Hd (J0 HR.out hbd)
 have HT1:=Hd (HT.out.below (hbd.mono (Q5 hBw HB.out.size)))
 have hg:=HB.out.size
 have hr1:=(J5 HR.out)
 have hbV:B≤V.heap.size:=Q5 hBw hg
 clear hbd k0 c0 c1 c2 lt1 lt2 HB HL HR HT
 generalize World.drew _=V1 at*
 generalize V.heap.size=x at*
 have HK:=Hd (show w.heap.size+1<x from hr1)
 clear hr1
 have k0:=Q0 _ _ 0 _ _ _ HL1.out
 go_wp2
 clear k0
 go_loopw [20] (fun s20 wr=>∃i:Nat,i≤n∧s20= .int .i64 (i:Int)∧Hid (∃lo hi:Int,wr.heap[x]?=some (.cells #[.int .i64 lo,.int .i64 hi] 47))∧Hid (wr.heap[w.heap.size+1]?=some (.cells #[.int .i64 0,.int .i64 0] 47))∧Hid (S5 B wr (some ⟨b,off,none⟩) n t)∧Hid (Below w.heap.size w wr)) (fun s20 _=>n-(intOf s20).toNat)
 case atStart=>exact⟨0,by omega,rfl,HO,HR1,HT1,HB1⟩
 case round=>
  clear HO HR1 HT1 HB1 HL1
  obtain⟨i,hi,rfl,HO,HR1,HT1,HB1⟩:=hrel
  by_cases hl:i<n
  ·have hl':(i:Int)<(n:Int):=by omega
   obtain⟨lo,hi',ho⟩:=HO.out
   obtain⟨b',off',hbo,_,c0,c1,c2⟩:=HT1.out.get hl
   obtain⟨rfl,rfl⟩:b=b'∧off=off':=by
    have h:=Option.some.inj hbo
    injection h with h1 h2
    exact⟨h1,h2⟩
   go_upto_region 5 with(fail)
   have hb:=J3 wr (Obj.cells #[Value.int IntKind.i64 (t i).key,Value.int IntKind.i64 (t i).lo,Value.int IntKind.i64 (t i).hi] 63)
   have HG:=Hd (Q3 wr (Obj.cells #[Value.int IntKind.i64 (t i).key,Value.int IntKind.i64 (t i).lo,Value.int IntKind.i64 (t i).hi] 63))
   have HO2:=Hd (J0 ho hb)
   have HR2:=Hd (J0 HR1.out hb)
   have HT2:=Hd (HT1.out.below (hb.mono (by have:=HB1.out.size;omega)))
   have HB2:=Hd (HB1.out.trans (hb.mono HB1.out.size))
   clear hb c0 c1 c2 ho HO HR1 HT1 HB1
   generalize World.alloc wr _=V2 at*
   generalize wr.heap.size=g at*
   obtain⟨x0,x1⟩:=M7 HO2.out
   have y1:=Q0 _ _ 1 _ _ _ HG.out
   have y2:=Q0 _ _ 2 _ _ _ HG.out
   have lx:=(J5 HO2.out)
   have ly:=(J5 HG.out)
   obtain⟨f0,f1⟩:=fr2 HO2.out
   have gx:x≠g:=by rintro rfl;have h:=HO2.out;rw[HG.out] at h;cases h
   go_region
   have hrow':=Q4 _ _ 1 _ _ (Value.int .i64 (min hi' (t i).hi)) (Q4 V2 _ 0 _ _ (Value.int .i64 (max lo (t i).lo)) HO2.out)
   have hrow:((V2.setCell ⟨x,0,none⟩ (Value.int .i64 (max lo (t i).lo))).setCell ⟨x,1,none⟩ (Value.int .i64 (min hi' (t i).hi))).drew.heap[x]?=some (.cells #[.int .i64 (max lo (t i).lo),.int .i64 (min hi' (t i).hi)] 47):=by rw[heap_drew];simpa using hrow'
   have hbl:=(Q2 x V2).setCell (p:=⟨x,0,none⟩) (by dsimp only;omega) (Value.int .i64 (max lo (t i).lo))|>.setCell (p:=⟨x,1,none⟩) (by dsimp only;omega) (Value.int .i64 (min hi' (t i).hi))|>.drew
   have HO3:=Hd (show ∃l0 h0:Int,((V2.setCell ⟨x,0,none⟩ (Value.int .i64 (max lo (t i).lo))).setCell ⟨x,1,none⟩ (Value.int .i64 (min hi' (t i).hi))).drew.heap[x]?=some (.cells #[.int .i64 l0,.int .i64 h0] 47) from⟨max lo (t i).lo,min hi' (t i).hi,hrow⟩)
   have HR3:=Hd ((hbl.block _ HK.out).trans HR2.out)
   have HT3:=Hd (HT2.out.below (hbl.mono hbV))
   have HB3:=Hd (HB2.out.trans (hbl.mono hg))
   clear hrow hrow' hbl x0 x1 y1 y2 lx ly f0 f1 gx HO2 HR2 HT2 HB2 HG
   generalize World.drew _=V3 at*
   go_wp2
   go_roundw
   case rel=>first|exact⟨i+1,by omega,by go_num,HO3,HR3,HT3,HB3⟩|((repeat apply Z9);exact⟨⟨i+1,by omega,by go_num,HO3,HR3,HT3,HB3⟩,rfl⟩)
   case measure=>simp[intOf];omega
  ·obtain rfl:i=n:=by omega
   have hl':¬(i:Int)<(i:Int):=by omega
   obtain⟨lo,hi',ho⟩:=HO.out
   obtain⟨x0,x1⟩:=M7 ho
   obtain⟨r0,r1⟩:=M7 HR1.out
   obtain⟨f0,f1⟩:=fr2 HR1.out
   go_wp2
   have hrow:=Q4 _ _ 1 _ _ (Value.int .i64 hi') (Q4 wr _ 0 _ _ (Value.int .i64 lo) HR1.out)
   have hbl:=(HB1.out.setCell (p:=⟨w.heap.size+1,0,none⟩) (by dsimp only;omega) (Value.int .i64 lo)).setCell (p:=⟨w.heap.size+1,1,none⟩) (by dsimp only;omega) (Value.int .i64 hi')
   generalize World.setCell (World.setCell wr _ _) _ _=V5 at*
   obtain⟨q0,q1⟩:=M7 hrow
   exact Z2 (v:= .agg #[.int .i64 lo,.int .i64 hi']) (by simp[results,Tryz.results89,go_sem,q0,q1]) rfl ⟨⟨_,_,rfl⟩,hbl⟩
theorem zT2{P:Prop}(h:P:=by((go_enter Tryz.func87,Tryz.ntmps87;go_upto_region 1 with(fail);generalize World.alloc w _=V at*;(have k0:=Q0 _ _ 0 _ _ _ HX.out);(have k1:=Q0 _ _ 1 _ _ _ HX.out);go_upto_region 2 with(go_at_call 89;refine(HC.out _ HB.out).mono ?_;rintro e W1 ⟨⟨lo,hi,rfl⟩,hb1⟩;have HB1:=Hd (HB.out.trans (hb1.mono HB.out.size));have HX1:=Hd (J0 HX.out hb1);clear k0 k1 hb1 HB HX);have hb2:=J3 W1 (Obj.cells #[Value.int IntKind.i64 lo,Value.int IntKind.i64 hi] 47);have HB2:=Hd (HB1.out.trans (hb2.mono HB1.out.size));have HX2:=Hd (J0 HX1.out hb2);clear hb2 HX1;generalize World.alloc W1 _=W2 at*;(have k0:=Q0 _ _ 0 _ _ _ HX2.out);(have k1:=Q0 _ _ 1 _ _ _ HX2.out);go_upto_region 4 with(go_at_call 88;refine(HF.out _ HB2.out).mono ?_;rintro e W3 ⟨rfl,hb3⟩;have HB3:=Hd (HB2.out.trans (hb3.mono HB2.out.size));have HX3:=Hd (J0 HX2.out hb3);clear k0 k1 hb3 HX2);(have k1:=Q0 _ _ 1 _ _ _ HX3.out);go_wp2;go_ret;exact⟨rfl,HB3.out⟩))):P:=h
theorem jI6(a ca:Option Addr)(n c cn cc:Nat)(t:Nat→RW)(B:Nat)(w:World)(hBw:B≤w.heap.size)(hT:S5 B w a n t)(hn:1≤n∧n≤200)(hf:R6 t n=false):
  Calls Tryz.prog 87 #[.agg #[.slice a n c,.slice ca cn cc]] w fun e w'=>e= .returned (.bool (decide (0<cn)))∧Below w.heap.size w w':=by
 have HB:=Hd (J3 w (.cells #[.slice a n c,.slice ca cn cc] 121))
 have HX:=Hd (Q3 w (.cells #[.slice a n c,.slice ca cn cc] 121))
 have HC:=Hd (fun W (hb:Below w.heap.size w W)=>xL9 a n c t B W (Q5 hBw hb.size) (hT.below (hb.mono hBw)) hn)
 have HF:=Hd (fun W (hb:Below w.heap.size w W)=>qJ2 a n c t B W (Q5 hBw hb.size) (hT.below (hb.mono hBw)) hn)
 rw[hf] at HF
 have hlt:=(J5 HX.out)
 clear hT hf
 by_cases h0:0<cn
 ·have h0':(0:Int)<(cn:Int):=by omega
  have HD:=Hd (Z0 h0)
  rw[HD.out]
  exact zT2
 ·have h0':¬(0:Int)<(cn:Int):=by omega
  have HD:=Hd (Q7 h0)
  rw[HD.out]
  exact zT2
end
end Go.Proofs.YtmncaipgefbalaaGreatDoor
