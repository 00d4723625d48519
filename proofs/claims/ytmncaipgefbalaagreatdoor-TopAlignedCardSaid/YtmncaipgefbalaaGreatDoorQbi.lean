/- Part of the proof of the claim. -/
import Derived.Test.YtmncaipgefbalaaGreatDoorQbh
set_option maxRecDepth 100000
set_option maxHeartbeats 8000000
set_option linter.unusedVariables false
set_option linter.unusedSimpArgs false
namespace Go.Proofs.YtmncaipgefbalaaGreatDoor
section
open Go Go.RowKit
theorem zO5(a:Option Addr)(n m c:Nat)(ts:Nat→TI)(va:Option Addr)(vc:Nat)(vs:Nat→Int)(w:World)(B:Nat)(hBw:B≤w.heap.size)(hT:qT5 B w a m ts)(hV:D0 B w va n vs)(hO:qG7 n m ts=true)(hm:m≤12)(h0:vs 0=0)(hb:∀i,i<n→-1000000≤vs i∧vs i≤1000000):
  Calls Tryz.prog 10 #[jY2 n a m c,.slice va n vc] w fun e w'=>e= .returned (.bool (T1 n m ts n vs))∧Below w.heap.size w w':=by
 have hn:=(U9.1 hO).2.1
 have HVL:=Hd (fun W (h:Below w.heap.size w W)=>zO6 a n m c va vc vs W B (Q5 hBw h.size) (hV.below (h.mono hBw)) (by omega) h0 hb)
 have HKP:=Hd (fun i (hi:i<m) W (h:Below w.heap.size w W)=>xD4 (ts i) n va vc vs W B (Q5 hBw h.size) (hV.below (h.mono hBw)) (by omega) ((U9.1 hO).1 i hi) hb)
 have HT:=Hd hT
 have HE:=Hd (show T1 n m ts n vs=M1 m (fun i=>qY1 (ts i) vs) from by
  have h1:M1 n (fun i=>J1 (vs i) (-1000000000000) 1000000000000)=true:=Y3 (fun i hi=>J6 (by have:=hb i hi;omega) (by have:=hb i hi;omega))
  simp[T1,h0,h1])
 have HFA:=Hd (fun k (hk:k<m) (h:qY1 (ts k) vs=false)=>Y7 (f:=fun i=>qY1 (ts i) vs) hk h)
 have HTR:=Hd (fun(h:∀j,j<m→qY1 (ts j) vs=true)=>Y3 (f:=fun i=>qY1 (ts i) vs) h)
 rw[HE.out]
 generalize M1 m (fun i=>qY1 (ts i) vs)=RES at*
 have HV:=Hd ((Q2 _ w).alloc (Q1 _) (.cells #[.int .i64 (n:Int),.slice a m c] 38))
 have hx:=Q3 w (.cells #[.int .i64 (n:Int),.slice a m c] 38)
 have HX:=Hd hx
 clear hT hV hO h0 hb HE hx hn
 go_enter Tryz.func10,Tryz.ntmps10
 go_upto_region 1 with(fail)
 generalize World.alloc w _=V at*
 obtain⟨k0,k1⟩:=M7 HX.out
 simp only[P2] at k0 k1
 go_wp2_with(go_at_call 25;refine(HVL.out _ HV.out).mono ?_;rintro e W1 ⟨rfl,hb1⟩;have HB1:=Hd (HV.out.trans (hb1.mono HV.out.size));have HX1:=Hd (Y0 HX.out hb1);clear hb1 k0 k1)
 go_loopw [5] (fun x wr=>∃i:Nat,i≤m∧x= .int .i64 (i:Int)∧Hid (∀j,j<i→qY1 (ts j) vs=true)∧Hid (Below w.heap.size w wr)∧Hid (wr.heap[w.heap.size]?=some (.cells #[.int .i64 (n:Int),.slice a m c] 38))) (fun x _=>m-(intOf x).toNat)
 case atStart=>exact⟨0,Nat.zero_le _,rfl,Hd (fun j h=>absurd h (Nat.not_lt_zero j)),HB1,HX1⟩
 case round=>
  clear HB1 HX1 HV HX
  obtain⟨i,hi,rfl,HALL,HB,HX⟩:=hrel
  have hwl:w.heap.size<wr.heap.size:=J5 HX.out
  obtain⟨k0,k1⟩:=M7 HX.out
  simp only[P2] at k0 k1
  by_cases hlt:i<m
  ·have hlt':(i:Int)<(m:Int):=by omega
   obtain⟨b,off,rfl,hbB,c0,c1,c2,c3⟩:=(HT.out.below (HB.out.mono hBw)).get hlt
   have hK:=HKP.out i hlt wr HB.out
   have HFAi:=Hd (HFA.out i hlt)
   have HSU:=Hd (fun(h:qY1 (ts i) vs=true) j (hj:j<i+1)=>show qY1 (ts j) vs=true from by
    by_cases e:j=i
    ·subst e;exact h
    ·exact HALL.out j (by omega))
   generalize qY1 (ts i) vs=tb at*
   generalize ts i=ti at*
   obtain⟨f,t,lo,hi'⟩:=ti
   dsimp only at*
   have HK:=Hd hK
   clear hK
   cases tb
   ·have HF:=Hd (HFAi.out rfl)
    go_wp2_with(go_at_call 26;refine HK.out.mono ?_;rintro e W2 ⟨rfl,hb2⟩;have HB2:=Hd (HB.out.trans (hb2.mono HB.out.size));clear hb2 k0 k1 c0 c1 c2 c3)
    go_ret
    exact⟨J2 HF.out.symm,HB2.out⟩
   ·go_wp2_with(go_at_call 26;refine HK.out.mono ?_;rintro e W2 ⟨rfl,hb2⟩;have HB2:=Hd (HB.out.trans (hb2.mono HB.out.size));have HX2:=Hd (Y0 HX.out hb2);clear hb2 k0 k1 c0 c1 c2 c3)
    go_roundw
    case rel=>exact⟨i+1,by omega,by go_num,Hd (HSU.out (by trivial)),HB2,HX2⟩
    case measure=>simp[intOf];omega
  ·obtain rfl:i=m:=by omega
   have hlt':¬(i:Int)<(i:Int):=by omega
   have HR:=Hd (HTR.out HALL.out)
   go_wp2
   go_ret
   exact⟨J2 HR.out.symm,HB.out⟩
theorem xD5(a b c:Int)(w:World):Calls Tryz.prog 74 #[.int .i64 a,.int .i64 b,.int .i64 c] w fun e w'=>e= .returned (.bool (J1 a b c))∧w=w':=by
 by_cases h1:b≤a
 ·by_cases h2:a≤c
  ·rw[J6 h1 h2]
   go_enter Tryz.func74,Tryz.ntmps74
   go_wp2
   go_ret
   exact⟨rfl,rfl⟩
  ·rw[N9 (fun h=>h2 h.2)]
   go_enter Tryz.func74,Tryz.ntmps74
   go_wp2
   go_ret
   exact⟨rfl,rfl⟩
 ·rw[N9 (fun h=>h1 h.1)]
  go_enter Tryz.func74,Tryz.ntmps74
  go_wp2
  go_ret
  exact⟨rfl,rfl⟩
def zF0(need miss:Int):Bool:=J1 need 1 16&&J1 miss 0 16
theorem xD6(need miss:Int)(w:World):Calls Tryz.prog 35 #[.agg #[.int .i64 need,.int .i64 miss]] w fun e w'=>e= .returned (.bool (zF0 need miss))∧Below w.heap.size w w':=by
 have HB:=Hd ((Q2 _ w).alloc (Q1 _) (.cells #[.int .i64 need,.int .i64 miss] 26))
 unfold zF0
 cases h1:J1 need 1 16 with
 |false=>
  have e1:=Hd h1
  clear h1
  rw[Bool.false_and]
  go_enter Tryz.func35,Tryz.ntmps35
  go_wp2_with(go_at_call 74;refine(xD5 _ _ _ _).mono ?_;rintro e w' ⟨rfl,rfl⟩;rw[e1.out])
  go_ret
  exact⟨rfl,HB.out⟩
 |true=>
  have e1:=Hd h1
  have e2:=Hd (show J1 miss 0 16=J1 miss 0 16 from rfl)
  clear h1
  rw[Bool.true_and]
  go_enter Tryz.func35,Tryz.ntmps35
  go_wp2_with(go_at_call 74;refine(xD5 _ _ _ _).mono ?_;rintro e w' ⟨rfl,rfl⟩;(try rw[e1.out]))
  go_ret
  exact⟨rfl,HB.out⟩
theorem xS9(v:Int)(w:World):Calls Tryz.prog 6 #[.int .i64 v] w fun e w'=>e= .returned (.bool ((v==1)||(v==2)))∧w=w':=by
 cases h1:(v==1) with
 |true=>
  rw[Bool.true_or]
  go_enter Tryz.func6,Tryz.ntmps6
  go_wp2
  go_ret
  exact⟨rfl,rfl⟩
 |false=>
  rw[Bool.false_or]
  go_enter Tryz.func6,Tryz.ntmps6
  go_wp2
  go_ret
  exact⟨rfl,rfl⟩
def kB6(need miss:Int)(k:Nat)(missed:Int):Bool:=zF0 need miss&&(decide (need≤(k:Int))&&(decide (missed≤miss)&&decide (2≤(k:Int))))
theorem jG9(need miss missed:Int)(ha:Option Addr)(k c:Nat)(w:World):Calls Tryz.prog 14 #[.agg #[.int .i64 need,.int .i64 miss],.slice ha k c,.int .i64 missed] w fun e w'=>e= .returned (.bool (kB6 need miss k missed))∧Below w.heap.size w w':=by
 have HB:=Hd ((Q2 _ w).alloc (Q1 _) (.cells #[.int .i64 need,.int .i64 miss] 26))
 have HR:=Hd (fun W=>xD6 need miss W)
 have hx:=Q3 w (.cells #[.int .i64 need,.int .i64 miss] 26)
 have HX:=Hd hx
 unfold kB6
 clear hx
 have key:∀p q r s:Bool,zF0 need miss=p→decide (need≤(k:Int))=q→decide (missed≤miss)=r→decide (2≤(k:Int))=s→Calls Tryz.prog 14 #[.agg #[.int .i64 need,.int .i64 miss],.slice ha k c,.int .i64 missed] w fun e w'=>e= .returned (.bool (p&&(q&&(r&&s))))∧Below w.heap.size w w':=by
  intro p q r s e1 e2 e3 e4
  rw[e1] at HR
  have e2':decide ((k:Int)≥need)=q:=e2
  have e4':decide ((k:Int)≥2)=s:=e4
  clear e1
  cases p<;>cases q<;>cases r<;>cases s<;>(
   simp only[Bool.and_false,Bool.and_true,Bool.false_and,Bool.true_and]
   go_enter Tryz.func14,Tryz.ntmps14
   go_upto_region 1 with(fail)
   generalize World.alloc w _=V at*
   obtain⟨k0,k1⟩:=M7 HX.out
   simp only[P2] at k0 k1
   go_wp2_with(go_at_call 35;refine(HR.out _).mono ?_;rintro e W1 ⟨rfl,hb1⟩;have HB1:=Hd (HB.out.trans (hb1.mono HB.out.size));obtain⟨y0,y1⟩:=M7 (Y0 HX.out hb1);simp only[P2] at y0 y1;clear hb1 k0 k1)
   go_ret
   exact⟨rfl,HB1.out⟩)
 exact key _ _ _ _ rfl rfl rfl rfl
def jL0(w:World)(e:Ending)(w':World):Prop:=e= .returned (.bool true)∧Below w.heap.size w w'
structure qI7(w0:World)(i k:Nat)(os cs:Nat→SV)(v1 v2:Value)(V:World):Prop where
 o1:V.ownsRow w0.heap.size 47 2 v1 i (sC os i)
 o2:V.ownsRow w0.heap.size 47 2 v2 k (sC cs k)
 ne:∀g,v1.ownBlock=some g→v2.ownBlock≠some g
 below:Below w0.heap.size w0 V
theorem qI7.swap{w0 V:World}{i k:Nat}{os cs:Nat→SV}{v1 v2:Value}(h:qI7 w0 i k os cs v1 v2 V):qI7 w0 k i cs os v2 v1 V:=⟨h.o2,h.o1,fun g h1 h2=>h.ne g h2 h1,h.below⟩
theorem qI7.keep{w0 V W:World}{i k:Nat}{os cs:Nat→SV}{v1 v2:Value}(h:qI7 w0 i k os cs v1 v2 V)(hb:Below V.heap.size V W):qI7 w0 i k os cs v1 v2 W:=
 ⟨K4 h.o1 hb,K4 h.o2 hb,h.ne,h.below.trans (hb.mono h.below.size)⟩
theorem jQ1(W:World)(x:SV)(t:TypeId):∀j u,(sC (fun _=>x) 1)[j]?=some u→(W.alloc (.cells #[.int .i64 x.lo,.int .i64 x.hi] t)).cell? ((⟨W.heap.size,0,none⟩:Addr).add j)=some u:=
 World.news_of_block (Q3 W (.cells #[.int .i64 x.lo,.int .i64 x.hi] t))
theorem xO4{W:World}{base:Nat}{e:TypeId}{k:Nat}{v:Value}{n:Nat}{xs:List Value}(h:W.ownsRow base e k v n xs):∀g,v.ownBlock=some g→base≤g∧g<W.heap.size:=fun g hg=>by
 rcases h.2 with⟨rfl,_⟩|⟨g',cap,cur,rfl,hb,hx,_⟩
 ·cases hg
 ·injection hg with hg
  subst hg
  exact⟨hb,(J5 hx)⟩
theorem kB8(f:Nat→SV)(i:Nat)(x:SV)(hx:f i=x):sC f i++sC (fun _=>x) 1=sC f (i+1):=by
 apply List.ext_getElem?
 intro j
 by_cases h:j<i*2
 ·rw[List.getElem?_append_left (by rw[T2];exact h),A0 h,A0 (by omega)]
 ·by_cases h2:j<(i+1)*2
  ·rw[List.getElem?_append_right (by rw[T2];omega),T2,A0 (show j-i*2<1*2 by omega),A0 h2]
   have e1:j/2=i:=by omega
   have e2:(j-i*2)%2=j%2:=by omega
   rw[e1,e2,hx]
  ·rw[List.getElem?_eq_none (by rw[Z6,T2,T2];omega),List.getElem?_eq_none (by rw[T2];omega)]
theorem qI7.first{w0 V W:World}{i k:Nat}{os cs:Nat→SV}{v1 v2:Value}{tmp:Obj}{g cap:Nat}{x:SV}(h:qI7 w0 i k os cs v1 v2 V)(ho:W.ownsRow w0.heap.size 47 2 (.slice (some ⟨g,0,none⟩) (i+1) cap) (i+1) (sC os i++sC (fun _=>x) 1))(hx:os i=x)(hg:(V.alloc tmp).grownBy W v1.ownBlock)(hat:v1.ownBlock=some g∨g=(V.alloc tmp).heap.size):
  qI7 w0 (i+1) k os cs (.slice (some ⟨g,0,none⟩) (i+1) cap) v2 W∧∀b,b<V.heap.size→v1.ownBlock≠some b→W.heap[b]?=V.heap[b]? :=by
 have hl2:=xO4 h.o2
 have hl1:=xO4 h.o1
 have hz:(V.alloc tmp).heap.size=V.heap.size+1:=by simp
 have hk:∀b,b<V.heap.size→v1.ownBlock≠some b→W.heap[b]?=V.heap[b]? :=fun b hb hne=>(hg.block b (by omega) (fun e=>hne e.symm)).trans ((J3 V tmp).block b hb)
 refine⟨⟨by rw[kB8 os i x hx] at ho;exact ho,L5 h.o2 fun g' hg'=>hk g' (hl2 g' hg').2 (fun e=>h.ne g' e hg'),fun g1 hg1 e=> ?_,?_⟩,hk⟩
 ·injection hg1 with hg1
  subst hg1
  rcases hat with e1|e1
  ·exact h.ne g e1 e
  ·have:=(hl2 g e).2;omega
 ·refine h.below.trans ?_
  have ha:=J3 V tmp
  exact⟨hg.os.trans ha.os,hg.tape.trans ha.tape,hg.output.trans ha.output,by have:=h.below.size;have:=hg.size;omega,fun b hb=>hk b (by have:=h.below.size;omega) (fun e=>by have:=(hl1 b e).1;omega)⟩
theorem G5{P:Program}{md:Region.Mode}{Q:Exit→Act→World→Prop}{S:World→Prop}{l:List Oper}{n f:Nat}{listed:Array Bool}{a:Act}{w:World}{v:Value}{oi:Oper}{X:Prop}(i:Nat)(q:X)(hi:l.toArray[i]?=some oi:=by rfl)(hB:TkB md l n listed i=true:=by kernel_rfl)(hQ:∀c a w,Q (.panic c) (a.put oi.dst v) w→Q (.panic c) a w:=by exact fun _ _ _ h=>h)(hy:YieldsIf P l.toArray S oi v a:=by(refine Or.inl ⟨by rfl,?_⟩;intro w' hSw;(try dsimp only at hSw);have cc0:=(J9 hSw).1;(try simp only[hng]);go_simp;(try with_reducible rfl)))(hS:S w:=by assumption)(hx:X→M5 P md l.toArray Q S n (C0 P md l Q n) f (listed.setIfInBounds i true) (a.put oi.dst v) w:=by(intro qq;refine hnm ?_;exact qq)):M5 P md l.toArray Q S n (C0 P md l Q n) (f+1) listed a w:=L9 hi hB hQ hy hS (hx q)
theorem PG.mem.up{p:PG}{B B':Nat}{w:World}(h:p.mem B w)(hb:B≤B'):p.mem B' w:=⟨h.os.up hb,h.ks.up hb,by
 rcases h.ss with h|⟨b,o,e,hB,hc⟩
 ·exact .inl h
 ·exact .inr ⟨b,o,e,by omega,hc⟩⟩
theorem G4{P:Program}{md:Region.Mode}{Q:Exit→Act→World→Prop}{S:World→Prop}{ops:Array Oper}{f:Nat}{listed:Array Bool}{a:Act}{w:World}{v:Value}{oi:Oper}{X:Prop}(i:Nat)(q:X)(hi:ops[i]?=some oi:=by rfl)(hB:TkE md ops listed i=true:=by kernel_rfl)(hQ:∀c a w,Q (.panic c) (a.put oi.dst v) w→Q (.panic c) a w:=by exact fun _ _ _ h=>h)(hy:YieldsIf P ops S oi v a:=by(refine Or.inl ⟨by rfl,?_⟩;intro w' hSw;(try dsimp only at hSw);have cc0:=(J9 hSw).1;(try simp only[hng]);go_simp;(try with_reducible rfl)))(hS:S w:=by assumption)(hx:X→M5 P md ops Q S ops.size (qC3 md ops Q) f (listed.setIfInBounds i true) (a.put oi.dst v) w:=by(intro qq;refine hnm ?_;exact qq)):M5 P md ops Q S ops.size (qC3 md ops Q) (f+1) listed a w:=qY0 hi hB hQ hy hS (hx q)
def G1(g:GV)(w:World)(e:Ending)(w':World):Prop:=∃xb xo xc,e= .returned (.tuple #[.slice (some ⟨xb,xo,none⟩) 1 xc,.int .i64 0])∧(xb<w'.heap.size∧w'.cell? ⟨xb,xo+1,none⟩=some (.int .i64 g.lo)∧w'.cell? ⟨xb,xo+2,none⟩=some (.int .i64 g.hi))∧Below w.heap.size w w'
theorem jR5(a:Option Addr)(n c:Nat)(ps:Nat→PR)(h:HV)(k B:Nat)(w:World)(hBw:B≤w.heap.size)(hP:Y2 B w a n ps)(hC:K7 n ps=true)(hk:k<n)(hpl:h.plane=(k:Int))(hH:C7 (ps k) h=true)(hN:C2 (ps k) h=1):Calls Tryz.prog 15 #[L3 a n c,h.val] w (G1 (Y5 (ps k) h 0) w):=by
 refine(zP0 a n c ps h w B hBw hP hC k hk hpl hH).mono ?_
 rintro e w' ⟨ga,gc,rfl,hg,hn,hb2⟩
 rw[hN] at hg
 rcases hg with hg|⟨b,off,rfl,hB2,hcc⟩
 ·cases hg
 ·have:=hcc 0 (by omega)
  rw[Nat.zero_mul,Nat.add_zero] at this
  exact⟨b,off,gc,by rw[hN];unfold xV8;rw[hN];rfl,⟨hB2,this.2.1,this.2.2⟩,hb2⟩
theorem SR.cells{t:TypeId}{W V:World}{b m:Nat}{f:Nat→SV}(h:SR t W b m f)(hb:Below W.heap.size W V){i:Nat}(hi:i<m):∃_:b<V.heap.size,V.cell? ⟨b,i*2,none⟩=some (.int .i64 (f i).lo)∧V.cell? ⟨b,i*2+1,none⟩=some (.int .i64 (f i).hi)∧b<W.heap.size:=by
 obtain⟨cur,h1,h2,h3⟩:=h
 have h4:=J0 h1 hb
 exact⟨(J5 h4),(Q0 _ _ _ _ _ _ h4).trans (h3 i hi).1,(Q0 _ _ _ _ _ _ h4).trans (h3 i hi).2,(J5 h1)⟩
theorem zG0(a:Option Addr)(n c:Nat)(ps:Nat→PR)(need miss view:Int)(p:PG)(ta:Option Addr)(m tc:Nat)(ts:Nat→TI)(B:Nat)(w:World)(hBw:B≤w.heap.size)(hP:Y2 B w a n ps)(hp:p.mem B w)(hT:qT5 B w ta m ts)(hnv:qV1 w)(hw0:0<w.heap.size)(hkn:∀W,Calls Tryz.prog 8 #[] W fun e w'=>e= .returned (.bool true)∧Below W.heap.size W w'):
  Calls Tryz.prog 3 #[L3 a n c,.agg #[.int .i64 need,.int .i64 miss],.int .i64 view,p.val,.slice ta m tc] w (jL0 w):=by
 have h1:Below w.heap.size w (((w.alloc (.cells #[.slice a n c] 24)).alloc (.cells #[.int .i64 need,.int .i64 miss] 26)).alloc p.box):=(((Q2 _ w).alloc (Q1 _) _).alloc (by simp) _).alloc (by simp;omega) _
 have hx:(((w.alloc (.cells #[.slice a n c] 24)).alloc (.cells #[.int .i64 need,.int .i64 miss] 26)).alloc p.box).heap[w.heap.size]?=some (.cells #[.slice a n c] 24):=(Q9 _ _ _ (by simp;omega)).trans ((Q9 _ _ _ (by simp)).trans (Q3 w _))
 have hr:(((w.alloc (.cells #[.slice a n c] 24)).alloc (.cells #[.int .i64 need,.int .i64 miss] 26)).alloc p.box).heap[w.heap.size+1]?=some (.cells #[.int .i64 need,.int .i64 miss] 26):=by
  have h:=Q3 (w.alloc (.cells #[.slice a n c] 24)) (.cells #[.int .i64 need,.int .i64 miss] 26)
  rw[show(w.alloc (.cells #[.slice a n c] 24)).heap.size=w.heap.size+1 from by simp] at h
  exact(Q9 _ _ _ (by simp)).trans h
 have hg:=Q3 ((w.alloc (.cells #[.slice a n c] 24)).alloc (.cells #[.int .i64 need,.int .i64 miss] 26)) p.box
 rw[show((w.alloc (.cells #[.slice a n c] 24)).alloc (.cells #[.int .i64 need,.int .i64 miss] 26)).heap.size=w.heap.size+1+1 from by simp] at hg
 have HB:=Hd h1
 have HX:=Hd hx
 have HR:=Hd hr
 have HG:=Hd hg
 have HKN:=Hd hkn
 have HBR:=Hd (fun W (hb:Below w.heap.size w W)=>xJ4 a n c ps W B (Q5 hBw hb.size) (hP.below (hb.mono hBw)))
 have HSU:=Hd (fun W (hb:Below w.heap.size w W)=>xQ0 a n c ps W B (Q5 hBw hb.size) (hP.below (hb.mono hBw)))
 have HPS:=Hd (fun W (hb:Below w.heap.size w W) (hC:K7 n ps=true)=>xS3 a n c ps p W B (Q5 hBw hb.size) (hP.below (hb.mono hBw)) (hp.below (hb.mono hBw)) hC)
 have HPA:=Hd hP
 have HPG:=Hd hp
 have HTI:=Hd hT
 have HNV:=Hd hnv
 have HBW:=Hd hBw
 have HW0:=Hd hw0
 unfold L3 at HBR HSU HPS
 unfold PG.val at HPS
 unfold L3 PG.val
 clear h1 hx hr hg hP hp hT hnv hBw hw0 hkn
 unfold jL0
 go_enter Tryz.func3,Tryz.ntmps3
 go_upto_region 1 with(fail)
 generalize World.alloc (World.alloc (World.alloc w _) _) _=V0 at*
 have HB0:=Hd HB.out
 have HX0:=Hd HX.out
 have HR0:=Hd HR.out
 have HG0:=Hd HG.out
 clear HB HX HR HG
 have x0:=Q0 _ _ 0 _ _ _ HX0.out
 go_upto_region 2 with(fail)
 refine(HBR.out _ HB0.out).mono ?_
 rintro y W1 ⟨b1,rfl,hbr,hb1⟩
 clear x0
 (have HB1:=Hd (HB0.out.trans (hb1.mono HB0.out.size));have HX1:=Hd (J0 HX0.out hb1);have HR1:=Hd (J0 HR0.out hb1);have HG1:=Hd (J0 HG0.out hb1);clear hb1 HB0 HX0 HR0 HG0)
 cases b1 with
 |false=>(go_wp2_with(go_at_call 8;refine(HKN.out _).mono ?_;rintro y WK ⟨rfl,hbk⟩;have HBK:=Hd (HB1.out.trans (hbk.mono HB1.out.size));clear hbk);go_ret;exact⟨rfl,HBK.out⟩)
 |true=>
  have hn8:=(hbr rfl).1
  clear hbr HBR
  have x0:=Q0 _ _ 0 _ _ _ HX1.out
  go_upto_region 2 with(fail)
  refine(HSU.out _ HB1.out).mono ?_
  rintro y W2 ⟨rfl,hb2⟩
  clear x0 HSU
  (have HB2:=Hd (HB1.out.trans (hb2.mono HB1.out.size));have HX2:=Hd (J0 HX1.out hb2);have HR2:=Hd (J0 HR1.out hb2);have HG2:=Hd (J0 HG1.out hb2);clear hb2 HB1 HX1 HR1 HG1)
  cases hC:K7 n ps with
  |false=>(go_wp2_with(go_at_call 8;refine(HKN.out _).mono ?_;rintro y WK ⟨rfl,hbk⟩;have HBK:=Hd (HB2.out.trans (hbk.mono HB2.out.size));clear hbk);go_ret;exact⟨rfl,HBK.out⟩)
  |true=>
   have HC:=Hd hC
   clear hC
   go_upto_region 2 with(fail)
   refine(xS9 view _).mono ?_
   rintro y w' ⟨rfl,rfl⟩
   cases hv:((view==1)||(view==2)) with
   |false=>(go_wp2_with(go_at_call 8;refine(HKN.out _).mono ?_;rintro y WK ⟨rfl,hbk⟩;have HBK:=Hd (HB2.out.trans (hbk.mono HB2.out.size));clear hbk);go_ret;exact⟨rfl,HBK.out⟩)
   |true=>
    have HV:=Hd (show view=1∨view=2 by simpa using hv)
    clear hv
    have x0:=Q0 _ _ 0 _ _ _ HX2.out
    (obtain⟨g0,g1,g2,g3,g4,g5⟩:=cr6 HG2.out)
    go_upto_region 2 with(fail)
    refine(HPS.out _ HB2.out HC.out).mono ?_
    rintro y W3 ⟨b3,rfl,hps,hb3⟩
    clear x0 g0 g1 g2 g3 g4 g5 HPS
    (have HB3:=Hd (HB2.out.trans (hb3.mono HB2.out.size));have HX3:=Hd (J0 HX2.out hb3);have HR3:=Hd (J0 HR2.out hb3);have HG3:=Hd (J0 HG2.out hb3);clear hb3 HB2 HX2 HR2 HG2)
    cases b3 with
    |false=>(go_wp2_with(go_at_call 8;refine(HKN.out _).mono ?_;rintro y WK ⟨rfl,hbk⟩;have HBK:=Hd (HB3.out.trans (hbk.mono HB3.out.size));clear hbk);go_ret;exact⟨rfl,HBK.out⟩)
    |true=>
     have HOK:=Hd (hps rfl)
     clear hps
     have hn1:1≤n:=(P1 HC.out).1
     have hon:=HOK.out.on
     obtain⟨ob,oo,hoa,hoB,c0⟩:=(HPG.out.os.below (HB3.out.mono HBW.out)).at' (show 0<p.on by omega)
     rw[Nat.add_zero] at c0
     have hol:ob<W3.heap.size:=by have:=HB3.out.size;have:=HBW.out;omega
     (obtain⟨g0,g1,g2,g3,g4,g5⟩:=cr6 HG3.out)
     rw[hoa,hon] at g3
     by_cases hm12:m≤12
     ·have hm1:¬(12:Int)<(m:Int):=by omega
      have hm2:decide (12<m)=false:=Q7 (by omega)
      by_cases h0:p.os 0=0
      ·rw[h0] at c0
       go_upto_region 3 with(fail)
       clear c0 g0 g1 g2 g3 g4 g5
       have x0:=Q0 _ _ 0 _ _ _ HX3.out
       go_upto_region 4 with(fail)
       have hb4:=J3 W3 (.cells #[.int .i64 (n:Int),.slice ta m tc] 38)
       have HN4:=Hd (Q3 W3 (.cells #[.int .i64 (n:Int),.slice ta m tc] 38))
       clear x0
       (have HB4:=Hd (HB3.out.trans (hb4.mono HB3.out.size));have HX4:=Hd (J0 HX3.out hb4);have HR4:=Hd (J0 HR3.out hb4);have HG4:=Hd (J0 HG3.out hb4);clear hb4 HB3 HX3 HR3 HG3)
       have hH0:=Hd h0
       clear h0
       generalize World.alloc W3 _=W4 at*
       generalize W3.heap.size=nb at*
       obtain⟨k0,k1⟩:=M7 HN4.out
       go_upto_region 5 with(fail)
       refine(jG0 ta n m tc ts W4 B (Q5 HBW.out HB4.out.size) (HTI.out.below (HB4.out.mono HBW.out)) (by omega) hm12).mono ?_
       rintro y W5 ⟨rfl,hb5⟩
       clear k0 k1
       (have HN5:=Hd (J0 HN4.out hb5);clear HN4;(have HB5:=Hd (HB4.out.trans (hb5.mono HB4.out.size));have HX5:=Hd (J0 HX4.out hb5);have HR5:=Hd (J0 HR4.out hb5);have HG5:=Hd (J0 HG4.out hb5);clear hb5 HB4 HX4 HR4 HG4))
       cases hO:qG7 n m ts with
       |false=>(go_wp2_with(go_at_call 8;refine(HKN.out _).mono ?_;rintro y WK ⟨rfl,hbk⟩;have HBK:=Hd (HB5.out.trans (hbk.mono HB5.out.size));clear hbk);go_ret;exact⟨rfl,HBK.out⟩)
       |true=>
        have HO:=Hd hO
        clear hO
        have hvb:∀i,i<n→-1000000≤p.os i∧p.os i≤1000000:=fun i hi=>by
         have h1:=(HOK.out.pl i hi).off
         have h2:=(I3 HC.out hi).off
         omega
        have HVB:=Hd hvb
        have hag:=zO5 ta n m tc ts p.oa p.oc p.os W5 B (Q5 HBW.out HB5.out.size) (HTI.out.below (HB5.out.mono HBW.out)) (by have:=HPG.out.os.below (HB5.out.mono HBW.out);rwa [hon] at this) HO.out hm12 hH0.out hvb
        have HAG:=Hd hag
        clear hag hvb
        rw[hoa] at HAG
        obtain⟨k0,k1⟩:=M7 HN5.out
        have g3:=Q0 _ _ 3 _ _ _ HG5.out
        rw[hoa,hon] at g3
        go_upto_region 5 with(fail)
        refine HAG.out.mono ?_
        rintro y W6 ⟨rfl,hb6⟩
        clear k0 k1 g3 HAG
        (have HN6:=Hd (J0 HN5.out hb6);clear HN5;(have HB6:=Hd (HB5.out.trans (hb6.mono HB5.out.size));have HX6:=Hd (J0 HX5.out hb6);have HR6:=Hd (J0 HR5.out hb6);have HG6:=Hd (J0 HG5.out hb6);clear hb6 HB5 HX5 HR5 HG5))
        cases hA:T1 n m ts n p.os with
        |false=>(go_wp2_with(go_at_call 8;refine(HKN.out _).mono ?_;rintro y WK ⟨rfl,hbk⟩;have HBK:=Hd (HB6.out.trans (hbk.mono HB6.out.size));clear hbk);go_ret;exact⟨rfl,HBK.out⟩)
        |true=>
         have HA:=Hd hA
         clear hA
         obtain⟨k0,k1⟩:=M7 HN6.out
         go_upto_region 7 with(fail)
         refine(xX5 ta n m tc ts p.os B W6 (Q5 HBW.out HB6.out.size) (HTI.out.below (HB6.out.mono HBW.out)) HO.out HA.out hn8 hm12 (HNV.out.below HB6.out HW0.out) (by have:=HB6.out.size;have:=HW0.out;omega)).mono ?_
         rintro y W7 ⟨bb,ff,gg,rfl,hbn,hb7⟩
         clear k0 k1
         (have HN7:=Hd (J0 HN6.out hb7);clear HN6;(have HB7:=Hd (HB6.out.trans (hb7.mono HB6.out.size));have HX7:=Hd (J0 HX6.out hb7);have HR7:=Hd (J0 HR6.out hb7);have HG7:=Hd (J0 HG6.out hb7);clear hb7 HB6 HX6 HR6 HG6))
         have HBN:=Hd hbn
         clear hbn
         have x0:=Q0 _ _ 0 _ _ _ HX7.out
         go_upto_region 11 with(fail)
         clear x0
         obtain⟨os,hos⟩:∃os:Nat→SV,os=fun i=>⟨max (-(ff i).len) (ps i).olo,min (gg i).len (ps i).ohi⟩:=⟨_,rfl⟩
         obtain⟨cs,hcs⟩:∃cs:Nat→SV,cs=fun i=>⟨(ps i).clo,(ps i).chi⟩:=⟨_,rfl⟩
         have HOS:=Hd hos
         have HCS:=Hd hcs
         clear hos hcs
         have HTW:=Hd (show qI7 W7 0 0 os cs (.slice none 0 0) (.slice none 0 0) W7 from⟨World.ownsRow_nil _ _ _ _,World.ownsRow_nil _ _ _ _,fun g hg=>(by cases hg),Q2 _ _⟩)
         go_loopw [14,15,16] (fun s14 s15 s16 wr=>∃i:Nat,i≤n∧s16= .int .i64 (i:Int)∧∃o1 c1 o2 c2,s14= .slice o1 i c1∧s15= .slice o2 i c2∧Hid (qI7 W7 i i os cs (.slice o1 i c1) (.slice o2 i c2) wr)) (fun _ _ s16 _=>n-(intOf s16).toNat)
         case atStart=>exact⟨0,Nat.zero_le _,rfl,none,0,none,0,rfl,rfl,HTW⟩
         case round=>
          clear HTW
          obtain⟨i,hi,rfl,o1,c1,o2,c2,rfl,rfl,HTW⟩:=hrel
          have HXr:=Hd (J0 HX7.out HTW.out.below)
          have HBr:=Hd (HB7.out.trans (HTW.out.below.mono HB7.out.size))
          by_cases hlt:i<n
          ·have hlt':(i:Int)<(n:Int):=by omega
           -- DEV{
           have x0:=Q0 _ _ 0 _ _ _ HXr.out
           obtain⟨b,off,hba,hbB,⟨c0,c1',c2',c3,c4,c5,c6,c7,c8,c9,c10,c11,c12,c13,c14⟩,hm⟩:=(HPA.out.below (HBr.out.mono HBW.out)).get hlt
           have hbl:b<wr.heap.size:=by have:=HBr.out.size;have:=HBW.out;omega
           subst hba
           obtain⟨x,hx⟩:∃x,ps i=x:=⟨_,rfl⟩
           have HXI:=Hd hx
           rw[hx] at c0 c1' c2' c3 c4 c5 c6 c7 c8 c9 c10 c11 c12 c13 c14
           clear hm hx
           go_upto_region 14 with(fail)
           have hb1:=J3 wr (.cells #[.int .i64 x.kind,.int .i64 x.view,.int .i64 x.z,.int .i64 x.first,.int .i64 x.pitch,.int .i64 x.strips,.int .i64 x.spill,.int .i64 x.olo,.int .i64 x.ohi,.int .i64 x.clo,.int .i64 x.chi,.int .i64 x.jitter,.int .i64 x.least,.slice x.da x.dn x.dc,.slice x.ea x.en x.ec] 50)
           have hz:=Q3 wr (.cells #[.int .i64 x.kind,.int .i64 x.view,.int .i64 x.z,.int .i64 x.first,.int .i64 x.pitch,.int .i64 x.strips,.int .i64 x.spill,.int .i64 x.olo,.int .i64 x.ohi,.int .i64 x.clo,.int .i64 x.chi,.int .i64 x.jitter,.int .i64 x.least,.slice x.da x.dn x.dc,.slice x.ea x.en x.ec] 50)
           have HB1:=Hd (HBr.out.trans (hb1.mono HBr.out.size))
           have HX1:=Hd (J0 HXr.out hb1)
           have HT1:=Hd (HTW.out.keep hb1)
           clear hb1 c0 c1' c2' c3 c4 c5 c6 c7 c8 c9 c10 c11 c12 c13 c14 x0 HXr HBr HTW
           generalize World.alloc wr _=V1 at*
           generalize wr.heap.size=xb at*
           have z7:=Q0 _ _ 7 _ _ _ hz
           have z8:=Q0 _ _ 8 _ _ _ hz
           have hzl:xb<V1.heap.size:=(J5 hz)
           obtain⟨hbc,hbs,hbj,_⟩:=SR.cells (HBN.out.row) HT1.out.below hlt
           dsimp only at hbs hbj
           have HZ:=Hd hz
           clear hz
           obtain⟨fl,hfl⟩:∃fl,-(ff i).len=fl:=⟨_,rfl⟩
           obtain⟨gl,hgl⟩:∃gl,(gg i).len=gl:=⟨_,rfl⟩
           rw[hfl] at hbs
           rw[hgl] at hbj
           have HFL:=Hd (And.intro hfl hgl)
           clear hfl hgl
           refine wp_region_any (by kernel_rfl) ?_
           change wpAny _ _ _ _ _ _ _ (World.drew V1)
           have hdb:Below V1.heap.size V1 V1.drew:=(Q2 _ V1).drew
           have HB2:=Hd (HB1.out.trans (hdb.mono HB1.out.size))
           have HX2:=Hd (J0 HX1.out hdb)
           have HT2:=Hd (HT1.out.keep hdb)
           have HZ2:=Hd (J0 HZ.out hdb)
           have hzl2:xb<V1.drew.heap.size:=Z4 hzl hdb.size
           have hbc2:bb<V1.drew.heap.size:=Z4 hbc hdb.size
           have hc:=J9 hdb
           rw[←hc.1 _ _ hzl] at z7 z8
           rw[←hc.1 _ _ hbc] at hbs hbj
           clear hdb HB1 HX1 HT1 HZ hzl hbc hc
           generalize World.drew V1=Vd at*
           refine B1 21 21 (fun w':World=>Below Vd.heap.size Vd w') (by kernel_rfl) (Q2 _ _) (fun hS=> ?_)
           refine G5 0 ?_
           refine G5 1 ?_
           refine G5 2 ?_
           refine G5 3 ?_
           refine G5 4 ?_
           refine G5 5 ?_
           refine G5 6 ?_
           refine G5 7 ?_
           refine G5 8 ?_
           refine G5 9 ?_
           refine G5 10 ?_
           refine G5 11 ?_
           refine G5 12 ?_
           refine G5 13 ?_
           refine G5 14 ?_
           refine G5 15 ?_
           refine G5 16 ?_
           refine G5 17 ?_
           refine G5 18 ?_
           refine G5 19 ?_
           refine V7 20 ?_
           refine V8 rfl (fun K hK=> ?_)
           (try simp only[hng])
           go_simp
           refine hK.out _ _ (J3 Vd _) (fun hS2=> ?_)
           clear hK K hS hS2 z7 z8 hbs hbj hbc2
           (try dsimp only[Act.put]);(try simp only[hns])
           change C0 _ _ _ _ _ _ _ _
           refine⟨by kernel_rfl,?_⟩
           simp only[X7,List.drop_zero]
           obtain⟨i0,hi0',hz0,hz1,hz2⟩:=info_parts zR8
           have HSRC:=Hd (jQ1 Vd ⟨max fl x.olo,min gl x.ohi⟩ 47)
           have hi63:i+1≤maxLen:=by unfold maxLen;omega
           have hi47:(i+1)*16≤140737488355328:=by omega
           have hba8:W7.heap.size≤(Vd.alloc (.cells #[.int .i64 (max fl x.olo),.int .i64 (min gl x.ohi)] 47)).heap.size:=by have:=HT2.out.below.size;simp;omega
           have HOSI:=Hd (show os i=⟨max fl x.olo,min gl x.ohi⟩ from by rw[HOS.out,←HFL.out.1,←HFL.out.2,←HXI.out])
           have HCSI:=Hd (show cs i=⟨x.clo,x.chi⟩ from by rw[HCS.out,←HXI.out])
           go_upto_region 15 with(at_builtin;refine wpList_append_lies _ rfl _ _ 41 rfl W7.heap.size 47 i0 _ 2 16 Tryz.underlying41 hi0' hz0 hz1 hz2 rfl (by decide) (.slice o1 i c1) i (sC os i) rfl (HT2.out.keep (J3 _ _)).o1 ⟨Vd.heap.size,0,none⟩ 1 1 (sC (fun _=>⟨max fl x.olo,min gl x.ohi⟩) 1) rfl T2 HSRC.out jI2 (by decide) hi63 hi47 hba8 _ rfl ?_;intro g8 cap8 W8 hown8 hgrow8 hat8 hlt8)
           obtain⟨ht8,hk8⟩:=qI7.first HT2.out hown8 HOSI.out hgrow8 hat8
           have HT8:=Hd ht8
           have hz8:=(hk8 xb hzl2 (B0 HT2.out.o1 HZ2.out (by decide))).trans HZ2.out
           have HX8:=Hd (J0 HX7.out ht8.below)
           have HB8:=Hd (HB7.out.trans (ht8.below.mono HB7.out.size))
           clear ht8 hk8 hown8 hgrow8 hat8 hlt8 HSRC hba8 HT2 HZ2 HX2 HB2 hzl2
           have z9:=Q0 _ _ 9 _ _ _ hz8
           have z10:=Q0 _ _ 10 _ _ _ hz8
           have HSRC:=Hd (jQ1 W8 ⟨x.clo,x.chi⟩ 47)
           have hba9:W7.heap.size≤(W8.alloc (.cells #[.int .i64 x.clo,.int .i64 x.chi] 47)).heap.size:=by have:=HT8.out.below.size;simp;omega
           go_upto_region 12 with(at_builtin;refine wpList_append_lies _ rfl _ _ 41 rfl W7.heap.size 47 i0 _ 2 16 Tryz.underlying41 hi0' hz0 hz1 hz2 rfl (by decide) (.slice o2 i c2) i (sC cs i) rfl (HT8.out.keep (J3 _ _)).o2 ⟨W8.heap.size,0,none⟩ 1 1 (sC (fun _=>⟨x.clo,x.chi⟩) 1) rfl T2 HSRC.out jI2 (by decide) hi63 hi47 hba9 _ rfl ?_;intro g9 cap9 W9 hown9 hgrow9 hat9 hlt9)
           obtain⟨ht9,hk9⟩:=qI7.first HT8.out.swap hown9 HCSI.out hgrow9 hat9
           have HT9:=Hd ht9.swap
           clear ht9 hk9 hown9 hgrow9 hat9 hlt9 z9 z10 hz8 HT8 HX8 HB8 HSRC
           go_wp2
           go_roundw
           case rel=>first|exact⟨i+1,hlt,by go_num,_,_,_,_,rfl,rfl,HT9⟩|((repeat apply Z9);exact⟨⟨i+1,hlt,by go_num,_,_,_,_,rfl,rfl,HT9⟩,rfl⟩)|((repeat apply Z9);refine⟨?_,rfl⟩;exact⟨i+1,hlt,by go_num,_,_,_,_,rfl,rfl,HT9⟩)
           case measure=>simp[intOf];omega
           -- DEV}
          ·obtain rfl:n=i:=by omega
           have hlt':¬(n:Int)<(n:Int):=by omega
           have hbd:=fun j hj=>jX6 HBN.out HO.out HA.out hn8 hm12 hH0.out HVB.out (x:=j) hj
           have hA1:∀j,j<n→(ps j).olo≤(os j).lo∧(os j).lo≤p.os j:=fun j hj=>by
            have h1:=hbd j hj
            have h2:=(HOK.out.pl j hj).off
            rw[HOS.out]
            dsimp only
            omega
           have hA2:∀j,j<n→(os j).hi≤(ps j).ohi∧p.os j≤(os j).hi:=fun j hj=>by
            have h1:=hbd j hj
            have h2:=(HOK.out.pl j hj).off
            rw[HOS.out]
            dsimp only
            omega
           have hA3:∀j,j<n→(cs j).lo=(ps j).clo∧(cs j).hi=(ps j).chi:=fun j hj=>by rw[HCS.out];exact⟨rfl,rfl⟩
           have hsp:∀(o:Option Addr) (c:Nat) (f:Nat→SV),wr.ownsRow W7.heap.size 47 2 (.slice o n c) n (sC f n)→qX6 wr.heap.size wr o n (fun j=>⟨(f j).lo,(f j).hi⟩):=fun o c f h=>by
            obtain⟨g1,hg1,_,hl1,hs1⟩:=jY7 (w:=W7) h (Q1 _) hn1
            exact⟨by unfold maxLen;omega,.inr ⟨g1,0,hg1,hl1,fun j hj=>by have:=hs1 j hj;simpa using this⟩⟩
           have HAL:=Hd (xZ4 a n c ps o1 n c1 (fun j=>⟨(os j).lo,(os j).hi⟩) o2 n c2 (fun j=>⟨(cs j).lo,(cs j).hi⟩) wr wr.heap.size (Q1 _) ((HPA.out.below (HBr.out.mono HBW.out)).up (Q5 HBW.out HBr.out.size)) (hsp _ _ _ HTW.out.o1) (hsp _ _ _ HTW.out.o2) 0 (by rw[if_pos HC.out];exact(jX2 (O:=p.os) HC.out hA1 hA2 hA3).symm))
           have HRr:=Hd (J0 HR7.out HTW.out.below)
           have HGr:=Hd (J0 HG7.out HTW.out.below)
           have HALN:=Hd (And.intro hA1 (And.intro hA2 hA3))
           clear hbd hA1 hA2 hA3 hsp HTW HBN HOS HCS HB7 HX7 HR7 HG7 HN7
           unfold L3 at HAL
           have x0:=Q0 _ _ 0 _ _ _ HXr.out
           go_upto_region 17 with(go_at_call 12;refine HAL.out.mono ?_;rintro y W8 ⟨m',qa,qc,qs,rfl,hq0,_,hb8⟩;clear x0 HAL;have HB8:=Hd (HBr.out.trans (hb8.mono HBr.out.size));have HX8:=Hd (J0 HXr.out hb8);have HR8:=Hd (J0 HRr.out hb8);have HG8:=Hd (J0 HGr.out hb8);clear hb8 HBr HXr HRr HGr)
           obtain⟨hmn,hQP,hQS⟩:=hq0 (by first|trivial|rfl)
           obtain rfl:n=m':=hmn.symm
           clear hq0
           have hal:∀j,j<n→Aln (ps j) (qs j) (p.os j):=fun j hj=>jM0 (hQS j hj) (HALN.out.2.2 j hj) (HALN.out.1 j hj) (HALN.out.2.1 j hj)
           have HOA:=Hd hoa
           have HON:=Hd hon
           clear hoa hon
           have HAN:=Hd hal
           have HQP:=Hd hQP
           clear hal hQP hQS HALN
           have hb9:=J3 W8 (.cells #[.slice qa n qc] 24)
           have HS9:=Hd (Q3 W8 (.cells #[.slice qa n qc] 24))
           have HB9:=Hd (HB8.out.trans (hb9.mono HB8.out.size))
           have HX9:=Hd (J0 HX8.out hb9)
           have HR9:=Hd (J0 HR8.out hb9)
           have HG9:=Hd (J0 HG8.out hb9)
           have HQ9:=Hd ((HQP.out.below hb9).up hb9.size)
           clear hb9 HB8 HX8 HR8 HG8 HQP
           have HCq:=Hd (zP6 HAN.out HC.out)
           have HOKq:=Hd (jM1 HAN.out HOK.out)
           have HREC:=Hd (kJ0 (view:=view) HAN.out)
           generalize World.alloc W8 _=W9 at*
           generalize W8.heap.size=tb at*
           have x0:=Q0 _ _ 0 _ _ _ HX9.out
           (obtain⟨g0,g1,g2,g3,g4,g5⟩:=cr6 HG9.out)
           have HR1:=Hd (qA5 a n c ps view p W9 B (Q5 HBW.out HB9.out.size) (HPA.out.below (HB9.out.mono HBW.out)) (HPG.out.below (HB9.out.mono HBW.out)) HC.out HOK.out)
           unfold L3 PG.val at HR1
           obtain⟨r1,hr1⟩:∃r,O6 p view ps n=r:=⟨_,rfl⟩
           obtain⟨r2,hr2⟩:∃r,O6 p view qs n=r:=⟨_,rfl⟩
           rw[hr1] at HR1
           rw[hr1,hr2] at HREC
           go_upto_region 20 with(go_at_call 13;refine HR1.out.mono ?_;rintro y W10 ⟨v1,rfl,hown1,hb10⟩;clear x0 g0 g1 g2 g3 g4 g5 HR1;have HB10:=Hd (HB9.out.trans (hb10.mono HB9.out.size));have HX10:=Hd (J0 HX9.out hb10);have HR10:=Hd (J0 HR9.out hb10);have HG10:=Hd (J0 HG9.out hb10);have HS10:=Hd (J0 HS9.out hb10);have HQ10:=Hd ((HQ9.out.below hb10).up hb10.size);have HO10:=Hd hown1;clear hown1 hb10 HB9 HX9 HR9 HG9 HS9 HQ9)
           have x0:=Q0 _ _ 0 _ _ _ HS10.out
           (obtain⟨g0,g1,g2,g3,g4,g5⟩:=cr6 HG10.out)
           have HR2:=Hd (qA5 qa n qc qs view p W10 W10.heap.size (Q1 _) HQ10.out ((HPG.out.below (HB10.out.mono HBW.out)).up (Q5 HBW.out HB10.out.size)) HCq.out HOKq.out)
           unfold L3 PG.val at HR2
           rw[hr2] at HR2
           go_upto_region 21 with(go_at_call 13;refine HR2.out.mono ?_;rintro y W11 ⟨v2,rfl,hown2,hb11⟩;clear x0 g0 g1 g2 g3 g4 g5 HR2;have HB11:=Hd (HB10.out.trans (hb11.mono HB10.out.size));have HX11:=Hd (J0 HX10.out hb11);have HR11:=Hd (J0 HR10.out hb11);have HG11:=Hd (J0 HG10.out hb11);have HS11:=Hd (J0 HS10.out hb11);have HQ11:=Hd ((HQ10.out.below hb11).up hb11.size);have HO11:=Hd (K4 HO10.out hb11);have HO2:=Hd hown2;clear hown2 hb11 HB10 HX10 HR10 HG10 HS10 HQ10 HO10)
           obtain⟨ha,hc,rfl,hcap⟩:=xC5 HO11.out
           obtain⟨hb,hd,rfl,_⟩:=xC5 HO2.out
           have hl8:r1.1.length+r1.2≤n:=by rw[←hr1];exact zE2 p view ps n
           have h21:r2.1.length=r1.1.length:=by rw[HREC.out.1]
           have h22:¬((r2.2:Int)<(r1.2:Int)):=by have:=HREC.out.2;omega
           have h22n:¬(r2.2<r1.2):=by have:=HREC.out.2;omega
           rw[h21]
           have HHT:=Hd (xC6 HO11.out (by unfold maxLen;omega)).2.2
           have HR1E:=Hd hr1
           have HR2E:=Hd hr2
           obtain⟨m1,hm1e⟩:∃m1,r1.1.length=m1:=⟨_,rfl⟩
           rw[hm1e] at HHT hl8 hcap ⊢
           have HM1:=Hd hm1e
           have HCAP:=Hd hcap
           clear hm1e hr1 hr2 hcap h21 HO2 HO11
           obtain⟨k0,k1⟩:=M7 HR11.out
           go_upto_region 24 with(fail)
           refine(jG9 need miss (r2.2:Int) ha m1 hc _).mono ?_
           rintro y W12 ⟨rfl,hb12⟩
           clear k0 k1 h22 h22n
           have HB12:=Hd (HB11.out.trans (hb12.mono HB11.out.size))
           have HX12:=Hd (J0 HX11.out hb12)
           have HR12:=Hd (J0 HR11.out hb12)
           have HG12:=Hd (J0 HG11.out hb12)
           have HS12:=Hd (J0 HS11.out hb12)
           have HQ12:=Hd ((HQ11.out.below hb12).up hb12.size)
           have HH12:=Hd ((HHT.out.below hb12).up' hb12.size)
           clear hb12 HB11 HX11 HR11 HG11 HS11 HQ11 HHT
           cases hru:kB6 need miss m1 (r2.2:Int) with
           |false=>(go_wp2_with(go_at_call 8;refine(HKN.out _).mono ?_;rintro y WK ⟨rfl,hbk⟩;have HBK:=Hd (HB12.out.trans (hbk.mono HB12.out.size));clear hbk);go_ret;exact⟨rfl,HBK.out⟩)
           |true=>
            have HRU:=Hd hru
            clear hru
            go_upto_region 26 with(fail)
            have hru2:=HRU.out
            simp only[kB6,zF0,Q8,Z8,J8] at hru2
            obtain⟨⟨hnd,hms⟩,hne,hmm,h2m⟩:=hru2
            have HRB:=Hd (And.intro hnd (And.intro hms (And.intro hne (And.intro hmm h2m))))
            clear hnd hms hne hmm h2m HRU
            have hmI:m1=(F2 p view ps n).length:=by rw[←HM1.out,←HR1E.out,qN5,List.length_map]
            have HPK:=Hd (fun k (hk:k<m1)=>show ∃j,j<n∧(r1.1.getD k hv0).plane=(j:Int)∧C7 (ps j) (r1.1.getD k hv0)=true∧C2 (ps j) (r1.1.getD k hv0)=1∧C7 (qs j) (r1.1.getD k hv0)=true∧C2 (qs j) (r1.1.getD k hv0)=1∧(Y5 (ps j) (r1.1.getD k hv0) 0).lo≤(Y5 (qs j) (r1.1.getD k hv0) 0).lo∧(Y5 (qs j) (r1.1.getD k hv0) 0).hi≤(Y5 (ps j) (r1.1.getD k hv0) 0).hi from by
             obtain⟨j,_,hj,e1,e2,e3⟩:=xO7 (view:=view) HC.out HOK.out (show k<(F2 p view ps n).length by rw[←hmI];exact hk)
             rw[HR1E.out] at e1
             have e4:=kJ1 (HAN.out j hj) (I3 HC.out hj) (HOK.out.pl j hj).kind e2
             have e5:=jL8 (p:=p) (i:=j) (HAN.out j hj) (HOK.out.pl j hj).kind
             rw[e1]
             exact⟨j,hj,rfl,e2,e3,e4.1,e4.2,e5.1,e5.2⟩)
            have HMI:=Hd hmI
            clear hmI
            go_loopw [24] (fun s24 wr=>∃k:Nat,k≤m1∧s24= .int .i64 (k:Int)∧Hid (Below W12.heap.size W12 wr)) (fun s24 _=>m1-(intOf s24).toNat)
            case atStart=>exact⟨0,Nat.zero_le _,rfl,Hd (Q2 _ _)⟩
            case round=>
             obtain⟨k,hk,rfl,HBK⟩:=hrel
             by_cases hlk:k<m1
             ·have hlk':(k:Int)<(m1:Int):=by omega
              obtain⟨j,hj,hpl,hh1,hN1,hh2,hN2,hgl,hgh⟩:=HPK.out k hlk
              have hHk:=HH12.out.below HBK.out
              obtain⟨hbk,hok,hha,hhB,c0,c1,c2,c3,c4,c5⟩:=hHk.get hlk
              (try dsimp only at c0 c1 c2 c3 c4 c5)
              generalize r1.1.getD k hv0=h at*
              have HGA:=Hd (fun W (hb:Below w.heap.size w W)=>jR5 a n c ps h j B W (Q5 HBW.out hb.size) (HPA.out.below (hb.mono HBW.out)) HC.out hj hpl hh1 hN1)
              have HGB:=Hd (fun W (hb:Below W12.heap.size W12 W)=>jR5 qa n qc qs h j W.heap.size W (Q1 _) ((HQ12.out.below hb).up hb.size) HCq.out hj hpl hh2 hN2)
              have HGL:=Hd (And.intro hgl hgh)
              generalize Y5 (ps j) h 0=ga at*
              generalize Y5 (qs j) h 0=gb at*
              clear hgl hgh hpl hh1 hN1 hh2 hN2 hHk
              unfold L3 at HGA HGB
              subst hha
              have HBr:=Hd (HB12.out.trans (HBK.out.mono HB12.out.size))
              have HXr:=Hd (J0 HX12.out HBK.out)
              have HSr:=Hd (J0 HS12.out HBK.out)
              have x0:=Q0 _ _ 0 _ _ _ HXr.out
              have lx:w.heap.size<wr.heap.size:=(J5 HXr.out)
              have lh:hbk<wr.heap.size:=Z4 hhB HBK.out.size
              go_upto_region 28 with(fail)
              refine wp_region_any (by kernel_rfl) ?_
              change wpAny _ _ _ _ _ _ _ (World.drew wr)
              have hS0:Below wr.heap.size wr wr.drew:=(Q2 _ _).drew
              generalize World.drew wr=Vd at*
              refine O3 11 (fun w'=>Below wr.heap.size wr w') hS0 (fun hS=> ?_)
              refine G4 0 ?_
              refine G4 1 ?_
              refine G4 2 ?_
              refine G4 3 ?_
              refine G4 4 ?_
              refine V7 5 ?_
              refine V8 rfl (fun K hK=> ?_);(try simp only[hng]);go_simp
              refine(HGA.out _ (HBr.out.trans (hS.mono HBr.out.size))).mono ?_
              rintro y W13 ⟨xb,xo,xc,rfl,⟨xl,a1,a2⟩,hb13⟩
              have hS2:=hS.trans (hb13.mono hS.size)
              refine hK.out _ _ hS2 (fun hS=> ?_)
              have HGx:=Hd (And.intro xl (And.intro a1 a2))
              have HK13:=Hd (HBK.out.trans (hS2.mono HBK.out.size))
              have d0:=((J9 hS2).1 _ _ lh).trans c0
              have d1:=((J9 hS2).1 _ _ lh).trans c1
              have d2:=((J9 hS2).1 _ _ lh).trans c2
              have d3:=((J9 hS2).1 _ _ lh).trans c3
              have d4:=((J9 hS2).1 _ _ lh).trans c4
              have d5:=((J9 hS2).1 _ _ lh).trans c5
              have lh2:hbk<W13.heap.size:=Z4 lh hS2.size
              clear hK K hb13 HGA x0 lx c0 c1 c2 c3 c4 c5 lh xl a1 a2
              refine hnm ?_
              refine G4 6 ?_
              refine G4 7 ?_
              refine G4 8 ?_
              refine G4 9 ?_
              refine G4 10 ?_
              change qC3 _ _ _ _ _ _
              refine⟨by kernel_rfl,?_⟩
              clear hS hS0 hS2
              have HS13:=Hd (J0 HS12.out HK13.out)
              have x0:=Q0 _ _ 0 _ _ _ HS13.out
              have lx:tb<W13.heap.size:=(J5 HS13.out)
              go_upto_region 29 with(fail)
              refine wp_region_any (by kernel_rfl) ?_
              change wpAny _ _ _ _ _ _ _ (World.drew W13)
              have hS0:Below W13.heap.size W13 W13.drew:=(Q2 _ _).drew
              generalize World.drew W13=Vd at*
              refine O3 11 (fun w'=>Below W13.heap.size W13 w') hS0 (fun hS=> ?_)
              refine G4 0 ?_
              refine G4 1 ?_
              refine G4 2 ?_
              refine G4 3 ?_
              refine G4 4 ?_
              refine V7 5 ?_
              refine V8 rfl (fun K hK=> ?_);(try simp only[hng]);go_simp
              refine(HGB.out _ (HK13.out.trans (hS.mono HK13.out.size))).mono ?_
              rintro y W14 ⟨yb,yo,yc,rfl,⟨yl,b1,b2⟩,hb14⟩
              have hS2:=hS.trans (hb14.mono hS.size)
              refine hK.out _ _ hS2 (fun hS=> ?_)
              have HGy:=Hd (And.intro yl (And.intro b1 b2))
              have HK14:=Hd (HK13.out.trans (hS2.mono HK13.out.size))
              have HGx2:=Hd (show xb<W14.heap.size∧W14.cell? ⟨xb,xo+1,none⟩=some (.int .i64 ga.lo)∧W14.cell? ⟨xb,xo+2,none⟩=some (.int .i64 ga.hi) from⟨Z4 HGx.out.1 hS2.size,((J9 hS2).1 _ _ HGx.out.1).trans HGx.out.2.1,((J9 hS2).1 _ _ HGx.out.1).trans HGx.out.2.2⟩)
              clear hK K hb14 HGB x0 lx d0 d1 d2 d3 d4 d5 lh2 yl b1 b2 HGx
              refine hnm ?_
              refine G4 6 ?_
              refine G4 7 ?_
              refine G4 8 ?_
              refine G4 9 ?_
              refine G4 10 ?_
              change qC3 _ _ _ _ _ _
              refine⟨by kernel_rfl,?_⟩
              clear hS hS0 hS2
              obtain⟨xl,a1,a2⟩:=HGx2.out
              obtain⟨yl,b1,b2⟩:=HGy.out
              have hd1:decide (gb.lo<ga.lo)=false:=Q7 (by have:=HGL.out.1;omega)
              have hd2:decide (ga.hi<gb.hi)=false:=Q7 (by have:=HGL.out.2;omega)
              go_upto_region 30 with(fail)
              (refine J4 W14.heap.size (by kernel_rfl) (by kernel_rfl) ?_;(repeat(first|go_big_quiet_step(fail)|quiet_step(fail)|(rw[hd1])|(rw[hd2])));refine X4 (wqn ?_);intro xq)
              have HK15:=Hd (HK14.out.trans (xq.below.mono HK14.out.size))
              clear xl a1 a2 yl b1 b2 HK14 HGx2 HGy
              generalize K9.val xq=W15 at*
              go_wp2
              go_roundw
              case rel=>first|exact⟨k+1,hlk,by go_num,HK15⟩|((repeat apply Z9);exact⟨⟨k+1,hlk,by go_num,HK15⟩,rfl⟩)|((repeat apply Z9);refine⟨?_,rfl⟩;exact⟨k+1,hlk,by go_num,HK15⟩)
              case measure=>simp[intOf];omega
             ·obtain rfl:m1=k:=by omega
              have hlk':¬(m1:Int)<(m1:Int):=by omega
              have HBr:=Hd (HB12.out.trans (HBK.out.mono HB12.out.size))
              have hrI:F2 p view qs n=F2 p view ps n:=xJ0 HAN.out
              have hmq:m1=(F2 p view qs n).length:=by rw[hrI];exact HMI.out
              have hget:∀k,k<m1→(r1.1.getD k hv0)=G8 p (qs ((F2 p view qs n).getD k 0)) ((F2 p view qs n).getD k 0)∧(F2 p view qs n).getD k 0<n∧C7 (qs ((F2 p view qs n).getD k 0)) (r1.1.getD k hv0)=true∧C2 (qs ((F2 p view qs n).getD k 0)) (r1.1.getD k hv0)=1:=fun k hk=>by
               obtain⟨j,e0,hj,e1,e2,e3⟩:=xO7 (view:=view) HCq.out HOKq.out (show k<(F2 p view qs n).length by rw[←hmq];exact hk)
               rw[HR2E.out,HREC.out.1] at e1
               rw[←e0,e1]
               exact⟨rfl,hj,e2,e3⟩
              have hmis:((qX9 (zC1 p view qs) n:Nat):Int)≤miss:=by
               have h1:r2.2=qX9 (zC1 p view qs) n:=by rw[←HR2E.out,qN5]
               rw[←h1]
               exact HRB.out.2.2.2.1
              have h2m:2≤m1:=by have:=HRB.out.2.2.2.2;omega
              have HFO:=Hd (xV3 qa n qc qs ha m1 hc (fun i=>r1.1.getD i hv0) (fun k=>(F2 p view qs n).getD k 0) need miss view wr.heap.size wr (Q1 _) ((HQ12.out.below HBK.out).up HBK.out.size) ((HH12.out.below HBK.out).up' HBK.out.size) HCq.out HRB.out.1 HRB.out.2.1 (by omega) (fun k hk=>by
               obtain⟨e1,e2,e3,e4⟩:=hget k hk
               exact⟨by rw[e1];rfl,e2,e3,e4⟩) p.slope p.start (zC1 p view qs) (fun ga gc=>jJ9 qa n qc qs ha m1 hc _ _ ga gc need miss view p HCq.out HOKq.out hn8 HV.out hmq (fun k hk=>rfl) (fun k hk=>(hget k hk).1) (by omega) (HCAP.out (by omega)) HRB.out.2.2.1 hmis) (fun k hk=>by have:=(hget k hk).2.1;omega) h2m HOK.out.slope)
              unfold L3 at HFO
              clear hget hmis hmq hrI
              have HSr:=J0 HS12.out HBK.out
              have HRr:=J0 HR12.out HBK.out
              have HGr:=Hd (J0 HG12.out HBK.out)
              have x0:=Q0 _ _ 0 _ _ _ HSr
              obtain⟨k0,k1⟩:=M7 HRr
              (obtain⟨g0,g1,g2,g3,g4,g5⟩:=cr6 HGr.out)
              clear HSr HRr
              go_wp2_with(first|(go_at_call 16;refine HFO.out.mono ?_;rintro y W13 ⟨rfl,hb13⟩;have HB13:=Hd (HBr.out.trans (hb13.mono HBr.out.size));clear hb13 x0 k0 k1 g0 g1 g2 g3 g4 g5 HFO)|(go_at_call 8;refine(HKN.out _).mono ?_;rintro y W14 ⟨rfl,hb14⟩;have HB14:=Hd (HB13.out.trans (hb14.mono HB13.out.size));clear hb14))
              go_ret
              exact⟨rfl,HB14.out⟩
      ·have h01:(p.os 0 !=0)=true:=by simpa using h0
       go_upto_region 2 with(fail)
       (go_wp2_with(go_at_call 8;refine(HKN.out _).mono ?_;rintro y WK ⟨rfl,hbk⟩;have HBK:=Hd (HB3.out.trans (hbk.mono HB3.out.size));clear hbk);go_ret;exact⟨rfl,HBK.out⟩)
     ·have hm1:(12:Int)<(m:Int):=by omega
      have hm2:decide (12<m)=true:=Z0 (by omega)
      go_upto_region 2 with(fail)
      (go_wp2_with(go_at_call 8;refine(HKN.out _).mono ?_;rintro y WK ⟨rfl,hbk⟩;have HBK:=Hd (HB3.out.trans (hbk.mono HB3.out.size));clear hbk);go_ret;exact⟨rfl,HBK.out⟩)
end
end Go.Proofs.YtmncaipgefbalaaGreatDoor
