/- Part of the proof of the claim. -/
import Derived.Test.YtmncaipgefbalaaGreatDoorQar
set_option maxRecDepth 100000
set_option maxHeartbeats 8000000
set_option linter.unusedVariables false
set_option linter.unusedSimpArgs false
namespace Go.Proofs.YtmncaipgefbalaaGreatDoor
section
open Go Go.RowKit Go.Shelf
theorem xP2(f:Nat)(caps:Array Value)(a:Option Addr)(n c:Nat)(t:Nat→Int)(B:Nat)(p:Nat→Bool)(w:World)(hBw:B≤w.heap.size)(hn:n≤200)(hT:D0 B w a n t)
  (eg:∀args W,(callFunc f args).run Tryz.prog W= .ok (.enter f args) W)
  (hC:∀W,Below w.heap.size w W→∀i,i<n→Calls Tryz.prog f (#[.int .i64 (t i)]++caps) W fun e w'=>e= .returned (.bool (p i))∧Below W.heap.size W w'):
  Calls Tryz.prog 171 #[.slice a n c,.func (.func f) #[] caps] w fun e w'=>e= .returned (.int .i64 (if G9 n p<n then(G9 n p:Int) else-1))∧Below w.heap.size w w':=by
 have HC:=Hd hC
 have HF:=Hd (fun i (hi:i<n) (hn:∀j,j<i→p j=false) (h:p i=true)=>show(if G9 n p<n then(G9 n p:Int) else-1)=(i:Int) from by rw[qW0 hi hn h,if_pos hi])
 have HG:=Hd (fun(hn:∀j,j<n→p j=false)=>show(if G9 n p<n then(G9 n p:Int) else-1)= -1 from by rw[T6 hn,if_neg (Nat.lt_irrefl _)])
 have HT:=Hd hT
 have HB0:=Hd (Q2 w.heap.size w)
 generalize(if G9 n p<n then(G9 n p:Int) else-1)=F at*
 clear hT hC
 go_enter Tryz.func171,Tryz.ntmps171
 go_wp2
 go_loopw [8] (fun x wr=>∃i:Nat,i≤n∧x= .int .i64 (i:Int)∧Hid (∀j,j<i→p j=false)∧Hid (Below w.heap.size w wr)) (fun x _=>n-(intOf x).toNat)
 case atStart=>exact⟨0,Nat.zero_le _,rfl,Hd (fun j hj=>by omega),HB0⟩
 case round=>
  clear HB0
  obtain⟨i,hi,rfl,HN,HB0⟩:=hrel
  by_cases hlt:i<n
  ·have hlt':(i:Int)<(n:Int):=by omega
   obtain⟨b1,off,rfl,hbB,c0⟩:=(HT.out.below (HB0.out.mono hBw)).at' hlt
   have HCi:=Hd (HC.out wr HB0.out i hlt)
   obtain⟨r,hr⟩:∃r,t i=r:=⟨_,rfl⟩
   rw[hr] at HCi c0
   clear hr
   cases hpi:p i with
   |true=>
    rw[hpi] at HCi
    have HFi:=Hd (HF.out i hlt HN.out hpi)
    clear hpi HC HF HG HN
    go_wp2_with(refine HCi.out.mono ?_;rintro e W1 ⟨rfl,hb1⟩;have HB1:=Hd (HB0.out.trans (hb1.mono HB0.out.size));clear hb1 c0)
    go_ret
    exact⟨by rw[HFi.out];rfl,HB1.out⟩
   |false=>
    rw[hpi] at HCi
    have HN2:=Hd (show ∀j,j<i+1→p j=false from fun j hj=>by
     by_cases e:j=i
     ·rw[e,hpi]
     ·exact HN.out j (by omega))
    clear hpi HC HF HG HN
    go_wp2_with(refine HCi.out.mono ?_;rintro e W1 ⟨rfl,hb1⟩;have HB1:=Hd (HB0.out.trans (hb1.mono HB0.out.size));clear hb1 c0)
    go_roundw
    case rel=>exact⟨i+1,by omega,by go_num,HN2,HB1⟩
    case measure=>simp[intOf];omega
  ·obtain rfl:i=n:=by omega
   have HGi:=Hd (HG.out HN.out)
   clear HC HF HG HN
   go_wp2
   go_ret
   exact⟨by rw[HGi.out];rfl,HB0.out⟩
theorem qP7(f:Nat)(caps:Array Value)(a:Option Addr)(n c:Nat)(t:Nat→Int)(B:Nat)(p:Nat→Bool)(w:World)(hBw:B≤w.heap.size)(hn:n≤200)(hT:D0 B w a n t)
  (eg:∀args W,(callFunc f args).run Tryz.prog W= .ok (.enter f args) W)
  (hC:∀W,Below w.heap.size w W→∀i,i<n→Calls Tryz.prog f (#[.int .i64 (t i)]++caps) W fun e w'=>e= .returned (.bool (p i))∧Below W.heap.size W w'):
  Calls Tryz.prog 149 #[.slice a n c,.func (.func f) #[] caps] w fun e w'=>e= .returned (.bool (U6 n p))∧Below w.heap.size w w':=by
 have HI:=Hd (xP2 f caps a n c t B p w hBw hn hT eg hC)
 unfold U6
 by_cases h:G9 n p<n
 ·rw[if_pos h] at HI
  have HD:=Hd (Z0 h)
  rw[HD.out]
  generalize G9 n p=k at*
  have h1:(0:Int)≤(k:Int):=by omega
  clear hC hT h HD
  go_enter Tryz.func149,Tryz.ntmps149
  go_wp2_with(go_at_call 171;refine HI.out.mono ?_;rintro e W1 ⟨rfl,hb1⟩)
  go_ret
  exact⟨rfl,hb1⟩
 ·rw[if_neg h] at HI
  have HD:=Hd (Q7 h)
  rw[HD.out]
  generalize G9 n p=k at*
  clear hC hT h HD
  go_enter Tryz.func149,Tryz.ntmps149
  go_wp2_with(go_at_call 171;refine HI.out.mono ?_;rintro e W1 ⟨rfl,hb1⟩)
  go_ret
  exact⟨rfl,hb1⟩
theorem zG9(a b c:Int)(w:World):Calls Tryz.prog 120 #[.int .i64 a,.int .i64 b,.int .i64 c] w fun e w'=>e= .returned (.bool (J1 a b c))∧w=w':=by
 by_cases h1:b≤a
 ·by_cases h2:a≤c
  ·rw[G2 h1 h2]
   go_enter Tryz.func120,Tryz.ntmps120
   go_wp2
   go_ret
   exact⟨rfl,rfl⟩
  ·rw[N9 (fun h=>h2 h.2)]
   go_enter Tryz.func120,Tryz.ntmps120
   go_wp2
   go_ret
   exact⟨rfl,rfl⟩
 ·rw[N9 (fun h=>h1 h.1)]
  go_enter Tryz.func120,Tryz.ntmps120
  go_wp2
  go_ret
  exact⟨rfl,rfl⟩
theorem kH9{a d:Int}(hd:0<d): -((-a+d-1)/d)=a/d:=by
 have h1:=Int.mul_ediv_add_emod a d
 have h2:=Int.emod_nonneg a (show d≠0 by omega)
 have h3:=Int.emod_lt_of_pos a hd
 generalize a/d=q at*
 generalize a%d=r at*
 have e: -a+d-1=(d-1-r)+d*(-q):=by rw[←h1,Int.mul_neg];omega
 rw[e,Int.add_mul_ediv_left _ _ (show d≠0 by omega),Int.ediv_eq_zero_of_lt (by omega) (by omega)]
 omega
theorem zP9(a d:Int)(w:World)(ha: -1000000000000000≤a∧a≤1000000000000000)(hd:1≤d∧d≤1000000000000000):
  Calls Tryz.prog 175 #[.agg #[.int .i64 a,.int .i64 d]] w fun e w'=>e= .returned (.int .i64 (a/d))∧Below w.heap.size w w':=by
 have HB:=Hd (J3 w (.cells #[.int .i64 a,.int .i64 d] 69))
 have HX:=Hd (Q3 w (.cells #[.int .i64 a,.int .i64 d] 69))
 have hq1: -1000000000000000≤a/d∧a/d≤1000000000000000:=by
  have h1:=Int.mul_ediv_add_emod a d
  have h2:=Int.emod_nonneg a (show d≠0 by omega)
  have h3:=Int.emod_lt_of_pos a (show 0<d by omega)
  refine⟨?_,?_⟩
  ·exact Int.le_ediv_of_mul_le (by omega) (by omega)
  ·by_cases h:0≤a
   ·exact Int.le_trans (Int.ediv_le_self _ h) ha.2
   ·have:=Int.ediv_neg_of_neg_of_pos (a:=a) (b:=d) (by omega) (by omega)
    omega
 by_cases h0:a<0
 ·have hf:=kH9 (a:=a) (d:=d) (by omega)
  have ht:(-a+d-1).tdiv d=(-a+d-1)/d:=Int.tdiv_eq_ediv_of_nonneg (by omega)
  have hdz:d≠0:=by omega
  have h0':decide (a<0)=true:=Z0 h0
  rw[←hf]
  have hq2:(-a+d-1)/d= -(a/d):=by rw[←hf];omega
  generalize hy:(-a+d-1)/d=y at*
  have hm1:IntKind.i64.wrap (-a)= -a:=Z1 _ (by omega)
  have hm2:IntKind.i64.wrap (-a+d)= -a+d:=Z1 _ (by omega)
  have hm3:IntKind.i64.wrap (-a+d-1)= -a+d-1:=Z1 _ (by omega)
  have hm4:IntKind.i64.wrap y=y:=Z1 _ (by omega)
  have hm5:IntKind.i64.wrap (-y)= -y:=Z1 _ (by omega)
  have hm6:IntKind.i64.wrap ((-a+d-1).tdiv d)=y:=by rw[ht,hm4]
  clear hf hq1 hq2
  go_enter Tryz.func175,Tryz.ntmps175
  go_upto_region 1 with(fail)
  generalize World.alloc w _=V at*
  obtain⟨k0,k1⟩:=M7 HX.out
  go_wp2
  go_ret
  exact⟨rfl,HB.out⟩
 ·have ht:a.tdiv d=a/d:=Int.tdiv_eq_ediv_of_nonneg (by omega)
  have hdz:d≠0:=by omega
  have h0':decide (a<0)=false:=Q7 h0
  generalize hy:a/d=y at*
  have hm4:IntKind.i64.wrap y=y:=Z1 _ (by omega)
  have hm6:IntKind.i64.wrap (a.tdiv d)=y:=by rw[ht,hm4]
  go_enter Tryz.func175,Tryz.ntmps175
  go_upto_region 1 with(fail)
  generalize World.alloc w _=V at*
  obtain⟨k0,k1⟩:=M7 HX.out
  go_wp2
  go_ret
  exact⟨rfl,HB.out⟩
theorem jN2(a d:Int)(w:World)(ha: -1000000000000000≤a∧a≤1000000000000000)(hd:1≤d∧d≤1000000000000000):
  Calls Tryz.prog 176 #[.agg #[.int .i64 a,.int .i64 d]] w fun e w'=>e= .returned (.int .i64 (-(-a/d)))∧Below w.heap.size w w':=by
 have HB:=Hd (J3 w (.cells #[.int .i64 a,.int .i64 d] 69))
 have HX:=Hd (Q3 w (.cells #[.int .i64 a,.int .i64 d] 69))
 have HF:=Hd (fun W=>zP9 (-a) d W (by omega) hd)
 have hq1: -1000000000000000≤-a/d∧-a/d≤1000000000000000:=by
  refine⟨?_,?_⟩
  ·exact Int.le_ediv_of_mul_le (by omega) (by omega)
  ·by_cases h:0≤-a
   ·exact Int.le_trans (Int.ediv_le_self _ h) (by omega)
   ·have:=Int.ediv_neg_of_neg_of_pos (a:= -a) (b:=d) (by omega) (by omega)
    omega
 have hm1:IntKind.i64.wrap (-a)= -a:=Z1 _ (by omega)
 generalize-a/d=y at*
 have hm5:IntKind.i64.wrap (-y)= -y:=Z1 _ (by omega)
 go_enter Tryz.func176,Tryz.ntmps176
 go_upto_region 1 with(fail)
 generalize World.alloc w _=V at*
 obtain⟨k0,k1⟩:=M7 HX.out
 go_wp2_with(go_at_call 175;refine(HF.out _).mono ?_;rintro e W1 ⟨rfl,hb1⟩;have HB1:=Hd (HB.out.trans (hb1.mono HB.out.size));clear hb1 k0 k1)
 go_ret
 exact⟨rfl,HB1.out⟩
structure TK where
 ja:Option Addr
 n:Nat
 jc:Nat
 J:Nat→Nat
 sa:Option Addr
 sc:Nat
def TK.val(x:TK)(view:Int):Value:= .agg #[.int .i64 view,.slice x.ja x.n x.jc,.slice x.sa x.n x.sc]
structure TK.At(x:TK)(N:Nat)(w:World):Prop where
 js:D0 N w x.ja x.n (fun i=>(x.J i:Int))
 ss:D0 N w x.sa x.n (fun _=>0)
theorem TK.At.below{x:TK}{N:Nat}{w w':World}(h:x.At N w)(hb:Below N w w'):x.At N w':=⟨h.js.below hb,h.ss.below hb⟩
structure TK.Ok(x:TK)(m:Nat):Prop where
 lt:∀i,i<x.n→x.J i<m
 inc:∀i k,i<k→k<x.n→x.J i<x.J k
theorem TK.Ok.le{x:TK}{m:Nat}(h:x.Ok m):x.n≤m:=by
 have h1:∀i,i<x.n→i≤x.J i:=by
  intro i
  induction i with
  |zero=>intro _;omega
  |succ i ih=>intro hi;have:=ih (by omega);have:=h.inc i (i+1) (by omega) hi;omega
 by_cases h0:x.n=0
 ·omega
 ·have:=h1 (x.n-1) (by omega)
  have:=h.lt (x.n-1) (by omega)
  omega
theorem xP5:(Tryz.prog.info? 63).map (fun i=>(i.zero,i.size,i.bytes))=some (some (.agg #[.int .i64 0,.int .i64 0,.int .i64 0]),3,24):=by kernel_rfl
def gtC(t:Nat→RW):Nat→List Value
 |0=>[]
 |i+1=>gtC t i++[.int .i64 (t i).key,.int .i64 (t i).lo,.int .i64 (t i).hi]
theorem xI0(t:Nat→RW):∀i,(gtC t i).length=i*3
 |0=>rfl
 |i+1=>by rw[gtC,Z6,xI0 t i];simp;omega
theorem xA9(t:Nat→RW):∀n i,i<n→(gtC t n)[i*3]?=some (.int .i64 (t i).key)∧(gtC t n)[i*3+1]?=some (.int .i64 (t i).lo)∧(gtC t n)[i*3+2]?=some (.int .i64 (t i).hi)
 |n+1,i,h=>by
  have hl:=xI0 t n
  rw[gtC]
  by_cases e:i<n
  ·obtain⟨h1,h2,h3⟩:=xA9 t n i e
   rw[List.getElem?_append_left (by omega),List.getElem?_append_left (by omega),List.getElem?_append_left (by omega)]
   exact⟨h1,h2,h3⟩
  ·obtain rfl:i=n:=by omega
   rw[List.getElem?_append_right (by omega),List.getElem?_append_right (by omega),List.getElem?_append_right (by omega),hl,Nat.sub_self,show i*3+1-i*3=1 by omega,show i*3+2-i*3=2 by omega]
   exact⟨rfl,rfl,rfl⟩
theorem jB0{W:World}{base:Nat}{va:Option Addr}{n vc:Nat}{t:Nat→RW}(h:W.ownsRow base 63 3 (.slice va n vc) n (gtC t n)):S5 W.heap.size W va n t∧(0<n→n≤vc∧vc≤maxLen):=by
 by_cases h0:0<n
 ·obtain⟨g,rfl,h1,h2⟩:=qJ6 h h0
  refine⟨.inr ⟨g,0,rfl,h2,fun i hi=> ?_⟩,fun _=> ?_⟩
  ·obtain⟨e0,e1,e2⟩:=xA9 t n i hi
   rw[Nat.zero_add]
   exact⟨(h.cellAt (i*3) (by omega)).trans e0,(h.cellAt (i*3+1) (by omega)).trans e1,(h.cellAt (i*3+2) (by omega)).trans e2⟩
  ·rcases h.2 with⟨hh,_⟩|⟨g',cap,cur,h5,_,_,h6,h7,_⟩
   ·cases hh
   ·injection h5 with _ _ h8
    omega
 ·exact⟨.inl (by omega),fun h=>absurd h h0⟩
theorem kK7(W:World)(x y z:Int):∀j v,([.int .i64 x,.int .i64 y,.int .i64 z]:List Value)[j]?=some v→(W.alloc (.cells #[.int .i64 x,.int .i64 y,.int .i64 z] 63)).cell? ((⟨W.heap.size,0,none⟩:Addr).add j)=some v:=by
 intro j v h
 have hr:=Q3 W (.cells #[.int .i64 x,.int .i64 y,.int .i64 z] 63)
 have:=Q0 _ _ j _ _ _ hr
 rw[List.getElem?_toArray,h] at this
 rw[←this]
 cases j with
 |zero=>rfl
 |succ j=>simp[Addr.add]
theorem qH2(e:EV)(x:TK)(view:Int)(N eb:Nat)(w:World)(hN:N≤w.heap.size)(hE:e.At N eb w)(hx:x.At N w)(hxo:x.Ok e.m)(hm8:e.m≤8):
  Calls Tryz.prog 81 #[.pointer (some ⟨eb,0,none⟩),x.val view] w fun y w'=>∃va vc,y= .returned (.slice va x.n vc)∧S5 w'.heap.size w' va x.n (fun i=>e.G (x.J i))∧(0<x.n→x.n≤vc∧vc≤maxLen)∧Below w.heap.size w w':=by
 have hb0:=J3 w (.cells #[.int .i64 view,.slice x.ja x.n x.jc,.slice x.sa x.n x.sc] 110)
 have HX:=Hd (Q3 w (.cells #[.int .i64 view,.slice x.ja x.n x.jc,.slice x.sa x.n x.sc] 110))
 have HB0:=Hd hb0
 have HE:=Hd (hE.below (hb0.mono hN))
 have HJ:=Hd (hx.js.below (hb0.mono hN))
 have HS:=Hd (hx.ss.below (hb0.mono hN))
 have HLT:=Hd hxo.lt
 have hxm:=hxo.le
 have hsz:(w.alloc (.cells #[.int .i64 view,.slice x.ja x.n x.jc,.slice x.sa x.n x.sc] 110)).heap.size=w.heap.size+1:=by simp
 unfold TK.val
 obtain⟨ja,n,jc,J,sa,sc⟩:=x
 dsimp only at*
 have HM:=Hd hm8
 have hn8:n≤8:=by omega
 clear hb0 hE hx hxo hxm hm8
 go_enter Tryz.func81,Tryz.ntmps81
 go_upto_region 1 with(fail)
 generalize World.alloc w _=V at*
 have hV:w.heap.size<V.heap.size:=by omega
 have HO:=Hd (show V.ownsRow V.heap.size 63 3 (.slice none 0 0) 0 (gtC (fun i=>e.G (J i)) 0) from⟨rfl,.inl ⟨rfl,rfl⟩⟩)
 have HZ:=Hd (Q2 V.heap.size V)
 have k1:=Q0 _ _ 1 _ _ _ HX.out
 go_wp2
 clear k1
 go_loopw [5,11] (fun s5 s11 wr=>∃i:Nat,i≤n∧s11= .int .i64 (i:Int)∧∃la lc,s5= .slice la i lc∧Hid (wr.ownsRow V.heap.size 63 3 (.slice la i lc) i (gtC (fun i=>e.G (J i)) i))∧Hid (Below V.heap.size V wr)) (fun _ s11 _=>n-(intOf s11).toNat)
 case atStart=>exact⟨0,by omega,rfl,none,0,rfl,HO,HZ⟩
 case round=>
  clear HO HZ
  obtain⟨i,hi,rfl,la,lc,rfl,HO,HZ⟩:=hrel
  by_cases hl:i<n
  ·have hl':(i:Int)<(n:Int):=by omega
   have hz:=HZ.out.size
   obtain⟨jb,jo,rfl,hjB,cj⟩:=(HJ.out.below (HZ.out.mono (by omega))).at' hl
   obtain⟨sb,so,rfl,hsB,cs⟩:=(HS.out.below (HZ.out.mono (by omega))).at' hl
   have hE2:=HE.out.below (HZ.out.mono (show N≤V.heap.size by omega))
   obtain⟨e0,e1,e2,e3,e4⟩:=hE2.cells
   have hji:=HLT.out i hl
   rcases hE2.gates with hg0|⟨gb,go,hga,hgB,hgc⟩
   ·omega
   obtain⟨xb,xo,xc,g1,g4,g5,g6,g7⟩:=hgc (J i) hji
   rw[hga] at e2
   have hebl:eb<wr.heap.size:=by have:=hE2.lt;omega
   have HCT:=Hd (show gtC (fun i=>e.G (J i)) i++[.int .i64 (e.G (J i)).key,.int .i64 (e.G (J i)).lo,.int .i64 (e.G (J i)).hi]=gtC (fun i=>e.G (J i)) (i+1) from rfl)
   have hX:=J0 HX.out HZ.out
   have hxl:=J5 hX
   have t2:=Q0 _ _ 2 _ _ _ hX
   have t1:=Q0 _ _ 1 _ _ _ hX
   have hjbl:jb<wr.heap.size:=by omega
   have hsbl:sb<wr.heap.size:=by omega
   have hgbl:gb<wr.heap.size:=by omega
   have hxbl:xb<wr.heap.size:=by omega
   have hji0:(0:Int)≤((J i:Nat):Int):=by omega
   have hjim:((J i:Nat):Int)<(e.m:Int):=by omega
   clear hX hE2 hgc hga e0 e1 e3 e4 hji g4
   generalize(e.G (J i)).key=p0 at*
   generalize(e.G (J i)).lo=p1 at*
   generalize(e.G (J i)).hi=p2 at*
   generalize J i=ji at*
   generalize e.m=em at*
   generalize e.gc=egc at*
   go_upto_region 5 with(fail)
   have hq:Below wr.heap.size wr wr.drew:=(Q2 _ wr).drew
   have HO1:=Hd (K4 HO.out hq)
   have HZ1:=Hd (HZ.out.trans (hq.mono hz))
   have S1:(fun w':World=>w'.cell? ⟨eb,2,none⟩=some (.slice (some ⟨gb,go,none⟩) em egc)∧w'.cell? ⟨gb,go+ji,none⟩=some (.slice (some ⟨xb,xo,none⟩) 1 xc)∧w'.cell? ⟨w.heap.size,2,none⟩=some (.slice (some ⟨sb,so,none⟩) n sc)∧w'.cell? ⟨sb,so+i,none⟩=some (.int .i64 0)∧w'.cell? ⟨xb,xo,none⟩=some (.int .i64 p0)∧w'.cell? ⟨xb,xo+1,none⟩=some (.int .i64 p1)∧w'.cell? ⟨xb,xo+2,none⟩=some (.int .i64 p2)) wr.drew:=⟨e2,g1,t2,cs,g5,g6,g7⟩
   have hsK:∀(w1 w2:World),Below w1.heap.size w1 w2→wr.heap.size≤w1.heap.size→(∀b o,b<wr.heap.size→w2.cell? ⟨b,o,none⟩=w1.cell? ⟨b,o,none⟩):=fun w1 w2 hb h1 b o h2=>(J9 hb).1 b o (by omega)
   refine wp_region_any (by kernel_rfl) ?_
   change wpAny _ _ _ _ _ _ _ (World.drew wr)
   have HSK:=Hd hsK
   have hwl:wr.heap.size≤wr.drew.heap.size:=Q1 _
   clear hq HO HZ hsK t1 t2 cj cs e2 g1 g5 g6 g7
   generalize World.drew wr=Vd at*
   refine B1 16 16 (fun w':World=>w'.cell? ⟨eb,2,none⟩=some (.slice (some ⟨gb,go,none⟩) em egc)∧w'.cell? ⟨gb,go+ji,none⟩=some (.slice (some ⟨xb,xo,none⟩) 1 xc)∧w'.cell? ⟨w.heap.size,2,none⟩=some (.slice (some ⟨sb,so,none⟩) n sc)∧w'.cell? ⟨sb,so+i,none⟩=some (.int .i64 0)∧w'.cell? ⟨xb,xo,none⟩=some (.int .i64 p0)∧w'.cell? ⟨xb,xo+1,none⟩=some (.int .i64 p1)∧w'.cell? ⟨xb,xo+2,none⟩=some (.int .i64 p2)) (by kernel_rfl) S1 (fun hS=> ?_)
   clear S1
   refine L9 (i:=0) (v:= ?_) rfl (by kernel_rfl) (fun _ _ _ h=>h) (Or.inl ⟨by rfl,?_⟩) (by assumption) ?_;rotate_left;(·intro w' hSw;(try dsimp only at hSw);(try obtain⟨hSw1,hSw2,hSw3,hSw4,hSw5,hSw6,hSw7⟩:=hSw);go_simp;(try with_reducible rfl));(try dsimp only[Act.put]);(try simp only[hns])
   refine L9 (i:=1) (v:= ?_) rfl (by kernel_rfl) (fun _ _ _ h=>h) (Or.inl ⟨by rfl,?_⟩) (by assumption) ?_;rotate_left;(·intro w' hSw;(try dsimp only at hSw);(try obtain⟨hSw1,hSw2,hSw3,hSw4,hSw5,hSw6,hSw7⟩:=hSw);go_simp;(try with_reducible rfl));(try dsimp only[Act.put]);(try simp only[hns])
   refine L9 (i:=2) (v:= ?_) rfl (by kernel_rfl) (fun _ _ _ h=>h) (Or.inl ⟨by rfl,?_⟩) (by assumption) ?_;rotate_left;(·intro w' hSw;(try dsimp only at hSw);(try obtain⟨hSw1,hSw2,hSw3,hSw4,hSw5,hSw6,hSw7⟩:=hSw);go_simp;(try with_reducible rfl));(try dsimp only[Act.put]);(try simp only[hns])
   refine L9 (i:=3) (v:= ?_) rfl (by kernel_rfl) (fun _ _ _ h=>h) (Or.inl ⟨by rfl,?_⟩) (by assumption) ?_;rotate_left;(·intro w' hSw;(try dsimp only at hSw);(try obtain⟨hSw1,hSw2,hSw3,hSw4,hSw5,hSw6,hSw7⟩:=hSw);go_simp;(try with_reducible rfl));(try dsimp only[Act.put]);(try simp only[hns])
   refine L9 (i:=4) (v:= ?_) rfl (by kernel_rfl) (fun _ _ _ h=>h) (Or.inl ⟨by rfl,?_⟩) (by assumption) ?_;rotate_left;(·intro w' hSw;(try dsimp only at hSw);(try obtain⟨hSw1,hSw2,hSw3,hSw4,hSw5,hSw6,hSw7⟩:=hSw);go_simp;(try with_reducible rfl));(try dsimp only[Act.put]);(try simp only[hns])
   refine L9 (i:=5) (v:= ?_) rfl (by kernel_rfl) (fun _ _ _ h=>h) (Or.inl ⟨by rfl,?_⟩) (by assumption) ?_;rotate_left;(·intro w' hSw;(try dsimp only at hSw);(try obtain⟨hSw1,hSw2,hSw3,hSw4,hSw5,hSw6,hSw7⟩:=hSw);go_simp;(try with_reducible rfl));(try dsimp only[Act.put]);(try simp only[hns])
   refine L9 (i:=6) (v:= ?_) rfl (by kernel_rfl) (fun _ _ _ h=>h) (Or.inl ⟨by rfl,?_⟩) (by assumption) ?_;rotate_left;(·intro w' hSw;(try dsimp only at hSw);(try obtain⟨hSw1,hSw2,hSw3,hSw4,hSw5,hSw6,hSw7⟩:=hSw);go_simp;(try with_reducible rfl));(try dsimp only[Act.put]);(try simp only[hns])
   refine L9 (i:=7) (v:= ?_) rfl (by kernel_rfl) (fun _ _ _ h=>h) (Or.inl ⟨by rfl,?_⟩) (by assumption) ?_;rotate_left;(·intro w' hSw;(try dsimp only at hSw);(try obtain⟨hSw1,hSw2,hSw3,hSw4,hSw5,hSw6,hSw7⟩:=hSw);go_simp;(try with_reducible rfl));(try dsimp only[Act.put]);(try simp only[hns])
   refine L9 (i:=8) (v:= ?_) rfl (by kernel_rfl) (fun _ _ _ h=>h) (Or.inl ⟨by rfl,?_⟩) (by assumption) ?_;rotate_left;(·intro w' hSw;(try dsimp only at hSw);(try obtain⟨hSw1,hSw2,hSw3,hSw4,hSw5,hSw6,hSw7⟩:=hSw);go_simp;(try with_reducible rfl));(try dsimp only[Act.put]);(try simp only[hns])
   refine L9 (i:=9) (v:= ?_) rfl (by kernel_rfl) (fun _ _ _ h=>h) (Or.inl ⟨by rfl,?_⟩) (by assumption) ?_;rotate_left;(·intro w' hSw;(try dsimp only at hSw);(try obtain⟨hSw1,hSw2,hSw3,hSw4,hSw5,hSw6,hSw7⟩:=hSw);go_simp;(try with_reducible rfl));(try dsimp only[Act.put]);(try simp only[hns])
   refine L9 (i:=10) (v:= ?_) rfl (by kernel_rfl) (fun _ _ _ h=>h) (Or.inl ⟨by rfl,?_⟩) (by assumption) ?_;rotate_left;(·intro w' hSw;(try dsimp only at hSw);(try obtain⟨hSw1,hSw2,hSw3,hSw4,hSw5,hSw6,hSw7⟩:=hSw);go_simp;(try with_reducible rfl));(try dsimp only[Act.put]);(try simp only[hns])
   refine L9 (i:=11) (v:= ?_) rfl (by kernel_rfl) (fun _ _ _ h=>h) (Or.inl ⟨by rfl,?_⟩) (by assumption) ?_;rotate_left;(·intro w' hSw;(try dsimp only at hSw);(try obtain⟨hSw1,hSw2,hSw3,hSw4,hSw5,hSw6,hSw7⟩:=hSw);go_simp;(try with_reducible rfl));(try dsimp only[Act.put]);(try simp only[hns])
   refine L9 (i:=12) (v:= ?_) rfl (by kernel_rfl) (fun _ _ _ h=>h) (Or.inl ⟨by rfl,?_⟩) (by assumption) ?_;rotate_left;(·intro w' hSw;(try dsimp only at hSw);(try obtain⟨hSw1,hSw2,hSw3,hSw4,hSw5,hSw6,hSw7⟩:=hSw);go_simp;(try with_reducible rfl));(try dsimp only[Act.put]);(try simp only[hns])
   refine L9 (i:=13) (v:= ?_) rfl (by kernel_rfl) (fun _ _ _ h=>h) (Or.inl ⟨by rfl,?_⟩) (by assumption) ?_;rotate_left;(·intro w' hSw;(try dsimp only at hSw);(try obtain⟨hSw1,hSw2,hSw3,hSw4,hSw5,hSw6,hSw7⟩:=hSw);go_simp;(try with_reducible rfl));(try dsimp only[Act.put]);(try simp only[hns])
   refine L9 (i:=14) (v:= ?_) rfl (by kernel_rfl) (fun _ _ _ h=>h) (Or.inl ⟨by rfl,?_⟩) (by assumption) ?_;rotate_left;(·intro w' hSw;(try dsimp only at hSw);(try obtain⟨hSw1,hSw2,hSw3,hSw4,hSw5,hSw6,hSw7⟩:=hSw);go_simp;(try with_reducible rfl));(try dsimp only[Act.put]);(try simp only[hns])
   refine V7 15 ?_
   refine V8 rfl (fun K hK=> ?_)
   go_simp
   have hb5:=J3 Vd (.cells #[.int .i64 p0,.int .i64 p1,.int .i64 p2] 63)
   have hS6:_∧_:=hS
   obtain⟨y1,y2,y3,y4,y5,y6,y7⟩:=hS
   refine hK.out _ _ ⟨((J9 hb5).1 _ _ (by omega)).trans y1,((J9 hb5).1 _ _ (by omega)).trans y2,((J9 hb5).1 _ _ (by omega)).trans y3,((J9 hb5).1 _ _ (by omega)).trans y4,((J9 hb5).1 _ _ (by omega)).trans y5,((J9 hb5).1 _ _ (by omega)).trans y6,((J9 hb5).1 _ _ (by omega)).trans y7⟩ (fun hS2=> ?_)
   clear hS2 hS6 y1 y2 y3 y4 y5 y6 y7 hK K HSK
   (try dsimp only[Act.put]);(try simp only[hns])
   change C0 _ _ _ _ _ _ _ _
   refine⟨by kernel_rfl,?_⟩
   simp only[X7,List.drop_zero]
   have HO2:=HO1
   have HZ2:=HZ1
   have hz2:V.heap.size≤Vd.heap.size:=by omega
   obtain⟨i0,hi0,hz0,hz1,hz22⟩:=info_parts xP5
   have hcn:i+1≤maxLen∧(i+1)*24≤140737488355328:=by unfold maxLen;omega
   at_builtin
   refine wpList_append_own _ rfl _ _ 57 rfl V.heap.size 63 i0 _ 3 24 Tryz.underlying57 hi0 hz0 hz1 hz22 rfl (by decide) _ i (gtC (fun i=>e.G (J i)) i) rfl (HO2.out.alloc _) ⟨Vd.heap.size,0,none⟩ 1 1 [.int .i64 p0,.int .i64 p1,.int .i64 p2] rfl rfl (kK7 Vd _ _ _) (jO0 _ _ _) hcn.1 hcn.2 (by simp;omega) ?_
   intro v' W4 hown4 hgrow4 _
   have hbf:=((J3 Vd (.cells #[.int .i64 p0,.int .i64 p1,.int .i64 p2] 63)).mono hz2).grown hgrow4 (by simp;omega) (fun b hb=>L7 HO2.out hb)
   obtain⟨a4,c4,hv4⟩:=Y6 hown4
   subst hv4
   rw[HCT.out] at hown4
   have HO4:=Hd hown4
   have HZ4:=Hd (HZ2.out.trans hbf)
   clear hbf hown4 hgrow4
   go_wp2
   go_roundw
   case rel=>first|exact⟨i+1,by omega,by go_num,a4,c4,rfl,HO4,HZ4⟩|((repeat apply Z9);exact⟨⟨i+1,by omega,by go_num,a4,c4,rfl,HO4,HZ4⟩,rfl⟩)
   case measure=>simp[intOf];omega
  ·obtain rfl:i=n:=by omega
   have hl':¬(i:Int)<(i:Int):=by omega
   obtain⟨hr1,hr2⟩:=jB0 HO.out
   have HF:=Hd (HB0.out.trans (HZ.out.mono (by omega)))
   clear HO HZ
   go_wp2
   go_ret
   exact⟨la,lc,rfl,hr1,hr2,HF.out⟩
end
section
open Go.RowKit
theorem xP4:(Tryz.prog.info? 95).map (fun i=>(i.zero,i.size,i.bytes))=some (some (.agg #[.int .i64 0,.int .i64 0,.int .i64 0]),3,24):=by kernel_rfl
theorem qN4:(Tryz.prog.info? 3).map (fun i=>(i.zero,i.size,i.bytes))=some (some (.int .i64 0),1,8):=by kernel_rfl
def qR4(w:World)(t:TypeId)(k n:Nat)(xs:List Value)(e:Ending)(w':World):Prop:=∃a c,e= .returned (.slice a n c)∧w'.ownsRow w.heap.size t k (.slice a n c) n xs∧Below w.heap.size w w'
theorem qZ7{W w':World}{t:TypeId}{k n c:Nat}{a:Option Addr}{xs:List Value}(h:w'.ownsRow W.heap.size t k (.slice a n c) n xs)(hb:Below W.heap.size W w'):qR4 W t k n xs (.returned (.slice a n c)) w':=⟨a,c,rfl,h,hb⟩
theorem xL6(a:Option Addr)(n c:Nat)(ds:Nat→DV)(w:World)(B:Nat)(hBw:B≤w.heap.size)(hD:R8 B w a n ds)(hn:n≤1000)(hna:a=none→n=0):
  Calls Tryz.prog 31 #[.slice a n c] w (qR4 w 95 3 n (qJ0 ds n)):=by
 have HE:=fun(W:World)=>Lib.run_eql_slice_nil (P:=Tryz.prog) (w:=W)
 cases a with
 |none=>
  obtain rfl:=hna rfl
  go_enter Tryz.func31,Tryz.ntmps31
  go_wp2
  go_ret
  exact qZ7 ⟨rfl,.inl ⟨rfl,rfl⟩⟩ (Q2 _ _)
 |some ad=>
  have hnews:∀j u,(qJ0 ds n)[j]?=some u→w.cell? (ad.add j)=some u:=by
   rcases hD with h0|⟨b,off,ha,hb,hc⟩
   ·subst h0;intro j u h;simp[qJ0,F8] at h
   ·injection ha with ha;subst ha;exact zW7 (B:=B) hc
  have hlt:∀j u,(qJ0 ds n)[j]?=some u→(w.alloc (.cells #[] 95)).cell? (ad.add j)=some u:=by
   intro j u h
   exact(X5 (Q9 w _ _ (World.block_lt_of_cell? w _ (hnews j u h)))).trans (hnews j u h)
  have HN:=Hd hlt
  clear hnews hlt hD
  obtain⟨i0,hi,hz0,hz1,hz2⟩:=info_parts xP4
  go_enter Tryz.func31,Tryz.ntmps31
  go_wp2_with(at_builtin;refine wpList_append_own _ rfl _ _ 48 rfl w.heap.size 95 i0 (.agg #[.int .i64 0,.int .i64 0,.int .i64 0]) 3 24 Tryz.underlying48 hi hz0 hz1 hz2 rfl (by decide) _ 0 [] rfl (World.ownsRow_made _ #[] 0 (Q1 _) (by decide) rfl) ad n c (qJ0 ds n) rfl (F0 (qR8 ds) n) HN.out xM3 (by unfold maxLen;omega) (by omega) (by simp) ?_;intro v' w3 hown hgrow hnil)
  have hb:Below w.heap.size w w3:=((Q2 _ _).alloc (Q1 _) _).grown hgrow (by simp) (fun k hk=>by have hk':some w.heap.size=some k:=hk;injection hk' with hk';omega)
  rw[Nat.zero_add,List.nil_append] at hown
  obtain⟨a',c',rfl⟩:=Y6 hown
  clear hgrow hnil
  go_wp2
  go_ret
  exact qZ7 hown hb
theorem qD1(a:Option Addr)(n c:Nat)(es:Nat→Int)(w:World)(B:Nat)(hBw:B≤w.heap.size)(hD:D0 B w a n es)(hn:n≤1000)(hna:a=none→n=0):
  Calls Tryz.prog 32 #[.slice a n c] w (qR4 w 3 1 n (B5 es n)):=by
 have HE:=fun(W:World)=>Lib.run_eql_slice_nil (P:=Tryz.prog) (w:=W)
 cases a with
 |none=>
  obtain rfl:=hna rfl
  go_enter Tryz.func32,Tryz.ntmps32
  go_wp2
  go_ret
  exact qZ7 ⟨rfl,.inl ⟨rfl,rfl⟩⟩ (Q2 _ _)
 |some ad=>
  have hnews:∀j u,(B5 es n)[j]?=some u→w.cell? (ad.add j)=some u:=by
   rcases hD with h0|⟨b,off,ha,hb,hc⟩
   ·subst h0;intro j u h;simp[B5,F8] at h
   ·injection ha with ha;subst ha;exact xP8 hc
  have hlt:∀j u,(B5 es n)[j]?=some u→(w.alloc (.cells #[] 3)).cell? (ad.add j)=some u:=by
   intro j u h
   exact(X5 (Q9 w _ _ (World.block_lt_of_cell? w _ (hnews j u h)))).trans (hnews j u h)
  have HN:=Hd hlt
  clear hnews hlt hD
  obtain⟨i0,hi,hz0,hz1,hz2⟩:=info_parts qN4
  go_enter Tryz.func32,Tryz.ntmps32
  go_wp2_with(at_builtin;refine wpList_append_own _ rfl _ _ 28 rfl w.heap.size 3 i0 (.int .i64 0) 1 8 Tryz.underlying28 hi hz0 hz1 hz2 rfl (by decide) _ 0 [] rfl (World.ownsRow_made _ #[] 0 (Q1 _) (by decide) rfl) ad n c (B5 es n) rfl (F0 (qS4 es) n) HN.out xN9 (by unfold maxLen;omega) (by omega) (by simp) ?_;intro v' w3 hown hgrow hnil)
  have hb:Below w.heap.size w w3:=((Q2 _ _).alloc (Q1 _) _).grown hgrow (by simp) (fun k hk=>by have hk':some w.heap.size=some k:=hk;injection hk' with hk';omega)
  rw[Nat.zero_add,List.nil_append] at hown
  obtain⟨a',c',rfl⟩:=Y6 hown
  clear hgrow hnil
  go_wp2
  go_ret
  exact qZ7 hown hb
end
section
open Go Go.RowKit
def xX2(X:Nat→Prop)(W:World)(a:Option Addr)(n c:Nat)(f:Nat→Int):Prop:=
 W.ownsRow 0 3 1 (.slice a n c) n (B5 f n)∧∀g,(Value.slice a n c).ownBlock=some g→X g
theorem zK7{W:World}{base:Nat}{e:TypeId}{k:Nat}{v:Value}{n:Nat}{xs:List Value}(h:W.ownsRow base e k v n xs){b:Nat}(hb:v.ownBlock=some b):∃cur,W.heap[b]?=some (.cells cur e (0,0)):=by
 rcases h.2 with⟨rfl,_⟩|⟨g,cap,cur,rfl,_,hg,_⟩
 ·cases hb
 ·simp only[Value.ownBlock,Option.some.injEq] at hb
  subst hb
  exact⟨cur,hg⟩
theorem xX2.ints{X:Nat→Prop}{W:World}{a:Option Addr}{n c:Nat}{f:Nat→Int}(h:xX2 X W a n c f):D0 W.heap.size W a n f:=(zD1 h.1).2
theorem xX2.keep{X X':Nat→Prop}{W W':World}{a:Option Addr}{n c:Nat}{f:Nat→Int}(h:xX2 X W a n c f)(hk:∀b cur,X b→W.heap[b]?=some (.cells cur 3 (0,0))→W'.heap[b]?=W.heap[b]?∧X' b):xX2 X' W' a n c f:=
 ⟨L5 h.1 (fun g hg=>by
  obtain⟨cur,h1⟩:=zK7 h.1 hg
  exact(hk g cur (h.2 g hg) h1).1),fun g hg=>by
  obtain⟨cur,h1⟩:=zK7 h.1 hg
  exact(hk g cur (h.2 g hg) h1).2⟩
def Tk(X:Nat→Prop)(W:World)(x:TK):Prop:=xX2 X W x.ja x.n x.jc (fun i=>(x.J i:Int))∧xX2 X W x.sa x.n x.sc (fun _=>0)
theorem Tk.at'{X:Nat→Prop}{W:World}{x:TK}(h:Tk X W x):x.At W.heap.size W:=⟨h.1.ints,h.2.ints⟩
theorem Tk.keep{X X':Nat→Prop}{W W':World}{x:TK}(h:Tk X W x)(hk:∀b cur,X b→W.heap[b]?=some (.cells cur 3 (0,0))→W'.heap[b]?=W.heap[b]?∧X' b):Tk X' W' x:=⟨h.1.keep hk,h.2.keep hk⟩
theorem zC9{w:World}{base:Nat}{e:TypeId}{k:Nat}{a:Option Addr}{n c:Nat}{xs:List Value}(h:w.ownsRow base e k (.slice a n c) n xs):n≤c∧c≤maxLen:=by
 rcases h.2 with⟨hh,h0⟩|⟨g,cap,cur,h5,_,_,h6,h7,_⟩
 ·injection hh with _ h1 h2
  subst h2
  subst h0
  exact⟨Q1 _,by unfold maxLen;omega⟩
 ·injection h5 with _ _ h8
  subst h8
  exact⟨h6,h7⟩
theorem Tk.cap{X:Nat→Prop}{W:World}{x:TK}(h:Tk X W x):(x.n≤x.jc∧x.jc≤maxLen)∧(x.n≤x.sc∧x.sc≤maxLen):=⟨zC9 h.1.1,zC9 h.2.1⟩
def trC(view:Int)(L:List TK):List Value:=L.flatMap fun x=>[.int .i64 view,.slice x.ja x.n x.jc,.slice x.sa x.n x.sc]
theorem zH2(view:Int)(L:List TK)(x:TK):trC view (L++[x])=trC view L++[.int .i64 view,.slice x.ja x.n x.jc,.slice x.sa x.n x.sc]:=by simp[trC,List.flatMap_append]
theorem jQ4(view:Int)(L:List TK):(trC view L).length=L.length*3:=by
 induction L with
 |nil=>rfl
 |cons s C ih=>
  show(trC view C).length+1+1+1=(C.length+1)*3
  omega
theorem xQ9(view:Int):∀(L:List TK) (i:Nat) (x:TK),L[i]?=some x→(trC view L)[i*3]?=some (.int .i64 view)∧(trC view L)[i*3+1]?=some (.slice x.ja x.n x.jc)∧(trC view L)[i*3+2]?=some (.slice x.sa x.n x.sc)
 |y::L,0,x,h=>by
  obtain rfl:y=x:=by simpa using h
  exact⟨rfl,rfl,rfl⟩
 |y::L,i+1,x,h=>by
  have h2:=xQ9 view L i x (by simpa using h)
  have e:trC view (y::L)=[.int .i64 view,.slice y.ja y.n y.jc,.slice y.sa y.n y.sc]++trC view L:=rfl
  rw[e,List.getElem?_append_right (by simp;omega),List.getElem?_append_right (by simp;omega),List.getElem?_append_right (by simp;omega)]
  rw[show(i+1)*3-[Value.int .i64 view,.slice y.ja y.n y.jc,.slice y.sa y.n y.sc].length=i*3 by simp;omega,show(i+1)*3+1-[Value.int .i64 view,.slice y.ja y.n y.jc,.slice y.sa y.n y.sc].length=i*3+1 by simp;omega,show(i+1)*3+2-[Value.int .i64 view,.slice y.ja y.n y.jc,.slice y.sa y.n y.sc].length=i*3+2 by simp;omega]
  exact h2
structure zJ5(view:Int)(m ob:Nat)(X:Nat→Prop)(L:List TK)(W:World):Prop where
 xo:X ob
 row:∃a c,W.heap[ob]?=some (.cells #[.slice a L.length c] 106)∧W.ownsRow 0 110 3 (.slice a L.length c) L.length (trC view L)∧∀g,(Value.slice a L.length c).ownBlock=some g→X g
 el:∀x∈L,Tk X W x
 ok:∀x∈L,x.Ok m∧1≤x.n
 cl:∀b,X b→∃o,W.heap[b]?=some o∧o.isCells=true
section
variable {view:Int}{m ob:Nat}{X:Nat→Prop}{L:List TK}{W W':World}
theorem zJ5.lt(h:zJ5 view m ob X L W){b:Nat}(hb:X b):b<W.heap.size:=by
 obtain⟨o,h1,_⟩:=h.cl b hb
 exact(J5 h1)
theorem zJ5.keep(h:zJ5 view m ob X L W)(hk:∀b,X b→W'.heap[b]?=W.heap[b]?):zJ5 view m ob X L W':=by
 obtain⟨xo,⟨a,c,h1,h2,h3⟩,el,ok,cl⟩:=h
 exact⟨xo,⟨a,c,(hk _ xo).trans h1,L5 h2 (fun g hg=>hk g (h3 g hg)),h3⟩,fun x hx=>(el x hx).keep (fun b cur hb _=>⟨hk b hb,hb⟩),ok,fun b hb=>by
  obtain⟨o,h1,h2⟩:=cl b hb
  exact⟨o,(hk b hb).trans h1,h2⟩⟩
theorem M6.after{N:Nat}{X X' X'':Nat→Prop}{A B C:World}(h:M6 N X A B X')(k:M6 N X' B C X''):M6 N X A C X'':=
 ⟨k.os.trans h.os,k.tape.trans h.tape,k.output.trans h.output,Q5 h.size k.size,fun b hb hx=>(k.block b (Z4 hb h.size) (fun h2=>(h.new b h2).elim hx (fun h3=>by omega))).trans (h.block b hb hx),fun b hb=>by
  rcases k.new b hb with h1|h1
  ·exact h.new b h1
  ·have:=h.size
   exact .inr (by omega),k.cells⟩
theorem M6.weak{N N':Nat}{X X':Nat→Prop}{A B:World}(h:M6 N X A B X')(hN:N≤N'):M6 N' X A B X':=
 ⟨h.os,h.tape,h.output,h.size,h.block,h.new,fun b hb=>by
  obtain⟨o,h1,h2⟩:=h.cells b hb
  exact⟨o,h1,h2.elim .inl (fun h3=> .inr (by omega))⟩⟩
theorem zJ5.push{W4 W7:World}{x:TK}{tmp:Obj}{a:Option Addr}{c:Nat}{v':Value}(h:zJ5 view m ob X L W)(hbox:W.heap[ob]?=some (.cells #[.slice a L.length c] 106))(hown:W.ownsRow 0 110 3 (.slice a L.length c) L.length (trC view L))(hmine:∀g,(Value.slice a L.length c).ownBlock=some g→X g)
  (hb4:Below W.heap.size W W4) (hx:Tk (fun b=>W.heap.size≤b) W4 x) (hxo:x.Ok m∧1≤x.n)
  (h7:W7.ownsRow 0 110 3 v' (L.length+1) (trC view L++[.int .i64 view,.slice x.ja x.n x.jc,.slice x.sa x.n x.sc])) (hg7:(W4.alloc tmp).grownBy W7 (Value.slice a L.length c).ownBlock) (hat:v'.ownBlock=(Value.slice a L.length c).ownBlock∨v'.ownBlock=some (W4.alloc tmp).heap.size):
  ∃X',M6 0 X W (W7.setCell ⟨ob,0,none⟩ v') X'∧zJ5 view m ob X' (L++[x]) (W7.setCell ⟨ob,0,none⟩ v')∧(∀y,Tk X W y→Tk X' (W7.setCell ⟨ob,0,none⟩ v') y)∧Tk X' (W7.setCell ⟨ob,0,none⟩ v') x:=by
 have l5:(W4.alloc tmp).heap.size=W4.heap.size+1:=by simp
 have s4:=hb4.size
 have s7:=hg7.size
 have hXl:∀b,X b→b<W.heap.size:=fun b hb=>h.lt hb
 have nob:=B0 hown hbox (by decide)
 have hown4:W4.ownsRow 0 110 3 (.slice a L.length c) L.length (trC view L):=K4 hown hb4
 generalize(Value.slice a L.length c)=v at*
 have hkeep:∀b,b<W4.heap.size→v.ownBlock≠some b→W7.heap[b]?=W4.heap[b]? :=fun b hb h2=>
  (hg7.block b (by omega) (fun e=>h2 e.symm)).trans ((J3 W4 tmp).block b hb)
 have hob7:=((hkeep ob (by have:=hXl ob h.xo;omega) nob).trans (hb4.block ob (hXl ob h.xo))).trans hbox
 have nob':=B0 h7 hob7 (by decide)
 have hset:∀b,b≠ob→(W7.setCell ⟨ob,0,none⟩ v').heap[b]?=W7.heap[b]? :=fun b hb=>Q6 W7 ⟨ob,0,none⟩ b v' hb
 have own8:(W7.setCell ⟨ob,0,none⟩ v').ownsRow 0 110 3 v' (L.length+1) (trC view L++[.int .i64 view,.slice x.ja x.n x.jc,.slice x.sa x.n x.sc]):=L5 h7 (fun g hg=>hset g (fun e=>nob' (by rw[hg,e])))
 have set8:(W7.setCell ⟨ob,0,none⟩ v').heap[ob]?=some (.cells #[v'] 106):=by
  have:=Q4 W7 ob 0 _ _ v' hob7
  simpa using this
 -- a row of numbers behind the calls
 have hints:∀b cur,b<W4.heap.size→W4.heap[b]?=some (.cells cur 3 (0,0))→v.ownBlock≠some b∧(W7.setCell ⟨ob,0,none⟩ v').heap[b]?=W4.heap[b]? :=fun b cur hb hc=>by
  have h1:=B0 hown4 hc (by decide)
  refine⟨h1,(hset b (fun e=> ?_)).trans (hkeep b hb h1)⟩
  subst e
  rw[(hb4.block b (hXl b h.xo)).trans hbox] at hc
  injection hc with hc
  injection hc with _ hc _
  exact absurd hc (by decide)
 have hrowx:∀{a c} {f:Nat→Int},xX2 (fun b=>W.heap.size≤b) W4 a x.n c f→∀g,(Value.slice a x.n c).ownBlock=some g→W.heap.size≤g∧g<W4.heap.size∧∃cur,W4.heap[g]?=some (.cells cur 3 (0,0)):=fun hr g hg=>by
  obtain⟨cur,hc⟩:=zK7 hr.1 hg
  exact⟨hr.2 g hg,(J5 hc),cur,hc⟩
 have hkX:∀b cur,X b→W.heap[b]?=some (.cells cur 3 (0,0))→(W7.setCell ⟨ob,0,none⟩ v').heap[b]?=W.heap[b]?∧v.ownBlock≠some b:=fun b cur hb hc=>by
  have e:=hb4.block b (hXl b hb)
  obtain⟨h1,h2⟩:=hints b cur (by have:=hXl b hb;omega) (e.trans hc)
  exact⟨h2.trans e,h1⟩
 have hX':∀y,Tk X W y→Tk (fun b=>(X b∧v.ownBlock≠some b)∨v'.ownBlock=some b∨(Value.slice x.ja x.n x.jc).ownBlock=some b∨(Value.slice x.sa x.n x.sc).ownBlock=some b) (W7.setCell ⟨ob,0,none⟩ v') y:=fun y hy=>hy.keep (fun b cur hb hc=>⟨(hkX b cur hb hc).1,.inl ⟨hb,(hkX b cur hb hc).2⟩⟩)
 have hxx:Tk (fun b=>(X b∧v.ownBlock≠some b)∨v'.ownBlock=some b∨(Value.slice x.ja x.n x.jc).ownBlock=some b∨(Value.slice x.sa x.n x.sc).ownBlock=some b) (W7.setCell ⟨ob,0,none⟩ v') x:=by
  refine⟨⟨L5 hx.1.1 (fun g hg=> ?_),fun g hg=> .inr (.inr (.inl hg))⟩,⟨L5 hx.2.1 (fun g hg=> ?_),fun g hg=> .inr (.inr (.inr hg))⟩⟩
  ·obtain⟨_,h2,cur,h3⟩:=hrowx hx.1 g hg
   exact(hints g cur h2 h3).2
  ·obtain⟨_,h2,cur,h3⟩:=hrowx hx.2 g hg
   exact(hints g cur h2 h3).2
 have hcells:∀b,((X b∧v.ownBlock≠some b)∨v'.ownBlock=some b∨(Value.slice x.ja x.n x.jc).ownBlock=some b∨(Value.slice x.sa x.n x.sc).ownBlock=some b)→∃o,(W7.setCell ⟨ob,0,none⟩ v').heap[b]?=some o∧o.isCells=true:=by
  intro b hb
  by_cases e:b=ob
  ·subst e
   exact⟨_,set8,rfl⟩
  ·rcases hb with⟨hb,hv⟩|hb|hb|hb
   ·obtain⟨o,h1,h2⟩:=h.cl b hb
    exact⟨o,(hset b e).trans ((hkeep b (by have:=hXl b hb;omega) hv).trans ((hb4.block b (hXl b hb)).trans h1)),h2⟩
   ·obtain⟨cur,h1⟩:=zK7 h7 hb
    exact⟨_,(hset b e).trans h1,rfl⟩
   ·obtain⟨_,h2,cur,h3⟩:=hrowx hx.1 b hb
    exact⟨_,(hints b cur h2 h3).2.trans h3,rfl⟩
   ·obtain⟨_,h2,cur,h3⟩:=hrowx hx.2 b hb
    exact⟨_,(hints b cur h2 h3).2.trans h3,rfl⟩
 refine⟨_,⟨hg7.os.trans hb4.os,hg7.tape.trans hb4.tape,hg7.output.trans hb4.output,by simp[World.setCell];omega,fun b hb hn=> ?_,fun b hb=> ?_,fun b hb=> ?_⟩,⟨.inl ⟨h.xo,nob⟩,?_,?_,?_,hcells⟩,hX',hxx⟩
 ·rw[hset b (fun e=>hn (by rw[e];exact h.xo)),hkeep b (by omega) (fun e=>hn (hmine b e))]
  exact hb4.block b hb
 ·rcases hb with hb|hb|hb|hb
  ·exact .inl hb.1
  ·rcases hat with e|e
   ·exact .inl (hmine b (by rw[←e];exact hb))
   ·right
    rw[e] at hb
    injection hb with hb
    omega
  ·exact .inr (hrowx hx.1 b hb).1
  ·exact .inr (hrowx hx.2 b hb).1
 ·obtain⟨o,h1,h2⟩:=hcells b hb
  exact⟨o,h1,.inl h2⟩
 ·obtain⟨a',c',rfl⟩:=Y6 h7
  refine⟨a',c',?_,?_,fun g hg=> ?_⟩
  ·rw[Z6]
   exact set8
  ·rw[zH2,Z6]
   exact own8
  ·rw[Z6] at hg
   exact .inr (.inl hg)
 ·intro y hy
  rcases List.mem_append.1 hy with hy|hy
  ·exact hX' y (h.el y hy)
  ·obtain rfl:y=x:=by simpa using hy
   exact hxx
 ·intro y hy
  rcases List.mem_append.1 hy with hy|hy
  ·exact h.ok y hy
  ·obtain rfl:y=x:=by simpa using hy
   exact hxo
end
end
section
open Go Go.RowKit
section
variable {P:Program}{ops:Array Oper}{md:Region.Mode}{Q:Exit→Act→World→Prop}
theorem jK1{n:Nat}{L:Array Bool→Act→World→Prop}(S:World→Prop)(G:Array Bool→(Nat→Value)→World→Prop){I:List Nat}{listed:Array Bool}{a:Act}{w:World}
  (hB:jP9 md ops n I listed=true) (hin:∀l,HeadInv md ops n l→(∀i,listed.getD i true=true→l.getD i true=true)→(∃i,i<n∧l.getD i true=false)→∀j∈Region.ready md ops l,j<n)
  (h0:G listed (jU6 ops a) w) (hGS:∀l x w,G l x w→S w)
  (hop:∀i∈I,∀(l:Array Bool) (x:Nat→Value) (w:World),G l x w→l.getD i true=false→i<l.size→(∀j,Region.waitsFor md ops i j=true→l.getD j true=true)→wpOp P ops Q i (fun a' w'=>∃v,a'=(D8 ops x I a).put (qV6 ops i) v∧G (l.setIfInBounds i true) (upd x i v) w') (D8 ops x I a) w)
  (hend:∀(x:Nat→Value) (w:World),G (T3 I listed) x w→L (T3 I listed) (D8 ops x I a) w):M5 P md ops Q S n L I.length listed a w:=by
 unfold jP9 at hB
 simp only[Q8,Z8,List.all_eq_true,List.mem_range,Bool.or_eq_true,Bool.not_eq_true',List.contains_eq_mem,decide_eq_false_iff_not] at hB
 obtain⟨⟨⟨⟨⟨h1,h2⟩,h3⟩,h4⟩,h5⟩,h6⟩:=hB
 have hinv:=qS1 h1
 have hpw:I.Pairwise (fun a b=>jE5 ops a b∧jE5 ops b a):=by
  refine List.Pairwise.imp_of_mem ?_ h4
  intro i j hi hj hne
  refine⟨fun e=> ?_,fun e=> ?_⟩
  ·rcases h5 i hi j hj with(h|h)|h
   ·exact absurd h hne
   ·exact absurd e h
   ·exact h
  ·rcases h5 j hj i hi with(h|h)|h
   ·exact absurd h.symm hne
   ·exact absurd e h
   ·exact h
 have key:∀(f:Nat) (l:Array Bool) (x:Nat→Value) (w:World),qU5 I l=f→HeadInv md ops n l→(∀k,k∉I→l.getD k true=listed.getD k true)→G l x w→M5 P md ops Q S n L f l (D8 ops x I a) w:=by
  intro f
  induction f with
  |zero=>
   intro l x w hc inv ho hg
   have hall:=xK1 hc
   have:l=T3 I listed:=by
    apply Array.ext
    ·rw[zX8,inv.size,hinv.size]
    ·intro k hk1 hk2
     have e1:l.getD k true=l[k]:=by simp[hk1]
     have e2:(T3 I listed).getD k true=(T3 I listed)[k]:=by simp[hk2]
     rw[←e1,←e2]
     by_cases hk:k∈I
     ·rw[hall k hk,zT1 (.inr hk)]
     ·rw[ho k hk,zF1 hk]
   subst this
   exact hend x w hg
  |succ f ih=>
   intro l x w hc inv ho hg
   have hmono:∀i,listed.getD i true=true→l.getD i true=true:=fun i hi=>by
    by_cases hk:i∈I
    ·have:=(h3 i hk).2;rw[hi] at this;cases this
    ·rw[ho i hk,hi]
   have hlow:∀i,i<n→l.getD i true=false→i∈I:=fun i hi hu=>by
    rcases h2 i hi with h|h
    ·rw[hmono i h] at hu;cases hu
    ·exact h
   have hun:∃i,i<n∧l.getD i true=false:=by
    false_or_by_contra
    rename_i hno
    have:qU5 I l=0:=by
     unfold qU5
     rw[List.length_eq_zero_iff,List.filter_eq_nil_iff]
     intro i hi
     have:=(h3 i hi).1
     cases e:l.getD i true
     ·exact absurd ⟨i,this,e⟩ hno
     ·simp
    omega
   have hmin:∃i,i<n∧l.getD i true=false∧∀j,j<i→l.getD j true=true:=by
    obtain⟨i,hi,hu⟩:=hun
    induction i using Nat.strongRecOn with
    |_ i ihi=>
     by_cases h:∃j,j<i∧l.getD j true=false
     ·obtain⟨j,hj,hu2⟩:=h
      exact ihi j hj (by omega) hu2
     ·exact⟨i,hi,hu,fun j hj=>by
       cases e:l.getD j true
       ·exact absurd ⟨j,hj,e⟩ h
       ·rfl⟩
   have hne:Region.ready md ops l≠[]:=by
    obtain⟨i,hi,hu,hlt⟩:=hmin
    have hs:i<ops.size:=by
     false_or_by_contra
     rw[show l.getD i true=true from by simp[Array.getElem?_eq_none (show l.size≤i by have:=inv.size;omega)]] at hu
     cases hu
    have:i∈Region.ready md ops l:=mem_ready.2 ⟨hu,ops[i],by simp[hs],fun e he hb=>by
     have h7:=h6 i hi
     rw[Array.getElem?_eq_getElem hs] at h7
     simp only[Option.map_some,Option.getD_some,Array.all_eq_true',Bool.or_eq_true,Bool.not_eq_true',Z8] at h7
     have h8:e.on<i:=by
      rcases h7 e he with h8|h8
      ·rw[hb] at h8;cases h8
      ·exact h8
     have h9:=hlt e.on h8
     have h10:e.on<l.size:=by have:=inv.size;omega
     simpa [h10] using h9⟩
    intro e
    rw[e] at this
    cases this
   refine⟨hne,fun i hi=> ?_⟩
   have hin1:=hin l inv hmono hun i hi
   have hiI:=hlow i hin1 (mem_ready.1 hi).1
   have hsz:i<l.size:=by
    obtain⟨_,o,ho',_⟩:=mem_ready.1 hi
    have:=(Array.getElem?_eq_some_iff.1 ho').1
    have:=inv.size
    omega
   refine⟨hin1,wpOp_mono ?_ (hop i hiI l x w hg (mem_ready.1 hi).1 hsz fun j hj=> ?_)⟩
   ·rintro a' w' ⟨v,rfl,hGi⟩
    refine⟨hGS _ _ _ hGi,?_⟩
    rw[zE0 h4 hpw hiI]
    refine ih _ _ _ ?_ (inv.set hi hin1) ?_ hGi
    ·have:=xA3 hsz (mem_ready.1 hi).1 h4 hiI
     omega
    ·intro k hk
     have:i≠k:=fun e=>hk (e▸hiI)
     rw[getD_set_ne true this]
     exact ho k hk
   ·obtain⟨oj,hoj,e,he,hb,hon⟩:=Region.waitsFor_spec hj
    obtain⟨_,o,ho',hall⟩:=mem_ready.1 hi
    obtain rfl:oj=o:=Option.some.inj (hoj.symm.trans ho')
    have h7:=hall e he hb
    rw[hon] at h7
    cases e2:l.getD j true
    ·rw[getD_both e2] at h7;cases h7
    ·rfl
 have hc:qU5 I listed=I.length:=by
  unfold qU5
  rw[List.filter_eq_self.2]
  intro i hi
  rw[(h3 i hi).2]
  rfl
 have:=key I.length listed (jU6 ops a) w hc hinv (fun _ _=>rfl) h0
 rwa [zD8] at this
def qF5(P:Program)(ops:Array Oper)(Q:Exit→Act→World→Prop)(G:Array Bool→(Nat→Value)→World→Prop)(l:Array Bool)(x:Nat→Value)(A:Act)(w:World)(i:Nat)(d:Option Tmp):Prop:=
 wpOp P ops Q i (fun a' w'=>∃v,a'=A.put d v∧G (l.setIfInBounds i true) (upd x i v) w') A w
theorem qF5.intro{G:Array Bool→(Nat→Value)→World→Prop}{l:Array Bool}{x:Nat→Value}{A:Act}{w:World}{i:Nat}{d:Option Tmp}{o:Oper}(ho:ops[i]?=some o)
  (h:∀K:Act→World→Prop,Shut (∀v w',G (l.setIfInBounds i true) (upd x i v) w'→K (A.put d v) w')→if Region.wanted o (yielded ops A.tmps)=true then o.wp P A w K Q else K (A.put o.dst undef) w):qF5 P ops Q G l x A w i d:=
 wpOp_step ho fun K hK=>h K fun v w' h1=>hK _ _ ⟨v,rfl,h1⟩
theorem xN6{l:List Oper}{n:Nat}(S:World→Prop)(G:Array Bool→(Nat→Value)→World→Prop)(J:List (Nat×Option Tmp)){listed:Array Bool}{a:Act}{w:World}
  (hB:(decide (n<l.toArray.size)&&jQ2 md l.toArray n listed&&Region.chainB md l.toArray n&&jP9 md l.toArray n (J.map (·.1)) listed&&J.all (fun p=>decide (qV6 l.toArray p.1=p.2)))=true)
  (h0:G listed (jU6 l.toArray a) w) (hGS:∀l x w,G l x w→S w)
  (hop:∀p∈J,∀(lt:Array Bool) (x:Nat→Value) (w:World),G lt x w→lt.getD p.1 true=false→p.1<lt.size→(∀j,Region.waitsFor md l.toArray p.1 j=true→lt.getD j true=true)→∀A,A=zM9 x J a→qF5 P l.toArray Q G lt x A w p.1 p.2)
  (hend:∀(x:Nat→Value) (w:World),G (T3 (J.map (·.1)) listed) x w→C0 P md l Q n (T3 (J.map (·.1)) listed) (zM9 x J a) w):M5 P md l.toArray Q S n (C0 P md l Q n) J.length listed a w:=by
 simp only[Q8,Z8] at hB
 obtain⟨⟨⟨⟨h1,h2⟩,h3⟩,h4⟩,h5⟩:=hB
 have hlen:J.length=(J.map (·.1)).length:=by simp
 rw[hlen]
 refine jK1 S G h4 (fun l' inv hm hu j hj=> ?_) h0 hGS (fun i hi lt x w hg hl hs hw=> ?_) (fun x w hg=> ?_)
 ·obtain⟨i,hi,hl⟩:=hu
  rcases Nat.lt_or_ge j n with h|h
  ·exact h
  ·have sk:xX3 md l.toArray n l':=fun k hk hl'=>by
    refine jQ3 h2 k hk ?_
    cases e:listed.getD k true
    ·rfl
    ·rw[hm k e] at hl';cases hl'
   exact absurd hj (zB9 sk h3 h1 inv _ i rfl hi hl j h)
 ·obtain⟨p,hp,rfl⟩:=List.mem_map.1 hi
  have hd2:=List.all_eq_true.1 h5 p hp
  simp only[Z8] at hd2
  rw[zO4 h5,hd2]
  exact hop p hp lt x w hg hl hs hw _ rfl
 ·rw[zO4 h5]
  exact hend x w hg
end
end
end Go.Proofs.YtmncaipgefbalaaGreatDoor
