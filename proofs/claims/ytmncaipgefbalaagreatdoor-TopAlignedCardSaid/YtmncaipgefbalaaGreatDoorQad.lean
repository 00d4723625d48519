/- Part of the proof of the claim. -/
import Derived.Test.YtmncaipgefbalaaGreatDoorQac
set_option maxRecDepth 100000
set_option maxHeartbeats 8000000
set_option linter.unusedVariables false
set_option linter.unusedSimpArgs false
namespace Go.Proofs.YtmncaipgefbalaaGreatDoor
section
open Go.ChangeShapes Go.WideShapes Go.ChangeAt Go.RowKit Go.Deep Go.Joins
instance:Nonempty TI:=⟨⟨0,0,0,0⟩⟩
section
variable {H:Type}{enc:TypeId×Value→H}{w:World}{base:Nat}{held:Bool}
theorem xR9{r:Reach}{b0:Nat}{v:Value}{d:DataW H}{p:List MemPlace}(hv:Value.okWide Tryz.prog w r b0 26 v)(h:DataW.Trod enc Tryz.prog w base (fun _=>true) held 26 v d p):∃x y:Int,v= .agg #[.int .i64 x,.int .i64 y]:=by
 obtain⟨cs,rfl,hsz⟩:=okWide_struct Tryz.underlying26 hv
 have hsz1:cs.size=2:=hsz.trans (by kernel_rfl)
 obtain⟨fuel,hf⟩:=h
 obtain⟨y0,y1,m,_,_,h0,h1⟩:=trod_struct2 Tryz.underlying26 hf
 obtain⟨u,hu⟩:=Y8 Tryz.underlying3 h0 rfl
 obtain⟨v,hv⟩:=Y8 Tryz.underlying3 h1 rfl
 obtain⟨l⟩:=cs
 match l,hsz1 with
 |[c0,c1],_=>
  simp[Value.cells] at hu hv
  subst hu;subst hv
  exact⟨u,v,rfl⟩
theorem kN2{n:Nat}{cs:List Value}{x:DataW H×List MemPlace}(h:DataW.trod enc Tryz.prog w base (fun _=>true) held n 83 cs=some x):
  ∃t:TI,cs[0]?=some (.int .i64 t.frm)∧cs[1]?=some (.int .i64 t.tow)∧cs[2]?=some (.int .i64 t.lo)∧cs[3]?=some (.int .i64 t.hi):=by
 obtain⟨xs,m,_,_,_,hxl,hf⟩:=DataW.trod_struct Tryz.underlying83 h
 have hx:∀i,i<4→∃z,xs[i]?=some z:=fun i hi=>⟨_,Z5 (by rw[hxl];exact hi)⟩
 obtain⟨z0,e0⟩:=hx 0 (by decide)
 obtain⟨z1,e1⟩:=hx 1 (by decide)
 obtain⟨z2,e2⟩:=hx 2 (by decide)
 obtain⟨z3,e3⟩:=hx 3 (by decide)
 obtain⟨f0,k0⟩:=Y8 Tryz.underlying3 (hf 0 _ rfl) e0
 obtain⟨f1,k1⟩:=Y8 Tryz.underlying3 (hf 1 _ rfl) e1
 obtain⟨f2,k2⟩:=Y8 Tryz.underlying3 (hf 2 _ rfl) e2
 obtain⟨f3,k3⟩:=Y8 Tryz.underlying3 (hf 3 _ rfl) e3
 exact⟨⟨f0,f1,f2,f3⟩,k0,k1,k2,k3⟩
theorem jY5{r:Reach}{b0:Nat}{v:Value}{d:DataW H}{p:List MemPlace}(hv:Value.okWide Tryz.prog w r b0 32 v)(h:DataW.Trod enc Tryz.prog w base (fun _=>true) held 32 v d p):
  ∃(a:Option Addr) (n c:Nat) (ts:Nat→TI),v= .slice a n c∧qT5 w.heap.size w a n ts:=by
 obtain⟨a0,len0,cap0,rfl⟩:=okWide_slice Tryz.underlying32 hv
 obtain⟨fuel,hf⟩:=h
 have hf':DataW.trod enc Tryz.prog w base (fun _=>true) held fuel 32 ((([Value.slice a0 len0 cap0]:List Value).drop 0).take 1)=some (d,p):=hf
 obtain⟨a,len,cap,hcs,hl,_,_,hr⟩:=qA7 (k:=4) Tryz.underlying32 (by kernel_rfl) (by decide) hf' rfl
 have e:Value.slice a0 len0 cap0= .slice a len cap:=by simpa using hcs
 rcases hr with h0|⟨b,off,ha,hb,hi⟩
 ·exact⟨a,len,cap,fun _=>⟨0,0,0,0⟩,e,.inl h0⟩
 ·obtain⟨ts,hts⟩:=O4 (α:=TI) (n:=len) (Q:=fun i t=>w.cell? ⟨b,off+i*4,none⟩=some (.int .i64 t.frm)∧w.cell? ⟨b,off+i*4+1,none⟩=some (.int .i64 t.tow)∧w.cell? ⟨b,off+i*4+2,none⟩=some (.int .i64 t.lo)∧w.cell? ⟨b,off+i*4+3,none⟩=some (.int .i64 t.hi)) (fun i hil=>by
   obtain⟨cs',m,x,hl',hat,ht⟩:=hi i hil
   obtain⟨q,k0,k1,k2,k3⟩:=kN2 ht
   exact⟨q,(hat 0 (by decide)).trans k0,(hat 1 (by decide)).trans k1,(hat 2 (by decide)).trans k2,(hat 3 (by decide)).trans k3⟩)
  exact⟨a,len,cap,ts,e,.inr ⟨b,off,ha,hb,hts⟩⟩
theorem jM9{n o c:Nat}{cs:List Value}{y:Option (DataW H×List MemPlace)}{z:DataW H×List MemPlace}(h:DataW.trod enc Tryz.prog w base (fun _=>true) held n 29 ((cs.drop o).take c)=y)(hy:y=some z):
  ∃(a:Option Addr) (len cap:Nat) (es:Nat→Bool),cs[o]?=some (.slice a len cap)∧zV2 w.heap.size w a len es:=by
 obtain⟨a,len,cap,hcs,hl,_,_,hr⟩:=qA7 (k:=1) Tryz.underlying29 (by kernel_rfl) (by decide) h hy
 rcases hr with h0|⟨b,off,ha,hb,hi⟩
 ·exact⟨a,len,cap,fun _=>false,hcs,.inl h0⟩
 ·obtain⟨es,hes⟩:=O4 (α:=Bool) (n:=len) (Q:=fun i e=>w.cell? ⟨b,off+i,none⟩=some (.bool e)) (fun i hil=>by
   obtain⟨cs',m,x,hl',hat,ht⟩:=hi i hil
   obtain⟨e,he,_⟩:=DataW.trod_bool Tryz.underlying4 ht
   have:=hat 0 (by decide)
   rw[he] at this
   exact⟨e,by simpa using this⟩)
  exact⟨a,len,cap,es,hcs,.inr ⟨b,off,ha,hb,hes⟩⟩
theorem zI4{r:Reach}{b0:Nat}{v:Value}{d:DataW H}{p:List MemPlace}(hv:Value.okWide Tryz.prog w r b0 31 v)(h:DataW.Trod enc Tryz.prog w base (fun _=>true) held 31 v d p):∃q:PG,v=q.val∧q.mem w.heap.size w:=by
 obtain⟨cs,rfl,hsz⟩:=okWide_struct Tryz.underlying31 hv
 have hsz1:cs.size=6:=hsz.trans (by kernel_rfl)
 obtain⟨fuel,hf⟩:=h
 obtain⟨xs,m,_,_,_,hxl,hff⟩:=DataW.trod_struct Tryz.underlying31 hf
 have hx:∀i,i<6→∃z,xs[i]?=some z:=fun i hi=>⟨_,Z5 (by rw[hxl];exact hi)⟩
 obtain⟨z0,e0⟩:=hx 0 (by decide)
 obtain⟨z1,e1⟩:=hx 1 (by decide)
 obtain⟨z2,e2⟩:=hx 2 (by decide)
 obtain⟨z3,e3⟩:=hx 3 (by decide)
 obtain⟨z4,e4⟩:=hx 4 (by decide)
 obtain⟨z5,e5⟩:=hx 5 (by decide)
 obtain⟨f0,k0⟩:=Y8 Tryz.underlying3 (hff 0 _ rfl) e0
 obtain⟨f1,k1⟩:=Y8 Tryz.underlying3 (hff 1 _ rfl) e1
 obtain⟨f2,k2⟩:=Y8 Tryz.underlying3 (hff 2 _ rfl) e2
 obtain⟨oa,on,oc,os,k3,_,hO⟩:=zA8 (hff 3 _ rfl) e3
 obtain⟨ka,kn,kc,ks,k4,_,hK⟩:=zA8 (hff 4 _ rfl) e4
 obtain⟨sa,sn,sc,ss,k5,hS⟩:=jM9 (hff 5 _ rfl) e5
 obtain⟨l⟩:=cs
 match l,hsz1 with
 |[c0,c1,c2,c3,c4,c5],_=>
  simp[Value.cells] at k0 k1 k2 k3 k4 k5
  subst k0;subst k1;subst k2;subst k3;subst k4;subst k5
  exact⟨⟨f0,f1,f2,oa,on,oc,ka,kn,kc,sa,sn,sc,os,ks,ss⟩,rfl,hO,hK,hS⟩
theorem jC7{r:Reach}{b0:Nat}{v:Value}{d:DataW H}{p:List MemPlace}(hv:Value.okWide Tryz.prog w r b0 27 v)(h:DataW.Trod enc Tryz.prog w base (fun _=>true) held 27 v d p):∃i:Int,v= .int .i64 i∧(Lit.int .i64 i).wf=true:=by
 obtain⟨i,rfl,_,_,hw⟩:=open_int Tryz.underlying27 hv h
 exact⟨i,rfl,hw⟩
end
end
section
open Go Go.RowKit
def TI.agg(t:TI)(i:Int):Value:= .agg #[.int .i64 t.frm,.int .i64 t.tow,.int .i64 t.lo,.int .i64 t.hi,.int .i64 i]
theorem kT0{W:World}{b:Nat}{t:TypeId}{x0 x1 x2 x3 x4 v0 v1 v2 v3 v4:Value}(h:W.heap[b]?=some (.cells #[x0,x1,x2,x3,x4] t)):(((((W.setCell ⟨b,0,none⟩ v0).setCell ⟨b,1,none⟩ v1).setCell ⟨b,2,none⟩ v2).setCell ⟨b,3,none⟩ v3).setCell ⟨b,4,none⟩ v4).heap[b]?=some (.cells #[v0,v1,v2,v3,v4] t):=
 Q4 _ _ 4 _ _ v4 (Q4 _ _ 3 _ _ v3 (Q4 _ _ 2 _ _ v2 (Q4 _ _ 1 _ _ v1 (Q4 W b 0 _ _ v0 h))))
theorem jM7{w W:World}{b:Nat}{v0 v1 v2 v3 v4:Value}(h:Below w.heap.size w W)(hb:w.heap.size≤b):Below w.heap.size w (((((W.setCell ⟨b,0,none⟩ v0).setCell ⟨b,1,none⟩ v1).setCell ⟨b,2,none⟩ v2).setCell ⟨b,3,none⟩ v3).setCell ⟨b,4,none⟩ v4):=
 ((((h.setCell (p:=⟨b,0,none⟩) hb v0).setCell (p:=⟨b,1,none⟩) hb v1).setCell (p:=⟨b,2,none⟩) hb v2).setCell (p:=⟨b,3,none⟩) hb v3).setCell (p:=⟨b,4,none⟩) hb v4
theorem xX7(t:TI)(i:Int)(w:World):Calls Tryz.prog 101 #[t.agg i] w fun e w'=>e= .returned (.tuple #[(qQ5 i t).val,.bool (t.hi !=1000000000000)])∧Below w.heap.size w w':=by
 obtain⟨f,t,lo,hi⟩:=t
 unfold TI.agg qQ5 SP.val
 dsimp only at*
 have hB:=((Q2 _ w).alloc (Q1 _) (.cells #[.int .i64 f,.int .i64 t,.int .i64 lo,.int .i64 hi,.int .i64 i] 205)).alloc (by simp) (.cells #[.int .i64 0,.bool false,.int .i64 0,.int .i64 0,.int .i64 0] 159)
 have hx:=(Q9 (w.alloc (.cells #[.int .i64 f,.int .i64 t,.int .i64 lo,.int .i64 hi,.int .i64 i] 205)) (.cells #[.int .i64 0,.bool false,.int .i64 0,.int .i64 0,.int .i64 0] 159) w.heap.size (by simp)).trans (Q3 w _)
 have hy:=Q3 (w.alloc (.cells #[.int .i64 f,.int .i64 t,.int .i64 lo,.int .i64 hi,.int .i64 i] 205)) (.cells #[.int .i64 0,.bool false,.int .i64 0,.int .i64 0,.int .i64 0] 159)
 rw[show(w.alloc (.cells #[.int .i64 f,.int .i64 t,.int .i64 lo,.int .i64 hi,.int .i64 i] 205)).heap.size=w.heap.size+1 from by simp] at hy
 have HB:=Hd hB
 have HX:=Hd hx
 have HY:=Hd hy
 obtain⟨q,hq⟩:∃q,(hi !=1000000000000)=q:=⟨_,rfl⟩
 rw[hq]
 clear hB hx hy
 go_enter Tryz.func101,Tryz.ntmps101
 go_upto_region 1 with(fail)
 generalize World.alloc (World.alloc w _) _=V at*
 obtain⟨k0,k1,k2,k3,k4⟩:=cr5 HX.out
 obtain⟨y0,y1,y2,y3,y4⟩:=cr5 HY.out
 simp only[P2] at k0 k1 k2 k3 k4 y0 y1 y2 y3 y4
 have f0:=Z3 _ _ 0 _ _ HY.out
 have f1:=Z3 _ _ 1 _ _ HY.out
 have f2:=Z3 _ _ 2 _ _ HY.out
 have f3:=Z3 _ _ 3 _ _ HY.out
 have f4:=Z3 _ _ 4 _ _ HY.out
 go_region
 have hrow:=kT0 (v0:= .int .i64 i) (v1:= .bool false) (v2:= .int .i64 f) (v3:= .int .i64 t) (v4:= .int .i64 (hi)) HY.out
 have hbl:=jM7 (v0:= .int .i64 i) (v1:= .bool false) (v2:= .int .i64 f) (v3:= .int .i64 t) (v4:= .int .i64 (hi)) HB.out (Nat.le_succ w.heap.size)
 generalize World.setCell (World.setCell (World.setCell (World.setCell (World.setCell V _ _) _ _) _ _) _ _) _ _=V5 at*
 obtain⟨z0,z1,z2,z3,z4⟩:=cr5 hrow
 simp only[P2] at z0 z1 z2 z3 z4
 go_wp2
 exact Z2 (v:= .tuple #[.agg #[.int .i64 i,.bool false,.int .i64 f,.int .i64 t,.int .i64 (hi)],.bool q]) (by simp[results,Tryz.results101,go_sem,z0,z1,z2,z3,z4]) rfl ⟨rfl,hbl.drew⟩
theorem xH6(t:TI)(i:Int)(w:World)(hl: -1000000000000≤t.lo∧t.lo≤1000000000000):Calls Tryz.prog 102 #[t.agg i] w fun e w'=>e= .returned (.tuple #[(qE2 i t).val,.bool (t.lo != -1000000000000)])∧Below w.heap.size w w':=by
 obtain⟨f,t,lo,hi⟩:=t
 unfold TI.agg qE2 SP.val
 dsimp only at*
 have hB:=((Q2 _ w).alloc (Q1 _) (.cells #[.int .i64 f,.int .i64 t,.int .i64 lo,.int .i64 hi,.int .i64 i] 205)).alloc (by simp) (.cells #[.int .i64 0,.bool false,.int .i64 0,.int .i64 0,.int .i64 0] 159)
 have hx:=(Q9 (w.alloc (.cells #[.int .i64 f,.int .i64 t,.int .i64 lo,.int .i64 hi,.int .i64 i] 205)) (.cells #[.int .i64 0,.bool false,.int .i64 0,.int .i64 0,.int .i64 0] 159) w.heap.size (by simp)).trans (Q3 w _)
 have hy:=Q3 (w.alloc (.cells #[.int .i64 f,.int .i64 t,.int .i64 lo,.int .i64 hi,.int .i64 i] 205)) (.cells #[.int .i64 0,.bool false,.int .i64 0,.int .i64 0,.int .i64 0] 159)
 rw[show(w.alloc (.cells #[.int .i64 f,.int .i64 t,.int .i64 lo,.int .i64 hi,.int .i64 i] 205)).heap.size=w.heap.size+1 from by simp] at hy
 have hw:IntKind.i64.wrap (-lo)= -lo:=Z1 _ (by omega)
 have HB:=Hd hB
 have HX:=Hd hx
 have HY:=Hd hy
 obtain⟨q,hq⟩:∃q,(lo != -1000000000000)=q:=⟨_,rfl⟩
 rw[hq]
 clear hB hx hy
 go_enter Tryz.func102,Tryz.ntmps102
 go_upto_region 1 with(fail)
 generalize World.alloc (World.alloc w _) _=V at*
 obtain⟨k0,k1,k2,k3,k4⟩:=cr5 HX.out
 obtain⟨y0,y1,y2,y3,y4⟩:=cr5 HY.out
 simp only[P2] at k0 k1 k2 k3 k4 y0 y1 y2 y3 y4
 have f0:=Z3 _ _ 0 _ _ HY.out
 have f1:=Z3 _ _ 1 _ _ HY.out
 have f2:=Z3 _ _ 2 _ _ HY.out
 have f3:=Z3 _ _ 3 _ _ HY.out
 have f4:=Z3 _ _ 4 _ _ HY.out
 go_region
 have hrow:=kT0 (v0:= .int .i64 i) (v1:= .bool true) (v2:= .int .i64 t) (v3:= .int .i64 f) (v4:= .int .i64 (-lo)) HY.out
 have hbl:=jM7 (v0:= .int .i64 i) (v1:= .bool true) (v2:= .int .i64 t) (v3:= .int .i64 f) (v4:= .int .i64 (-lo)) HB.out (Nat.le_succ w.heap.size)
 generalize World.setCell (World.setCell (World.setCell (World.setCell (World.setCell V _ _) _ _) _ _) _ _) _ _=V5 at*
 obtain⟨z0,z1,z2,z3,z4⟩:=cr5 hrow
 simp only[P2] at z0 z1 z2 z3 z4
 go_wp2
 exact Z2 (v:= .tuple #[.agg #[.int .i64 i,.bool true,.int .i64 t,.int .i64 f,.int .i64 (-lo)],.bool q]) (by simp[results,Tryz.results102,go_sem,z0,z1,z2,z3,z4]) rfl ⟨rfl,hbl.drew⟩
def FV.val(f:FV):Value:= .agg #[.int .i64 f.len,.int .i64 f.uses]
theorem xH8(a b:FV)(w:World):Calls Tryz.prog 69 #[a.val,b.val] w fun e w'=>e= .returned (.bool (qV8 a b))∧Below w.heap.size w w':=by
 obtain⟨a0,a1⟩:=a
 obtain⟨b0,b1⟩:=b
 unfold FV.val qV8
 dsimp only
 have HB:=Hd (((Q2 _ w).alloc (Q1 _) (.cells #[.int .i64 a0,.int .i64 a1] 89)).alloc (by simp) (.cells #[.int .i64 b0,.int .i64 b1] 89))
 by_cases h1:a0<b0
 ·have h1':decide (a0<b0)=true:=Z0 h1
  rw[h1']
  go_enter Tryz.func69,Tryz.ntmps69
  go_wp2
  go_ret
  exact⟨rfl,HB.out⟩
 ·have h1':decide (a0<b0)=false:=Q7 h1
  rw[h1']
  by_cases h2:a0=b0
  ·have h2':(a0==b0)=true:=by simpa using h2
   clear h2
   rw[h2',Bool.false_or,Bool.true_and]
   go_enter Tryz.func69,Tryz.ntmps69
   go_wp2
   go_ret
   exact⟨rfl,HB.out⟩
  ·have h2':(a0==b0)=false:=by simpa using h2
   rw[h2',Bool.false_or,Bool.false_and]
   go_enter Tryz.func69,Tryz.ntmps69
   go_wp2
   go_ret
   exact⟨rfl,HB.out⟩
def xB4(a c:FV):FV:=if qV8 c a=true then c else a
theorem xR2(a c:FV)(sb cc:Nat)(w:World)(hs:w.heap[sb]?=some (.cells #[.int .i64 c.len,.int .i64 c.uses] 89)):
  Calls Tryz.prog 68 #[.func (.func 69) #[] #[],a.val,.slice (some ⟨sb,0,none⟩) 1 cc] w fun e w'=>e= .returned (xB4 a c).val∧Below w.heap.size w w':=by
 have HL:=Hd (fun W=>xH8 c a W)
 unfold FV.val xB4 at*
 have hsl:=J5 hs
 have HS:=Hd hs
 obtain⟨q,hq⟩:∃q,qV8 c a=q:=⟨_,rfl⟩
 rw[hq] at HL
 simp only[hq]
 clear hs
 obtain⟨a0,a1⟩:=a
 obtain⟨c0,c1⟩:=c
 dsimp only at*
 have hB:=((Q2 _ w).alloc (Q1 _) (.cells #[.int .i64 a0,.int .i64 a1] 89)).alloc (by simp) (.cells #[.int .i64 0,.int .i64 0] 89)
 have hx:=(Q9 (w.alloc (.cells #[.int .i64 a0,.int .i64 a1] 89)) (.cells #[.int .i64 0,.int .i64 0] 89) w.heap.size (by simp)).trans (Q3 w _)
 have hy:=Q3 (w.alloc (.cells #[.int .i64 a0,.int .i64 a1] 89)) (.cells #[.int .i64 0,.int .i64 0] 89)
 rw[show(w.alloc (.cells #[.int .i64 a0,.int .i64 a1] 89)).heap.size=w.heap.size+1 from by simp] at hy
 have HB:=Hd hB
 have HX:=Hd hx
 have HY:=Hd hy
 have HSV:=Hd (Y0 HS.out hB)
 clear hB hx hy hq
 have HQ:=Hd (show ∀q:Bool,(if q=true then(⟨c0,c1⟩:FV) else⟨a0,a1⟩)=⟨if q=true then c0 else a0,if q=true then c1 else a1⟩ by intro q;cases q<;>rfl)
 rw[HQ.out]
 dsimp only
 obtain⟨r0,hr0⟩:∃r,(if q=true then c0 else a0)=r:=⟨_,rfl⟩
 obtain⟨r1,hr1⟩:∃r,(if q=true then c1 else a1)=r:=⟨_,rfl⟩
 rw[hr0,hr1]
 have HR0:=Hd hr0
 have HR1:=Hd hr1
 clear HQ hr0 hr1
 go_enter Tryz.func68,Tryz.ntmps68
 go_upto_region 1 with(fail)
 generalize World.alloc (World.alloc w _) _=V at*
 go_wp2
 go_loopw [11] (fun x wr=>∃i:Nat,i≤1∧x= .int .i64 (i:Int)∧∃p0 p1:Int,Hid (p0=if i=0 then a0 else r0)∧Hid (p1=if i=0 then a1 else r1)∧Hid (Below w.heap.size w wr)∧Hid (wr.heap[w.heap.size]?=some (.cells #[.int .i64 p0,.int .i64 p1] 89))∧Hid (wr.heap[w.heap.size+1]?=some (.cells #[.int .i64 0,.int .i64 0] 89))) (fun x _=>1-(intOf x).toNat)
 case atStart=>exact⟨0,by omega,rfl,a0,a1,Hd rfl,Hd rfl,HB,HX,HY⟩
 case round=>
  clear HB HX HY HSV
  obtain⟨i,hi,rfl,p0,p1,HP0,HP1,HB,HX,HY⟩:=hrel
  obtain⟨x0,x1⟩:=M7 HX.out
  simp only[P2] at x0 x1
  have hsz:w.heap.size<wr.heap.size:=J5 HX.out
  by_cases hlt:i<1
  ·obtain rfl:i=0:=by omega
   have e0:=HP0.out
   have e1:=HP1.out
   rw[if_pos rfl] at e0 e1
   subst e0 e1
   clear HP0 HP1
   obtain⟨s0,s1⟩:=M7 (Y0 HS.out HB.out)
   simp only[P2] at s0 s1
   have hsl2:sb<wr.heap.size:=by omega
   go_upto_region 4 with(fail)
   have hb1:=(Q2 _ wr).alloc (Q1 _) (.cells #[.int .i64 c0,.int .i64 c1] 89)
   have ht:=Q3 wr (.cells #[.int .i64 c0,.int .i64 c1] 89)
   have HB1:=Hd (HB.out.trans (hb1.mono HB.out.size))
   have HX1:=Hd (Y0 HX.out hb1)
   have HY1:=Hd (Y0 HY.out hb1)
   clear hb1
   generalize World.alloc wr _=V1 at*
   obtain⟨u0,u1⟩:=M7 ht
   obtain⟨z0,z1⟩:=M7 HX1.out
   simp only[P2] at u0 u1 z0 z1
   have HT:=Hd ht
   clear s0 s1 x0 x1 ht HX HY HB
   have hv1:wr.heap.size<V1.heap.size:=J5 HT.out
   cases q
   ·go_wp2_with(go_at_call 69;refine(HL.out _).mono ?_;rintro e W2 ⟨rfl,hb2⟩;have HB2:=Hd (HB1.out.trans (hb2.mono HB1.out.size));have HX2:=Hd (Y0 HX1.out hb2);have HY2:=Hd (Y0 HY1.out hb2);clear hb2 u0 u1 z0 z1)
    go_roundw
    case rel=>exact⟨1,by omega,by go_num,p0,p1,Hd HR0.out,Hd HR1.out,HB2,HX2,HY2⟩
    case measure=>simp[intOf]
   ·go_upto_region 5 with(go_at_call 69;refine(HL.out _).mono ?_;rintro e W2 ⟨rfl,hb2⟩;have HB2:=Hd (HB1.out.trans (hb2.mono HB1.out.size));have HX2:=Hd (Y0 HX1.out hb2);have HY2:=Hd (Y0 HY1.out hb2);have HT2:=Hd (Y0 HT.out hb2);clear hb2 u0 u1 z0 z1)
    obtain⟨u0,u1⟩:=M7 HT2.out
    obtain⟨z0,z1⟩:=M7 HX2.out
    simp only[P2] at u0 u1 z0 z1
    obtain⟨f0,f1⟩:=fr2 HX2.out
    have hv2:wr.heap.size<W2.heap.size:=J5 HT2.out
    go_wp2
    have hrow:=Q4 _ _ 1 _ _ (.int .i64 c1) (Q4 W2 _ 0 _ _ (.int .i64 c0) HX2.out)
    have hbl:=(HB2.out.setCell (p:=⟨w.heap.size,0,none⟩) (Q1 _) (.int .i64 c0)).setCell (p:=⟨w.heap.size,1,none⟩) (Q1 _) (.int .i64 c1)
    have hoth:=(Q6 (W2.setCell ⟨w.heap.size,0,none⟩ (.int .i64 c0)) ⟨w.heap.size,1,none⟩ (w.heap.size+1) (.int .i64 c1) (by dsimp only;omega)).trans (Q6 W2 ⟨w.heap.size,0,none⟩ (w.heap.size+1) (.int .i64 c0) (by dsimp only;omega))
    go_roundw
    case rel=>exact⟨1,by omega,by go_num,c0,c1,Hd HR0.out,Hd HR1.out,Hd hbl,Hd hrow,Hd (hoth.trans HY2.out)⟩
    case measure=>simp[intOf]
  ·obtain rfl:i=1:=by omega
   have e0:=HP0.out
   have e1:=HP1.out
   rw[if_neg (by decide)] at e0 e1
   subst e0 e1
   clear HP0 HP1
   obtain⟨y0,y1⟩:=M7 HY.out
   simp only[P2] at y0 y1
   obtain⟨f0,f1⟩:=fr2 HY.out
   have hv2:w.heap.size+1<wr.heap.size:=J5 HY.out
   go_wp2
   have hrow:=Q4 _ _ 1 _ _ (.int .i64 p1) (Q4 wr _ 0 _ _ (.int .i64 p0) HY.out)
   have hbl:=(HB.out.setCell (p:=⟨w.heap.size+1,0,none⟩) (Nat.le_succ _) (.int .i64 p0)).setCell (p:=⟨w.heap.size+1,1,none⟩) (Nat.le_succ _) (.int .i64 p1)
   generalize World.setCell (World.setCell wr _ _) _ _=V5 at*
   obtain⟨q0,q1⟩:=M7 hrow
   (try simp only[P2] at q0 q1)
   exact Z2 (v:= .agg #[.int .i64 p0,.int .i64 p1]) (by simp[results,Tryz.results68,go_sem,q0,q1]) rfl ⟨rfl,hbl⟩
end
section
open Go.RowKit
theorem jG6{m m':Nat}{P:Program}{l:Nat}{f:FuncId}{tmps:Array Value}{assign body:Code}{w:World}{R:Ending→World→Prop}
  (h:RoundIn Fence.wide m P l f tmps assign body w R):RoundIn Fence.wide m' P l f tmps assign body w R:=⟨h.1,fun c cs _=>h.2 c cs (room_wide _)⟩
theorem jD1{m:Nat}(m':Nat){P:Program}{l:Nat}{args:Array Value}{W:World}{R:Ending→World→Prop}(h:YieldAt Fence.wide m P l args W R):YieldAt Fence.wide m' P l args W R:=by
 obtain⟨fn,tmps,assign,body,hy,hR⟩:=h
 exact⟨fn,tmps,assign,body,hy,jG6 hR⟩
structure U2(O:Nat→Prop)(W:World)(O':Nat→Prop)(W':World):Prop where
 os:W'.os=W.os
 tape:W'.tape=W.tape
 output:W'.output=W.output
 size:W.heap.size≤W'.heap.size
 block:∀b,b<W.heap.size→¬O b→W'.heap[b]?=W.heap[b]?
 own:∀b,O' b↔O b∨(W.heap.size≤b∧b<W'.heap.size)
theorem U2.refl(O:Nat→Prop)(W:World):U2 O W O W:=⟨rfl,rfl,rfl,Q1 _,fun _ _ _=>rfl,fun b=>⟨.inl,fun h=>h.elim id (fun h=>by omega)⟩⟩
theorem U2.trans{O O' O'':Nat→Prop}{W W' W'':World}(h:U2 O W O' W')(k:U2 O' W' O'' W''):U2 O W O'' W'':=
 ⟨k.os.trans h.os,k.tape.trans h.tape,k.output.trans h.output,Q5 h.size k.size,fun b hb ho=>(k.block b (Z4 hb h.size) (fun h2=>((h.own b).1 h2).elim ho (fun h3=>by omega))).trans (h.block b hb ho),fun b=>by
  rw[k.own,h.own]
  have:=h.size;have:=k.size
  constructor
  ·rintro((h1|h1)|h1)
   ·exact .inl h1
   ·exact .inr ⟨h1.1,by omega⟩
   ·exact .inr ⟨by omega,h1.2⟩
  ·rintro(h1|h1)
   ·exact .inl (.inl h1)
   ·by_cases e:b<W'.heap.size
    ·exact .inl (.inr ⟨h1.1,e⟩)
    ·exact .inr ⟨by omega,h1.2⟩⟩
def zI5(O:Nat→Prop)(W W':World)(b:Nat):Prop:=O b∨(W.heap.size≤b∧b<W'.heap.size)
theorem U2.of{O:Nat→Prop}{W W':World}(os:W'.os=W.os)(tape:W'.tape=W.tape)(output:W'.output=W.output)(size:W.heap.size≤W'.heap.size)(block:∀b,b<W.heap.size→¬O b→W'.heap[b]?=W.heap[b]?):U2 O W (zI5 O W W') W':=
 ⟨os,tape,output,size,block,fun _=>Iff.rfl⟩
theorem U2.below{O O':Nat→Prop}{W W':World}{B:Nat}(h:U2 O W O' W')(hB:B≤W.heap.size)(hO:∀b,O b→B≤b):Below B W W':=
 ⟨h.os,h.tape,h.output,h.size,fun k hk=>h.block k (by omega) (fun h2=>by have:=hO k h2;omega)⟩
theorem U2.cell{O O':Nat→Prop}{W W':World}(h:U2 O W O' W'){b o:Nat}(hb:b<W.heap.size)(hO:¬O b):W'.cell? ⟨b,o,none⟩=W.cell? ⟨b,o,none⟩:=X5 (h.block b hb hO)
theorem U2.frozen{O O':Nat→Prop}{W W':World}(h:U2 O W O' W'){b o:Nat}(hb:b<W.heap.size)(hO:¬O b):W'.frozen? ⟨b,o,none⟩=W.frozen? ⟨b,o,none⟩:=World.frozen?_of_block (h.block b hb hO)
theorem U2.of_below{O:Nat→Prop}{W W':World}(h:Below W.heap.size W W'):U2 O W (zI5 O W W') W':= .of h.os h.tape h.output h.size (fun b hb _=>h.block b hb)
theorem U2.drew(O:Nat→Prop)(W:World):U2 O W O W.drew:=⟨rfl,rfl,rfl,Q1 _,fun _ _ _=>rfl,fun b=>⟨.inl,fun h=>h.elim id (fun h=>by have:=h.1;have:=h.2;simp at*;omega)⟩⟩
theorem U2.setCell{O:Nat→Prop}{W:World}{b o:Nat}(hO:O b)(v:Value):U2 O W O (W.setCell ⟨b,o,none⟩ v):=
 ⟨rfl,rfl,rfl,by simp[World.setCell],fun k _ hk=>Below.heap_setCell _ _ _ _ (fun e=>hk (by rw[e];exact hO)),fun k=>⟨.inl,fun h=>h.elim id (fun h=>by have:=h.1;have:=h.2;simp[World.setCell] at*;omega)⟩⟩
def zN6{β:Type}(J:β→(Nat→Prop)→World→Prop):Prop:=∀s O W O' W',J s O W→U2 O W O' W'→J s O' W'
structure R3(O:Nat→Prop)(W W':World):Prop where
 size:W.heap.size≤W'.heap.size
 block:∀b,O b→W'.heap[b]?=W.heap[b]?
theorem R3.refl(O:Nat→Prop)(W:World):R3 O W W:=⟨Q1 _,fun _ _=>rfl⟩
theorem R3.trans{O:Nat→Prop}{A B C:World}(h:R3 O A B)(k:R3 O B C):R3 O A C:=⟨Q5 h.size k.size,fun b hb=>(k.block b hb).trans (h.block b hb)⟩
theorem R3.alloc{O:Nat→Prop}{A B:World}(h:R3 O A B)(hO:∀b,O b→b<A.heap.size)(o:Obj):R3 O A (B.alloc o):=
 ⟨by have:=h.size;simp;omega,fun b hb=>(Q9 B o b (Z4 (hO b hb) h.size)).trans (h.block b hb)⟩
theorem R3.setCell{O:Nat→Prop}{A B:World}(h:R3 O A B){b o:Nat}(hb:¬O b)(v:Value):R3 O A (B.setCell ⟨b,o,none⟩ v):=
 ⟨by have:=h.size;simp[World.setCell];omega,fun k hk=>(Below.heap_setCell B ⟨b,o,none⟩ v k (fun e=>hb (by rw[←show k=b from e];exact hk))).trans (h.block k hk)⟩
theorem R3.drew{O:Nat→Prop}{A B:World}(h:R3 O A B):R3 O A B.drew:=⟨h.size,h.block⟩
theorem R3.below{O:Nat→Prop}{A B C:World}(h:R3 O A B)(hO:∀b,O b→b<A.heap.size)(hb:Below B.heap.size B C):R3 O A C:=
 ⟨Q5 h.size hb.size,fun b ho=>(hb.block b (Z4 (hO b ho) h.size)).trans (h.block b ho)⟩
theorem R3.put{O:Nat→Prop}{A:World}{l:Nat}(o:Obj)(hl:¬O l):R3 O A (A.putObj l o):=⟨by simp,fun b hb=>World.putObj_heap_other (fun e=>hl (by rw[←e];exact hb))⟩
theorem R3.cell{O:Nat→Prop}{A B:World}(h:R3 O A B){b o:Nat}(hb:O b):B.cell? ⟨b,o,none⟩=A.cell? ⟨b,o,none⟩:=X5 (h.block b hb)
theorem R3.frozen{O:Nat→Prop}{A B:World}(h:R3 O A B){b o:Nat}(hb:O b):B.frozen? ⟨b,o,none⟩=A.frozen? ⟨b,o,none⟩:=World.frozen?_of_block (h.block b hb)
def jX0(O R:Nat→Prop)(b:Nat):Prop:=O b∨R b
def qI6{α:Type}(P:Program)(g:Nat)(lb:Array Value)(encs:α→Array Value)(R:Nat→Prop)(Sh:α→(Nat→Prop)→World→Prop)(Nx:List α→α→Prop)(S Sp:List α→Prop)(w:World):Prop:=
 ∀(l:Nat) (J Jx:List α→(Nat→Prop)→World→Prop) (W:World),Below w.heap.size w W→zN6 J→zN6 Jx→
  (∀pre x O W1,J pre O W1→Sh x O W1→Nx pre x→∀m,YieldAt Fence.wide m P l (encs x) W1 fun e W'=>
   (e= .returned (.bool true)∧J (pre++[x]) O W'∧R3 (jX0 O R) W1 W')∨(e= .returned (.bool false)∧Jx (pre++[x]) O W'))→
  J [] (fun _=>False) W→
  ∀m,CallsIn Fence.wide m P g (#[.func (.yield l) #[] #[]]++lb) W fun e W'=>(∃v,e= .returned v)∧((∃xs O,S xs∧J xs O W')∨(∃pre O,Sp pre∧Jx pre O W'))
def jW0{α:Type}(B:Nat)(R:Nat→Prop)(I:List α→(Nat→Prop)→World→Prop)(Ix:Code→List α→(Nat→Prop)→World→Prop)(xs:List α)(O:Nat→Prop)(W:World):Exit→Act→World→Prop
 | .normal,_,W'=>KeepsFrom B W W'∧R3 (jX0 O R) W W'∧I xs O W'
 | .ret,_,W'=>KeepsFrom B W W'∧Ix .ret xs O W'
 | .exit id,_,W'=>KeepsFrom B W W'∧Ix (.exit id) xs O W'
 | .goto t,_,W'=>KeepsFrom B W W'∧Ix (.goto t) xs O W'
 | .panic _,_,_=>False
 | .outgrown,_,_=>False
def zU3{β:Type}(B:Nat)(I:β→(Nat→Prop)→World→Prop):Prop:=
 ∀s O W l o o',I s O W→B≤l→W.heap[l]?=some o→o.isCells=false→I s O (W.putObj l o')
theorem qL9{α:Type}{P:Program}{g:Operand}{ps:Array Tmp}{assign body:Code}{Q:Exit→Act→World→Prop}{a:Act}{w:World}{n:Nat}
  {gf:Nat} {lb:Array Value} (hg:a.eval g= .func (.func gf) #[] lb) (eg:∀args w,(callFunc gf args).run P w= .ok (.enter gf args) w)
  {encs:α→Array Value} {R:Nat→Prop} {Sh:α→(Nat→Prop)→World→Prop} {Nx:List α→α→Prop} {S Sp:List α→Prop} {w0:World} (hseq:qI6 P gf lb encs R Sh Nx S Sp w0) (hR:∀b,R b→b<w.heap.size)
  (hb0:Below w0.heap.size w0 w) (hps:∀x,(encs x).size=ps.size)
  (hSh:∀x O W l o',Sh x O W→¬O l→Sh x O (W.putObj l o'))
  (I:List α→(Nat→Prop)→World→Prop) (Ix:Code→List α→(Nat→Prop)→World→Prop) (hI:zN6 I) (hIx:∀c,zN6 (Ix c)) (hIb:zU3 w.heap.size I) (hIxb:∀c,zU3 w.heap.size (Ix c))
  (h0:∀W,Below w.heap.size w W→I [] (fun _=>False) W) (Ax:α→Act→(Nat→Prop)→World→Prop) (hAx:∀x a' O W l o',Ax x a' O W→w.heap.size+1=l→Ax x a' O (W.putObj l o'))
  (hassign:∀(l:Nat) (pre:List α) (x:α) (O:Nat→Prop) (W:World) (K:Act→World→Prop),w.heap.size+2≤W.heap.size→(∀b,O b→w.heap.size+2≤b∧b<W.heap.size)→I pre O W→Sh x O W→(∀a' W',KeepsFrom w.heap.size W W'→R3 (jX0 O R) W W'→I pre O W'→Ax x a' O W'→Sh x O W'→K a' W')→
   assign.wpIn (Fence.wide.inRound l) (n-1-1) P (Exit.then K (fun _ _ _=>False)) {tmps:=(ps.zip (encs x)).foldl (fun t (p,v)=>t.setIfInBounds p v) a.tmps,defers:=[]} W)
  (hbody:∀(l:Nat) (pre:List α) (x:α) (a':Act) (O:Nat→Prop) (W:World),w.heap.size≤l→w.heap.size+2≤W.heap.size→(∀b,O b→w.heap.size+2≤b∧b<W.heap.size)→I pre O W→Ax x a' O W→Sh x O W→Nx pre x→body.wpIn (Fence.wide.inRound l) (n-1-1) P (jW0 w.heap.size R I Ix (pre++[x]) O W) a' W)
  (hdone:∀(D:Nat) (xs:List α) (O:Nat→Prop) (W:World),w.heap.size≤D→¬O D→S xs→I xs O W→W.heap[D]?=some (.deferred (some []))→Q .normal {a with defers:={target:= .collected D,args:= #[]}::a.defers} W)
  (hstop:∀(D:Nat) (c:Code) (pre:List α) (O:Nat→Prop) (W:World),w.heap.size≤D→¬O D→Sp pre→Ix c pre O W→W.heap[D]?=some (.deferred (some []))→c.wpIn Fence.wide n P Q {a with defers:={target:= .collected D,args:= #[]}::a.defers} W):
  (Code.rangeFunc g ps assign body).wpIn Fence.wide n P Q a w:=by
 refine wpIn_rangeFunc ?_
 intro fn hfn
 rw[show Fence.wide.round=none from rfl]
 obtain⟨rec,hrec⟩:∃rec:LoopState→Option Code→Loop,rec=fun st pe=>{state:=st,pending:=pe,fn,tmps:=a.tmps,params:=ps,assign,body,defers:=w.heap.size}:=⟨_,rfl⟩
 obtain⟨W1,hW1⟩:∃W1,(w.alloc (.deferred (some []))).alloc (.loop (rec .ready none))=W1:=⟨_,rfl⟩
 have hL1:W1.heap[w.heap.size+1]?=some (.loop (rec .ready none)):=by
  rw[←hW1];have:=World.alloc_heap_new (w.alloc (.deferred (some []))) (.loop (rec .ready none));rwa [World.size_alloc] at this
 have hK1:W1.heap[w.heap.size]?=some (.deferred (some [])):=by
  rw[←hW1];exact(Q9 _ _ _ (by simp)).trans (World.alloc_heap_new w _)
 have hbw:Below w.heap.size w W1:=by rw[←hW1];exact((Q2 _ w).alloc (Q1 _) _).alloc (by simp) _
 have hb1:Below w0.heap.size w0 W1:=hb0.trans (hbw.mono hb0.size)
 have hsz:W1.heap.size=w.heap.size+2:=by rw[←hW1];simp
 refine⟨w.heap.size+1,[{target:= .collected w.heap.size,args:= #[]}],W1,{target:= .fn (.func gf) lb,args:= #[.func (.yield (w.heap.size+1)) #[] #[]]},W1,gf,
  #[.func (.yield (w.heap.size+1)) #[] #[]]++lb,W1,?_,?_,fun _ _=>trivial,?_,fun h=>by simp[Fence.wide] at h,?_⟩
 ·rw[←hW1,hrec];exact run_enterLoop_outer _ _ _ _ _
 ·simp only[resolve,hg]
  simp[go_sem]
 ·simp[invoke,go_sem,eg]
 ·-- the iterator's blocks lie behind the two of the loop
  have far:∀{O:Nat→Prop} {W:World} {O':Nat→Prop} {W':World},(∀b,O b→w.heap.size+2≤b∧b<W.heap.size)∧w.heap.size+2≤W.heap.size→U2 O W O' W'→(∀b,O' b→w.heap.size+2≤b∧b<W'.heap.size)∧w.heap.size+2≤W'.heap.size:=fun {O W O' W'} h ht=>
   ⟨fun b hb=>by
    have:=ht.size
    rcases(ht.own b).1 hb with h1|h1
    ·have:=h.1 b h1;omega
    ·omega,by have:=ht.size;omega⟩
  refine(hseq (w.heap.size+1)
   (fun pre O W=>I pre O W∧W.heap[w.heap.size+1]?=some (.loop (rec .ready none))∧W.heap[w.heap.size]?=some (.deferred (some []))∧(∀b,O b→w.heap.size+2≤b∧b<W.heap.size)∧w.heap.size+2≤W.heap.size)
   (fun pre O W=>∃c,Ix c pre O W∧W.heap[w.heap.size+1]?=some (.loop (rec .done (some c)))∧W.heap[w.heap.size]?=some (.deferred (some []))∧(∀b,O b→w.heap.size+2≤b∧b<W.heap.size)∧w.heap.size+2≤W.heap.size)
   W1 hb1
   (fun s O A O' A' hs ht=>⟨hI s O A O' A' hs.1 ht,(ht.block _ (by have:=hs.2.2.2.2;omega) (fun h=>by have:=(hs.2.2.2.1 _ h).1;omega)).trans hs.2.1,(ht.block _ (by have:=hs.2.2.2.2;omega) (fun h=>by have:=(hs.2.2.2.1 _ h).1;omega)).trans hs.2.2.1,far hs.2.2.2 ht⟩)
   (fun s O A O' A' hs ht=>by
    obtain⟨c,hc,hl,hk,hf⟩:=hs
    exact⟨c,hIx c s O A O' A' hc ht,(ht.block _ (by have:=hf.2;omega) (fun h=>by have:=(hf.1 _ h).1;omega)).trans hl,(ht.block _ (by have:=hf.2;omega) (fun h=>by have:=(hf.1 _ h).1;omega)).trans hk,far hf ht⟩)
   ?_ ⟨h0 W1 hbw,hL1,hK1,fun b hb=>hb.elim,by omega⟩ (n-1)).mono ?_
  ·-- one round
   rintro pre x O W ⟨hi,hl,hk,hfar,hws⟩ hsh hnx m
   refine jD1 (m:=n-1-1) m ?_
   have hy:=run_yield (P:=P) (args:=encs x) hl (by rw[hrec];exact hps x)
   rw[hrec] at hy
   refine⟨fn,_,assign,body,hy,roundIn_of_wpIn hfn (hassign _ pre x O W _ hws hfar hi hsh ?_)⟩
   clear hy
   intro a' Wa hkfa hkpa hia hax hsha
   have hla:=hkfa.same _ _ (by omega) hl rfl
   have hka:=hkfa.same _ _ (Q1 _) hk rfl
   have hzs:=hkfa.size
   have hno:¬O (w.heap.size+1):=fun h=>by have:=(hfar _ h).1;omega
   have hnw:¬jX0 O R (w.heap.size+1):=fun h=>h.elim hno (fun h2=>by have:=hR _ h2;omega)
   have hlt:w.heap.size+1<Wa.heap.size:=by omega
   refine⟨_,run_beginRound hla (by rw[hrec]),?_⟩
   have hl2:(Wa.putObj (w.heap.size+1) (.loop {rec .ready none with state:= .busy})).heap[w.heap.size+1]?=some (.loop {rec .ready none with state:= .busy}):=World.putObj_heap_same hlt
   have hk2:(Wa.putObj (w.heap.size+1) (.loop {rec .ready none with state:= .busy})).heap[w.heap.size]?=some (.deferred (some [])):=(World.putObj_heap_other (by omega)).trans hka
   refine wpIn_mono (hbody _ pre x a' O _ (by omega) (by simp;omega) (fun b hb=>by have:=hfar b hb;simp;omega) (hIb _ _ _ _ _ _ hia (by omega) hla rfl) (hAx _ _ _ _ _ _ hax rfl) (hSh _ _ _ _ _ hsha hno) hnx) ?_
   have fin:∀(jump:Option Code) (W3:World),KeepsFrom w.heap.size (Wa.putObj (w.heap.size+1) (.loop {rec .ready none with state:= .busy})) W3→
     (Instr.endRound (w.heap.size+1) jump).run P W3= .ok (.bool jump.isNone) (W3.putObj (w.heap.size+1) (.loop (rec (if jump.isNone then .ready else .done) jump)))∧
     W3.heap[w.heap.size+1]?=some (.loop {rec .ready none with state:= .busy})∧
     (W3.putObj (w.heap.size+1) (.loop (rec (if jump.isNone then .ready else .done) jump))).heap[w.heap.size+1]?=some (.loop (rec (if jump.isNone then .ready else .done) jump))∧
     (W3.putObj (w.heap.size+1) (.loop (rec (if jump.isNone then .ready else .done) jump))).heap[w.heap.size]?=some (.deferred (some []))∧
     ((∀b,O b→w.heap.size+2≤b∧b<(W3.putObj (w.heap.size+1) (.loop (rec (if jump.isNone then .ready else .done) jump))).heap.size)∧w.heap.size+2≤(W3.putObj (w.heap.size+1) (.loop (rec (if jump.isNone then .ready else .done) jump))).heap.size):=fun jump W3 hk3=>by
    have hl3:=hk3.same _ _ (by omega) hl2 rfl
    have hz3:=hk3.size
    have:=run_endRound (P:=P) jump hl3
    rw[hrec] at this ⊢
    exact⟨this,by rw[hrec] at hl3;exact hl3,World.putObj_heap_same (J5 hl3),(World.putObj_heap_other (by omega)).trans (hk3.same _ _ (Q1 _) hk2 rfl),fun b hb=>by have:=hfar b hb;simp at*;omega,by simp at*;omega⟩
   rintro e a3 W3 hp
   cases e with
   |normal=>
    obtain⟨hk3,hkp3,hi3⟩:=hp
    obtain⟨hr,hl3,hl4,hk4,hf4⟩:=fin none W3 hk3
    exact⟨_,_,hr,.inl ⟨rfl,⟨hIb _ _ _ _ _ _ hi3 (by omega) hl3 rfl,hl4,hk4,hf4⟩,hkpa.trans ((R3.put _ hnw).trans (hkp3.trans (R3.put _ hnw)))⟩⟩
   |ret=>
    obtain⟨hk3,hi3⟩:=hp
    obtain⟨hr,hl3,hl4,hk4,hf4⟩:=fin (some .ret) W3 hk3
    exact⟨_,_,hr,.inr ⟨rfl,.ret,hIxb _ _ _ _ _ _ _ hi3 (by omega) hl3 rfl,hl4,hk4,hf4⟩⟩
   |exit id=>
    obtain⟨hk3,hi3⟩:=hp
    obtain⟨hr,hl3,hl4,hk4,hf4⟩:=fin (some (.exit id)) W3 hk3
    exact⟨_,_,hr,.inr ⟨rfl,.exit id,hIxb _ _ _ _ _ _ _ hi3 (by omega) hl3 rfl,hl4,hk4,hf4⟩⟩
   |goto t=>
    obtain⟨hk3,hi3⟩:=hp
    obtain⟨hr,hl3,hl4,hk4,hf4⟩:=fin (some (.goto t)) W3 hk3
    exact⟨_,_,hr,.inr ⟨rfl,.goto t,hIxb _ _ _ _ _ _ _ hi3 (by omega) hl3 rfl,hl4,hk4,hf4⟩⟩
   |panic ch=>exact hp.elim
   |outgrown=>exact hp.elim
  ·-- behind the iterator
   rintro e W2 ⟨⟨v,rfl⟩,(⟨xs,O,hS,hi,hl,hk,hf⟩|⟨pre,O,hSp,c,hi,hl,hk,hf⟩)⟩
   ·exact⟨none,_,by have:=run_endLoop (P:=P) hl (by rw[hrec];simp);rw[hrec] at this;exact this,hdone _ xs O _ (Q1 _) (fun h=>by have:=(hf.1 _ h).1;omega) hS (hIb _ _ _ _ _ _ hi (by omega) hl rfl) ((World.putObj_heap_other (by omega)).trans hk)⟩
   ·exact⟨some c,_,by have:=run_endLoop (P:=P) hl (by rw[hrec];simp);rw[hrec] at this;exact this,hstop _ c pre O _ (Q1 _) (fun h=>by have:=(hf.1 _ h).1;omega) hSp (hIxb _ _ _ _ _ _ _ hi (by omega) hl rfl) ((World.putObj_heap_other (by omega)).trans hk)⟩
end
section
open Go.RowKit Go.Shelf
structure A3(N:Nat)(R X O:Nat→Prop)(W:World):Prop where
 off:∀b,X b→¬O b
 rest:∀b,X b→¬R b
 cells:∀b,X b→∃o,W.heap[b]?=some o∧(o.isCells=true∨b<N)
theorem A3.lt{N:Nat}{R X O:Nat→Prop}{W:World}(h:A3 N R X O W){b:Nat}(hb:X b):b<W.heap.size:=by
 obtain⟨o,h1,_⟩:=h.cells b hb
 exact(J5 h1)
structure M6(N:Nat)(X:Nat→Prop)(W W':World)(X':Nat→Prop):Prop where
 os:W'.os=W.os
 tape:W'.tape=W.tape
 output:W'.output=W.output
 size:W.heap.size≤W'.heap.size
 block:∀b,b<W.heap.size→¬X b→W'.heap[b]?=W.heap[b]?
 new:∀b,X' b→X b∨W.heap.size≤b
 cells:∀b,X' b→∃o,W'.heap[b]?=some o∧(o.isCells=true∨b<N)
section
variable {N:Nat}{R X X' X'' O:Nat→Prop}{W W' A B C:World}
theorem M6.refl(h:A3 N R X O W):M6 N X W W X:=⟨rfl,rfl,rfl,Q1 _,fun _ _ _=>rfl,fun _ h=> .inl h,h.cells⟩
theorem M6.below(h:A3 N R X O W)(hb:Below W.heap.size W W'):M6 N X W W' X:=⟨hb.os,hb.tape,hb.output,hb.size,fun b hl _=>hb.block b hl,fun _ h=> .inl h,fun b hx=>by
 obtain⟨o,h1,h2⟩:=h.cells b hx
 exact⟨o,(hb.block b (h.lt hx)).trans h1,h2⟩⟩
theorem M6.lt(h:M6 N X W W' X'){b:Nat}(hb:X' b):b<W'.heap.size:=by
 obtain⟨o,h1,_⟩:=h.cells b hb
 exact(J5 h1)
theorem M6.setCell(h:M6 N X A B X'){b o:Nat}(hb:X b)(v:Value):M6 N X A (B.setCell ⟨b,o,none⟩ v) X':=
 ⟨h.os,h.tape,h.output,by have:=h.size;simpa [World.setCell] using this,fun k hl hk=>(Below.heap_setCell B ⟨b,o,none⟩ v k (fun e=>hk (by rw[show k=b from e];exact hb))).trans (h.block k hl hk),h.new,fun k hk=>by
  obtain⟨u,h1,h2⟩:=h.cells k hk
  by_cases e:k=b
  ·subst e
   cases u with
   |cells cur t f=>exact⟨.cells (cur.setIfInBounds o v) t f,by simp[World.setCell,Array.getElem?_modify,h1],.inl rfl⟩
   |_=>
    refine⟨_,by simp[World.setCell,Array.getElem?_modify,h1];rfl,?_⟩
    rcases h2 with h2|h2
    ·simp[Obj.isCells] at h2
    ·exact .inr h2
  ·exact⟨u,(Q6 B ⟨b,o,none⟩ k v e).trans h1,h2⟩⟩
theorem M6.keepsFrom(h:M6 N X W W' X')(m:A3 N R X O W):KeepsFrom N W W':=
 ⟨h.size,fun k o hN hk ho=>(h.block k (J5 hk) (fun hx=>by
  obtain⟨u,h1,h2⟩:=m.cells k hx
  rw[hk] at h1
  injection h1 with h1
  rcases h2 with h2|h2
  ·rw[h1,h2] at ho
   cases ho
  ·omega)).trans hk⟩
theorem M6.kept(h:M6 N X W W' X')(m:A3 N R X O W)(hO:∀b,O b→b<W.heap.size)(hR:∀b,R b→b<W.heap.size):R3 (jX0 O R) W W':=
 ⟨h.size,fun b hb=>hb.elim (fun h1=>h.block b (hO b h1) (fun h2=>m.off b h2 h1)) (fun h1=>h.block b (hR b h1) (fun h2=>m.rest b h2 h1))⟩
theorem M6.bel{w0:World}(h:M6 N X W W' X')(hX:∀b,X b→w0.heap.size≤b)(hb:Below w0.heap.size w0 W):Below w0.heap.size w0 W':=
 hb.trans ⟨h.os,h.tape,h.output,h.size,fun b hl=>h.block b (Z4 hl hb.size) (fun hx=>by have:=hX b hx;omega)⟩
theorem M6.mine(h:M6 N X W W' X')(m:A3 N R X O W)(hO:∀b,O b→b<W.heap.size)(hR:∀b,R b→b<W.heap.size):A3 N R X' O W':=
 ⟨fun b hx ho=>(h.new b hx).elim (fun h1=>m.off b h1 ho) (fun h1=>by have:=hO b ho;omega),fun b hx hr=>(h.new b hx).elim (fun h1=>m.rest b h1 hr) (fun h1=>by have:=hR b hr;omega),h.cells⟩
end
def zV9{α:Type}(R:Nat→Prop)(w0:World)(N:Nat)(T:(Nat→Prop)→List α→World→Prop)(xs:List α)(O:Nat→Prop)(W:World):Prop:=
 ∃X,A3 N R X O W∧T X xs W∧Below w0.heap.size w0 W∧(∀b,O b→N≤b)∧(∀b,X b→w0.heap.size≤b)∧N≤W.heap.size
theorem zV9.abide{α:Type}{R:Nat→Prop}{w0:World}{N:Nat}(hN:w0.heap.size≤N){T:(Nat→Prop)→List α→World→Prop}(hT:∀X xs W W',T X xs W→(∀b,X b→W'.heap[b]?=W.heap[b]?)→T X xs W'):zN6 (zV9 R w0 N T):=by
 rintro xs O W O' W' ⟨X,hm,ht,hb,hO,hX,hz⟩ tn
 have hk:∀b,X b→W'.heap[b]?=W.heap[b]? :=fun b hx=>tn.block b (hm.lt hx) (hm.off b hx)
 refine⟨X,⟨fun b hx h1=> ?_,hm.rest,fun b hx=> ?_⟩,hT _ _ _ _ ht hk,hb.trans (tn.below hb.size (fun b h1=>Q5 hN (hO b h1))),fun b h1=> ?_,hX,Q5 hz tn.size⟩
 ·rcases(tn.own b).1 h1 with h2|h2
  ·exact hm.off b hx h2
  ·have:=hm.lt hx;omega
 ·obtain⟨o,h1,h2⟩:=hm.cells b hx
  exact⟨o,(hk b hx).trans h1,h2⟩
 ·rcases(tn.own b).1 h1 with h2|h2
  ·exact hO b h2
  ·omega
theorem zV9.booked{α:Type}{R:Nat→Prop}{w0:World}{N:Nat}(hB:w0.heap.size≤N){T:(Nat→Prop)→List α→World→Prop}(hT:∀X xs W W',T X xs W→(∀b,X b→W'.heap[b]?=W.heap[b]?)→T X xs W'):zU3 N (zV9 R w0 N T):=by
 rintro xs O W l o o' ⟨X,hm,ht,hb,hO,hX,hz⟩ hl ho hc
 have hne:∀b,X b→b≠l:=fun b hx e=>by
  obtain⟨u,h1,h2⟩:=hm.cells b hx
  rw[e,ho] at h1
  injection h1 with h1
  rcases h2 with h2|h2
  ·rw[←h1,hc] at h2
   cases h2
  ·omega
 have hk:∀b,X b→(W.putObj l o').heap[b]?=W.heap[b]? :=fun b hx=>World.putObj_heap_other (hne b hx)
 exact⟨X,⟨hm.off,hm.rest,fun b hx=>by
  obtain⟨u,h1,h2⟩:=hm.cells b hx
  exact⟨u,(hk b hx).trans h1,h2⟩⟩,hT _ _ _ _ ht hk,hb.trans ⟨rfl,rfl,rfl,by simp,fun b hbl=>World.putObj_heap_other (by omega)⟩,hO,hX,by simpa using hz⟩
def xT5{α:Type}(N:Nat)(X:Nat→Prop)(T:(Nat→Prop)→List α→World→Prop)(xs:List α)(W:World):Exit→Act→World→Prop
 | .normal,_,W'=>∃X',M6 N X W W' X'∧T X' xs W'
 |_,_,_=>False
end
section
open Go Go.RowKit Go.Maps
attribute [local go_sem] Oper.semAt_some
structure qT6(B:Nat)(N:Nat)(a:Option Addr)(m c:Nat)(ts:Nat→TI)(q:Nat)(W:World):Prop where
 box:W.heap[q]?=some (.cells #[.int .i64 (N:Int),.slice a m c,.map none] 152)
 rows:qT5 B W a m ts
structure qX7(B:Nat)(N:Nat)(a:Option Addr)(m c:Nat)(ts:Nat→TI)(q qp:Nat)(W:World):Prop where
 web:qT6 B N a m c ts q W
 ptr:W.heap[qp]?=some (.cells #[.pointer (some ⟨q,0,none⟩)] 85)
def WbR(a:Option Addr)(m q qp:Nat)(b:Nat):Prop:=b=q∨b=qp∨(m≠0∧∃o,a=some ⟨b,o,none⟩)
theorem qT6.below{B N:Nat}{a:Option Addr}{m c:Nat}{ts:Nat→TI}{q:Nat}{W W':World}(h:qT6 B N a m c ts q W)(hB:B≤W.heap.size)(hb:Below W.heap.size W W'):qT6 B N a m c ts q W':=⟨Y0 h.box hb,h.rows.below (hb.mono hB)⟩
theorem qX7.below{B N:Nat}{a:Option Addr}{m c:Nat}{ts:Nat→TI}{q qp:Nat}{W W':World}(h:qX7 B N a m c ts q qp W)(hB:B≤W.heap.size)(hb:Below W.heap.size W W'):qX7 B N a m c ts q qp W':=⟨h.web.below hB hb,Y0 h.ptr hb⟩
theorem qX7.step{B N:Nat}{a:Option Addr}{m c:Nat}{ts:Nat→TI}{q qp:Nat}{W W':World}(h:qX7 B N a m c ts q qp W)(hk:∀b,WbR a m q qp b→W'.heap[b]?=W.heap[b]?):qX7 B N a m c ts q qp W':=by
 refine⟨⟨(hk q (.inl rfl)).trans h.web.box,?_⟩,(hk qp (.inr (.inl rfl))).trans h.ptr⟩
 by_cases hm:m=0
 ·exact .inl hm
 rcases h.web.rows with h0|⟨b,off,ha,hB,hc⟩
 ·exact .inl h0
 ·have he:=hk b (.inr (.inr ⟨hm,off,ha⟩))
  exact .inr ⟨b,off,ha,hB,fun i hi=>⟨(X5 he).trans (hc i hi).1,(X5 he).trans (hc i hi).2.1,(X5 he).trans (hc i hi).2.2.1,(X5 he).trans (hc i hi).2.2.2⟩⟩
theorem kV1:Keyed Tryz.prog 3:=int_keyed Tryz.underlying3
theorem jV8(i:Int)(h:0≤i∧i≤10000000)(W:World):(Instr.lookup 150 (.map none) (.int .i64 i) false).run Tryz.prog W= .ok (.bool false) W:=
 Maps.look_nil (kl:= .int .i64 i) false kV1 Tryz.underlying150 (by kernel_rfl) (keyOf_int_mk Tryz.underlying3 (WalkArith.wf_i64 (by omega)))
theorem zZ1(q:Nat)(w:World):Calls Tryz.prog 67 #[.pointer (some ⟨q,0,none⟩)] w fun e w'=>e= .returned (.func (.func 100) #[] #[.pointer (some ⟨w.heap.size,0,none⟩)])∧w'.heap[w.heap.size]?=some (.cells #[.pointer (some ⟨q,0,none⟩)] 85)∧Below w.heap.size w w':=by
 have h1:=(Q2 _ w).alloc (Q1 _) (.cells #[.pointer (some ⟨q,0,none⟩)] 85)
 have h2:=Q3 w (.cells #[.pointer (some ⟨q,0,none⟩)] 85)
 go_enter Tryz.func67,Tryz.ntmps67
 go_wp2
 go_ret
 exact⟨rfl,h2,h1⟩
def EqS(E xs:List SP):Prop:=xs=E
def PfS(E pre:List SP)(x:SP):Prop:=pre++[x]<+:E
def kP4(xs:List SP):Prop:=True
def S1(ts:Nat→TI)(i:Nat):List SP:=K8 ts i
def qK4(t:TI)(i:Int)(x:Nat):List SP:=if x=0 then [] else if x=1 then qY7 i t else qY7 i t++qU3 i t
theorem zK4(ts:Nat→TI)(i:Nat):S1 ts (i+1)=S1 ts i++qK4 (ts i) i 2:=by
 unfold S1 K8 qK4
 rw[List.range_succ,List.flatMap_append]
 simp
theorem jH4(ts:Nat→TI)(m:Nat):∀d i,i+d=m→S1 ts i<+:K8 ts m
 |0,i,h=>by
  obtain rfl:i=m:=by omega
  exact List.prefix_refl _
 |d+1,i,h=>by
  have h1:=jH4 ts m d (i+1) (by omega)
  rw[zK4] at h1
  exact(List.prefix_append _ _).trans h1
theorem jQ8(ts:Nat→TI)(m:Nat){i:Nat}(hi:i<m):S1 ts i++(qY7 i (ts i)++qU3 i (ts i))<+:K8 ts m:=by
 have h1:=jH4 ts m (m-(i+1)) (i+1) (by omega)
 rw[zK4] at h1
 exact h1
theorem jD0(ts:Nat→TI)(m:Nat){i:Nat}(hi:i<m)(h:(ts i).hi≠1000000000000):PfS (K8 ts m) (S1 ts i++qK4 (ts i) i 0) (qQ5 i (ts i))∧S1 ts i++qK4 (ts i) i 0++[qQ5 i (ts i)]=S1 ts i++qK4 (ts i) i 1:=by
 have h1:=jQ8 ts m hi
 have e1:qY7 (i:Int) (ts i)=[qQ5 i (ts i)]:=if_neg h
 have e2:S1 ts i++qK4 (ts i) i 0++[qQ5 i (ts i)]=S1 ts i++qK4 (ts i) i 1:=by simp[qK4,e1]
 refine⟨?_,e2⟩
 unfold PfS
 rw[e2]
 refine List.IsPrefix.trans ?_ h1
 rw[←List.append_assoc]
 simp only[qK4,if_neg (show ¬(1=0) by decide),if_pos rfl]
 exact List.prefix_append _ _
theorem xU7(ts:Nat→TI){i:Nat}(h:(ts i).hi=1000000000000):S1 ts i++qK4 (ts i) i 0=S1 ts i++qK4 (ts i) i 1:=by
 have e1:qY7 (i:Int) (ts i)=[]:=if_pos h
 simp[qK4,e1]
theorem kQ4(ts:Nat→TI)(m:Nat){i:Nat}(hi:i<m)(h:(ts i).lo≠-1000000000000):PfS (K8 ts m) (S1 ts i++qK4 (ts i) i 1) (qE2 i (ts i))∧S1 ts i++qK4 (ts i) i 1++[qE2 i (ts i)]=S1 ts i++qK4 (ts i) i 2:=by
 have h1:=jQ8 ts m hi
 have e1:qU3 (i:Int) (ts i)=[qE2 i (ts i)]:=if_neg h
 have e2:S1 ts i++qK4 (ts i) i 1++[qE2 i (ts i)]=S1 ts i++qK4 (ts i) i 2:=by simp[qK4,e1]
 refine⟨?_,e2⟩
 unfold PfS
 rw[e2]
 exact h1
theorem jC9(ts:Nat→TI){i:Nat}(h:(ts i).lo= -1000000000000):S1 ts i++qK4 (ts i) i 1=S1 ts i++qK4 (ts i) i 2:=by
 have e1:qU3 (i:Int) (ts i)=[]:=if_pos h
 simp[qK4,e1]
end
end Go.Proofs.YtmncaipgefbalaaGreatDoor
