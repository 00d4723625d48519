/- Part of the proof of the claim. -/
import Derived.Test.YtmncaipgefbalaaGreatDoorQaz
import Derived.Test.YtmncaipgefbalaaGreatDoorQba
set_option maxRecDepth 100000
set_option maxHeartbeats 8000000
set_option linter.unusedVariables false
set_option linter.unusedSimpArgs false
namespace Go.Proofs.YtmncaipgefbalaaGreatDoor
section
open Go Go.RowKit Go.Shelf
theorem kC5(C:List ST):∀u∈stC C,u.oneCell'=true:=by
 intro u hu
 unfold stC at hu
 rw[List.mem_flatMap] at hu
 obtain⟨s,_,h⟩:=hu
 simp at h
 rcases h with rfl|rfl|rfl<;>rfl
theorem kC4(C:List ST):(stC C).length=C.length*3:=by
 induction C with
 |nil=>rfl
 |cons s C ih=>
  show(stC C).length+1+1+1=(C.length+1)*3
  omega
theorem xJ9(C:List ST)(va:Option Addr)(vc base:Nat)(w:World)(hown:w.ownsRow base 181 3 (.slice va C.length vc) C.length (stC C))(hC:1≤C.length∧C.length≤2400):
  Calls Tryz.prog 204 #[.slice va C.length vc] w fun e w'=>∃a c,e= .returned (.slice a C.length c)∧w'.ownsRow w.heap.size 181 3 (.slice a C.length c) C.length (stC C)∧Below w.heap.size w w':=by
 have HE:=fun(W:World)=>Lib.run_eql_slice_nil (P:=Tryz.prog) (w:=W)
 obtain⟨g,rfl,h1,h2⟩:=qJ6 hown hC.1
 have hsl:=kC4 C
 have hlt:∀j u,(stC C)[j]?=some u→(w.alloc (.cells #[] 181)).cell? ((⟨g,0,none⟩:Addr).add j)=some u:=by
  intro j u h
  have hj:j<C.length*3:=by
   have:=(List.getElem?_eq_some_iff.1 h).1
   omega
  have hc:=(hown.cellAt j (by omega)).trans h
  have e:(⟨g,0,none⟩:Addr).add j=⟨g,j,none⟩:=by simp[Addr.add];omega
  rw[e]
  exact(X5 (Q9 w _ _ h2)).trans hc
 have HN:=Hd hlt
 have HO1:=Hd (kC5 C)
 clear hlt hown h1
 obtain⟨i0,hi,hz0,hz1,hz2⟩:=info_parts qP9
 generalize stC C=cs at*
 generalize C.length=m at*
 go_enter Tryz.func204,Tryz.ntmps204
 go_wp2_with(at_builtin;refine wpList_append_own _ rfl _ _ 119 rfl w.heap.size 181 i0 (.agg #[.int .i64 0,.int .i64 0,.int .i64 0]) 3 24 Tryz.underlying119 hi hz0 hz1 hz2 rfl (by decide) _ 0 [] rfl (World.ownsRow_made _ #[] 0 (Q1 _) (by decide) rfl) ⟨g,0,none⟩ m vc cs rfl hsl HN.out HO1.out (by unfold maxLen;omega) (by omega) (by simp) ?_;intro v' w3 hown hgrow hnil)
 have hb:Below w.heap.size w w3:=((Q2 _ _).alloc (Q1 _) _).grown hgrow (by simp) (fun k hk=>by have hk':some w.heap.size=some k:=hk;injection hk' with hk';omega)
 rw[Nat.zero_add,List.nil_append] at hown
 obtain⟨a',c',rfl⟩:=Y6 hown
 clear hgrow hnil
 go_wp2
 go_ret
 exact⟨a',c',rfl,hown,hb⟩
def soL(C:List ST)(h:∀s∈C,s.ok):List SO:=C.pmap (fun s hs=>⟨s,hs⟩) h
theorem kT3(C:List ST)(h:∀s∈C,s.ok):vL (soL C h)=C:=by
 unfold vL soL
 rw[List.map_pmap]
 simp
def zK6(m:Nat)(w:World)(e:Ending)(w':World):Prop:=
 ∃(D:List ST) (a:Option Addr) (c:Nat),D.length=m∧(∀s∈D,s.ok)∧e= .returned (.slice a m c)∧S5 w'.heap.size w' a m (tC D)∧Below w.heap.size w w'
theorem xU0(C:List ST)(va:Option Addr)(vc base:Nat)(a:Option Addr)(n c:Nat)(t:Nat→RW)(B:Nat)(w:World)(hBw:B≤w.heap.size)(hT:S5 B w a n t)(hO:qQ2 n t)
  (hown:w.ownsRow base 181 3 (.slice va C.length vc) C.length (stC C)) (hC:∀s∈C,s.ok) (hlen:1≤C.length∧C.length≤2400):
  Calls Tryz.prog 200 #[.agg #[.slice a n c,.slice va C.length vc]] w (zK6 C.length w):=by
 have hb:=J3 w (.cells #[.slice a n c,.slice va C.length vc] 121)
 have hx:=Q3 w (.cells #[.slice a n c,.slice va C.length vc] 121)
 have hsz:(w.alloc (.cells #[.slice a n c,.slice va C.length vc] 121)).heap.size=w.heap.size+1:=by simp
 have HB:=Hd hb
 have HX:=Hd hx
 have HCL:=Hd (xJ9 C va vc base (w.alloc (.cells #[.slice a n c,.slice va C.length vc] 121)) (hown.alloc _) hlen)
 have hll:(soL C hC).length=C.length:=by simp[soL]
 have HSO:=Hd (fun(a2:Option Addr) (c2:Nat) (W:World) (hb:Below (w.heap.size+1) (w.alloc (.cells #[.slice a n c,.slice va C.length vc] 121)) W) (h1:W.ownsRow (w.heap.size+1) 181 3 (.slice a2 C.length c2) C.length (stC C))=>by
  have h:=jB6 (soL C hC) a2 c2 (w.heap.size+1) w.heap.size a n c (.slice va C.length vc) t B W (by omega) (hT.below ((HB.out.trans (hb.mono (by omega))).mono hBw)) hO (by rw[kT3,hll];exact h1) ((hb.block _ (by omega)).trans HX.out) (by omega) (by rw[hll];exact hlen)
  rw[hll] at h
  exact h)
 have HRES:=Hd (fun(D:List SO) (a2:Option Addr) (c2:Nat) (W:World) (h1:D.Perm (soL C hC)) (h2:S5 W.heap.size W a2 C.length (tC (vL D))) (h3:Below w.heap.size w W)=>show zK6 C.length w (.returned (.slice a2 C.length c2)) W from⟨vL D,a2,c2,by unfold vL;rw[List.length_map,h1.length_eq,hll],fun s hs=>by
  unfold vL at hs
  obtain⟨x,_,rfl⟩:=List.mem_map.1 hs
  exact x.2,rfl,h2,h3⟩)
 generalize soL C hC=L0 at*
 generalize zK6 C.length w=RES at*
 rw[hsz] at HCL
 generalize stC C=cs at*
 clear hT hO hown hb hx hC hlen hll
 generalize C.length=m at*
 go_enter Tryz.func200,Tryz.ntmps200
 go_upto_region 1 with(fail)
 generalize World.alloc w _=V at*
 have k1:=Q0 _ _ 1 _ _ _ HX.out
 go_upto_region 2 with(go_at_call 204;refine HCL.out.mono ?_;rintro e W1 ⟨a2,c2,rfl,hown,hb1⟩;have HB1:=Hd hb1;have HO1:=Hd hown;clear hb1 hown k1 HCL)
 go_wp2_with(go_at_call 205;refine(HSO.out a2 c2 W1 HB1.out HO1.out).mono ?_;rintro e W2 ⟨rfl,D,hp,hr,hb2⟩;have HD:=Hd (HRES.out D a2 c2 W2 hp hr ((HB.out.trans (HB1.out.mono (by omega))).trans (hb2.mono (by omega))));clear hp hr hb2)
 exact HD.out
theorem jY3(v:Value)(hv:∃a n c,v= .agg #[.slice a n c])(w:World):Calls Tryz.prog 82 #[v] w fun e w'=>e= .returned (.bool false)∧Below w.heap.size w w':=by
 obtain⟨a,n,c,rfl⟩:=hv
 have HB:=Hd (J3 w (.cells #[.slice a n c] 118))
 go_enter Tryz.func82,Tryz.ntmps82
 go_upto_region 1 with(fail)
 generalize World.alloc w _=V at*
 go_wp2
 go_ret
 exact⟨rfl,HB.out⟩
theorem jT9(args:Array Value)(W:World):(callFunc 82 args).run Tryz.prog W= .ok (.enter 82 args) W:=enters_of Tryz.func82 (by kernel_rfl) rfl args W
def lnK(s:ST):List Value:=[.int .i64 (R7 s.sl s.dn),.int .i64 (F3 s.sl s.dn),.int .i64 (R7 s.st s.dn),.int .i64 (F3 s.st s.dn)]
def lnN(D:List ST):Nat→List Value
 |0=>[]
 |i+1=>lnN D i++lnK (D.getD i ST.zero)
theorem xB2(D:List ST):∀i,∃r,lnN D (i+1)=lnK (D.getD 0 ST.zero)++r
 |0=>⟨[],by simp[lnN]⟩
 |i+1=>by
  obtain⟨r,h⟩:=xB2 D i
  exact⟨r++lnK (D.getD (i+1) ST.zero),by rw[lnN,h,List.append_assoc]⟩
theorem jK7:(Tryz.prog.info? 237).map (fun i=>(i.zero,i.size,i.bytes))=some (some (.agg #[.int .i64 0,.int .i64 0,.int .i64 0,.int .i64 0]),4,32):=by kernel_rfl
theorem kV9(W:World)(x y z u:Int):∀j v,([.int .i64 x,.int .i64 y,.int .i64 z,.int .i64 u]:List Value)[j]?=some v→(W.alloc (.cells #[.int .i64 x,.int .i64 y,.int .i64 z,.int .i64 u] 237)).cell? ((⟨W.heap.size,0,none⟩:Addr).add j)=some v:=by
 intro j v h
 have hr:=Q3 W (.cells #[.int .i64 x,.int .i64 y,.int .i64 z,.int .i64 u] 237)
 have:=Q0 _ _ j _ _ _ hr
 rw[List.getElem?_toArray,h] at this
 rw[←this]
 cases j with
 |zero=>rfl
 |succ j=>simp[Addr.add]
theorem kY0(x y z u:Int):∀v∈([.int .i64 x,.int .i64 y,.int .i64 z,.int .i64 u]:List Value),v.oneCell'=true:=by
 intro v hv
 simp at hv
 rcases hv with rfl|rfl|rfl|rfl<;>rfl
theorem xZ7(a:Option Addr)(n c:Nat)(t:Nat→RW)(B:Nat)(w:World)(hBw:B≤w.heap.size)(hT:S5 B w a n t)(hO:qQ2 n t)(h1:n=1):
  Calls Tryz.prog 191 #[.slice a n c] w fun e w'=>e= .returned (.tuple #[.slice none 0 0,.int .i64 6])∧Below w.heap.size w w':=by
 have HOP:=Hd (xC4 82 #[] a n c t B w hBw hT hO h1 jT9 (fun W _=>jY3 _ ⟨_,_,_,rfl⟩ W))
 clear hT hO h1
 go_enter Tryz.func191,Tryz.ntmps191
 go_upto_region 2 with(go_at_call 47;refine HOP.out.mono ?_;rintro e W1 ⟨rfl,hb1⟩;have HB1:=Hd hb1;clear hb1)
 have HB2:=Hd (HB1.out.alloc HB1.out.size (.cells #[.slice none 0 0,.slice none 0 0] 121))
 generalize World.alloc W1 _=W2 at*
 go_wp2
 exact Z2 (v:= .tuple #[.slice none 0 0,.int .i64 6]) (by simp[results,Tryz.results191,go_sem]) rfl ⟨rfl,HB2.out⟩
theorem jZ2(a:Option Addr)(n c:Nat)(t:Nat→RW)(B:Nat)(w:World)(hBw:B≤w.heap.size)(hT:S5 B w a n t)(hO:qQ2 n t)(h1:n=1):
  Calls Tryz.prog 173 #[.slice a n c] w fun e w'=>(∃p0 p1 p2 p3:Int,e= .returned (.tuple #[.agg #[.int .i64 p0,.int .i64 p1,.int .i64 p2,.int .i64 p3],.int .i64 6]))∧Below w.heap.size w w':=by
 have HB:=Hd (J3 w (.cells #[.int .i64 0,.int .i64 0,.int .i64 0,.int .i64 0] 237))
 have HR:=Hd (Q3 w (.cells #[.int .i64 0,.int .i64 0,.int .i64 0,.int .i64 0] 237))
 have HOP:=Hd (xZ7 a n c t B (w.alloc (.cells #[.int .i64 0,.int .i64 0,.int .i64 0,.int .i64 0] 237)) (Q5 hBw HB.out.size) (hT.below (HB.out.mono hBw)) hO h1)
 clear hT hO h1
 go_enter Tryz.func173,Tryz.ntmps173
 go_upto_region 1 with(fail)
 generalize World.alloc w _=V at*
 go_upto_region 2 with(go_at_call 191;refine HOP.out.mono ?_;rintro e W1 ⟨rfl,hb1⟩;have HB1:=Hd (HB.out.trans (hb1.mono HB.out.size));have HR1:=Hd (J0 HR.out hb1);clear hb1)
 obtain⟨f0,f1,f2,f3⟩:=fr4 HR1.out
 obtain⟨r0,r1,r2,r3⟩:=cr4 HR1.out
 go_wp2
 have hrow:=Q4 _ _ 3 _ _ (.int .i64 0) (Q4 _ _ 2 _ _ (.int .i64 0) (Q4 _ _ 1 _ _ (.int .i64 0) (Q4 W1 _ 0 _ _ (.int .i64 0) HR1.out)))
 have hbl:=(((HB1.out.setCell (p:=⟨w.heap.size,0,none⟩) (Q1 _) (.int .i64 0)).setCell (p:=⟨w.heap.size,1,none⟩) (Q1 _) (.int .i64 0)).setCell (p:=⟨w.heap.size,2,none⟩) (Q1 _) (.int .i64 0)).setCell (p:=⟨w.heap.size,3,none⟩) (Q1 _) (.int .i64 0)
 generalize World.setCell (World.setCell (World.setCell (World.setCell W1 _ _) _ _) _ _) _ _=V6 at*
 obtain⟨q0,q1,q2,q3⟩:=cr4 hrow
 exact Z2 (v:= .tuple #[.agg #[.int .i64 0,.int .i64 0,.int .i64 0,.int .i64 0],.int .i64 6]) (by simp[results,Tryz.results173,go_sem,q0,q1,q2,q3]) rfl ⟨⟨_,_,_,_,rfl⟩,hbl⟩
theorem kH0(args:Array Value)(W:World):(callFunc 48 args).run Tryz.prog W= .ok (.enter 48 args) W:=enters_of Tryz.func48 (by kernel_rfl) rfl args W
theorem kJ3(z:Int)(q:Nat)(a:Option Addr)(n c:Nat)(t:Nat→RW)(B:Nat)(w:World)(hBw:B≤w.heap.size)(hT:S5 B w a n t)(hn:1≤n)(hq:w.heap[q]?=some (.cells #[.int .i64 z] 3))(hz:(t 0).key≠z):
  Calls Tryz.prog 48 #[.agg #[.slice a n c],.pointer (some ⟨q,0,none⟩)] w fun e w'=>e= .returned (.bool false)∧Below w.heap.size w w':=by
 have HB:=Hd (J3 w (.cells #[.slice a n c] 118))
 have HX:=Hd (Q3 w (.cells #[.slice a n c] 118))
 have HQ:=Hd (J0 hq HB.out)
 have HT:=Hd (hT.below (HB.out.mono hBw))
 have hn0:(0:Int)<(n:Int):=by omega
 have hbw:=hBw
 clear hT hq
 go_enter Tryz.func48,Tryz.ntmps48
 go_upto_region 1 with(fail)
 generalize World.alloc w _=V at*
 obtain⟨b,off,rfl,hbB,c0,c1,c2⟩:=HT.out.get (show 0<n from hn)
 rw[Nat.zero_mul,Nat.add_zero] at c0 c1 c2
 have k0:=Q0 _ _ 0 _ _ _ HX.out
 have z0:=Q0 _ _ 0 _ _ _ HQ.out
 have lt1:=J5 HX.out
 have lt2:=zG2 c0
 have lt3:=J5 HQ.out
 have hd:((t 0).key==z)=false:=by simpa using hz
 generalize(t 0).key=k at*
 (refine J4 (V.heap.size) (by kernel_rfl) (by kernel_rfl) ?_;(repeat(first|go_big_quiet_step(fail)|quiet_step(fail)));refine X4 (wqn ?_);intro xq)
 have HB2:=Hd (HB.out.trans (xq.below.mono HB.out.size))
 generalize K9.val xq=V2 at*
 go_wp2
 go_ret
 exact⟨rfl,HB2.out⟩
theorem kF0(z:Int)(a:Option Addr)(n c:Nat)(t:Nat→RW)(B:Nat)(w:World)(hBw:B≤w.heap.size)(hT:S5 B w a n t)(hO:qQ2 n t)(h1:n=1)(hz: -100000≤z∧z≤200000)(hk:(t 0).key≠z):
  Calls Tryz.prog 19 #[.slice a n c,.int .i64 z] w fun e w'=>(∃p0 p1 q0 q1:Int,e= .returned (.tuple #[.agg #[.int .i64 p0,.int .i64 p1],.agg #[.int .i64 q0,.int .i64 q1],.int .i64 6]))∧Below w.heap.size w w':=by
 obtain⟨h1',h2,h3,h4⟩:=qG5 w (.cells #[.int .i64 z] 3) (.cells #[.int .i64 0,.int .i64 0] 69) (.cells #[.int .i64 0,.int .i64 0] 69)
 have HIN:=Hd (G2 hz.1 hz.2)
 have HB:=Hd h1'
 have HZ:=Hd h2
 have HE:=Hd (And.intro h3 h4)
 have hn:=hO.len
 have HOP:=Hd (fun W (hb:Below w.heap.size w W) (hq:W.heap[w.heap.size]?=some (.cells #[.int .i64 z] 3))=>xC4 48 #[.pointer (some ⟨w.heap.size,0,none⟩)] a n c t B W (Q5 hBw hb.size) (hT.below (hb.mono hBw)) hO h1 kH0 (fun W' hb'=>kJ3 z w.heap.size a n c t B W' (Q5 hBw (Q5 hb.size hb'.size)) ((hT.below (hb.mono hBw)).below (hb'.mono (Q5 hBw hb.size))) (by omega) (J0 hq hb') hk))
 clear h1' h2 h3 h4 hT hO hz h1
 go_enter Tryz.func19,Tryz.ntmps19
 go_upto_region 1 with(fail)
 generalize World.alloc (World.alloc (World.alloc w _) _) _=V at*
 have z0:=Q0 _ _ 0 _ _ _ HZ.out
 go_upto_region 3 with(go_at_call 46;refine(qH9 _ _ _ _).mono ?_;rintro e w' ⟨rfl,rfl⟩;rw[HIN.out])
 clear z0
 go_upto_region 4 with(go_at_call 47;refine(HOP.out _ HB.out HZ.out).mono ?_;rintro e W1 ⟨rfl,hb1⟩;have HB1:=Hd (HB.out.trans (hb1.mono HB.out.size));have HE1:=Hd (And.intro (J0 HE.out.1 hb1) (J0 HE.out.2 hb1));clear hb1 HB HZ HE HOP)
 have hb2:=J3 W1 (.cells #[.slice none 0 0,.slice none 0 0] 121)
 have HB5:=Hd (HB1.out.trans (hb2.mono HB1.out.size))
 have HE5:=Hd (And.intro (J0 HE1.out.1 hb2) (J0 HE1.out.2 hb2))
 clear hb2 HB1 HE1
 generalize World.alloc W1 _=V2 at*
 obtain⟨r0,r1⟩:=M7 HE5.out.1
 obtain⟨s0,s1⟩:=M7 HE5.out.2
 obtain⟨f0,f1⟩:=fr2 HE5.out.1
 obtain⟨g0,g1⟩:=fr2 HE5.out.2
 go_wp2
 have hne:w.heap.size+1≠w.heap.size+1+1:=by omega
 have hr1:=Q4 _ _ 1 _ _ (.int .i64 0) (Q4 V2 _ 0 _ _ (.int .i64 0) HE5.out.1)
 have hr2:=((Q6 _ ⟨w.heap.size+1,1,none⟩ (w.heap.size+1+1) (.int .i64 0) (Ne.symm hne)).trans (Q6 V2 ⟨w.heap.size+1,0,none⟩ (w.heap.size+1+1) (.int .i64 0) (Ne.symm hne))).trans HE5.out.2
 have hr3:=Q4 _ _ 1 _ _ (.int .i64 0) (Q4 _ _ 0 _ _ (.int .i64 0) hr2)
 have hr4:=((Q6 _ ⟨w.heap.size+1+1,1,none⟩ (w.heap.size+1) (.int .i64 0) hne).trans (Q6 _ ⟨w.heap.size+1+1,0,none⟩ (w.heap.size+1) (.int .i64 0) hne)).trans hr1
 have hbl:=(((HB5.out.setCell (p:=⟨w.heap.size+1,0,none⟩) (by dsimp only;omega) (.int .i64 0)).setCell (p:=⟨w.heap.size+1,1,none⟩) (by dsimp only;omega) (.int .i64 0)).setCell (p:=⟨w.heap.size+1+1,0,none⟩) (by dsimp only;omega) (.int .i64 0)).setCell (p:=⟨w.heap.size+1+1,1,none⟩) (by dsimp only;omega) (.int .i64 0)
 generalize World.setCell (World.setCell (World.setCell (World.setCell V2 _ _) _ _) _ _) _ _=V6 at*
 obtain⟨q0,q1⟩:=M7 hr4
 obtain⟨q2,q3⟩:=M7 hr3
 exact Z2 (v:= .tuple #[.agg #[.int .i64 0,.int .i64 0],.agg #[.int .i64 0,.int .i64 0],.int .i64 6]) (by simp[results,Tryz.results19,go_sem,q0,q1,q2,q3]) rfl ⟨⟨_,_,_,_,rfl⟩,hbl⟩
def zK2(w:World)(e:Ending)(w':World):Prop:=
 ∃(D:List ST) (a:Option Addr) (c:Nat),1≤D.length∧e= .returned (.tuple #[.slice a D.length c,.int .i64 0])∧w'.ownsRow w.heap.size 237 4 (.slice a D.length c) D.length (lnN D D.length)∧Below w.heap.size w w'
theorem xZ6(a:Option Addr)(n c:Nat)(t:Nat→RW)(B:Nat)(w:World)(hBw:B≤w.heap.size)(hT:S5 B w a n t)(hO:qQ2 n t)(hc:n≤c∧c≤maxLen)(hf:R6 t n=false)(hs:∃s∈G7 t n,qY6 s t n=true):
  Calls Tryz.prog 191 #[.slice a n c] w (zK2 w):=by
 have HOP:=Hd (zC8 (.func (.func 82) #[] #[]) a n c t B w hBw hT hO hc hf hs)
 unfold qM2 at HOP
 have HST:=Hd (fun C va vc base W (hb:Below w.heap.size w W) (h:F7 t n (G7 t n) C) (h1:1≤C.length∧C.length≤2400) (h2:W.ownsRow base 181 3 (.slice va C.length vc) C.length (stC C))=>xU0 C va vc base a n c t B W (Q5 hBw hb.size) (hT.below (hb.mono hBw)) hO h2 (fun s hs=>E3 hO s (h.from' s hs).1) h1)
 unfold zK6 at HST
 have HLN:=Hd (fun s W (h:s.ok)=>xB0 s W h)
 have HRES:=Hd (fun(D:List ST) (a2:Option Addr) (c2:Nat) W (h1:1≤D.length) (h2:W.ownsRow w.heap.size 237 4 (.slice a2 D.length c2) D.length (lnN D D.length)) (h3:Below w.heap.size w W)=>show zK2 w (.returned (.tuple #[.slice a2 D.length c2,.int .i64 0])) W from⟨D,a2,c2,h1,rfl,h2,h3⟩)
 generalize zK2 w=RES at*
 clear hT hO hf hs
 go_enter Tryz.func191,Tryz.ntmps191
 go_upto_region 2 with(go_at_call 47;refine HOP.out.mono ?_;rintro e W1 ⟨C,va,vc,rfl,hcor,hcl,hown,hb1⟩;have HCR:=Hd hcor;have HOW:=Hd hown;have HB1:=Hd hb1;clear hb1 hcor hown HOP)
 have hb2:=J3 W1 (.cells #[.slice a n c,.slice va C.length vc] 121)
 have HX2:=Hd (Q3 W1 (.cells #[.slice a n c,.slice va C.length vc] 121))
 have HB2:=Hd (HB1.out.trans (hb2.mono HB1.out.size))
 have HO2:=Hd (K4 HOW.out hb2)
 clear hb2 HB1 HOW
 generalize World.alloc W1 _=W2 at*
 generalize W1.heap.size=x at*
 have HSC:=Hd (HST.out C va vc _ W2 HB2.out HCR.out hcl HO2.out)
 clear HST HO2
 generalize C.length=m at*
 obtain⟨k0,k1⟩:=M7 HX2.out
 go_wp2_with(go_at_call 200;refine HSC.out.mono ?_;rintro e W3 ⟨D,a2,c2,hD,hok,rfl,hrw,hb3⟩;have HD:=Hd hD;have HOK:=Hd hok;have HR3:=Hd hrw;have HB3:=Hd (HB2.out.trans (hb3.mono HB2.out.size));clear hD hok hrw hb3 k0 k1)
 have hml:m=D.length:=HD.out.symm
 have hP:1≤D.length:=by omega
 subst hml
 have HRF:=Hd (fun la lc W h2 h3=>HRES.out D la lc W hP h2 h3)
 have HOK2:=Hd (fun i (hl:i<D.length)=>show(D.getD i ST.zero).ok from by
  rw[X3,Z5 hl]
  exact HOK.out _ (List.getElem_mem hl))
 clear HRES HOK
 generalize D.length=m at*
 have hw3:=HB3.out.size
 have hm2:=hcl.2
 have HO3:=Hd (show W3.ownsRow W3.heap.size 237 4 (.slice none 0 0) 0 (lnN D 0) from⟨rfl,.inl ⟨rfl,rfl⟩⟩)
 have HZ3:=Hd (Q2 W3.heap.size W3)
 clear HX2 HB2 hcl HCR HSC HD
 go_loopw [6,20] (fun s6 s20 wr=>∃i:Nat,i≤m∧s20= .int .i64 (i:Int)∧∃la lc,s6= .slice la i lc∧Hid (wr.ownsRow W3.heap.size 237 4 (.slice la i lc) i (lnN D i))∧Hid (Below W3.heap.size W3 wr)) (fun _ s20 _=>m-(intOf s20).toNat)
 case atStart=>exact⟨0,by omega,rfl,none,0,rfl,HO3,HZ3⟩
 case round=>
  clear HO3 HZ3
  obtain⟨i,hi,rfl,la,lc,rfl,HO,HZ⟩:=hrel
  by_cases hl:i<m
  ·have hl':(i:Int)<(m:Int):=by omega
   have hz:=HZ.out.size
   obtain⟨b,off,rfl,hbB,c0,c1,c2⟩:=(HR3.out.below HZ.out).get hl
   have hsok:=HOK2.out i hl
   have HLi:=Hd (fun W=>HLN.out (D.getD i ST.zero) W hsok)
   have HCT:=Hd (show lnN D i++lnK (D.getD i ST.zero)=lnN D (i+1) from rfl)
   unfold tC at c0 c1 c2
   unfold lnK at HCT
   unfold lnV ST.val at HLi
   dsimp only at c0 c1 c2
   clear hsok
   generalize D.getD i ST.zero=s at*
   generalize R7 s.sl s.dn=p0 at*
   generalize F3 s.sl s.dn=p1 at*
   generalize R7 s.st s.dn=p2 at*
   generalize F3 s.st s.dn=p3 at*
   obtain⟨x,y,u⟩:=s
   dsimp only at HLi c0 c1 c2
   go_upto_region 8 with(fail)
   have hb2:=J3 wr (.cells #[.int .i64 x,.int .i64 y,.int .i64 u] 181)
   have HG2:=Hd (Q3 wr (.cells #[.int .i64 x,.int .i64 y,.int .i64 u] 181))
   have HO2:=Hd (K4 HO.out hb2)
   have HZ2:=Hd (HZ.out.trans (hb2.mono hz))
   have hz2:=Q5 hz hb2.size
   clear hb2 HO HZ c0 c1 c2
   generalize World.alloc wr _=W4 at*
   generalize wr.heap.size=g at*
   obtain⟨g0,g1,g2⟩:=U4 HG2.out
   obtain⟨i0,hi0,hz0,hz1,hz22⟩:=info_parts jK7
   have hcn:i+1≤maxLen∧(i+1)*32≤140737488355328:=by unfold maxLen;omega
   go_wp2_with(first
    |(go_at_call 129;refine(HLi.out _).mono ?_;rintro e W5 ⟨rfl,hb3⟩;have HO5:=Hd (K4 HO2.out hb3);have HZ5:=Hd (HZ2.out.trans (hb3.mono hz2));have hz5:=Q5 hz2 hb3.size;clear hb3 HO2 HZ2 HG2 g0 g1 g2)
    |(at_builtin;refine wpList_append_own _ rfl _ _ 294 rfl W3.heap.size 237 i0 _ 4 32 Tryz.underlying294 hi0 hz0 hz1 hz22 rfl (by decide) _ i (lnN D i) rfl (HO5.out.alloc _) ⟨W5.heap.size,0,none⟩ 1 1 [.int .i64 p0,.int .i64 p1,.int .i64 p2,.int .i64 p3] rfl rfl (kV9 W5 _ _ _ _) (kY0 _ _ _ _) hcn.1 hcn.2 (by simp;omega) ?_;intro v' W6 hown4 hgrow4 _;have hbf:=((J3 W5 (.cells #[.int .i64 p0,.int .i64 p1,.int .i64 p2,.int .i64 p3] 237)).mono hz5).grown hgrow4 (by simp;omega) (fun b hb=>L7 HO5.out hb);obtain⟨a4,c4,hv4⟩:=Y6 hown4;subst hv4;rw[HCT.out] at hown4;have HO6:=Hd hown4;have HZ6:=Hd (HZ5.out.trans hbf);clear hbf hown4 hgrow4))
   go_roundw
   case rel=>first|exact⟨i+1,by omega,by go_num,a4,c4,rfl,HO6,HZ6⟩|((repeat apply Z9);exact⟨⟨i+1,by omega,by go_num,a4,c4,rfl,HO6,HZ6⟩,rfl⟩)
   case measure=>simp[intOf];omega
  ·obtain rfl:i=m:=by omega
   have hl':¬(i:Int)<(i:Int):=by omega
   have HF:=Hd (HRF.out la lc wr (P8 HO.out hw3) (HB3.out.trans (HZ.out.mono hw3)))
   go_wp2
   exact HF.out
theorem jZ1(a:Option Addr)(n c:Nat)(t:Nat→RW)(B:Nat)(w:World)(hBw:B≤w.heap.size)(hT:S5 B w a n t)(hO:qQ2 n t)(hc:n≤c∧c≤maxLen)(hf:R6 t n=false)(hs:∃s∈G7 t n,qY6 s t n=true):
  Calls Tryz.prog 173 #[.slice a n c] w fun e w'=>(∃p0 p1 p2 p3:Int,e= .returned (.tuple #[.agg #[.int .i64 p0,.int .i64 p1,.int .i64 p2,.int .i64 p3],.int .i64 0]))∧Below w.heap.size w w':=by
 have HB:=Hd (J3 w (.cells #[.int .i64 0,.int .i64 0,.int .i64 0,.int .i64 0] 237))
 have HR:=Hd (Q3 w (.cells #[.int .i64 0,.int .i64 0,.int .i64 0,.int .i64 0] 237))
 have HOP:=Hd (xZ6 a n c t B (w.alloc (.cells #[.int .i64 0,.int .i64 0,.int .i64 0,.int .i64 0] 237)) (Q5 hBw HB.out.size) (hT.below (HB.out.mono hBw)) hO hc hf hs)
 unfold zK2 at HOP
 clear hT hO hf hs hc
 go_enter Tryz.func173,Tryz.ntmps173
 go_upto_region 1 with(fail)
 generalize World.alloc w _=V at*
 go_upto_region 4 with(go_at_call 191;refine HOP.out.mono ?_;rintro e W1 ⟨D,la,lc,hd,rfl,hown,hb1⟩;have HD:=Hd hd;have HO1:=Hd hown;have HB1:=Hd (HB.out.trans (hb1.mono HB.out.size));have HR1:=Hd (J0 HR.out hb1);clear hb1 hd hown)
 obtain⟨g,rfl,hg1,hg2⟩:=qJ6 HO1.out HD.out
 have hdl:(0:Int)<(D.length:Int):=by have:=HD.out;omega
 obtain⟨k,hk⟩:∃k,D.length=k+1:=⟨D.length-1,by have:=HD.out;omega⟩
 obtain⟨r,hr⟩:=xB2 D k
 have hrow:=HO1.out
 rw[hk,hr] at hrow
 have l0:=hrow.cellAt 0 (by omega)
 have l1:=hrow.cellAt 1 (by omega)
 have l2:=hrow.cellAt 2 (by omega)
 have l3:=hrow.cellAt 3 (by omega)
 unfold lnK at l0 l1 l2 l3
 generalize R7 (D.getD 0 ST.zero).sl (D.getD 0 ST.zero).dn=p0 at*
 generalize F3 (D.getD 0 ST.zero).sl (D.getD 0 ST.zero).dn=p1 at*
 generalize R7 (D.getD 0 ST.zero).st (D.getD 0 ST.zero).dn=p2 at*
 generalize F3 (D.getD 0 ST.zero).st (D.getD 0 ST.zero).dn=p3 at*
 replace l0:=l0.trans (show _=some (Value.int .i64 p0) from rfl)
 replace l1:=l1.trans (show _=some (Value.int .i64 p1) from rfl)
 replace l2:=l2.trans (show _=some (Value.int .i64 p2) from rfl)
 replace l3:=l3.trans (show _=some (Value.int .i64 p3) from rfl)
 clear hrow hr hk hg1
 obtain⟨f0,f1,f2,f3⟩:=fr4 HR1.out
 obtain⟨r0,r1,r2,r3⟩:=cr4 HR1.out
 go_wp2
 have hrow:=Q4 _ _ 3 _ _ (.int .i64 p3) (Q4 _ _ 2 _ _ (.int .i64 p2) (Q4 _ _ 1 _ _ (.int .i64 p1) (Q4 W1 _ 0 _ _ (.int .i64 p0) HR1.out)))
 have hbl:=(((HB1.out.setCell (p:=⟨w.heap.size,0,none⟩) (Q1 _) (.int .i64 p0)).setCell (p:=⟨w.heap.size,1,none⟩) (Q1 _) (.int .i64 p1)).setCell (p:=⟨w.heap.size,2,none⟩) (Q1 _) (.int .i64 p2)).setCell (p:=⟨w.heap.size,3,none⟩) (Q1 _) (.int .i64 p3)
 generalize World.setCell (World.setCell (World.setCell (World.setCell W1 _ _) _ _) _ _) _ _=V6 at*
 obtain⟨q0,q1,q2,q3⟩:=cr4 hrow
 exact Z2 (v:= .tuple #[.agg #[.int .i64 p0,.int .i64 p1,.int .i64 p2,.int .i64 p3],.int .i64 0]) (by simp[results,Tryz.results173,go_sem,q0,q1,q2,q3]) rfl ⟨⟨_,_,_,_,rfl⟩,hbl⟩
def EV.gt(e:EV)(x:TK)(i:Nat):RW:=e.G (x.J i)
structure EV.Lined(e:EV)(x:TK):Prop where
 ok:qQ2 x.n (e.gt x)
 ln:x.n=1∨(R6 (e.gt x) x.n=false∧∃s∈G7 (e.gt x) x.n,qY6 s (e.gt x) x.n=true)
theorem jF2(e:EV)(x:TK)(va:Option Addr)(vc B:Nat)(w:World)(hBw:B≤w.heap.size)(hT:S5 B w va x.n (e.gt x))(hc:x.n≤vc∧vc≤maxLen)(hL:e.Lined x):
  Calls Tryz.prog 173 #[.slice va x.n vc] w fun y w'=>(∃p0 p1 p2 p3 q:Int,(q !=5)=true∧y= .returned (.tuple #[.agg #[.int .i64 p0,.int .i64 p1,.int .i64 p2,.int .i64 p3],.int .i64 q]))∧Below w.heap.size w w':=by
 rcases hL.ln with h1|⟨hf,hs⟩
 ·refine(jZ2 va x.n vc (e.gt x) B w hBw hT hL.ok h1).mono ?_
  rintro y w' ⟨⟨p0,p1,p2,p3,rfl⟩,hb⟩
  exact⟨⟨p0,p1,p2,p3,6,by decide,rfl⟩,hb⟩
 ·refine(jZ1 va x.n vc (e.gt x) B w hBw hT hL.ok hc hf hs).mono ?_
  rintro y w' ⟨⟨p0,p1,p2,p3,rfl⟩,hb⟩
  exact⟨⟨p0,p1,p2,p3,0,by decide,rfl⟩,hb⟩
theorem xH5(e:EV)(x:TK)(view:Int)(N eb:Nat)(w:World)(hN:N≤w.heap.size)(hE:e.At N eb w)(hx:x.At N w)(hxo:x.Ok e.m)(hm8:e.m≤8)(hn:0<x.n)(hT:e.Timely x)(hL:e.Lined x):
  Calls Tryz.prog 151 #[.pointer (some ⟨eb,0,none⟩),x.val view] w fun y w'=>y= .returned (.bool true)∧Below w.heap.size w w':=by
 have HB:=Hd (J3 w (.cells #[.int .i64 view,.slice x.ja x.n x.jc,.slice x.sa x.n x.sc] 110))
 have HX:=Hd (Q3 w (.cells #[.int .i64 view,.slice x.ja x.n x.jc,.slice x.sa x.n x.sc] 110))
 have HTI:=Hd (fun W (hb:Below w.heap.size w W)=>xU3 e x view N eb W (Q5 hN hb.size) (hE.below (hb.mono hN)) (hx.below (hb.mono hN)) hxo hm8 hn hT)
 have HGO:=Hd (fun W (hb:Below w.heap.size w W)=>qH2 e x view N eb W (Q5 hN hb.size) (hE.below (hb.mono hN)) (hx.below (hb.mono hN)) hxo hm8)
 have HFI:=Hd (fun va vc W (h:S5 W.heap.size W va x.n (e.gt x)) (hc:x.n≤vc∧vc≤maxLen)=>jF2 e x va vc W.heap.size W (Q1 _) h hc hL)
 unfold TK.val at HTI HGO
 unfold TK.val
 have HN:=Hd hn
 clear hE hx hxo hT hL hn
 go_enter Tryz.func151,Tryz.ntmps151
 go_upto_region 1 with(fail)
 generalize World.alloc w _=V at*
 obtain⟨k0,k1,k2⟩:=U4 HX.out
 go_upto_region 2 with(go_at_call 172;refine(HTI.out _ HB.out).mono ?_;rintro y W1 ⟨⟨lo,hi,rfl⟩,hb1⟩;have HB1:=Hd (HB.out.trans (hb1.mono HB.out.size));have HX1:=Hd (J0 HX.out hb1);clear hb1 k0 k1 k2 HX HB HTI)
 have hb2:=J3 W1 (.cells #[.int .i64 lo,.int .i64 hi] 47)
 have HB2:=Hd (HB1.out.trans (hb2.mono HB1.out.size))
 have HX2:=Hd (J0 HX1.out hb2)
 clear hb2 HB1 HX1
 generalize World.alloc W1 _=W2 at*
 obtain⟨k0,k1,k2⟩:=U4 HX2.out
 go_upto_region 5 with(first
  |(go_at_call 81;refine(HGO.out _ HB2.out).mono ?_;rintro y W3 ⟨va,vc,rfl,hr3,hc3,hb3⟩;have HR3:=Hd hr3;have HC3:=Hd hc3;have HB3:=Hd (HB2.out.trans (hb3.mono HB2.out.size));clear hr3 hc3 hb3 k0 k1 k2 HX2 HB2)
  |(go_at_call 173;refine(HFI.out va vc W3 HR3.out (HC3.out HN.out)).mono ?_;rintro y W4 ⟨⟨p0,p1,p2,p3,q,hq,rfl⟩,hb4⟩;have HQ:=Hd hq;have HB4:=Hd (HB3.out.trans (hb4.mono HB3.out.size));clear hq hb4))
 have HB5:=Hd (HB4.out.alloc HB4.out.size (.cells #[.int .i64 p0,.int .i64 p1,.int .i64 p2,.int .i64 p3] 237))
 generalize World.alloc W4 _=W5 at*
 have hq:=HQ.out
 go_wp2
 go_ret
 exact⟨rfl,HB5.out⟩
theorem xM8(a:Option Addr)(n c:Nat)(ps:Nat→PR)(need miss:Int)(w:World)(B:Nat)(hBw:B≤w.heap.size)(hP:Y2 B w a n ps)(hC:K7 n ps=true)(h1:1≤need∧need≤16)(h2:0≤miss∧miss≤16):
  Calls Tryz.prog 118 #[L3 a n c,.agg #[.int .i64 need,.int .i64 miss]] w fun e w'=>e= .returned (.int .i64 0)∧Below w.heap.size w w':=by
 have HB:=Hd (((Q2 _ w).alloc (Q1 _) (.cells #[.slice a n c] 24)).alloc (by simp) (.cells #[.int .i64 need,.int .i64 miss] 26))
 have hX:=(Q9 (w.alloc (.cells #[.slice a n c] 24)) (.cells #[.int .i64 need,.int .i64 miss] 26) w.heap.size (by simp)).trans (Q3 w _)
 have hR:=Q3 (w.alloc (.cells #[.slice a n c] 24)) (.cells #[.int .i64 need,.int .i64 miss] 26)
 rw[show(w.alloc (.cells #[.slice a n c] 24)).heap.size=w.heap.size+1 from by simp] at hR
 have HX:=Hd hX
 have HR:=Hd hR
 have HCK:=Hd (fun W (hb:Below w.heap.size w W)=>jQ9 a n c ps W B (Q5 hBw hb.size) (hP.below (hb.mono hBw)))
 rw[hC] at HCK
 have HI1:=Hd (G2 h1.1 h1.2)
 have HI2:=Hd (G2 h2.1 h2.2)
 unfold L3 at HCK
 unfold L3
 clear hX hR hP hC h1 h2
 go_enter Tryz.func118,Tryz.ntmps118
 go_upto_region 1 with(fail)
 generalize World.alloc (World.alloc w _) _=V at*
 have k0:=Q0 _ _ 0 _ _ _ HX.out
 go_wp2_with(first
  |(go_at_call 160;refine(HCK.out _ HB.out).mono ?_;rintro e W1 ⟨rfl,hb1⟩;have HB1:=Hd (HB.out.trans (hb1.mono HB.out.size));have HR1:=Hd (J0 HR.out hb1);clear hb1 k0;obtain⟨r0,r1⟩:=M7 HR1.out;rw[show qC1 true=0 from rfl])
  |(go_at_call 120;refine(zG9 _ _ _ _).mono ?_;rintro e w' ⟨rfl,rfl⟩;first|rw[HI1.out]|rw[HI2.out]))
 go_ret
 exact⟨rfl,HB1.out⟩
theorem zU8(w:World):Calls Tryz.prog 79 #[] w fun e w'=>e= .returned (.agg #[.int .i64 1,.int .i64 0])∧Below w.heap.size w w':=by
 have HB:=Hd (J3 w (.cells #[.int .i64 0,.int .i64 0] 26))
 have HX:=Hd (Q3 w (.cells #[.int .i64 0,.int .i64 0] 26))
 go_enter Tryz.func79,Tryz.ntmps79
 go_upto_region 1 with(fail)
 generalize World.alloc w _=V at*
 obtain⟨f0,f1⟩:=fr2 HX.out
 obtain⟨g0,g1⟩:=M7 HX.out
 go_wp2
 have hrow:=Q4 _ _ 1 _ _ (.int .i64 0) (Q4 V _ 0 _ _ (.int .i64 1) HX.out)
 have hbl:=(HB.out.setCell (p:=⟨w.heap.size,0,none⟩) (Q1 _) (.int .i64 1)).setCell (p:=⟨w.heap.size,1,none⟩) (Q1 _) (.int .i64 0)
 generalize World.setCell (World.setCell V _ _) _ _=V5 at*
 obtain⟨q0,q1⟩:=M7 hrow
 exact Z2 (v:= .agg #[.int .i64 1,.int .i64 0]) (by simp[results,Tryz.results79,go_sem,q0,q1]) rfl ⟨rfl,hbl⟩
def U3(g:GV):RW:=⟨g.z,g.lo,g.hi⟩
def xZ9(g:Option Nat)(eb:Nat)(G:Nat→RW)(i:Nat)(xs:List Value)(w:World):Prop:=
 ∀j,j<i→∃xb xo xc,xs[j]?=some (.slice (some ⟨xb,xo,none⟩) 1 xc)∧xb<w.heap.size∧xb≠eb∧g≠some xb∧w.cell? ⟨xb,xo,none⟩=some (.int .i64 (G j).key)∧w.cell? ⟨xb,xo+1,none⟩=some (.int .i64 (G j).lo)∧w.cell? ⟨xb,xo+2,none⟩=some (.int .i64 (G j).hi)
theorem xZ9.below{g:Option Nat}{eb i:Nat}{G:Nat→RW}{xs:List Value}{w w':World}(h:xZ9 g eb G i xs w)(hb:Below w.heap.size w w'):xZ9 g eb G i xs w':=by
 have c:=(J9 hb).1
 intro j hj
 obtain⟨xb,xo,xc,h1,h2,h3,h4,h5,h6,h7⟩:=h j hj
 exact⟨xb,xo,xc,h1,Z4 h2 hb.size,h3,h4,(c _ _ h2).trans h5,(c _ _ h2).trans h6,(c _ _ h2).trans h7⟩
theorem xZ9.push{eb i:Nat}{G:Nat→RW}{xs:List Value}{W5 W8:World}{tmp:Obj}{v v':Value}{xb xo xc:Nat}(h:xZ9 v.ownBlock eb G i xs W5)(hl:xs.length=i)(hx:xb<W5.heap.size∧W5.cell? ⟨xb,xo,none⟩=some (.int .i64 (G i).key)∧W5.cell? ⟨xb,xo+1,none⟩=some (.int .i64 (G i).lo)∧W5.cell? ⟨xb,xo+2,none⟩=some (.int .i64 (G i).hi))(hne:xb≠eb)(hno:v.ownBlock≠some xb)
  (hg:(W5.alloc tmp).grownBy W8 v.ownBlock) (hat:v'.ownBlock=v.ownBlock∨v'.ownBlock=some (W5.alloc tmp).heap.size):xZ9 v'.ownBlock eb G (i+1) (xs++[.slice (some ⟨xb,xo,none⟩) 1 xc]) (W8.setCell ⟨eb,2,none⟩ v'):=by
 have hs:=hg.size
 have h5:(W5.alloc tmp).heap.size=W5.heap.size+1:=by simp
 have key:∀yb,yb<W5.heap.size→yb≠eb→v.ownBlock≠some yb→(∀o,(W8.setCell ⟨eb,2,none⟩ v').cell? ⟨yb,o,none⟩=W5.cell? ⟨yb,o,none⟩)∧yb<(W8.setCell ⟨eb,2,none⟩ v').heap.size∧v'.ownBlock≠some yb:=fun yb h1 h2 h3=>by
  have e:(W8.setCell ⟨eb,2,none⟩ v').heap[yb]?=W5.heap[yb]? :=(Q6 W8 ⟨eb,2,none⟩ yb v' h2).trans ((hg.block yb (by omega) (fun e=>h3 e.symm)).trans ((J3 W5 tmp).block yb h1))
  refine⟨fun o=>X5 e,by simp[World.setCell];omega,fun e2=> ?_⟩
  rcases hat with h4|h4
  ·exact h3 (by rw[←h4];exact e2)
  ·rw[h4] at e2
   injection e2 with e2
   omega
 intro j hj
 by_cases e:j<i
 ·obtain⟨yb,yo,yc,h1,h2,h3,h4,h5,h6,h7⟩:=h j e
  obtain⟨k1,k2,k3⟩:=key yb h2 h3 h4
  exact⟨yb,yo,yc,by rw[List.getElem?_append_left (by omega)];exact h1,k2,h3,k3,(k1 _).trans h5,(k1 _).trans h6,(k1 _).trans h7⟩
 ·obtain rfl:j=i:=by omega
  obtain⟨k1,k2,k3⟩:=key xb hx.1 hne hno
  exact⟨xb,xo,xc,by rw[List.getElem?_append_right (by omega),hl,Nat.sub_self];rfl,k2,hne,k3,(k1 _).trans hx.2.1,(k1 _).trans hx.2.2.1,(k1 _).trans hx.2.2.2⟩
theorem jS6:(Tryz.prog.info? 57).map (fun i=>(i.zero,i.size,i.bytes))=some (some (.slice none 0 0),1,24):=by kernel_rfl
def jF8(e:Option Addr→Nat→EV)(w:World)(y:Ending)(w':World):Prop:=
 (∃eb ga gc,y= .returned (.tuple #[.pointer (some ⟨eb,0,none⟩),.int .i64 0])∧(e ga gc).At w'.heap.size eb w'∧w.heap.size≤eb)∧Below w.heap.size w w'
theorem xO3(a:Option Addr)(n c:Nat)(ps:Nat→PR)(ha:Option Addr)(m hc:Nat)(hs:Nat→HV)(P:Nat→Nat)(need miss view:Int)(B:Nat)(w:World)(hBw:B≤w.heap.size)(hP:Y2 B w a n ps)(hH:qK7 B w ha m hs)(hC:K7 n ps=true)(h1:1≤need∧need≤16)(h2:0≤miss∧miss≤16)(hm:m≤8)
  (hpl:∀k,k<m→(hs k).plane=(P k:Int)∧P k<n∧C7 (ps (P k)) (hs k)=true∧C2 (ps (P k)) (hs k)=1):
  Calls Tryz.prog 78 #[L3 a n c,.agg #[.int .i64 need,.int .i64 miss],.slice ha m hc] w (jF8 (fun ga gc=>⟨a,n,c,ps,ha,m,hc,hs,P,ga,gc,fun k=>U3 (Y5 (ps (P k)) (hs k) 0),need,miss,view⟩) w):=by
 have HB:=Hd (((Q2 _ w).alloc (Q1 _) (.cells #[.slice a n c] 24)).alloc (by simp) (.cells #[.int .i64 need,.int .i64 miss] 26))
 have hx:=(Q9 (w.alloc (.cells #[.slice a n c] 24)) (.cells #[.int .i64 need,.int .i64 miss] 26) w.heap.size (by simp)).trans (Q3 w _)
 have hr:=Q3 (w.alloc (.cells #[.slice a n c] 24)) (.cells #[.int .i64 need,.int .i64 miss] 26)
 rw[show(w.alloc (.cells #[.slice a n c] 24)).heap.size=w.heap.size+1 from by simp] at hr
 have HX:=Hd hx
 have HR:=Hd hr
 have HCK:=Hd (fun W (hb:Below w.heap.size w W)=>xM8 a n c ps need miss W B (Q5 hBw hb.size) (hP.below (hb.mono hBw)) hC h1 h2)
 have HKN:=Hd (fun k (hk:k<m) W (hb:Below w.heap.size w W)=>show Calls Tryz.prog 119 #[L3 a n c,(hs k).val] W (fun e w'=>e= .returned (.int .i64 0)∧Below W.heap.size W w') from by
  have h:=jZ4 a n c ps (hs k) W B (Q5 hBw hb.size) (hP.below (hb.mono hBw))
  obtain⟨q1,q2,q3,_⟩:=hpl k hk
  rw[hC,zC3 q2 q1,q3] at h
  exact h)
 have HGT:=Hd (fun k (hk:k<m) W (hb:Below w.heap.size w W)=>show Calls Tryz.prog 15 #[L3 a n c,(hs k).val] W (fun e w'=>∃xb xo xc,e= .returned (.tuple #[.slice (some ⟨xb,xo,none⟩) 1 xc,.int .i64 0])∧(xb<w'.heap.size∧w'.cell? ⟨xb,xo,none⟩=some (.int .i64 (U3 (Y5 (ps (P k)) (hs k) 0)).key)∧w'.cell? ⟨xb,xo+1,none⟩=some (.int .i64 (U3 (Y5 (ps (P k)) (hs k) 0)).lo)∧w'.cell? ⟨xb,xo+2,none⟩=some (.int .i64 (U3 (Y5 (ps (P k)) (hs k) 0)).hi))∧W.heap.size≤xb∧Below W.heap.size W w') from by
  obtain⟨q1,q2,q3,q4⟩:=hpl k hk
  refine(zP0 a n c ps (hs k) W B (Q5 hBw hb.size) (hP.below (hb.mono hBw)) hC (P k) q2 q1 q3).mono ?_
  rintro e w' ⟨ga,gc,rfl,hg,hn,hb2⟩
  rw[q4] at hg
  rcases hg with hg|⟨b,off,rfl,hB2,hcc⟩
  ·cases hg
  ·have:=hcc 0 (by omega)
   rw[Nat.zero_mul,Nat.add_zero] at this
   refine⟨b,off,gc,by rw[q4];unfold xV8;rw[q4];rfl,⟨hB2,this.1,this.2.1,this.2.2⟩,hn b off rfl,hb2⟩)
 have HHT:=Hd (fun W (hb:Below w.heap.size w W)=>hH.below (hb.mono hBw))
 generalize hGG:(fun k=>U3 (Y5 (ps (P k)) (hs k) 0))=G at*
 have hGk:∀k,U3 (Y5 (ps (P k)) (hs k) 0)=G k:=fun k=>by rw[←hGG]
 simp only[hGk] at HGT
 have HPP:=Hd (fun W (hb:Below w.heap.size w W)=>hP.below (hb.mono hBw))
 generalize hres:jF8 _ w=RES
 have HRES:=Hd hres
 unfold L3 at HCK HKN HGT
 unfold L3
 clear hx hr hP hH hC h1 h2 hpl hGG hGk hres
 go_enter Tryz.func78,Tryz.ntmps78
 go_upto_region 1 with(fail)
 generalize World.alloc (World.alloc w _) _=V0 at*
 have x0:=Q0 _ _ 0 _ _ _ HX.out
 obtain⟨r0,r1⟩:=M7 HR.out
 have hgt:¬(24:Int)<(m:Int):=by omega
 go_upto_region 5 with(go_at_call 118;refine(HCK.out _ HB.out).mono ?_;rintro e W1 ⟨rfl,hb1⟩;have HB1:=Hd (HB.out.trans (hb1.mono HB.out.size));have HX1:=Hd (J0 HX.out hb1);have HR1:=Hd (J0 HR.out hb1);clear hb1 x0 r0 r1 HX HR HB HCK)
 have x0:=Q0 _ _ 0 _ _ _ HX1.out
 obtain⟨r0,r1⟩:=M7 HR1.out
 go_upto_region 6 with(fail)
 have hb2:=J3 W1 (.cells #[.slice a n c,.slice ha m hc,.slice (none) (0) (0),.int .i64 need,.int .i64 miss] 226)
 have heb:=Q3 W1 (.cells #[.slice a n c,.slice ha m hc,.slice (none) (0) (0),.int .i64 need,.int .i64 miss] 226)
 have HB2:=Hd (HB1.out.trans (hb2.mono HB1.out.size))
 have HX2:=Hd (J0 HX1.out hb2)
 have HEB:=Hd heb
 have hweb:w.heap.size≤W1.heap.size:=HB1.out.size
 have hwe:w.heap.size<W1.heap.size:=J5 HX1.out
 have hebV:W1.heap.size<(W1.alloc (.cells #[.slice a n c,.slice ha m hc,.slice (none) (0) (0),.int .i64 need,.int .i64 miss] 226)).heap.size:=J5 heb
 clear x0 r0 r1 hb2 heb HX1 HR1 HB1
 generalize World.alloc W1 _=V at*
 generalize W1.heap.size=eb at*
 have HO2:=Hd (World.ownsRow_nil V V.heap.size 57 1)
 have HG2:=Hd (show xZ9 (Value.slice none 0 0).ownBlock eb G 0 [] V from fun j hj=>absurd hj (Nat.not_lt_zero j))
 go_wp2
 go_loopw [27] (fun s27 wr=>∃i:Nat,i≤m∧s27= .int .i64 (i:Int)∧V.heap.size≤wr.heap.size∧∃ga gc xs,Hid (wr.heap[eb]?=some (.cells #[.slice a n c,.slice ha m hc,.slice (ga) (i) (gc),.int .i64 need,.int .i64 miss] 226))∧Hid (wr.ownsRow V.heap.size 57 1 (.slice ga i gc) i xs)∧Hid (xZ9 (Value.slice ga i gc).ownBlock eb G i xs wr)∧Hid (Below w.heap.size w wr)∧Hid (wr.heap[w.heap.size]?=some (.cells #[.slice a n c] 24))) (fun s27 _=>m-(intOf s27).toNat)
 case atStart=>exact⟨0,Nat.zero_le _,rfl,Q1 _,none,0,[],HEB,HO2,HG2,HB2,HX2⟩
 case round=>
  clear HEB HO2 HG2 HB2 HX2
  obtain⟨i,hi,rfl,hVz,ga,gc,xs,HEB,HO,HG,HB,HX⟩:=hrel
  by_cases hl:i<m
  ·have hl':(i:Int)<(m:Int):=by omega
   obtain⟨hb,ho,rfl,hhB,c0,c1,c2,c3,c4,c5⟩:=(HHT.out wr HB.out).get hl
   have HKi:=Hd (HKN.out i hl)
   have HGi:=Hd (HGT.out i hl)
   have hwz:=HB.out.size
   unfold HV.val at HKi HGi
   generalize hs i=h at*
   obtain⟨p0,p1,p2,p3,p4,p5⟩:=h
   dsimp only at*
   go_upto_region 9 with(fail)
   have hb3:=J3 wr (.cells #[.int .i64 p0,.int .i64 p1,.int .i64 p2,.int .i64 p3,.int .i64 p4,.int .i64 p5] 61)
   have HHB:=Hd (Q3 wr (.cells #[.int .i64 p0,.int .i64 p1,.int .i64 p2,.int .i64 p3,.int .i64 p4,.int .i64 p5] 61))
   have HB3:=Hd (HB.out.trans (hb3.mono HB.out.size))
   have HX3:=Hd (J0 HX.out hb3)
   have HE3:=Hd (J0 HEB.out hb3)
   have HO3:=Hd (K4 HO.out hb3)
   have HG3:=Hd (HG.out.below hb3)
   have hVz3:V.heap.size≤(wr.alloc (.cells #[.int .i64 p0,.int .i64 p1,.int .i64 p2,.int .i64 p3,.int .i64 p4,.int .i64 p5] 61)).heap.size:=by simp;omega
   clear hb3 c0 c1 c2 c3 c4 c5 HB HX HEB HO HG
   generalize World.alloc wr _=V3 at*
   generalize wr.heap.size=qb at*
   have x0:=Q0 _ _ 0 _ _ _ HX3.out
   obtain⟨k0,k1,k2,k3,k4,k5⟩:=cr6 HHB.out
   go_upto_region 11 with(go_at_call 119;refine(HKi.out _ HB3.out).mono ?_;rintro y W4 ⟨rfl,hb4⟩;have HB4:=Hd (HB3.out.trans (hb4.mono HB3.out.size));have HX4:=Hd (J0 HX3.out hb4);have HE4:=Hd (J0 HE3.out hb4);have HH4:=Hd (J0 HHB.out hb4);have HO4:=Hd (K4 HO3.out hb4);have HG4:=Hd (HG3.out.below hb4);have hVz4:=Q5 hVz3 hb4.size;clear hb4 x0 k0 k1 k2 k3 k4 k5 HB3 HX3 HE3 HO3 HG3 HHB HKi)
   have x0:=Q0 _ _ 0 _ _ _ HX4.out
   obtain⟨k0,k1,k2,k3,k4,k5⟩:=cr6 HH4.out
   go_upto_region 14 with(go_at_call 15;refine(HGi.out _ HB4.out).mono ?_;rintro y W5 ⟨xb,xo,xc,rfl,hgc,hxn,hb5⟩;have HGC:=Hd hgc;have HB5:=Hd (HB4.out.trans (hb5.mono HB4.out.size));have HX5:=Hd (J0 HX4.out hb5);have HE5:=Hd (J0 HE4.out hb5);have HO5:=Hd (K4 HO4.out hb5);have HG5:=Hd (HG4.out.below hb5);have hVz5:=Q5 hVz4 hb5.size;have HXN:=Hd (show eb<xb∧(Value.slice ga i gc).ownBlock≠some xb from⟨by have:=J5 HE4.out;omega,fun e=>by have:=qJ7 HO4.out xb e;omega⟩);clear hb5 x0 k0 k1 k2 k3 k4 k5 HB4 HX4 HE4 HO4 HG4 HH4 HGi hgc hxn)
   have e2:=Q0 _ _ 2 _ _ _ HE5.out
   have fe:=Z3 _ _ 2 _ _ HE5.out
   have hel:=J5 HE5.out
   have hxl:xs.length=i:=by have:=HO5.out.1;omega
   obtain⟨j0,hj0,hj1,hj2,hj3⟩:=info_parts jS6
   have hcn:i+1≤maxLen∧(i+1)*24≤140737488355328:=by unfold maxLen;omega
   have hon:(Value.slice ga i gc).ownBlock≠some eb:=fun e=>by have:=L7 HO5.out e;omega
   go_wp2_with(at_builtin;refine wpList_append_own_at _ rfl _ _ 224 rfl V.heap.size 57 j0 _ 1 24 Tryz.underlying224 hj0 hj1 hj2 hj3 rfl (by decide) (.slice ga i gc) i xs rfl (HO5.out.alloc _) ⟨W5.heap.size,0,none⟩ 1 1 [.slice (some ⟨xb,xo,none⟩) 1 xc] rfl rfl (fun j v h=>R4 (xs:=[.slice (some ⟨xb,xo,none⟩) 1 xc]) j v h) (by intro u hu;simp at hu;rw[hu];rfl) hcn.1 hcn.2 (by simp;omega) ?_;intro v' W8 hown8 hgrow8 _ hat8;obtain⟨a8,c8,hv8⟩:=Y6 hown8;subst hv8;have heb8:=(hgrow8.block eb (Z4 hel (J3 W5 _).size) (fun e=>hon e.symm)).trans (((J3 W5 _).block eb hel).trans HE5.out);have e8:=Q0 _ _ 2 _ _ _ heb8;have f8:=Z3 _ _ 2 _ _ heb8;have hx8:=(hgrow8.block w.heap.size (Z4 (J5 HX5.out) (J3 W5 _).size) (fun e=>by have:=L7 HO5.out e.symm;omega)).trans (((J3 W5 _).block w.heap.size (J5 HX5.out)).trans HX5.out);have HE8:=Hd heb8;have HX8:=Hd hx8;have HO8:=Hd hown8;have HGR:=Hd hgrow8;have HAT:=Hd hat8;clear hown8 hgrow8 hat8 heb8 hx8)
   have HE9:=Hd (Q4 W8 eb 2 _ _ (.slice a8 (i+1) c8) HE8.out)
   have HX9:=Hd ((Q6 W8 ⟨eb,2,none⟩ w.heap.size (.slice a8 (i+1) c8) (by show w.heap.size≠eb;omega)).trans HX8.out)
   have HO9:=Hd (L5 (w':=W8.setCell ⟨eb,2,none⟩ (.slice a8 (i+1) c8)) HO8.out (fun g hg=>Q6 W8 ⟨eb,2,none⟩ g _ (by have:=L7 HO8.out hg;show g≠eb;omega)))
   have HG9:=Hd (HG5.out.push (v:= .slice ga i gc) (xc:=xc) hxl HGC.out (by have:=HXN.out.1;omega) HXN.out.2 HGR.out HAT.out)
   have HB9:=Hd ((((HB5.out.alloc HB5.out.size _).grown HGR.out (by have:=HB5.out.size;simp;omega) (fun b hb=>by have:=L7 HO5.out hb;omega)).setCell (p:=⟨eb,2,none⟩) (by show w.heap.size≤eb;omega) (.slice a8 (i+1) c8)))
   have hVz9:V.heap.size≤(W8.setCell ⟨eb,2,none⟩ (.slice a8 (i+1) c8)).heap.size:=by have:=HGR.out.size;simp[World.setCell] at*;omega
   clear HE8 HX8 HO8 HGR HAT HG5 HO5 HE5 HX5 HB5
   generalize World.setCell W8 _ _=W9 at*
   go_roundw
   case rel=>first|exact⟨i+1,by omega,by go_num,hVz9,a8,c8,_,HE9,HO9,HG9,HB9,HX9⟩|((repeat apply Z9);exact⟨⟨i+1,by omega,by go_num,hVz9,a8,c8,_,HE9,HO9,HG9,HB9,HX9⟩,rfl⟩)
   case measure=>simp[intOf];omega
  ·obtain rfl:i=m:=by omega
   have hl':¬(i:Int)<(i:Int):=by omega
   have HR:=Hd (show RES (.returned (.tuple #[.pointer (some ⟨eb,0,none⟩),.int .i64 0])) wr from by
    rw[←HRES.out]
    have hz:=HB.out.size
    refine⟨⟨eb,ga,gc,rfl,⟨J5 HEB.out,HEB.out,(HPP.out wr HB.out).up (Q5 hBw hz),(HHT.out wr HB.out).up' (Q5 hBw hz),?_⟩,by omega⟩,HB.out⟩
    by_cases h0:0<i
    ·obtain⟨g,rfl,hg1,hg2⟩:=qJ6 HO.out h0
     refine .inr ⟨g,0,rfl,hg2,fun j hj=> ?_⟩
     have hj:j<i:=hj
     obtain⟨xb,xo,xc,q1,q2,q3,q4,q5,q6,q7⟩:=HG.out j hj
     refine⟨xb,xo,xc,?_,q2,q5,q6,q7⟩
     show wr.cell? ⟨g,0+j,none⟩=_
     rw[Nat.zero_add]
     exact(HO.out.cellAt j (by omega)).trans q1
    ·exact .inl (by show i=0;omega))
   clear HEB HO HG HB HX
   go_wp2
   exact HR.out
end
end Go.Proofs.YtmncaipgefbalaaGreatDoor
