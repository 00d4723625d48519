/- Part of the proof of the claim. -/
import Derived.Test.YtmncaipgefbalaaGreatDoorQbc
set_option maxRecDepth 100000
set_option maxHeartbeats 8000000
set_option linter.unusedVariables false
set_option linter.unusedSimpArgs false
namespace Go.Proofs.YtmncaipgefbalaaGreatDoor
section
open Go Go.RowKit Go.Shelf
def jF3(ok:Prop)(w:World)(y:Ending)(w':World):Prop:=(∃b,y= .returned (.bool b)∧(ok→b=true))∧Below w.heap.size w w'
theorem N7{P:Program}{md:Region.Mode}{Q:Exit→Act→World→Prop}{S:World→Prop}{l:List Oper}{n f:Nat}{listed:Array Bool}{a:Act}{w:World}{v:Value}{oi:Oper}{X:Prop}(i:Nat)(q:X)(hi:l.toArray[i]?=some oi:=by rfl)(hB:TkB md l n listed i=true:=by kernel_rfl)(hQ:∀c a w,Q (.panic c) (a.put oi.dst v) w→Q (.panic c) a w:=by exact fun _ _ _ h=>h)(hy:YieldsIf P l.toArray S oi v a:=by(refine Or.inl ⟨by rfl,?_⟩;intro w' hSw;(try dsimp only at hSw);have cc0:=(J9 hSw).1;(try simp only[hng]);go_simp;(try with_reducible rfl)))(hS:S w:=by assumption)(hx:X→M5 P md l.toArray Q S n (C0 P md l Q n) f (listed.setIfInBounds i true) (a.put oi.dst v) w:=by(intro qq;refine hnm ?_;exact qq)):M5 P md l.toArray Q S n (C0 P md l Q n) (f+1) listed a w:=L9 hi hB hQ hy hS (hx q)
theorem kK2(e:EV)(x:TK)(A b0:Int)(Q:Nat→Bool)(N eb:Nat)(w:World)(hN:N≤w.heap.size)(hE:e.At N eb w)(hO:e.Ok)(hx:x.At N w)(hxo:x.Ok e.m)(hxn:0<x.n)(hL:e.Lined x)(hI:qB6 (e.gt x) x.n A b0)
  (hQ:∀i,i<e.n→(e.ps i).view=e.view→(∀k,k<x.n→e.P (x.J k)≠i)→∀lo hi:Int,lo≤b0+A*(e.ps i).z→b0+A*(e.ps i).z≤hi→-1000000≤lo→hi≤1000000→O7 (e.ps i) lo hi=true→Q i=true):
  Calls Tryz.prog 111 #[.pointer (some ⟨eb,0,none⟩),x.val e.view] w (jF3 (e.need≤(x.n:Int)∧((qX9 Q e.n:Nat):Int)≤e.miss) w):=by
 have HB:=Hd (J3 w (.cells #[.int .i64 e.view,.slice x.ja x.n x.jc,.slice x.sa x.n x.sc] 110))
 have HX:=Hd (Q3 w (.cells #[.int .i64 e.view,.slice x.ja x.n x.jc,.slice x.sa x.n x.sc] 110))
 have HMI:=Hd (fun W (hb:Below w.heap.size w W)=>xB5 e x A b0 Q N eb W (Q5 hN hb.size) (hE.below (hb.mono hN)) hO (hx.below (hb.mono hN)) hxo hxn hL hI hQ)
 have HE:=Hd (fun W (hb:Below w.heap.size w W)=>(hE.below (hb.mono hN)).cells)
 have hebl:eb<w.heap.size:=by have:=hE.lt;omega
 unfold TK.val at HMI
 unfold TK.val
 generalize hres:jF3 (e.need≤(x.n:Int)∧((qX9 Q e.n:Nat):Int)≤e.miss) w=RES
 have HRES:=Hd hres
 clear hE hO hx hxo hL hI hQ hres
 go_enter Tryz.func111,Tryz.ntmps111
 go_upto_region 1 with(fail)
 have hsz:w.heap.size<(w.alloc (.cells #[.int .i64 e.view,.slice x.ja x.n x.jc,.slice x.sa x.n x.sc] 110)).heap.size:=by simp
 generalize World.alloc w _=V at*
 obtain⟨e0,e1,e2,e3,e4⟩:=HE.out V HB.out
 obtain⟨k0,k1,k2⟩:=U4 HX.out
 have hebl2:eb<V.heap.size:=by omega
 by_cases hd:e.need≤(x.n:Int)
 ·have hdt:decide (e.need≤(x.n:Int))=true:=Z0 hd
  refine wp_region_any (by kernel_rfl) ?_
  change wpAny _ _ _ _ _ _ _ (World.drew V)
  have HBd:=Hd (HB.out.trans ((Q2 _ V).drew.mono HB.out.size))
  have e3':V.drew.cell? ⟨eb,3,none⟩=_:=e3
  have e4':V.drew.cell? ⟨eb,4,none⟩=_:=e4
  have k0':V.drew.cell? ⟨w.heap.size,0,none⟩=_:=k0
  have k1':V.drew.cell? ⟨w.heap.size,1,none⟩=_:=k1
  have k2':V.drew.cell? ⟨w.heap.size,2,none⟩=_:=k2
  have hsz':w.heap.size<V.drew.heap.size:=hsz
  have hebl':eb<V.drew.heap.size:=hebl2
  clear e0 e1 e2 e3 e4 k0 k1 k2 HE HX HB hsz hebl2 hebl
  generalize World.drew V=Vd at*
  refine B1 19 19 (fun w':World=>Below Vd.heap.size Vd w') (by kernel_rfl) (Q2 _ _) (fun hS=> ?_)
  refine N7 0 ?_
  refine N7 1 ?_
  refine N7 2 ?_
  refine N7 3 ?_
  refine N7 4 ?_
  refine N7 5 ?_
  refine N7 6 ?_
  refine N7 7 ?_
  refine N7 8 ?_
  refine N7 9 ?_
  refine N7 10 ?_
  refine N7 11 ?_
  refine N7 14 ?_
  refine N7 15 ?_
  refine N7 16 ?_
  refine N7 17 ?_
  refine N7 18 ?_
  refine V7 12 ?_
  refine V8 rfl (fun K hK=> ?_)
  (try simp only[hng])
  go_simp
  refine(HMI.out Vd HBd.out).mono ?_
  rintro y W2 ⟨⟨la,k,lc,rfl,hk⟩,hb⟩
  have HF:=Hd (HBd.out.trans (hb.mono HBd.out.size))
  have HK:=Hd hk
  refine hK.out _ _ hb (fun hS2=> ?_)
  clear hK K hS hk hb e3' e4' k0' k1' k2' HMI
  refine hnm ?_
  refine N7 13 ?_
  change C0 _ _ _ _ _ _ _ _
  refine⟨by kernel_rfl,?_⟩
  simp only[X7,List.drop_zero]
  have HR:=Hd (fun(b:Bool) (h:b=decide ((k:Int)≤e.miss))=>show RES (.returned (.bool b)) W2 from by
   rw[←HRES.out]
   refine⟨⟨b,rfl,fun h2=> ?_⟩,HF.out⟩
   rw[h]
   exact Z0 (by have:=HK.out;omega))
  go_wp2
  exact HR.out _ rfl
 ·have hdf:decide (e.need≤(x.n:Int))=false:=Q7 hd
  (refine J4 (V.heap.size) (by kernel_rfl) (by kernel_rfl) ?_;(repeat(first|go_big_quiet_step(fail)|quiet_step(fail)));refine X4 (wqn ?_);intro xq)
  have HF:=Hd (HB.out.trans (xq.below.mono HB.out.size))
  have HD:=Hd hd
  generalize K9.val xq=V2 at*
  clear hd
  go_wp2
  rw[←HRES.out]
  exact⟨⟨false,rfl,fun h=>by have:=HD.out;omega⟩,HF.out⟩
theorem xG2(w:World):Calls Tryz.prog 145 #[.slice none 0 0,.bool false] w fun e w'=>e= .returned (.int .i64 (-1))∧w=w':=by
 go_enter Tryz.func145,Tryz.ntmps145
 go_wp2
 go_loopw [8] (fun x wr=>x= .int .i64 0∧wr=w) (fun x _=>0)
 case atStart=>exact⟨rfl,rfl⟩
 case round=>
  obtain⟨rfl,rfl⟩:=hrel
  go_wp2
  go_ret
  exact⟨rfl,rfl⟩
theorem zG5(w:World):Calls Tryz.prog 108 #[.slice none 0 0,.bool false] w fun e w'=>e= .returned (.bool false)∧w=w':=by
 go_enter Tryz.func108,Tryz.ntmps108
 go_wp2_with(go_at_call 145;refine(xG2 _).mono ?_;rintro e w' ⟨rfl,rfl⟩)
 go_ret
 exact⟨rfl,rfl⟩
structure EV.Good(e:EV)(A b0:Int)(Q:Nat→Bool):Prop where
 ok:e.Ok
 vw:e.view=1∨e.view=2
 tl:∀x:TK,x.Ok e.m→1≤x.n→e.Timely x
 ln:∀x:TK,x.Ok e.m→1≤x.n→e.Lined x
 li:∀x:TK,x.Ok e.m→1≤x.n→qB6 (e.gt x) x.n A b0
 q:∀i,i<e.n→(e.ps i).view=e.view→(∀k,k<e.m→e.P k≠i)→∀lo hi:Int,lo≤b0+A*(e.ps i).z→b0+A*(e.ps i).z≤hi→-1000000≤lo→hi≤1000000→O7 (e.ps i) lo hi=true→Q i=true
 need:e.need≤(e.m:Int)
 miss:((qX9 Q e.n:Nat):Int)≤e.miss
theorem TK.Ok.full{x:TK}{m:Nat}(h:x.Ok m)(hn:x.n=m):∀i,i<m→x.J i=i:=by
 have h1:∀i,i<x.n→i≤x.J i:=by
  intro i
  induction i with
  |zero=>intro _;omega
  |succ i ih=>intro hi;have:=ih (by omega);have:=h.inc i (i+1) (by omega) hi;omega
 have h2:∀d i,i+d+1=x.n→x.J i≤i:=by
  intro d
  induction d with
  |zero=>intro i hi;have:=h.lt i (by omega);omega
  |succ d ih=>intro i hi;have:=ih (i+1) (by omega);have:=h.inc i (i+1) (by omega) (by omega);omega
 intro i hi
 have:=h1 i (by omega)
 have:=h2 (x.n-(i+1)) i (by omega)
 omega
theorem EV.Good.fit{e:EV}{A b0:Int}{Q:Nat→Bool}(hg:e.Good A b0 Q)(x:TK)(N eb:Nat)(w:World)(hN:N≤w.heap.size)(hE:e.At N eb w)(hx:x.At N w)(hxo:x.Ok e.m)(hxn:1≤x.n):
  Calls Tryz.prog 111 (#[.pointer (some ⟨eb,0,none⟩)]++ #[x.val e.view]++ #[]) w fun y w'=>(∃b,y= .returned (.bool b)∧(x.n=e.m→b=true))∧Below w.heap.size w w':=by
 have h:=kK2 e x A b0 (fun i=>if x.n=e.m then Q i else true) N eb w hN hE hg.ok hx hxo hxn (hg.ln x hxo hxn) (hg.li x hxo hxn) (fun i hi hv hk lo hi' h1 h2 h3 h4 h5=>by
  show(if x.n=e.m then Q i else true)=true
  by_cases e1:x.n=e.m
  ·rw[if_pos e1]
   exact hg.q i hi hv (fun k hk'=>by have:=hk k (by omega);rwa [hxo.full e1 k hk'] at this) lo hi' h1 h2 h3 h4 h5
  ·rw[if_neg e1])
 refine h.mono ?_
 rintro y w' ⟨⟨b,rfl,h1⟩,hb⟩
 refine⟨⟨b,rfl,fun e1=>h1 ⟨?_,?_⟩⟩,hb⟩
 ·rw[e1];exact hg.need
 ·simp only[e1,if_true]
  exact hg.miss
theorem EV.Good.agree{e:EV}{A b0:Int}{Q:Nat→Bool}(hg:e.Good A b0 Q)(eb:Nat)(x:TK)(W:World)(hE:e.At W.heap.size eb W)(hx:x.At W.heap.size W)(hxo:x.Ok e.m)(hxn:0<x.n)(V:Int):
  Calls Tryz.prog 151 #[.pointer (some ⟨eb,0,none⟩),x.val V] W fun y w'=>y= .returned (.bool true)∧Below W.heap.size W w':=
 xH5 e x V W.heap.size eb W (Q1 _) hE hx hxo hg.ok.m8.2 hxn (hg.tl x hxo hxn) (hg.ln x hxo hxn)
end
section
open Go Go.RowKit
def F2(p:PG)(view:Int)(ps:Nat→PR)(n:Nat):List Nat:=(List.range n).filter (fun i=> !qG8 p view (ps i)&&qG9 p (ps i) i)
def zC1(p:PG)(view:Int)(ps:Nat→PR)(i:Nat):Bool:= !qG8 p view (ps i)&&(!qG9 p (ps i) i&&qJ9 p (ps i))
theorem qN5(p:PG)(view:Int)(ps:Nat→PR):∀n,O6 p view ps n=((F2 p view ps n).map (fun i=>G8 p (ps i) i),qX9 (zC1 p view ps) n)
 |0=>rfl
 |n+1=>by
  have h:F2 p view ps (n+1)=F2 p view ps n++(if(!qG8 p view (ps n)&&qG9 p (ps n) n)=true then [n] else []):=by
   unfold F2
   rw[List.range_succ,List.filter_append]
   congr 1
   simp only[List.filter_cons,List.filter_nil]
  rw[O6,qN5 p view ps n,h,qX9]
  unfold zC1
  dsimp only
  cases qG8 p view (ps n)<;>cases qG9 p (ps n) n<;>cases qJ9 p (ps n)<;>simp
theorem qA4{p:PG}{view:Int}{ps:Nat→PR}{n i:Nat}:i∈F2 p view ps n↔i<n∧qG8 p view (ps i)=false∧qG9 p (ps i) i=true:=by
 unfold F2
 simp
theorem xD8{p:PG}{view:Int}{ps:Nat→PR}{n k:Nat}(hk:k<(F2 p view ps n).length):(F2 p view ps n).getD k 0∈F2 p view ps n:=by
 rw[X3,Z5 hk]
 exact List.getElem_mem hk
theorem jA5{p:PG}{view:Int}{ps:Nat→PR}{n j k:Nat}(hj:j<k)(hk:k<(F2 p view ps n).length):(F2 p view ps n).getD j 0<(F2 p view ps n).getD k 0:=by
 have h:=List.pairwise_iff_getElem.1 (List.Pairwise.filter (fun i=> !qG8 p view (ps i)&&qG9 p (ps i) i) (List.pairwise_lt_range (n:=n))) j k (by unfold F2 at hk;omega) hk hj
 rw[X3,Z5 (by omega),X3,Z5 hk]
 exact h
theorem jA4{p:PG}{view:Int}{ps:Nat→PR}{n i:Nat}(h:i∈F2 p view ps n):∃k,k<(F2 p view ps n).length∧(F2 p view ps n).getD k 0=i:=by
 obtain⟨k,hk,rfl⟩:=List.mem_iff_getElem.1 h
 exact⟨k,hk,by rw[X3,Z5 hk];rfl⟩
theorem kG5{p:PG}{view:Int}{x:PR}(h:qG8 p view x=false):x.view=view∧-1000000≤rPl p x∧rPl p x≤1000000:=by
 unfold qG8 at h
 simp only[Bool.or_eq_false_iff,bne_eq_false_iff_eq,decide_eq_false_iff_not] at h
 exact⟨h.1,by omega,by omega⟩
theorem zB5{p:PG}{x:PR}{i:Nat}(hS:S8 x)(hk:x.kind≠2)(ho:x.olo≤p.os i∧p.os i≤x.ohi)(hh:C7 x (G8 p x i)=true):
  gA x (G8 p x i)+x.olo≤rPl p x∧rPl p x≤gB x (G8 p x i)+x.ohi∧-1000000≤gA x (G8 p x i)+x.olo∧gB x (G8 p x i)+x.ohi≤1000000∧C2 x (G8 p x i)=1:=by
 have hp:F1 x (G8 p x i)=true:=by
  unfold C7 at hh
  simp only[Q8] at hh
  exact hh.1
 obtain⟨⟨c1,c2⟩,_⟩:=qS2.1 hp
 have hq:=hS.pitch
 have hy:0≤rY p x i:=by
  rcases Int.lt_or_le (rY p x i) 0 with h|h
  ·have e:(G8 p x i).channel= -1:=by
    show qA1 p x i= -1
    unfold qA1
    rw[if_neg (by omega)]
   omega
  ·exact h
 have hc:(G8 p x i).channel=rY p x i/x.pitch:=by
  show qA1 p x i=_
  unfold qA1
  rw[if_pos hy]
 have hm:(G8 p x i).many=1:=rfl
 have d1:(G8 p x i).channel*x.pitch≤rY p x i:=by rw[hc];exact Int.ediv_mul_le _ (by omega)
 have d2:rY p x i<((G8 p x i).channel+1)*x.pitch:=by rw[hc];exact Int.lt_ediv_add_one_mul_self _ (by omega)
 have d3:((G8 p x i).channel+1)*x.pitch=(G8 p x i).channel*x.pitch+x.pitch:=by rw[Int.add_mul,Int.one_mul]
 have d4:0≤(G8 p x i).channel*x.pitch:=Int.mul_nonneg c1 (by omega)
 have d5:((G8 p x i).channel+1)*x.pitch≤(x.strips+1)*x.pitch:=Z7 (by omega) (by omega)
 have hl:=hS.low
 have hh2:=hS.high
 have hsp:=hS.spill
 have hrY:rY p x i=rPl p x-p.os i-x.first:=rfl
 have e1:gA x (G8 p x i)=x.first+(G8 p x i).channel*x.pitch-x.spill:=by
  unfold gA
  rw[hm,show(G8 p x i).channel+1-1=(G8 p x i).channel from by omega]
 have e2:gB x (G8 p x i)=x.first+((G8 p x i).channel+1)*x.pitch+x.spill:=rfl
 refine⟨by omega,by omega,by omega,by omega,?_⟩
 unfold C2
 rw[if_neg hk,if_neg (by omega)]
theorem I3{n:Nat}{ps:Nat→PR}(h:K7 n ps=true){k:Nat}(hk:k<n):S8 (ps k):=by
 have h1:=M3 h hk
 simp only[K6,Q8] at h1
 exact E8.1 h1.2.1
theorem kE2{tl:Nat→Int}{T:Int}:∀N,(∀j,j≤N→tl j≤T)→cL tl N≤T
 |0,h=>h 0 (Q1 _)
 |N+1,h=>by
  have h1:=kE2 N (fun j hj=>h j (by omega))
  have h2:=h (N+1) (Q1 _)
  unfold cL
  split<;>omega
theorem kE5{th:Nat→Int}{T:Int}:∀N,(∀j,j≤N→T≤th j)→T≤cH th N
 |0,h=>h 0 (Q1 _)
 |N+1,h=>by
  have h1:=kE5 N (fun j hj=>h j (by omega))
  have h2:=h (N+1) (Q1 _)
  unfold cH
  split<;>omega
theorem zO8{x:PR}{lo hi lo' hi':Int}(h:I7 x lo hi=true)(h1:lo≤lo')(h2:hi'≤hi):I7 x lo' hi'=true:=by
 unfold I7 at h ⊢
 rw[qN3] at h ⊢
 obtain⟨q,hc⟩:=h
 simp only[Q8,Z8] at q ⊢
 exact⟨⟨by omega,by omega⟩,fun c hcn hd hh=>hc c hcn hd ⟨by omega,by omega⟩⟩
theorem jA6(p:PG)(view:Int)(ps:Nat→PR)(n:Nat):(F2 p view ps n).length≤n:=by
 have:=List.length_filter_le (fun i=> !qG8 p view (ps i)&&qG9 p (ps i) i) (List.range n)
 rw[List.length_range] at this
 exact this
theorem jJ9(a:Option Addr)(n c:Nat)(ps:Nat→PR)(ha:Option Addr)(m hc:Nat)(hs:Nat→HV)(P:Nat→Nat)(ga:Option Addr)(gc:Nat)(need miss view:Int)(p:PG)(hCk:K7 n ps=true)(hOK:qF6 n ps p)(hn:n≤8)(hv:view=1∨view=2)
  (hm:m=(F2 p view ps n).length) (hP:∀k,k<m→P k=(F2 p view ps n).getD k 0) (hhs:∀k,k<m→hs k=G8 p (ps (P k)) (P k)) (h1:1≤m) (hcap:m≤hc∧hc≤maxLen) (hneed:need≤(m:Int)) (hmiss:((qX9 (zC1 p view ps) n:Nat):Int)≤miss):
  EV.Good ⟨a,n,c,ps,ha,m,hc,hs,P,ga,gc,fun k=>U3 (Y5 (ps (P k)) (hs k) 0),need,miss,view⟩ p.slope p.start (zC1 p view ps):=by
 have hmn:m≤n:=by rw[hm];exact jA6 p view ps n
 have hp:∀k,k<m→P k<n∧qG8 p view (ps (P k))=false∧qG9 p (ps (P k)) (P k)=true:=fun k hk=>by
  rw[hP k hk]
  exact qA4.1 (xD8 (by omega))
 have hinc:∀j k,j<k→k<m→P j<P k:=fun j k hj hk=>by
  rw[hP j (by omega),hP k hk]
  exact jA5 hj (by omega)
 have hhit:∀k,k<m→C7 (ps (P k)) (hs k)=true:=fun k hk=>by
  rw[hhs k hk]
  have h:=(hp k hk).2.2
  unfold qG9 at h
  simp only[Q8] at h
  exact h.2
 have hpl:∀k,k<m→(hs k).plane=(P k:Int):=fun k hk=>by rw[hhs k hk];rfl
 have hg:∀k,k<m→((U3 (Y5 (ps (P k)) (hs k) 0)).key=(ps (P k)).z)∧(-1000000≤(U3 (Y5 (ps (P k)) (hs k) 0)).lo∧(U3 (Y5 (ps (P k)) (hs k) 0)).hi≤1000000)∧(U3 (Y5 (ps (P k)) (hs k) 0)).lo≤rPl p (ps (P k))∧rPl p (ps (P k))≤(U3 (Y5 (ps (P k)) (hs k) 0)).hi:=fun k hk=>by
  have hk1:=hOK.pl (P k) (hp k hk).1
  obtain⟨q1,q2,q3,q4,_⟩:=zB5 (I3 hCk (hp k hk).1) hk1.kind hk1.off (by have:=hhit k hk;rwa [hhs k hk] at this)
  rw[qV9 hk1.kind,hhs k hk]
  exact⟨rfl,⟨q3,q4⟩,q1,q2⟩
 have hkz:∀k,k<m→0≤(ps (P k)).z∧(ps (P k)).z≤100000:=fun k hk=>(I3 hCk (hp k hk).1).z
 have hgt:∀x:TK,x.Ok m→1≤x.n→qQ2 x.n (fun i=>U3 (Y5 (ps (P (x.J i))) (hs (x.J i)) 0)):=fun x hx hx1=>by
  have hle:=hx.le
  refine⟨⟨hx1,by omega⟩,fun i hi=> ?_,fun i hi=> ?_⟩
  ·have h:=hg (x.J i) (hx.lt i hi)
   rw[h.1]
   exact hkz _ (hx.lt i hi)
  ·have h:=hg (x.J i) (hx.lt i hi)
   exact⟨h.2.1.1,Int.le_trans h.2.2.1 h.2.2.2,h.2.1.2⟩
 have hli:∀x:TK,x.Ok m→1≤x.n→qB6 (fun i=>U3 (Y5 (ps (P (x.J i))) (hs (x.J i)) 0)) x.n p.slope p.start:=fun x hx hx1 i hi=>by
  have h:=hg (x.J i) (hx.lt i hi)
  show(U3 (Y5 (ps (P (x.J i))) (hs (x.J i)) 0)).lo≤p.start+p.slope*(U3 (Y5 (ps (P (x.J i))) (hs (x.J i)) 0)).key∧p.start+p.slope*(U3 (Y5 (ps (P (x.J i))) (hs (x.J i)) 0)).key≤(U3 (Y5 (ps (P (x.J i))) (hs (x.J i)) 0)).hi
  rw[h.1]
  exact h.2.2
 refine⟨⟨hCk,⟨h1,by show m≤8;omega⟩,fun k hk=>⟨hpl k hk,(hp k hk).1⟩,hinc,fun k hk=>(kG5 (hp k hk).2.1).1,fun k hk=>(hg k hk).1,hcap⟩,hv,fun x hx hx1=> ?_,fun x hx hx1=> ?_,hli,fun i hi hvw hno lo hi' q1 q2 q3 q4 q5=> ?_,hneed,hmiss⟩
 ·have hle:=hx.le
  have hle':x.n≤m:=hle
  refine⟨?_,?_⟩
  ·show qU0 n ps x.n (fun k=>hs (x.J k))=0
   unfold qU0
   rw[if_neg (by omega)]
   unfold qW2
   rw[hCk,Y3 (fun i hi=>by
    have hj:x.J i<m:=hx.lt i hi
    rw[zC3 (hp _ hj).1 (hpl _ hj)]
    exact hhit _ hj)]
   rfl
  ·show ¬cH (qD8 ps (fun k=>hs (x.J k))) (x.n-1)<cL (qD9 ps (fun k=>hs (x.J k))) (x.n-1)
   have key:∀j,j≤x.n-1→qD9 ps (fun k=>hs (x.J k)) j≤p.time∧p.time≤qD8 ps (fun k=>hs (x.J k)) j:=fun j hj=>by
    have hjm:x.J j<m:=hx.lt j (by omega)
    have hk1:=hOK.pl (P (x.J j)) (hp _ hjm).1
    have hS:=I3 hCk (hp _ hjm).1
    unfold qD9 qD8
    dsimp only
    rw[hpl _ hjm,Int.toNat_natCast,hhs _ hjm]
    unfold qT0 qS9
    have hjt:=hS.jitter
    have hck:=hk1.clk
    by_cases h3:(ps (P (x.J j))).kind=3
    ·rw[if_pos h3,if_pos h3]
     exact hk1.film h3
    ·rw[if_neg h3,if_neg h3]
     have ht:(G8 p (ps (P (x.J j))) (P (x.J j))).time=p.time+p.ks (P (x.J j)):=by
      show qR2 _ _ _=_
      unfold qR2
      rw[if_neg h3]
     omega
   have g1:=kE2 (x.n-1) (fun j hj=>(key j hj).1)
   have g2:=kE5 (x.n-1) (fun j hj=>(key j hj).2)
   omega
 ·refine⟨hgt x hx hx1,?_⟩
  show x.n=1∨_
  by_cases e:x.n=1
  ·exact .inl e
  ·have hf:R6 (fun i=>U3 (Y5 (ps (P (x.J i))) (hs (x.J i)) 0)) x.n=false:=by
    have h01:x.J 0<x.J 1:=hx.inc 0 1 (by omega) (by omega)
    have hj1:x.J 1<m:=hx.lt 1 (by omega)
    have hz:(ps (P (x.J 0))).z<(ps (P (x.J 1))).z:=kD4 hCk (hinc _ _ h01 hj1) (hp _ hj1).1
    unfold R6
    rw[zU7 (k:=1) (by omega) (by
     dsimp only
     rw[(hg _ hj1).1,(hg _ (hx.lt 0 (by omega))).1]
     simp
     omega)]
    rfl
   exact .inr ⟨hf,zX3 (hgt x hx hx1) hf (hli x hx hx1)⟩
 ·have hpe:p.start+p.slope*(ps i).z=rPl p (ps i):=rfl
  dsimp only at hi hvw hno q1 q2 q5
  have hm2:I7 (ps i) lo hi'=true:=by rw[←xT0 (I3 hCk hi) (by omega)];exact q5
  have hmu:qJ9 p (ps i)=true:=zO8 hm2 q1 q2
  have hout:qG8 p view (ps i)=false:=by
   unfold qG8
   rw[hvw]
   simp
   omega
  have hsee:qG9 p (ps i) i=false:=by
   cases h:qG9 p (ps i) i
   ·rfl
   ·obtain⟨k,hk,e⟩:=jA4 (qA4.2 ⟨hi,hout,h⟩)
    exact absurd ((hP k (by omega)).trans e) (hno k (by omega))
  unfold zC1
  rw[hout,hsee,hmu]
  rfl
end
end Go.Proofs.YtmncaipgefbalaaGreatDoor
