/- Part of the proof of the claim. -/
import Derived.Test.YtmncaipgefbalaaGreatDoorQas
set_option maxRecDepth 100000
set_option maxHeartbeats 8000000
set_option linter.unusedVariables false
set_option linter.unusedSimpArgs false
namespace Go.Proofs.YtmncaipgefbalaaGreatDoor
section
open Go Go.RowKit
def nx5(j:Nat):Nat:=if j=3∨j=5 then 6 else if j=9∨j=11 then 12 else 99
def xR0(j:Nat):Prop:=j=3∨j=5∨j=6∨j=9∨j=11∨j=12
structure qE0(l:Array Bool)(j:Nat):Prop where
 is:xR0 j
 on:l.getD j true=true
 off:l.getD (nx5 j) false=false
structure RI5(B:Nat)(w0:World)(V:Int)(ln:Nat→Nat)(ct:Nat→List Value)(l:Array Bool)(x:Nat→Value)(w:World):Prop where
 sz:l.size=16
 bel:Below B w0 w
 hB:B≤w.heap.size
 row:∀j,qE0 l j→w.ownsRow B 3 1 (x j) (ln j) (ct j)
 far:∀j k,qE0 l j→qE0 l k→j≠k→∀g,(x j).ownBlock=some g→(x k).ownBlock≠some g
 bld:l.getD 13 true=true→x 13= .agg #[.int .i64 V,x 6,x 12]
 trk:l.getD 14 true=true→∃bb,x 14= .pointer (some ⟨bb,0,none⟩)∧B≤bb∧w.heap[bb]?=some (.cells #[.int .i64 0,.slice none 0 0,.slice none 0 0] 110)
 ord:∀j k,(j=6∧(k=3∨k=5))∨(j=12∧(k=9∨k=11))∨(j=13∧(k=6∨k=12))→l.getD j true=true→l.getD k true=true
theorem B2{l:Array Bool}{i j:Nat}(d:Bool)(h:i≠j):(l.setIfInBounds i true).getD j d=l.getD j d:=getD_set_ne d h
theorem O9(x:Nat→Value)(i:Nat)(v:Value):upd x i v i=v:=by simp[upd]
theorem M8(x:Nat→Value){i j:Nat}(v:Value)(h:j≠i):upd x i v j=x j:=by simp[upd,h]
section
variable {B:Nat}{w0 w w':World}{V:Int}{ln:Nat→Nat}{ct:Nat→List Value}{l:Array Bool}{x:Nat→Value}{v:Value}{i:Nat}
theorem qE0.back{j:Nat}(h:qE0 (l.setIfInBounds i true) j)(hj:j≠i)(hs:i<l.size):qE0 l j∧nx5 j≠i:=by
 have h1:=h.off
 have h2:nx5 j≠i:=fun e=>by
  rw[e] at h1
  simp[hs] at h1
 rw[B2 false (Ne.symm h2)] at h1
 exact⟨⟨h.is,by rw[←B2 (l:=l) true (Ne.symm hj)];exact h.on,h1⟩,h2⟩
theorem qE0.row_i(h:RI5 B w0 V ln ct l x w){j:Nat}(hj:xR0 j)(h1:l.getD j true=true)(h2:nx5 j=99∨l.getD (nx5 j) true=false):qE0 l j:=by
 refine⟨hj,h1,?_⟩
 have hs:=h.sz
 rcases h2 with h2|h2
 ·rw[h2]
  simp[show l.size≤99 by omega]
 ·have:nx5 j<l.size:=by
   false_or_by_contra
   rw[show l.getD (nx5 j) true=true from by simp[Array.getElem?_eq_none (show l.size≤nx5 j by omega)]] at h2
   cases h2
  rw[←h2]
  simp[this]
theorem RI5.ord'(h:RI5 B w0 V ln ct l x w)(hs:i<16)(hp:∀k,(i=6∧(k=3∨k=5))∨(i=12∧(k=9∨k=11))∨(i=13∧(k=6∨k=12))→l.getD k true=true):∀j k,(j=6∧(k=3∨k=5))∨(j=12∧(k=9∨k=11))∨(j=13∧(k=6∨k=12))→(l.setIfInBounds i true).getD j true=true→(l.setIfInBounds i true).getD k true=true:=by
 intro j k hjk h1
 have hz:=h.sz
 by_cases e2:i=k
 ·subst e2
  simp[show i<l.size by omega]
 ·rw[B2 true e2]
  by_cases e:i=j
  ·subst e
   exact hp k hjk
  ·rw[B2 true e] at h1
   exact h.ord j k hjk h1
theorem RI5.bld'(h:RI5 B w0 V ln ct l x w)(hl:l.getD i true=false)(hi:i≠13):(l.setIfInBounds i true).getD 13 true=true→upd x i v 13= .agg #[.int .i64 V,upd x i v 6,upd x i v 12]:=by
 intro h1
 rw[B2 true hi] at h1
 have h2:∀k,k=6∨k=12→k≠i:=fun k hk e=>by
  subst e
  rw[h.ord 13 k (.inr (.inr ⟨rfl,hk⟩)) h1] at hl
  cases hl
 rw[M8 x v (Ne.symm hi),M8 x v (h2 6 (.inl rfl)),M8 x v (h2 12 (.inr rfl))]
 exact h.bld h1
theorem RI5.fresh(h:RI5 B w0 V ln ct l x w)(hi:i=3∨i=5∨i=9∨i=11)(hl:l.getD i true=false)(hb:Below w.heap.size w w')(ho:w'.ownsRow w.heap.size 3 1 v (ln i) (ct i)):RI5 B w0 V ln ct (l.setIfInBounds i true) (upd x i v) w':=by
 have hz:=hb.size
 have hB:=h.hB
 have hs:=h.sz
 have hil:i<l.size:=by omega
 have hfar:∀k,qE0 l k→∀g,v.ownBlock=some g→(x k).ownBlock≠some g:=fun k hk g e e2=>by
  have h1:=L7 ho e
  have h2:=qJ7 (h.row k hk) g e2
  omega
 refine⟨by simpa using h.sz,h.bel.trans (hb.mono hB),by omega,fun j hj=> ?_,fun j k hj hk hjk g hg=> ?_,h.bld' hl (by omega),fun h1=> ?_,h.ord' (by omega) (fun k hk=>by omega)⟩
 ·by_cases e:j=i
  ·subst e
   rw[O9]
   exact P8 ho hB
  ·rw[M8 x v e]
   exact K4 (h.row j (hj.back e hil).1) hb
 ·by_cases e:j=i
  ·subst e
   rw[O9] at hg
   rw[M8 x v (Ne.symm hjk)]
   exact hfar k (hk.back (Ne.symm hjk) hil).1 g hg
  ·rw[M8 x v e] at hg
   by_cases e2:k=i
   ·subst e2
    rw[O9]
    exact fun e3=>hfar j (hj.back e hil).1 g e3 hg
   ·rw[M8 x v e2]
    exact h.far j k (hj.back e hil).1 (hk.back e2 hil).1 hjk g hg
 ·rw[B2 true (by omega)] at h1
  obtain⟨bb,h2,h3,h4⟩:=h.trk h1
  exact⟨bb,by rw[M8 x v (by omega)];exact h2,h3,J0 h4 hb⟩
theorem RI5.app{p q:Nat}(h:RI5 B w0 V ln ct l x w)(hi:(i=6∧p=3∧q=5)∨(i=12∧p=9∧q=11))(hl:l.getD i true=false)(hp:l.getD p true=true)(hq:l.getD q true=true)(hg:w.grownBy w' (x p).ownBlock)(ho:w'.ownsRow B 3 1 v (ln i) (ct i))(hat:v.ownBlock=(x p).ownBlock∨v.ownBlock=some w.heap.size):RI5 B w0 V ln ct (l.setIfInBounds i true) (upd x i v) w':=by
 have hz:=hg.size
 have hB:=h.hB
 have hs:=h.sz
 have hil:i<l.size:=by omega
 have hpi:nx5 p=i:=by rcases hi with⟨rfl,rfl,rfl⟩|⟨rfl,rfl,rfl⟩<;>rfl
 have hqi:nx5 q=i:=by rcases hi with⟨rfl,rfl,rfl⟩|⟨rfl,rfl,rfl⟩<;>rfl
 have hpl:qE0 l p:= .row_i h (by unfold xR0;omega) hp (.inr (by rw[hpi];exact hl))
 have hfar:∀k,qE0 l k→nx5 k≠i→∀g,v.ownBlock=some g→(x k).ownBlock≠some g:=fun k hk hki g e e2=>by
  rcases hat with e3|e3
  ·exact h.far k p hk hpl (fun e4=>hki (by rw[e4];exact hpi)) g e2 (by rw[←e3];exact e)
  ·have h2:=qJ7 (h.row k hk) g e2
   rw[e3] at e
   injection e with e
   omega
 refine⟨by simpa using h.sz,h.bel.grown hg hB (fun b hb=>L7 (h.row p hpl) hb),by omega,fun j hj=> ?_,fun j k hj hk hjk g hg=> ?_,h.bld' hl (by omega),fun h1=> ?_,h.ord' (by omega) (fun k hk=> ?_)⟩
 ·by_cases e:j=i
  ·subst e
   rw[O9]
   exact ho
  ·rw[M8 x v e]
   obtain⟨h1,h2⟩:=hj.back e hil
   refine L5 (h.row j h1) (fun g hg1=>hg.block g (qJ7 (h.row j h1) g hg1) (fun e3=> ?_))
   exact h.far j p h1 hpl (fun e4=>h2 (by rw[e4];exact hpi)) g hg1 e3.symm
 ·by_cases e:j=i
  ·subst e
   rw[O9] at hg
   rw[M8 x v (Ne.symm hjk)]
   obtain⟨h1,h2⟩:=hk.back (Ne.symm hjk) hil
   exact hfar k h1 h2 g hg
  ·rw[M8 x v e] at hg
   obtain⟨h1,h2⟩:=hj.back e hil
   by_cases e2:k=i
   ·subst e2
    rw[O9]
    exact fun e3=>hfar j h1 h2 g e3 hg
   ·rw[M8 x v e2]
    exact h.far j k h1 (hk.back e2 hil).1 hjk g hg
 ·rw[B2 true (by omega)] at h1
  obtain⟨bb,h2,h3,h4⟩:=h.trk h1
  refine⟨bb,by rw[M8 x v (by omega)];exact h2,h3,(hg.block bb (J5 h4) (fun e=> ?_)).trans h4⟩
  exact B0 (h.row p hpl) h4 (by decide) e.symm
 ·rcases hi with⟨rfl,rfl,rfl⟩|⟨rfl,rfl,rfl⟩
  ·have:k=3∨k=5:=by omega
   rcases this with rfl|rfl
   ·exact hp
   ·exact hq
  ·have:k=9∨k=11:=by omega
   rcases this with rfl|rfl
   ·exact hp
   ·exact hq
theorem RI5.build(h:RI5 B w0 V ln ct l x w)(hl:l.getD 13 true=false)(h6:l.getD 6 true=true)(h12:l.getD 12 true=true):RI5 B w0 V ln ct (l.setIfInBounds 13 true) (upd x 13 (.agg #[.int .i64 V,x 6,x 12])) w:=by
 have hs:=h.sz
 have hil:13<l.size:=by omega
 have hne:∀j,xR0 j→j≠13:=fun j hj=>by unfold xR0 at hj;omega
 refine⟨by simpa using h.sz,h.bel,h.hB,fun j hj=> ?_,fun j k hj hk hjk g hg=> ?_,fun h1=> ?_,fun h1=> ?_,h.ord' (by omega) (fun k hk=> ?_)⟩
 ·rw[M8 x _ (hne j hj.is)]
  exact h.row j (hj.back (hne j hj.is) hil).1
 ·rw[M8 x _ (hne j hj.is)] at hg
  rw[M8 x _ (hne k hk.is)]
  exact h.far j k (hj.back (hne j hj.is) hil).1 (hk.back (hne k hk.is) hil).1 hjk g hg
 ·rw[O9,M8 x _ (by omega),M8 x _ (by omega)]
 ·rw[B2 true (by omega)] at h1
  obtain⟨bb,h2,h3,h4⟩:=h.trk h1
  exact⟨bb,by rw[M8 x _ (by omega)];exact h2,h3,h4⟩
 ·have:k=6∨k=12:=by omega
  rcases this with rfl|rfl
  ·exact h6
  ·exact h12
theorem RI5.box(h:RI5 B w0 V ln ct l x w)(hl:l.getD 14 true=false):RI5 B w0 V ln ct (l.setIfInBounds 14 true) (upd x 14 (.pointer (some ⟨w.heap.size,0,none⟩))) (w.alloc (.cells #[.int .i64 0,.slice none 0 0,.slice none 0 0] 110)):=by
 have hs:=h.sz
 have hil:14<l.size:=by omega
 have hb:=J3 w (.cells #[.int .i64 0,.slice none 0 0,.slice none 0 0] 110)
 have hz:=hb.size
 have hB:=h.hB
 have hne:∀j,xR0 j→j≠14:=fun j hj=>by unfold xR0 at hj;omega
 refine⟨by simpa using h.sz,h.bel.trans (hb.mono hB),by omega,fun j hj=> ?_,fun j k hj hk hjk g hg=> ?_,h.bld' hl (by omega),fun h1=> ?_,h.ord' (by omega) (fun k hk=>by omega)⟩
 ·rw[M8 x _ (hne j hj.is)]
  exact K4 (h.row j (hj.back (hne j hj.is) hil).1) hb
 ·rw[M8 x _ (hne j hj.is)] at hg
  rw[M8 x _ (hne k hk.is)]
  exact h.far j k (hj.back (hne j hj.is) hil).1 (hk.back (hne k hk.is) hil).1 hjk g hg
 ·exact⟨w.heap.size,O9 x _ _,hB,Q3 w _⟩
end
end
section
open Go Go.RowKit Go.Shelf
attribute [local go_sem] Oper.semAt_some
theorem zH6{n:Nat}{P:Program}{Q:Exit→Act→World→Prop}{id:Nat}{a:Act}{w:World}{L:List Oper}(B:Nat)(hm:P.follows .mixedOrders=true)(hB:Region.lexB .any L.toArray=true)
  (h:wpQuietIn Fence.wide n P L.toArray (fun w'=>∃x:K9 B w,w'=x.val) (fun a'=>∀w',(∃x:K9 B w,w'=x.val)→Q .normal a' w') L a):(Code.region id L.toArray true).wpIn Fence.wide n P Q a w:=by
 simp only[Region.lexB,Q8] at hB
 refine wpIn_region_any hm (wpAnyIn_of_quiet (C:=fun w'=>∃x:K9 B w,w'=x.val) (Q:=fun a'=>∀w',(∃x:K9 B w,w'=x.val)→Q .normal a' w') rfl (fun _ w' hw' h=>h w' hw') _ _ _ _ ⟨⟨w.drew,(Q2 _ _).drew⟩,rfl⟩ ?_)
 have:=wpAnyQIn_lex (F:=Fence.wide) (n:=n) (C:=fun w'=>∃x:K9 B w,w'=x.val) (md:= .any) hB.1 L 0 (Array.replicate L.toArray.size false) a (by simp) (by simpa using hB.2) h
 simpa using this
theorem EV.At.same{e:EV}{N eb:Nat}{w w':World}(h:e.At N eb w)(hz:w.heap.size≤w'.heap.size)(hk:∀b,b<N→w'.heap[b]?=w.heap[b]?):e.At N eb w':=by
 have h2:e.At N eb {w' with os:=w.os,tape:=w.tape,output:=w.output}:=h.below ⟨rfl,rfl,rfl,hz,hk⟩
 exact⟨h2.lt,h2.box,h2.planes,h2.hits,h2.gates⟩
theorem jB3(eb:Nat)(V:Int)(fr:Nat)(w:World):Calls Tryz.prog 148 #[.pointer (some ⟨eb,0,none⟩),.int .i64 V,.int .i64 (fr:Int)] w fun y w'=>y= .returned (.func (.func 170) #[] #[.pointer (some ⟨w.heap.size+2,0,none⟩),.pointer (some ⟨w.heap.size,0,none⟩),.pointer (some ⟨w.heap.size+1,0,none⟩)])∧(w'.heap[w.heap.size]?=some (.cells #[.pointer (some ⟨eb,0,none⟩)] 171)∧w'.heap[w.heap.size+1]?=some (.cells #[.int .i64 V] 27)∧w'.heap[w.heap.size+2]?=some (.cells #[.int .i64 (fr:Int)] 3))∧Below w.heap.size w w':=by
 obtain⟨h1,h2,h3,h4⟩:=qG5 w (.cells #[.pointer (some ⟨eb,0,none⟩)] 171) (.cells #[.int .i64 V] 27) (.cells #[.int .i64 (fr:Int)] 3)
 have H:=Hd (And.intro (And.intro h2 (And.intro h3 h4)) h1)
 clear h1 h2 h3 h4
 go_enter Tryz.func148,Tryz.ntmps148
 go_upto_region 1 with(fail)
 generalize World.alloc (World.alloc (World.alloc w _) _) _=V0 at*
 go_wp2
 go_ret
 exact⟨rfl,H.out.1,H.out.2⟩
structure qF7(e:EV)(N eb fb vb xb:Nat)(V:Int)(fr:Nat)(W:World):Prop where
 ev:e.At N eb W
 f:W.heap[fb]?=some (.cells #[.int .i64 (fr:Int)] 3)
 v:W.heap[vb]?=some (.cells #[.pointer (some ⟨eb,0,none⟩)] 171)
 x:W.heap[xb]?=some (.cells #[.int .i64 V] 27)
theorem qF7.same{e:EV}{N eb fb vb xb fr:Nat}{V:Int}{w w':World}(h:qF7 e N eb fb vb xb V fr w)(hz:w.heap.size≤w'.heap.size)(hk:∀b,(b<N∨b=fb∨b=vb∨b=xb)→w'.heap[b]?=w.heap[b]?):qF7 e N eb fb vb xb V fr w':=
 ⟨h.ev.same hz (fun b hb=>hk b (.inl hb)),(hk _ (.inr (.inl rfl))).trans h.f,(hk _ (.inr (.inr (.inl rfl)))).trans h.v,(hk _ (.inr (.inr (.inr rfl)))).trans h.x⟩
theorem qF7.below{e:EV}{N eb fb vb xb fr:Nat}{V:Int}{w w':World}(h:qF7 e N eb fb vb xb V fr w)(hN:N≤w.heap.size)(hb:Below w.heap.size w w'):qF7 e N eb fb vb xb V fr w':=
 ⟨h.ev.below (hb.mono hN),J0 h.f hb,J0 h.v hb,J0 h.x hb⟩
def NxI(fr M:Nat)(pre:List Nat)(x:Nat):Prop:=x=fr+pre.length∧x<M
def EnI(fr M:Nat)(xs:List Nat):Prop:=xs.length=M-fr
def kP3(xs:List Nat):Prop:=True
theorem jB4(e:EV)(N eb fb vb xb fr M:Nat)(V:Int)(R:Nat→Prop)(w:World)(hN:N≤w.heap.size)(hq:qF7 e N eb fb vb xb V fr w)(hO:e.Ok)(hM:(V=e.view∧M=e.m)∨(V≠e.view∧M=0))(hf:fr≤e.m)(hR:∀b,b<N→R b)(hR3:R fb∧R vb∧R xb):
  qI6 Tryz.prog 170 #[.pointer (some ⟨fb,0,none⟩),.pointer (some ⟨vb,0,none⟩),.pointer (some ⟨xb,0,none⟩)] (fun i:Nat=> #[.int .i64 (i:Int),.int .i64 0]) R (fun _ _ _=>True) (NxI fr M) (EnI fr M) kP3 w:=by
 intro l J Jx W hW hJ hJx hY h0 NN
 have HS0:∃O,J [] O W∧qF7 e N eb fb vb xb V fr W∧N≤W.heap.size:=⟨_,h0,hq.below hN hW,Q5 hN hW.size⟩
 have HSTEP:∀pre A A',(∃O,J pre O A∧qF7 e N eb fb vb xb V fr A∧N≤A.heap.size)→Below A.heap.size A A'→(∃O,J pre O A'∧qF7 e N eb fb vb xb V fr A'∧N≤A'.heap.size):=by
  rintro pre A A' ⟨O,h1,h2,h3⟩ hb
  exact⟨_,hJ _ _ _ _ _ h1 (U2.of_below hb),h2.below h3 hb,Q5 h3 hb.size⟩
 have HCN:∀pre A,(∃O,J pre O A∧qF7 e N eb fb vb xb V fr A∧N≤A.heap.size)→qF7 e N eb fb vb xb V fr A∧N≤A.heap.size:=by
  rintro pre A ⟨O,h1,h2⟩
  exact h2
 have HY:∀pre A x,(∃O,J pre O A∧qF7 e N eb fb vb xb V fr A∧N≤A.heap.size)→NxI fr M pre x→∀NN,YieldAt Fence.wide NN Tryz.prog l #[.int .i64 (x:Int),.int .i64 0] A fun y W'=>(y= .returned (.bool true)∧(∃O,J (pre++[x]) O W'∧qF7 e N eb fb vb xb V fr W'∧N≤W'.heap.size))∨(y= .returned (.bool false)∧∃pre O,kP3 pre∧Jx pre O W'):=by
  rintro pre A x ⟨O,h1,h2,h3⟩ hm NN
  obtain⟨fn,tmps,assign,body,hy,hR'⟩:=hY pre x O A h1 trivial hm NN
  refine⟨fn,tmps,assign,body,hy,hR'.mono ?_⟩
  rintro y W' (⟨h4,h5,h6⟩|⟨h4,h5⟩)
  ·refine .inl ⟨h4,_,h5,h2.same h6.size (fun b hb=>h6.block b (.inr ?_)),Q5 h3 h6.size⟩
   rcases hb with hb|rfl|rfl|rfl
   ·exact hR b hb
   ·exact hR3.1
   ·exact hR3.2.1
   ·exact hR3.2.2
  ·exact .inr ⟨h4,_,_,trivial,h5⟩
 have HFIN:∀pre A,(∃O,J pre O A∧qF7 e N eb fb vb xb V fr A∧N≤A.heap.size)→pre.length=M-fr→∃xs O,EnI fr M xs∧J xs O A:=by
  rintro pre A ⟨O,h1,h2⟩ h3
  exact⟨_,O,h3,h1⟩
 clear hJ hJx hY h0 hq
 generalize hST:(fun(pre:List Nat) (A:World)=>∃O,J pre O A∧qF7 e N eb fb vb xb V fr A∧N≤A.heap.size)=S at*
 have eST:∀pre A,(∃O,J pre O A∧qF7 e N eb fb vb xb V fr A∧N≤A.heap.size)=S pre A:=fun pre A=>by rw[←hST]
 simp only[eST] at HS0 HSTEP HCN HY HFIN
 clear eST hST
 have HSTEP:=Hd HSTEP
 have HCN:=Hd HCN
 have HY:=Hd HY
 have HFIN:=Hd HFIN
 have HOF:=Hd (fun i (hi:i<e.m) W (hN:N≤W.heap.size) (h:e.At N eb W)=>xO2 e N eb i W hN h hO hi)
 -- how many have come
 obtain⟨K,K0,K1,K2,K3⟩:∃K:Nat→Nat,K fr=0∧(V=e.view→∀i,fr≤i→i<e.m→K i=i-fr∧K (i+1)=K i+1∧i<M)∧(V≠e.view→∀i,K (i+1)=K i)∧K e.m=M-fr:=by
  rcases hM with⟨h1,rfl⟩|⟨h1,rfl⟩
  ·exact⟨fun i=>i-fr,Nat.sub_self _,fun _ i h2 h3=>⟨rfl,by show i+1-fr=i-fr+1;omega,h3⟩,fun h=>absurd h1 h,rfl⟩
  ·exact⟨fun _=>0,rfl,fun h=>absurd h h1,fun _ _=>rfl,by show 0=0-fr;omega⟩
 have HK1:=Hd K1
 have HK2:=Hd K2
 have HK3:=Hd K3
 have hm8:=hO.m8
 have hcap:=hO.cap
 unfold maxLen at hcap
 obtain⟨m,hm⟩:∃m,e.m=m:=⟨_,rfl⟩
 rw[hm] at HOF HK1 HK3 hm8 hf hcap
 have HM:=Hd hm
 clear hO hM K1 K2 K3 hm
 refine callsIn_of_wp Tryz.func170 rfl trivial ?_ rfl
 simp only[Tryz.ntmps170,List.size_toArray,List.length_cons,List.length_nil,Nat.reduceAdd,Nat.reduceSub,Array.replicate_succ,Array.replicate_zero,List.push_toArray,List.append_toArray,List.nil_append,List.cons_append]
 have f0:=(Q0 _ _ 0 _ _ _ (HCN.out _ _ HS0).1.f).trans (show _=some (Value.int .i64 (fr:Int)) from rfl)
 gi_wp2
 clear f0
 gi_loopw [5] (fun s5 wr=>∃i:Nat,fr≤i∧i≤m∧s5= .int .i64 (i:Int)∧Hid (∃pre,pre.length=K i∧S pre wr)) (fun s5 _=>m-(intOf s5).toNat)
 case atStart=>exact⟨fr,Q1 _,hf,rfl,Hd ⟨[],K0.symm,HS0⟩⟩
 case round=>
  clear HS0 K0
  obtain⟨i,hi0,hi,rfl,H1⟩:=hrel
  obtain⟨pre,hpre,H1⟩:=H1.out
  have H1:=Hd H1
  obtain⟨hQ,hNr⟩:=HCN.out _ _ H1.out
  obtain⟨e0,e1,e2,e3,e4⟩:=hQ.ev.cells
  rw[HM.out] at e1
  have v0:=Q0 _ _ 0 _ _ _ hQ.v
  have hebl:=hQ.ev.lt
  have hvbl:=J5 hQ.v
  by_cases hl:i<m
  ·have hl':(i:Int)<(m:Int):=by omega
   have hOFi:=HOF.out i hl
   have HOFi:=Hd hOFi
   have HEr:=Hd hQ.ev
   have x0:=Q0 _ _ 0 _ _ _ hQ.x
   have hxbl:=J5 hQ.x
   clear e0 e2 e3 e4 hQ hOFi
   gi_upto_region 3 with(fail)
   refine zH6 wr.heap.size (by kernel_rfl) (by kernel_rfl) ?_
   (repeat(refine wpQuietIn_step (fun _ _ _ _=>trivial) (fun K hK=> ?_);go_simp;first|(refine hK _ ?_;clear hK K)|(apply Z9;refine⟨fun _=> ?_,hK _ ?_⟩;(refine⟨fun h=>absurd h (by decide),?_⟩;with_reducible exact callsIn_wide.2 (Calls.calm_of (Q1 _) (HOFi.out _ (Q5 hNr (K9.below _).size) (HEr.out.below ((K9.below _).mono hNr)))));clear hK K)))
   refine wpQuietIn_nil ?_
   intro _ hw'
   obtain⟨xq,hw''⟩:=hw'
   subst hw''
   have hxq:=xq.below
   generalize K9.val xq=W2 at*
   have HS2:=Hd (HSTEP.out _ _ _ H1.out hxq)
   clear hxq e1 v0 x0
   by_cases hv:V=e.view
   ·have hv':(e.view !=V)=false:=by simp[hv]
    obtain⟨hk1,hk2,hk3⟩:=HK1.out hv i hi0 hl
    obtain⟨hQ2,hN2⟩:=HCN.out _ _ HS2.out
    obtain⟨e0,e1,e2,e3,e4⟩:=hQ2.ev.cells
    have v0:=Q0 _ _ 0 _ _ _ hQ2.v
    rcases hQ2.ev.gates with hg0|⟨gb,go,hga,hgB,hgc⟩
    ·rw[HM.out] at hg0
     omega
    obtain⟨xb',xo,xc,g1,_⟩:=hgc i (by rw[HM.out];exact hl)
    rw[hga,HM.out] at e2
    clear e0 e1 e3 e4 hQ2 hgc hga hv
    gi_wp2
    (try rw[hv'])
    clear v0 e2 g1 hv'
    gi_loopw [30] (fun s30 wd=>∃x:Nat,x≤1∧s30= .int .i64 (x:Int)∧Hid (∃pre,pre.length=K i+x∧S pre wd)) (fun s30 _=>1-(intOf s30).toNat)
    case atStart=>exact⟨0,by omega,rfl,Hd ⟨pre,by omega,HS2.out⟩⟩
    case round=>
     clear HS2 H1
     obtain⟨x,hx,rfl,H3⟩:=hrel
     obtain⟨pre3,hp3,h3⟩:=H3.out
     have H4:=Hd h3
     clear h3 H3
     by_cases hx0:x<1
     ·obtain rfl:x=0:=by omega
      have hx1:((0:Nat):Int)<1:=by omega
      obtain⟨fn,tmps,assign,body,hy,hR⟩:=HY.out _ _ _ H4.out (show NxI fr M pre3 i from⟨by omega,hk3⟩) (NN-1)
      gi_wp2
      refine⟨fun h=>(by cases h),hR.mono ?_⟩
      rintro y W6 (⟨rfl,hs6⟩|⟨rfl,pre',O,_,hj6⟩)
      ·have HS6:=Hd hs6
       clear hR hy hs6
       gi_wp2
       go_roundw
       case rel=>first|exact⟨1,by omega,by go_num,Hd ⟨_,by rw[Z6,hp3];simp,HS6.out⟩⟩|((repeat apply Z9);exact⟨⟨1,by omega,by go_num,Hd ⟨_,by rw[Z6,hp3];simp,HS6.out⟩⟩,rfl⟩)
       case measure=>simp[intOf]
      ·gi_wp2
       refine Z2 (results_none rfl _ _ _) rfl ?_
       exact⟨⟨_,rfl⟩,.inr ⟨_,O,trivial,hj6⟩⟩
     ·obtain rfl:x=1:=by omega
      have hx1:¬((1:Nat):Int)<1:=by omega
      gi_wp2
      go_roundw
      case rel=>first|exact⟨i+1,by omega,by omega,by go_num,Hd ⟨pre3,by omega,H4.out⟩⟩|((repeat apply Z9);exact⟨⟨i+1,by omega,by omega,by go_num,Hd ⟨pre3,by omega,H4.out⟩⟩,rfl⟩)
      case measure=>simp[intOf];omega
   ·have hv':(e.view !=V)=true:=by simpa using(fun h=>hv h.symm)
    have hk:=HK2.out hv i
    gi_wp2
    go_roundw
    case rel=>first|exact⟨i+1,by omega,by omega,by go_num,Hd ⟨pre,by omega,HS2.out⟩⟩|((repeat apply Z9);exact⟨⟨i+1,by omega,by omega,by go_num,Hd ⟨pre,by omega,HS2.out⟩⟩,rfl⟩)
    case measure=>simp[intOf];omega
  ·obtain rfl:i=m:=by omega
   have hl':¬(i:Int)<(i:Int):=by omega
   clear e0 e2 e3 e4 hQ
   gi_wp2
   go_end0
   obtain⟨xs,O,hf1,hf2⟩:=HFIN.out _ _ H1.out (by rw[hpre,HK3.out])
   exact⟨⟨_,rfl⟩,.inl ⟨xs,hf1,O,hf2⟩⟩
end
section
open Go Go.RowKit Go.Shelf
theorem kY2(args:Array Value)(W:World):(callFunc 174 args).run Tryz.prog W= .ok (.enter 174 args) W:=enters_of Tryz.func174 (by kernel_rfl) rfl args W
theorem kY3(args:Array Value)(W:World):(callFunc 150 args).run Tryz.prog W= .ok (.enter 150 args) W:=enters_of Tryz.func150 (by kernel_rfl) rfl args W
theorem zI2(e:EV)(N eb:Nat)(h i vb ib:Nat)(w:World)(hN:N≤w.heap.size)(hE:e.At N eb w)(hO:e.Ok)(hh:h<e.m)(hv:w.heap[vb]?=some (.cells #[.pointer (some ⟨eb,0,none⟩)] 171))(hi:w.heap[ib]?=some (.cells #[.int .i64 (i:Int)] 3)):
  Calls Tryz.prog 174 #[.int .i64 (h:Int),.pointer (some ⟨vb,0,none⟩),.pointer (some ⟨ib,0,none⟩)] w fun x w'=>x= .returned (.bool (decide (e.P h=i)))∧Below w.heap.size w w':=by
 obtain⟨e0,e1,e2,e3,e4⟩:=hE.cells
 obtain⟨hb,ho,hha,hhB,h0,_⟩:=hE.hits.get hh
 obtain⟨hpl,hpn⟩:=hO.pl h hh
 have hel:eb<w.heap.size:=Z4 hE.lt hN
 have hbl:hb<w.heap.size:=Z4 hhB hN
 have v0:=Q0 _ _ 0 _ _ _ hv
 have i0:=Q0 _ _ 0 _ _ _ hi
 have hvl:=J5 hv
 have hil:=J5 hi
 rw[hpl] at h0
 have hi0:(0:Int)≤(h:Int):=by omega
 have him:(h:Int)<(e.m:Int):=by omega
 rw[hha] at e1
 have hd:(((e.P h:Nat):Int)==(i:Int))=decide (e.P h=i):=by
  by_cases hq:e.P h=i
  ·rw[hq];simp
  ·rw[Q7 hq]
   simp only[beq_eq_false_iff_ne,ne_eq]
   omega
 have HD:=Hd hd
 clear hE hO hpl hha e0 e2 e3 e4 hv hi hpn hd
 generalize decide (e.P h=i)=r at*
 generalize e.P h=k at*
 generalize e.m=m at*
 generalize e.hc=hc at*
 go_enter Tryz.func174,Tryz.ntmps174
 go_upto_region 1 with(fail)
 (refine J4 (w.heap.size) (by kernel_rfl) (by kernel_rfl) ?_;(repeat(first|go_big_quiet_step(fail)|quiet_step(fail)));refine X4 (wqn ?_);intro xq)
 have HB:=Hd xq.below
 generalize K9.val xq=V at*
 have hd:=HD.out
 go_wp2
 go_ret
 exact⟨by rw[←hd];rfl,HB.out⟩
theorem jY0(e:EV)(N eb:Nat)(h i vb ib:Nat)(w:World)(hN:N≤w.heap.size)(hE:e.At N eb w)(hO:e.Ok)(hh:h<e.m)(hhi:i<e.m)(hne:e.P h≠e.P i)(hv:w.heap[vb]?=some (.cells #[.pointer (some ⟨eb,0,none⟩)] 171))(hi:w.heap[ib]?=some (.cells #[.int .i64 (i:Int)] 3)):
  Calls Tryz.prog 150 #[.int .i64 (h:Int),.pointer (some ⟨vb,0,none⟩),.pointer (some ⟨ib,0,none⟩)] w fun x w'=>x= .returned (.bool false)∧Below w.heap.size w w':=by
 obtain⟨e0,e1,e2,e3,e4⟩:=hE.cells
 obtain⟨hb,ho,hha,hhB,h0,_⟩:=hE.hits.get hh
 obtain⟨hb',ho',hha',_,g0,_⟩:=hE.hits.get hhi
 obtain⟨hpl,hpn⟩:=hO.pl h hh
 obtain⟨hpl',hpn'⟩:=hO.pl i hhi
 obtain⟨rfl,rfl⟩:hb=hb'∧ho=ho':=by
  rw[hha] at hha'
  injection hha' with h1
  injection h1 with h1 h2
  exact⟨h1,h2⟩
 have hel:eb<w.heap.size:=Z4 hE.lt hN
 have hbl:hb<w.heap.size:=Z4 hhB hN
 have v0:=Q0 _ _ 0 _ _ _ hv
 have i0:=Q0 _ _ 0 _ _ _ hi
 have hvl:=J5 hv
 have hil:=J5 hi
 rw[hpl] at h0
 rw[hpl'] at g0
 have hi0:(0:Int)≤(h:Int):=by omega
 have him:(h:Int)<(e.m:Int):=by omega
 have hj0:(0:Int)≤(i:Int):=by omega
 have hjm:(i:Int)<(e.m:Int):=by omega
 rw[hha] at e1
 have hd:(((e.P h:Nat):Int)==((e.P i:Nat):Int))=false:=by
  simp only[beq_eq_false_iff_ne,ne_eq]
  omega
 have HD:=Hd hd
 clear hE hO hpl hpl' hha hha' e0 e2 e3 e4 hv hi hpn hpn' hd hne
 generalize e.P h=k at*
 generalize e.P i=k' at*
 generalize e.m=m at*
 generalize e.hc=hc at*
 go_enter Tryz.func150,Tryz.ntmps150
 go_upto_region 1 with(fail)
 (refine J4 (w.heap.size) (by kernel_rfl) (by kernel_rfl) ?_;(repeat(first|go_big_quiet_step(fail)|quiet_step(fail)));refine X4 (wqn ?_);intro xq)
 have HB:=Hd xq.below
 generalize K9.val xq=V at*
 have hd:=HD.out
 go_wp2
 go_ret
 exact⟨by rw[←hd];rfl,HB.out⟩
end
end Go.Proofs.YtmncaipgefbalaaGreatDoor
