/- Part of the proof of the claim. -/
import Derived.Test.YtmncaipgefbalaaGreatDoorQat
set_option maxRecDepth 100000
set_option maxHeartbeats 8000000
set_option linter.unusedVariables false
set_option linter.unusedSimpArgs false
namespace Go.Proofs.YtmncaipgefbalaaGreatDoor
section
open Go Go.RowKit Go.Shelf
attribute [local go_sem] Oper.semAt_some
def kH2(W:World):World:={W with heap:= #[]}
theorem xL1(W:World):Below (kH2 W).heap.size (kH2 W) W:=⟨rfl,rfl,rfl,Nat.zero_le _,fun k hk=>absurd hk (Nat.not_lt_zero k)⟩
theorem zV4.up{N N':Nat}{w:World}{a:Option Addr}{m:Nat}{G:Nat→RW}(h:zV4 N w a m G)(hN:N≤N'):zV4 N' w a m G:=by
 rcases h with h|⟨b,off,ha,hB,hc⟩
 ·exact .inl h
 ·refine .inr ⟨b,off,ha,by omega,fun i hi=> ?_⟩
  obtain⟨xb,xo,xc,h1,h4,h5⟩:=hc i hi
  exact⟨xb,xo,xc,h1,by omega,h5⟩
theorem qK7.up'{N N':Nat}{w:World}{a:Option Addr}{m:Nat}{hs:Nat→HV}(h:qK7 N w a m hs)(hN:N≤N'):qK7 N' w a m hs:=by
 refine⟨h.1,?_⟩
 rcases h.2 with h|⟨b,off,ha,hB,hc⟩
 ·exact .inl h
 ·exact .inr ⟨b,off,ha,by omega,hc⟩
theorem EV.At.up{e:EV}{N N' eb:Nat}{w:World}(h:e.At N eb w)(hN:N≤N'):e.At N' eb w:=⟨by have:=h.lt;omega,h.box,h.planes.up hN,h.hits.up' hN,h.gates.up hN⟩
structure zJ4(e:EV)(N eb vb xb ob mb:Nat)(V:Int)(W:World):Prop where
 ev:e.At N eb W
 v:W.heap[vb]?=some (.cells #[.pointer (some ⟨eb,0,none⟩)] 171)
 x:W.heap[xb]?=some (.cells #[.int .i64 V] 27)
 m:W.heap[mb]?=some (.cells #[.func (.func 147) #[] #[.pointer (some ⟨vb,0,none⟩),.pointer (some ⟨xb,0,none⟩),.pointer (some ⟨ob,0,none⟩),.pointer (some ⟨mb,0,none⟩)]] 254)
section
variable {e:EV}{N eb vb xb ob mb:Nat}{V:Int}{X X':Nat→Prop}{W W':World}
theorem zJ4.below(h:zJ4 e N eb vb xb ob mb V W)(hN:N≤W.heap.size)(hb:Below W.heap.size W W'):zJ4 e N eb vb xb ob mb V W':=⟨h.ev.below (hb.mono hN),J0 h.v hb,J0 h.x hb,J0 h.m hb⟩
theorem zJ4.same(h:zJ4 e N eb vb xb ob mb V W)(hz:W.heap.size≤W'.heap.size)(hk:∀b,(b<N∨b=vb∨b=xb∨b=mb)→W'.heap[b]?=W.heap[b]?):zJ4 e N eb vb xb ob mb V W':=
 ⟨h.ev.same hz (fun b hb=>hk b (.inl hb)),(hk _ (.inr (.inl rfl))).trans h.v,(hk _ (.inr (.inr (.inl rfl)))).trans h.x,(hk _ (.inr (.inr (.inr rfl)))).trans h.m⟩
def jZ6(N vb xb mb:Nat)(X:Nat→Prop):Prop:=∀b,X b→N≤b∧b≠vb∧b≠xb∧b≠mb
theorem zJ4.step(h:zJ4 e N eb vb xb ob mb V W)(hX:jZ6 N vb xb mb X)(hN:N≤W.heap.size)(hs:M6 0 X W W' X'):zJ4 e N eb vb xb ob mb V W':=by
 have l1:=J5 h.v
 have l2:=J5 h.x
 have l3:=J5 h.m
 refine h.same hs.size (fun b hb=>hs.block b (by omega) (fun hx=> ?_))
 have:=hX b hx
 omega
theorem jZ6.step(hX:jZ6 N vb xb mb X)(h:zJ4 e N eb vb xb ob mb V W)(hN:N≤W.heap.size)(hs:M6 0 X W W' X'):jZ6 N vb xb mb X':=by
 have l1:=J5 h.v
 have l2:=J5 h.x
 have l3:=J5 h.m
 intro b hb
 rcases hs.new b hb with h1|h1
 ·exact hX b h1
 ·omega
end
def ln5(n j:Nat):Nat:=if j=3∨j=9 then n else if j=6∨j=12 then n+1 else 1
def ct5(J:Nat→Int)(i:Int)(n j:Nat):List Value:=if j=3 then B5 J n else if j=5 then [.int .i64 i] else if j=6 then B5 J n++[.int .i64 i] else if j=9 then B5 (fun _=>0) n else if j=11 then [.int .i64 0] else B5 (fun _=>0) n++[.int .i64 0]
theorem zD3(W:World)(i:Int):(W.alloc (.cells #[.int .i64 i] 3)).ownsRow W.heap.size 3 1 (.slice (some ⟨W.heap.size,0,none⟩) 1 1) 1 [.int .i64 i]:=
 ⟨rfl,.inr ⟨W.heap.size,1,_,rfl,Q1 _,Q3 W _,Q1 _,by unfold maxLen;omega,rfl,rfl⟩⟩
theorem qW8{W:World}{base:Nat}{v u:Value}(h:W.ownsRow base 3 1 v 1 [u]):∃g c,v= .slice (some ⟨g,0,none⟩) 1 c∧W.cell? ⟨g,0,none⟩=some u:=by
 rcases h.2 with⟨rfl,h0⟩|⟨g,cap,cur,rfl,_,hg,_,_,hs,ht⟩
 ·omega
 ·refine⟨g,cap,rfl,(Q0 _ _ 0 _ _ _ hg).trans ?_⟩
  have:(cur.toList.take (1*1))[0]?=some u:=by rw[ht];rfl
  rw[List.getElem?_take_of_lt (by omega)] at this
  simpa using this
theorem zX0{f g:Nat→Int}:∀{n:Nat},(∀i,i<n→f i=g i)→B5 f n=B5 g n
 |0,_=>rfl
 |n+1,h=>by
  show B5 f n++[.int .i64 (f n)]=B5 g n++[.int .i64 (g n)]
  rw[zX0 (fun i hi=>h i (by omega)),h n (by omega)]
theorem kA5{W:World}{b:Nat}{t:TypeId}{x y z u v s:Value}(h:W.heap[b]?=some (.cells #[x,y,z] t)):(((W.setCell ⟨b,0,none⟩ u).setCell ⟨b,1,none⟩ v).setCell ⟨b,2,none⟩ s).heap[b]?=some (.cells #[u,v,s] t)∧∀c,c≠b→(((W.setCell ⟨b,0,none⟩ u).setCell ⟨b,1,none⟩ v).setCell ⟨b,2,none⟩ s).heap[c]?=W.heap[c]? :=
 ⟨Q4 _ b 2 _ _ s (Q4 _ b 1 _ _ v (Q4 W b 0 _ _ u h)),fun c hc=>(Q6 _ ⟨b,2,none⟩ c s hc).trans ((Q6 _ ⟨b,1,none⟩ c v hc).trans (Q6 W ⟨b,0,none⟩ c u hc))⟩
def kD7(V:Int)(m ob fr M:Nat)(t:TK)(X:Nat→Prop)(L:List TK)(w:World)(y:Ending)(w':World):Prop:=
 (∃v,y= .returned v)∧∃X' L',M6 0 X w w' X'∧zJ5 V m ob X' (L++L') w'∧(∀u,Tk X w u→Tk X' w' u)∧L'.length+1=2^(M-fr)∧L'.countP (fun u=>u.n==m)=(if t.n=fr∧fr<M then 1 else 0)
structure zZ0(V:Int)(m ob fr M:Nat)(t:TK)(L:List TK)(w:World)(X0 X:Nat→Prop)(xs:List Nat)(W:World):Prop where
 st:∃L',zJ5 V m ob X (L++L') W∧L'.length+2^(M-(fr+xs.length))=2^(M-fr)∧L'.countP (fun u=>u.n==m)=(if t.n=fr∧0<xs.length then 1 else 0)
 tk:∀u,Tk X0 w u→Tk X W u
 new:∀b,X b→X0 b∨w.heap.size≤b
theorem zZ0.keep{V:Int}{m ob fr M:Nat}{t:TK}{L:List TK}{w:World}{X0 X:Nat→Prop}{xs:List Nat}{W W':World}(h:zZ0 V m ob fr M t L w X0 X xs W)(hk:∀b,X b→W'.heap[b]?=W.heap[b]?):zZ0 V m ob fr M t L w X0 X xs W':=by
 obtain⟨⟨L',h1,h2,h3⟩,h4,h5⟩:=h
 exact⟨⟨L',h1.keep hk,h2,h3⟩,fun u hu=>(h4 u hu).keep (fun b cur hb _=>⟨hk b hb,hb⟩),h5⟩
def TK.snoc(t:TK)(i:Nat)(ja:Option Addr)(jc:Nat)(sa:Option Addr)(sc:Nat):TK:=⟨ja,t.n+1,jc,fun k=>if k=t.n then i else t.J k,sa,sc⟩
theorem kC3{W:World}{B:Nat}{t:TK}{i:Nat}{a6 a12:Option Addr}{c6 c12:Nat}(h6:W.ownsRow B 3 1 (.slice a6 (t.n+1) c6) (t.n+1) (B5 (fun k=>(t.J k:Int)) t.n++[.int .i64 (i:Int)]))(h12:W.ownsRow B 3 1 (.slice a12 (t.n+1) c12) (t.n+1) (B5 (fun _=>0) t.n++[.int .i64 0])){X:Nat→Prop}(hX:∀b,B≤b→X b):Tk X W (t.snoc i a6 c6 a12 c12):=by
 refine⟨⟨?_,fun g hg=>hX g (L7 h6 hg)⟩,⟨?_,fun g hg=>hX g (L7 h12 hg)⟩⟩
 ·have e:B5 (fun k=>(((t.snoc i a6 c6 a12 c12).J k:Nat):Int)) (t.n+1)=B5 (fun k=>(t.J k:Int)) t.n++[.int .i64 (i:Int)]:=by
   show B5 (fun k=>(((t.snoc i a6 c6 a12 c12).J k:Nat):Int)) t.n++[.int .i64 (((t.snoc i a6 c6 a12 c12).J t.n:Nat):Int)]=_
   rw[zX0 (g:=fun k=>(t.J k:Int)) (fun k hk=>by
    show(((if k=t.n then i else t.J k):Nat):Int)=_
    rw[if_neg (by omega)])]
   show _++[Value.int .i64 (((if t.n=t.n then i else t.J t.n):Nat):Int)]=_
   rw[if_pos rfl]
  show W.ownsRow 0 3 1 (.slice a6 (t.n+1) c6) (t.n+1) (B5 (fun k=>(((t.snoc i a6 c6 a12 c12).J k:Nat):Int)) (t.n+1))
  rw[e]
  exact P8 h6 (Nat.zero_le _)
 ·exact P8 h12 (Nat.zero_le _)
theorem TK.Ok.snoc{t:TK}{fr i:Nat}{ja:Option Addr}{jc:Nat}{sa:Option Addr}{sc:Nat}(h:t.Ok fr)(hi:fr≤i):(t.snoc i ja jc sa sc).Ok (i+1):=by
 refine⟨fun k hk=> ?_,fun j k hj hk=> ?_⟩
 ·show(if k=t.n then i else t.J k)<i+1
  split
  ·omega
  ·have hk':k<t.n+1:=hk
   have:=h.lt k (by omega)
   omega
 ·show(if j=t.n then i else t.J j)<(if k=t.n then i else t.J k)
  have hk':k<t.n+1:=hk
  rw[if_neg (by omega)]
  split
  ·have:=h.lt j (by omega)
   omega
  ·exact h.inc j k hj (by omega)
theorem TK.Ok.more{t:TK}{a b:Nat}(h:t.Ok a)(hab:a≤b):t.Ok b:=⟨fun i hi=>by have:=h.lt i hi;omega,h.inc⟩
theorem zZ0.step{V:Int}{m ob fr M x:Nat}{t n:TK}{L L' L2:List TK}{w W W':World}{X0 Xr X2:Nat→Prop}{pre:List Nat}(hx1:x=fr+pre.length)(hx2:x<M)(hMm:M=m)(hto:t.n≤fr)(hn:n.n=t.n+1)(hz:w.heap.size≤W.heap.size)
  (h2:L'.length+2^(M-(fr+pre.length))=2^(M-fr)) (h3:L'.countP (fun u=>u.n==m)=(if t.n=fr∧0<pre.length then 1 else 0)) (h4:∀u,Tk X0 w u→Tk Xr W u) (h5:∀b,Xr b→X0 b∨w.heap.size≤b)
  (st:M6 0 Xr W W' X2) (hout:zJ5 V m ob X2 ((L++L'++[n])++L2) W') (tk:∀u,Tk Xr W u→Tk X2 W' u) (cnt:L2.length+1=2^(M-(x+1))) (cp:L2.countP (fun u=>u.n==m)=(if n.n=x+1∧x+1<M then 1 else 0)):zZ0 V m ob fr M t L w X0 X2 (pre++[x]) W':=by
 refine⟨⟨L'++([n]++L2),by rw[←List.append_assoc,←List.append_assoc];exact hout,?_,?_⟩,fun u hu=>tk u (h4 u hu),fun b hb=> ?_⟩
 ·rw[←hx1] at h2
  have e1:2^(M-x)=2^(M-(x+1))+2^(M-(x+1)):=by
   rw[show M-x=(M-(x+1))+1 by omega,Nat.pow_succ]
   omega
  rw[Z6,Z6,Z6]
  simp only[List.length_cons,List.length_nil]
  rw[show M-(fr+(pre.length+(0+1)))=M-(x+1) by omega]
  omega
 ·rw[List.countP_append,List.countP_append,h3,cp,hn,List.countP_cons,List.countP_nil,hn,Z6]
  simp only[List.length_cons,List.length_nil,beq_iff_eq]
  by_cases e:t.n=fr∧0<pre.length
  ·rw[if_pos e,if_neg (by omega),if_neg (by omega),if_pos ⟨e.1,by omega⟩]
  ·rw[if_neg e]
   by_cases e2:t.n=fr
   ·have:pre.length=0:=by omega
    rw[if_pos (⟨e2,by omega⟩:t.n=fr∧0<pre.length+(0+1))]
    by_cases e3:x+1=M
    ·rw[if_pos (by omega),if_neg (by omega)]
    ·rw[if_neg (by omega),if_pos (by omega)]
   ·rw[if_neg (by omega),if_neg (by omega),if_neg (by omega)]
 ·rcases st.new b hb with h|h
  ·exact h5 b h
  ·exact .inr (by omega)
theorem qH4:(Tryz.prog.info? 110).map (fun i=>(i.zero,i.size,i.bytes))=some (some (.agg #[.int .i64 0,.slice none 0 0,.slice none 0 0]),3,56):=by kernel_rfl
theorem kE6(W:World)(x y z:Value)(t:TypeId):∀j v,([x,y,z]:List Value)[j]?=some v→(W.alloc (.cells #[x,y,z] t)).cell? ((⟨W.heap.size,0,none⟩:Addr).add j)=some v:=fun j v h=>R4 (xs:=[x,y,z]) j v h
theorem qC6{P:Program}{md:Region.Mode}{Q:Exit→Act→World→Prop}{S:World→Prop}{l:List Oper}{n f:Nat}{listed:Array Bool}{a:Act}{w:World}{v:Value}{oi:Oper}{X:Prop}(i:Nat)(q:X)(hi:l.toArray[i]?=some oi:=by rfl)(hB:TkB md l n listed i=true:=by kernel_rfl)(hQ:∀c a w,Q (.panic c) (a.put oi.dst v) w→Q (.panic c) a w:=by exact fun _ _ _ h=>h)(hy:YieldsIf P l.toArray S oi v a:=by(refine Or.inl ⟨by rfl,?_⟩;intro w' hSw;(try dsimp only at hSw);have cc0:=(J9 hSw).1;(try simp only[hng]);go_simp;(try with_reducible rfl)))(hS:S w:=by assumption)(hx:X→M5 P md l.toArray Q S n (C0 P md l Q n) f (listed.setIfInBounds i true) (a.put oi.dst v) w:=by(intro qq;refine hnm ?_;exact qq)):M5 P md l.toArray Q S n (C0 P md l Q n) (f+1) listed a w:=L9 hi hB hQ hy hS (hx q)
theorem jT7(e:EV)(N eb vb xb ob mb M:Nat)(V:Int)(hO:e.Ok)(hM:(V=e.view∧M=e.m)∨(V≠e.view∧M=0))
  (hAG:V=e.view→∀(x:TK) (W:World),e.At W.heap.size eb W→x.At W.heap.size W→x.Ok e.m→0<x.n→Calls Tryz.prog 151 #[.pointer (some ⟨eb,0,none⟩),x.val V] W fun y w'=>y= .returned (.bool true)∧Below W.heap.size W w'):
  ∀(d fr:Nat),M-fr=d→fr≤e.m→∀(t:TK) (tv:Int) (X:Nat→Prop) (L:List TK) (w:World),N≤w.heap.size→zJ4 e N eb vb xb ob mb V w→zJ5 V e.m ob X L w→Tk X w t→t.Ok fr→L.length+2^(M-fr)≤257→jZ6 N vb xb mb X→
   Calls Tryz.prog 147 #[t.val tv,.int .i64 (fr:Int),.pointer (some ⟨vb,0,none⟩),.pointer (some ⟨xb,0,none⟩),.pointer (some ⟨ob,0,none⟩),.pointer (some ⟨mb,0,none⟩)] w (kD7 V e.m ob fr M t X L w):=by
 intro d
 induction d using Nat.strongRecOn with
 |_ d ih=>
 intro fr hd hfm t tv X L w hN hMr hOut hTk hto hln hX
 have HIH:=Hd (fun i (h1:fr≤i) (h2:i<M) (t:TK) (X:Nat→Prop) (L:List TK) (w:World) hN hMr hOut hTk hto hln hX=>ih (M-(i+1)) (by omega) (i+1) rfl (by rcases hM with h|h<;>omega) t V X L w hN hMr hOut hTk hto hln hX)
 clear ih
 have hbx:=J3 w (.cells #[.int .i64 tv,.slice t.ja t.n t.jc,.slice t.sa t.n t.sc] 110)
 have HTB:=Hd (Q3 w (.cells #[.int .i64 tv,.slice t.ja t.n t.jc,.slice t.sa t.n t.sc] 110))
 have HBX:=Hd hbx
 have HMR:=Hd (hMr.below hN hbx)
 have HOUT:=Hd hOut
 have HTK:=Hd hTk
 have HTO:=Hd hto
 have HXX:=Hd hX
 have HM:=Hd hM
 have HAG:=Hd hAG
 have HO:=Hd hO
 have HLN:=Hd hln
 have htn:=hto.le
 have hm8:=hO.m8.2
 have hvl:=J5 hMr.v
 have hxl:=J5 hMr.x
 have hml:=J5 hMr.m
 unfold TK.val
 generalize hres:kD7 V e.m ob fr M t X L w=RES
 have HRES:=Hd hres
 clear hbx hMr hOut hTk hto hX hM hAG hO hln hres
 refine(callsIn_wide (n:=6)).1 ?_
 refine callsIn_of_wp_marks Tryz.func147 rfl trivial ?_ rfl
 simp only[Tryz.ntmps147,List.size_toArray,List.length_cons,List.length_nil,Nat.reduceAdd,Nat.reduceSub,Array.replicate_succ,Array.replicate_zero,List.push_toArray,List.append_toArray,List.nil_append,List.cons_append]
 refine wpIn_wide.2 ?_
 go_upto_region 1 with(fail)
 have hV1:w.heap.size<(w.alloc (.cells #[.int .i64 tv,.slice t.ja t.n t.jc,.slice t.sa t.n t.sc] 110)).heap.size:=by simp
 generalize World.alloc w _=V1 at*
 have v0:=Q0 _ _ 0 _ _ _ HMR.out.v
 have x0:=Q0 _ _ 0 _ _ _ HMR.out.x
 go_wp2_with(go_at_call 148;refine(jB3 eb V fr _).mono ?_;rintro y W3 ⟨rfl,h1,h2⟩;have HB3:=Hd h2;have HS3:=Hd h1;clear h1 h2 v0 x0)
 have hz3:=HB3.out.size
 have hbw:Below w.heap.size w W3:=HBX.out.trans (HB3.out.mono HBX.out.size)
 have hMr3:=HMR.out.below (by omega) HB3.out
 have HXL:=Hd (fun b (hb:X b)=>HOUT.out.lt hb)
 have hNX:∀b,w.heap.size≤b→¬X b:=fun b hb hx=>by have:=HXL.out b hx;omega
 have l1:=J5 HS3.out.1
 have l2:=J5 HS3.out.2.1
 have l3:=J5 HS3.out.2.2
 have HSQ:=Hd (jB4 e N eb (V1.heap.size+2) V1.heap.size (V1.heap.size+1) fr M V (fun b=>b<W3.heap.size∧¬X b) W3 (by omega) ⟨hMr3.ev,HS3.out.2.2,HS3.out.1,HS3.out.2.1⟩ HO.out HM.out hfm (fun b hb=>⟨by omega,fun hx=>by have:=HXX.out b hx;omega⟩) ⟨⟨l3,hNX _ (by omega)⟩,⟨l1,hNX _ (by omega)⟩,⟨l2,hNX _ (by omega)⟩⟩)
 have HT0:=Hd (show zZ0 V e.m ob fr M t L w X X [] W3 from⟨⟨[],by rw[List.append_nil];exact HOUT.out.keep (fun b hb=>hbw.block b (HXL.out b hb)),by simp,by simp⟩,fun u hu=>hu.keep (fun b cur hb _=>⟨hbw.block b (HXL.out b hb),hb⟩),fun b hb=> .inl hb⟩)
 have HTB3:=Hd (J0 HTB.out HB3.out)
 have HMR3:=Hd hMr3
 have HBW:=Hd hbw
 have hwz:w.heap.size<W3.heap.size:=by omega
 clear hMr3 HMR hbw l1 l2 l3 HS3
 refine zV0 (P:=Tryz.prog) rfl (enters_of Tryz.func170 (by kernel_rfl) rfl) HSQ.out (fun b hb=>hb.1) (kH2 W3) (xL1 W3) (fun _=>rfl) X (fun b hb=>⟨Nat.zero_le _,fun h=>h.2 hb,by have:=HXL.out b hb;omega⟩)
  (fun X' xs W=>zZ0 V e.m ob fr M t L w X X' xs W) (fun _ _ _ _ h hk=>h.keep hk) HT0.out
  (fun x q=>⟨#[.agg #[.int .i64 tv,.slice t.ja t.n t.jc,.slice t.sa t.n t.sc],.int .i64 (fr:Int),.pointer (some ⟨vb,0,none⟩),.pointer (some ⟨xb,0,none⟩),.pointer (some ⟨ob,0,none⟩),.pointer (some ⟨mb,0,none⟩),.pointer (some ⟨w.heap.size,0,none⟩),undef,.pointer (some ⟨q,0,none⟩),.int .i64 0,undef,.pointer (some ⟨eb,0,none⟩),.int .i64 V,.int .i64 (fr:Int),.func (.func 170) #[] #[.pointer (some ⟨V1.heap.size+2,0,none⟩),.pointer (some ⟨V1.heap.size,0,none⟩),.pointer (some ⟨V1.heap.size+1,0,none⟩)],.int .i64 (x:Int),.int .i64 0,undef,undef,undef,undef,undef,undef,undef,undef,undef,undef,undef,undef,undef,undef,undef,undef,undef,undef,undef,undef,undef,undef,undef,undef,undef,undef,undef,undef,undef,undef,undef,undef,undef,undef,undef,undef,undef],[]⟩) (fun x=> .cells #[.int .i64 (x:Int)] 3) ?hassign ?hbody ?hdone
 case hassign=>
  intro l x W K hK
  gi_wp2
  exact hK
 case hdone=>
  rintro D xs Xr W hD hDl hDX hxs hT hb hrr hDD
  unfold EnI at hxs
  obtain⟨⟨L',h1,h2,h3⟩,h4,h5⟩:=hT
  have hk:∀b,Xr b→∀o',(W.putObj D o').heap[b]?=W.heap[b]? :=fun b hx o'=>World.putObj_heap_other (fun e=>hDX (by rw[←e];exact hx))
  have hos:=hb.os
  have htp:=hb.tape
  have hop:=hb.output
  have HF:=Hd (fun o'=>show RES (.returned (.tuple #[])) (W.putObj D o') from by
   rw[←HRES.out]
   refine⟨⟨_,rfl⟩,Xr,L',⟨hos.trans HBW.out.os,htp.trans HBW.out.tape,hop.trans HBW.out.output,by simp;omega,fun b hb hx=> ?_,h5,fun b hx=> ?_⟩,h1.keep (fun b hx=>hk b hx o'),fun u hu=>(h4 u hu).keep (fun b cur hx _=>⟨hk b hx o',hx⟩),?_,?_⟩
   ·exact(World.putObj_heap_other (by omega)).trans ((hrr b ⟨by omega,hx⟩).trans (HBW.out.block b hb))
   ·obtain⟨o,e1,e2⟩:=h1.cl b hx
    exact⟨o,(hk b hx o').trans e1,.inl e2⟩
   ·rw[hxs] at h2
    by_cases hfM:fr≤M
    ·rw[show M-(fr+(M-fr))=0 by omega] at h2
     exact h2
    ·rw[show M-(fr+(M-fr))=M-fr by omega] at h2
     rw[show M-fr=0 by omega] at h2 ⊢
     exact h2
   ·rw[h3,hxs]
    by_cases e:t.n=fr∧fr<M
    ·rw[if_pos e,if_pos ⟨e.1,by omega⟩]
    ·rw[if_neg e,if_neg (fun h=>e ⟨h.1,by omega⟩)])
  clear h1 h2 h3 h4 h5 hk hos htp hop hb hrr
  go_wp2
  exact qC7 (v:= .tuple #[]) hDD (fun o'=>⟨by simp[results,Tryz.results147],HF.out o'⟩)
 case hbody=>
  intro l pre x O Xr W q hz hq hm hT hb hrr hnx
  obtain⟨hx1,hx2⟩:=hnx
  have hVM:V=e.view∧M=e.m:=by
   rcases HM.out with h|h
   ·exact h
   ·omega
  have hxm:x<e.m:=by omega
  have hMrW:zJ4 e N eb vb xb ob mb V W:=HMR3.out.same hz (fun b hb'=>hrr b ⟨by
   have:=J5 HMR3.out.v
   have:=J5 HMR3.out.x
   have:=J5 HMR3.out.m
   omega,fun hx=>by have:=HXX.out b hx;omega⟩)
  have hTB:W.heap[w.heap.size]?=_:=(hrr w.heap.size ⟨hwz,hNX _ (Q1 _)⟩).trans HTB3.out
  have hTk:Tk Xr W t:=hT.tk t HTK.out
  have hNW:N≤W.heap.size:=by omega
  have hC:=qP7 150 #[.pointer (some ⟨vb,0,none⟩),.pointer (some ⟨q,0,none⟩)] t.ja t.n t.jc (fun k=>(t.J k:Int)) W.heap.size (fun _=>false) W (Q1 _) (by omega) hTk.1.ints kY3 (fun W' hb' k hk=>jY0 e N eb (t.J k) x vb q W' (Q5 hNW hb'.size) (hMrW.ev.below (hb'.mono hNW)) HO.out (by have:=HTO.out.lt k hk;omega) hxm (by
   have h1:=HTO.out.lt k hk
   have h2:=HO.out.inc (t.J k) x (by omega) hxm
   omega) (J0 hMrW.v hb') (J0 hq hb'))
  rw[show U6 t.n (fun _=>false)=false from by unfold U6;rw[T6 (fun _ _=>rfl)];simp] at hC
  have HC:=Hd hC
  have HMW:=Hd hMrW
  have HTW:=Hd hT
  have HQW:=Hd hq
  have HTBW:=Hd hTB
  have HTKW:=Hd hTk
  have HMN:=Hd hm
  have HX1:=Hd hx1
  have HVM:=Hd hVM
  have hfx:fr≤x:=by omega
  clear hx1 hVM
  have k1:=Q0 _ _ 1 _ _ _ hTB
  have htbl:=J5 hTB
  clear hC hMrW hT hq hTB hTk hm hb hrr HT0 HSQ
  gi_upto_region 5 with(refine⟨trivial,?_⟩;refine(CallsIn.inRound l (callsIn_wide.2 HC.out)).mono ?_;rintro y W1 ⟨rfl,hb1⟩;have HB1:=Hd hb1;clear hb1 k1 HC)
  have hMr1:=HMW.out.below hNW HB1.out
  have hTB1:=J0 HTBW.out HB1.out
  have hQ1:=J0 HQW.out HB1.out
  have hTk1:Tk Xr W1 t:=HTKW.out.keep (fun b cur hb _=>⟨HB1.out.block b (HMN.out.lt hb),hb⟩)
  refine qK5 (by kernel_rfl) (by kernel_rfl) (fun _ _ h=>h) ?_
  change wpAny _ _ _ _ _ _ _ (World.drew W1)
  have HBd:=Hd (HB1.out.trans ((Q2 _ W1).drew.mono HB1.out.size))
  have HMRd:=Hd (hMr1.below (Q5 hNW HB1.out.size) ((Q2 _ W1).drew))
  have HTBd:=Hd (J0 hTB1 (Q2 _ W1).drew)
  have HQd:=Hd (J0 hQ1 (Q2 _ W1).drew)
  have HTKd:=Hd (hTk1.keep (W':=W1.drew) (fun b cur hb _=>⟨rfl,hb⟩))
  clear hMr1 hTB1 hQ1 hTk1 HB1
  generalize World.drew W1=Wd at*
  have x0:=Q0 _ _ 0 _ _ _ HMRd.out.x
  have t1:=Q0 _ _ 1 _ _ _ HTBd.out
  have t2:=Q0 _ _ 2 _ _ _ HTBd.out
  have q0:=Q0 _ _ 0 _ _ _ HQd.out
  have lx:=J5 HMRd.out.x
  have lt:=J5 HTBd.out
  have lq:=J5 HQd.out
  refine B1 15 15 (fun w':World=>Below Wd.heap.size Wd w') (by kernel_rfl) (Q2 _ _) (fun hS=> ?_)
  refine qC6 0 ?_
  refine qC6 1 ?_
  refine qC6 2 ?_
  refine qC6 4 ?_
  refine qC6 7 ?_
  refine qC6 8 ?_
  refine qC6 10 ?_
  have htn8:t.n≤8:=by omega
  refine xN6 (S:=fun w'=>Below Wd.heap.size Wd w') (G:=RI5 Wd.heap.size Wd V (ln5 t.n) (ct5 (fun k=>(t.J k:Int)) (x:Int) t.n)) [(3,some 24),(5,some 26),(6,some 27),(9,some 30),(11,some 32),(12,some 33),(13,some 34),(14,some 10)] (by kernel_rfl) ?h0 (fun _ _ _ h=>h.bel) ?hop ?hend
  case h0=>
   have hno:∀j,¬qE0 (#[true,true,true,false,true,false,false,true,true,false,true,false,false,false,false,false]:Array Bool) j:=fun j hj=>by
    rcases hj.is with rfl|rfl|rfl|rfl|rfl|rfl<;>exact absurd hj.on (by decide)
   refine⟨rfl,Q2 _ _,Q1 _,fun j hj=>absurd hj (hno j),fun j k hj=>absurd hj (hno j),fun h=>absurd h (by decide),fun h=>absurd h (by decide),fun j k hjk h=> ?_⟩
   rcases hjk with⟨rfl,_⟩|⟨rfl,_⟩|⟨rfl,_⟩<;>exact absurd h (by decide)
  case hop=>
   clear hS
   intro p hp lt5 xs W hg hl hs hw A hA
   replace hA:=Hd hA
   simp only[List.mem_cons,List.not_mem_nil,or_false] at hp
   have hBW:=hg.hB
   rcases hp with rfl|rfl|rfl|rfl|rfl|rfl|rfl|rfl
   ·have k23:=(hA.out▸(qJ8 (d:=23) rfl).trans rfl:A.tmps[23]?=some _)
    refine qF5.intro rfl (fun K hK=> ?_);dsimp only
    go_simp
    refine(qD1 t.ja t.n t.jc (fun k=>(t.J k:Int)) W Wd.heap.size hBW (HTKd.out.1.ints.below hg.bel) (by omega) (fun h=> ?_)).mono ?_
    ·rcases HTKd.out.1.ints with h2|⟨b,o,h2,_⟩
     ·exact h2
     ·rw[h] at h2;cases h2
    rintro y W' ⟨a',c',rfl,ho,hb⟩
    exact hK.out _ _ (hg.fresh (.inl rfl) hl hb ho)
   ·have k25:=(hA.out▸(qJ8 (d:=25) rfl).trans rfl:A.tmps[25]?=some _)
    refine qF5.intro rfl (fun K hK=> ?_);dsimp only
    go_simp
    exact hK.out _ _ (hg.fresh (.inr (.inl rfl)) hl (J3 W _) (zD3 W (x:Int)))
   ·have k24:A.tmps[24]?=some (xs 3):=hA.out▸qD4 (i:=3) (d:=24) rfl (of_decide_eq_true (by kernel_rfl))
    have k26:A.tmps[26]?=some (xs 5):=hA.out▸qD4 (i:=5) (d:=26) rfl (of_decide_eq_true (by kernel_rfl))
    have hrp:=hg.row 3 (.row_i hg (.inl rfl) (hw 3 (by kernel_rfl)) (.inr hl))
    have hrq:=hg.row 5 (.row_i hg (.inr (.inl rfl)) (hw 5 (by kernel_rfl)) (.inr hl))
    obtain⟨ap,cp,ep⟩:=Y6 hrp
    obtain⟨gq,cq,eq,hcq⟩:=qW8 hrq
    rw[eq] at k26
    refine qF5.intro rfl (fun K hK=> ?_)
    obtain⟨i0,hi0,hz0,hz1,hz22⟩:=info_parts qN4
    refine step_append_lies _ rfl (.tmp 24) (.tmp 26) 28 rfl Wd.heap.size 3 i0 (.int .i64 0) 1 8 Tryz.underlying28 hi0 hz0 hz1 hz22 rfl (by decide) (xs 3) t.n _ (by simp[Act.eval,k24]) hrp ⟨gq,0,none⟩ 1 cq [.int .i64 (x:Int)] (by simp[Act.eval,k26]) rfl (fun j u hu=> ?_) (fun u hu=> ?_) (by decide) (by unfold maxLen;omega) (by omega) hBW W.heap.size rfl (fun g cap W' ho hgr hat hgl=> ?_)
    ·cases j with
     |zero=>
      obtain rfl:=Option.some.inj hu
      exact hcq
     |succ j=>simp at hu
    ·simp only[List.mem_cons,List.not_mem_nil,or_false] at hu
     subst hu
     rfl
    ·exact hK.out _ _ (hg.app (.inl ⟨rfl,rfl,rfl⟩) hl (hw 3 (by kernel_rfl)) (hw 5 (by kernel_rfl)) hgr ho (by
      rcases hat with h|h
      ·exact .inl h.symm
      ·right
       show some g=_
       rw[h]))
   ·have k29:=(hA.out▸(qJ8 (d:=29) rfl).trans rfl:A.tmps[29]?=some _)
    refine qF5.intro rfl (fun K hK=> ?_);dsimp only
    go_simp
    refine(qD1 t.sa t.n t.sc (fun _=>0) W Wd.heap.size hBW (HTKd.out.2.ints.below hg.bel) (by omega) (fun h=> ?_)).mono ?_
    ·rcases HTKd.out.2.ints with h2|⟨b,o,h2,_⟩
     ·exact h2
     ·rw[h] at h2;cases h2
    rintro y W' ⟨a',c',rfl,ho,hb⟩
    exact hK.out _ _ (hg.fresh (.inr (.inr (.inl rfl))) hl hb ho)
   ·have k31:=(hA.out▸(qJ8 (d:=31) rfl).trans rfl:A.tmps[31]?=some _)
    refine qF5.intro rfl (fun K hK=> ?_);dsimp only
    go_simp
    exact hK.out _ _ (hg.fresh (.inr (.inr (.inr rfl))) hl (J3 W _) (zD3 W 0))
   ·have k30:A.tmps[30]?=some (xs 9):=hA.out▸qD4 (i:=9) (d:=30) rfl (of_decide_eq_true (by kernel_rfl))
    have k32:A.tmps[32]?=some (xs 11):=hA.out▸qD4 (i:=11) (d:=32) rfl (of_decide_eq_true (by kernel_rfl))
    have hrp:=hg.row 9 (.row_i hg (.inr (.inr (.inr (.inl rfl)))) (hw 9 (by kernel_rfl)) (.inr hl))
    have hrq:=hg.row 11 (.row_i hg (.inr (.inr (.inr (.inr (.inl rfl))))) (hw 11 (by kernel_rfl)) (.inr hl))
    obtain⟨ap,cp,ep⟩:=Y6 hrp
    obtain⟨gq,cq,eq,hcq⟩:=qW8 hrq
    rw[eq] at k32
    refine qF5.intro rfl (fun K hK=> ?_)
    obtain⟨i0,hi0,hz0,hz1,hz22⟩:=info_parts qN4
    refine step_append_lies _ rfl (.tmp 30) (.tmp 32) 28 rfl Wd.heap.size 3 i0 (.int .i64 0) 1 8 Tryz.underlying28 hi0 hz0 hz1 hz22 rfl (by decide) (xs 9) t.n _ (by simp[Act.eval,k30]) hrp ⟨gq,0,none⟩ 1 cq [.int .i64 0] (by simp[Act.eval,k32]) rfl (fun j u hu=> ?_) (fun u hu=> ?_) (by decide) (by unfold maxLen;omega) (by omega) hBW W.heap.size rfl (fun g cap W' ho hgr hat hgl=> ?_)
    ·cases j with
     |zero=>
      obtain rfl:=Option.some.inj hu
      exact hcq
     |succ j=>simp at hu
    ·simp only[List.mem_cons,List.not_mem_nil,or_false] at hu
     subst hu
     rfl
    ·exact hK.out _ _ (hg.app (.inr ⟨rfl,rfl,rfl⟩) hl (hw 9 (by kernel_rfl)) (hw 11 (by kernel_rfl)) hgr ho (by
      rcases hat with h|h
      ·exact .inl h.symm
      ·right
       show some g=_
       rw[h]))
   ·have k21:=(hA.out▸(qJ8 (d:=21) rfl).trans rfl:A.tmps[21]?=some _)
    have k27:A.tmps[27]?=some (xs 6):=hA.out▸qD4 (i:=6) (d:=27) rfl (of_decide_eq_true (by kernel_rfl))
    have k33:A.tmps[33]?=some (xs 12):=hA.out▸qD4 (i:=12) (d:=33) rfl (of_decide_eq_true (by kernel_rfl))
    obtain⟨a6,c6,e6⟩:=Y6 (hg.row 6 (.row_i hg (.inr (.inr (.inl rfl))) (hw 6 (by kernel_rfl)) (.inl rfl)))
    obtain⟨a12,c12,e12⟩:=Y6 (hg.row 12 (.row_i hg (.inr (.inr (.inr (.inr (.inr rfl))))) (hw 12 (by kernel_rfl)) (.inl rfl)))
    rw[e6] at k27
    rw[e12] at k33
    refine qF5.intro rfl (fun K hK=> ?_);dsimp only
    go_simp
    have hb13:=hg.build hl (hw 6 (by kernel_rfl)) (hw 12 (by kernel_rfl))
    rw[e6,e12] at hb13
    exact hK.out _ _ hb13
   ·refine qF5.intro rfl (fun K hK=> ?_);dsimp only
    go_simp
    exact hK.out _ _ (hg.box hl)
  case hend=>
   clear hS
   intro xs W' hg
   have g6:=hg.row 6 (.row_i hg (.inr (.inr (.inl rfl))) rfl (.inl rfl))
   have g12:=hg.row 12 (.row_i hg (.inr (.inr (.inr (.inr (.inr rfl))))) rfl (.inl rfl))
   have h13:=hg.bld rfl
   obtain⟨bb,e14,hbb,hbox⟩:=hg.trk rfl
   obtain⟨a6,c6,e6⟩:=Y6 g6
   obtain⟨a12,c12,e12⟩:=Y6 g12
   rw[e6] at g6 h13
   rw[e12] at g12 h13
   rw[show ln5 t.n 6=t.n+1 from rfl] at g6 h13 e6
   rw[show ln5 t.n 12=t.n+1 from rfl] at g12 h13 e12
   have HG6:=Hd g6
   have HG12:=Hd g12
   have HBB:=Hd hg.bel
   have HBOX:=Hd hbox
   have hBW:=hg.hB
   obtain⟨b0,b1,b2⟩:=U4 hbox
   obtain⟨f0,f1,f2⟩:=fr3 hbox
   simp only[zM9,Act.put,T3,List.setIfInBounds_toArray,List.set_cons_zero,List.set_cons_succ,e6,e12,h13,e14]
   clear g6 g12 h13 e14 e6 e12 hg hbox x0 t1 t2 q0
   refine⟨by kernel_rfl,?_⟩
   simp only[X7,List.drop_zero]
   go_upto_region 6 with(fail)
   obtain⟨hrow,hoth⟩:=kA5 (u:= .int .i64 V) (v:= .slice a6 (t.n+1) c6) (s:= .slice a12 (t.n+1) c12) HBOX.out
   have hB6:Below Wd.heap.size Wd (((W'.setCell ⟨bb,0,none⟩ (.int .i64 V)).setCell ⟨bb,1,none⟩ (.slice a6 (t.n+1) c6)).setCell ⟨bb,2,none⟩ (.slice a12 (t.n+1) c12)):=((HBB.out.setCell (p:=⟨bb,0,none⟩) hbb _).setCell (p:=⟨bb,1,none⟩) hbb _).setCell (p:=⟨bb,2,none⟩) hbb _
   have n6:=B0 HG6.out HBOX.out (by decide)
   have n12:=B0 HG12.out HBOX.out (by decide)
   have h6':=L5 (w':=((W'.setCell ⟨bb,0,none⟩ (.int .i64 V)).setCell ⟨bb,1,none⟩ (.slice a6 (t.n+1) c6)).setCell ⟨bb,2,none⟩ (.slice a12 (t.n+1) c12)) HG6.out (fun g hg=>hoth g (fun e=>n6 (by rw[hg,e])))
   have h12':=L5 (w':=((W'.setCell ⟨bb,0,none⟩ (.int .i64 V)).setCell ⟨bb,1,none⟩ (.slice a6 (t.n+1) c6)).setCell ⟨bb,2,none⟩ (.slice a12 (t.n+1) c12)) HG12.out (fun g hg=>hoth g (fun e=>n12 (by rw[hg,e])))
   have HTN:=Hd (kC3 (X:=fun b=>W.heap.size≤b) h6' h12' (fun b hb=>by have:=HBd.out.size;omega))
   have HB6:=Hd (HBd.out.trans (hB6.mono HBd.out.size))
   have HROW:=Hd hrow
   clear hrow hoth hB6 n6 n12 h6' h12' HG6 HG12 HBOX HBB b0 b1 b2 f0 f1 f2
   generalize World.setCell (World.setCell (World.setCell W' _ _) _ _) _ _=W6 at*
   obtain⟨⟨L',h1,h2,h3⟩,h4,h5⟩:=HTW.out
   obtain⟨la,lc,hbo,how,hmi⟩:=h1.row
   obtain⟨LL,hLL⟩:∃LL,L++L'=LL:=⟨_,rfl⟩
   rw[hLL] at h1 hbo how hmi
   obtain⟨ln,hln⟩:∃ln,LL.length=ln:=⟨_,rfl⟩
   have h256:ln≤256:=by
    have e1:=HLN.out
    have e2:1≤2^(M-(fr+pre.length)):=Nat.one_le_two_pow
    rw[←hln,←hLL,Z6]
    omega
   have HLL:=Hd hLL
   have HLN2:=Hd hln
   have H1:=Hd h1
   have H2:=Hd h2
   have H3:=Hd h3
   have H4:=Hd h4
   have H5:=Hd h5
   have HMI:=Hd hmi
   have HHO:=Hd how
   have HBO:=Hd hbo
   have hz6:=HB6.out.size
   have HMR6:=Hd (HMW.out.below hNW HB6.out)
   have hag:=HAG.out HVM.out.1 (t.snoc x a6 c6 a12 c12) W6 (HMR6.out.ev.up (by omega)) HTN.out.at' ((HTO.out.snoc hfx).more (by omega)) (Nat.succ_pos _)
   have HAG6:=Hd (show Calls Tryz.prog 151 #[.pointer (some ⟨eb,0,none⟩),.agg #[.int .i64 V,.slice a6 (t.n+1) c6,.slice a12 (t.n+1) c12]] W6 fun y w'=>y= .returned (.bool true)∧Below W6.heap.size W6 w' from hag)
   obtain⟨p0,p1,p2⟩:=U4 HROW.out
   have v0:=Q0 _ _ 0 _ _ _ HMR6.out.v
   have hbbz:W.heap.size≤bb:=by have:=HBd.out.size;omega
   clear hag h1 h2 h3 h4 h5 hbo how hmi hLL hln HTW
   gi_upto_region 7 with(refine⟨trivial,?_⟩;refine(CallsIn.inRound l (callsIn_wide.2 HAG6.out)).mono ?_;rintro y W7 ⟨rfl,hb7⟩;have HB7:=Hd (HB6.out.trans (hb7.mono HB6.out.size));have HROW7:=Hd (J0 HROW.out hb7);have HTN7:=Hd (HTN.out.keep (X':=fun b=>W.heap.size≤b) (fun b cur hb hc=>⟨hb7.block b (J5 hc),hb⟩));clear hb7 p0 p1 p2 v0 HAG6 HROW HTN)
   have hobl:=H1.out.lt H1.out.xo
   have hz7:=HB7.out.size
   have HO7:=Hd ((HB7.out.block ob hobl).trans HBO.out)
   have HH7:=Hd (L5 HHO.out (fun g hg=>HB7.out.block g (H1.out.lt (HMI.out g hg))))
   have o0:=Q0 _ _ 0 _ _ _ HO7.out
   have fo:=Z3 _ _ 0 _ _ HO7.out
   obtain⟨p0,p1,p2⟩:=U4 HROW7.out
   have hob7l:ob<W7.heap.size:=by omega
   rw[HLN2.out] at o0
   have HH8:=Hd (HLN2.out▸HH7.out)
   have hnob:=B0 HH7.out HO7.out (by decide)
   rw[HLN2.out] at hnob
   obtain⟨i0,hi0,hz0,hz1,hz2⟩:=info_parts qH4
   have hcn:ln+1≤maxLen∧(ln+1)*56≤140737488355328:=by unfold maxLen;omega
   gi_upto_region 8 with(gi_at_builtin;refine wpListIn_append_own_at _ rfl _ _ 106 rfl 0 110 i0 _ 3 56 Tryz.underlying106 hi0 hz0 hz1 hz2 rfl (by decide) (.slice la ln lc) ln (trC V LL) rfl (HH8.out.alloc _) ⟨W7.heap.size,0,none⟩ 1 1 [.int .i64 V,.slice a6 (t.n+1) c6,.slice a12 (t.n+1) c12] rfl rfl (kE6 W7 _ _ _ _) (by intro u hu;simp at hu;rcases hu with rfl|rfl|rfl<;>rfl) hcn.1 hcn.2 (Nat.zero_le _) ?_;intro v' W8 hown8 hgrow8 _ hat8;obtain⟨a8,c8,hv8⟩:=Y6 hown8;subst hv8;have hob8:=(hgrow8.block ob (Z4 hob7l (J3 W7 _).size) (fun e=>hnob e.symm)).trans (((J3 W7 _).block ob hob7l).trans HO7.out);have o8:=Q0 _ _ 0 _ _ _ hob8;have f8:=Z3 _ _ 0 _ _ hob8;have HO8:=Hd hown8;have HG8:=Hd hgrow8;have HA8:=Hd hat8;clear hown8 hgrow8 hat8)
   have hown7:=HH7.out
   rw[HLN2.out] at hown7
   have hgq:(Value.slice la ln lc).ownBlock≠some q:=B0 hown7 (HB7.out.block q (J5 HQW.out)|>.trans HQW.out) (by decide)
   have hgb:(Value.slice la ln lc).ownBlock≠some bb:=fun e=>by
    have:=H1.out.lt (HMI.out bb (by rw[HLN2.out];exact e))
    omega
   have hqo:q≠ob:=fun e=>by
    have h1:=HQW.out
    rw[e,HBO.out] at h1
    injection h1 with h1
    injection h1 with _ h1 _
    exact absurd h1 (by decide)
   have hql:=J5 HQW.out
   have hbl7:=J5 HROW7.out
   have hbb9:=(Q6 W8 ⟨ob,0,none⟩ bb (.slice a8 (ln+1) c8) (by show bb≠ob;omega)).trans ((HG8.out.block bb (Z4 hbl7 (J3 W7 _).size) (fun e=>hgb e.symm)).trans (((J3 W7 _).block bb hbl7).trans HROW7.out))
   have hq9:=(Q6 W8 ⟨ob,0,none⟩ q (.slice a8 (ln+1) c8) hqo).trans ((HG8.out.block q (Z4 (Z4 hql hz7) (J3 W7 _).size) (fun e=>hgq e.symm)).trans (((J3 W7 _).block q (Z4 hql hz7)).trans ((HB7.out.block q hql).trans HQW.out)))
   obtain⟨X1,hst,hout1,htk1,htn1⟩:=H1.out.push (x:=t.snoc x a6 c6 a12 c12) HBO.out HHO.out HMI.out HB7.out HTN7.out ⟨(HTO.out.snoc hfx).more (by omega),Nat.succ_pos _⟩ (by rw[HLN2.out];exact HO8.out) (by rw[HLN2.out];exact HG8.out) (by rw[HLN2.out];exact HA8.out)
   have o9:=(Q0 _ _ 0 _ _ _ (Q4 W8 ob 0 _ _ (.slice a8 (ln+1) c8) hob8)).trans (show _=some (Value.slice a8 (ln+1) c8) from rfl)
   have HOFX:jZ6 N vb xb mb Xr:=fun b hb=>by
    rcases H5.out b hb with h|h
    ·exact HXX.out b h
    ·omega
   have hMr9:=HMW.out.step HOFX hNW hst
   have hoff9:=HOFX.step HMW.out hNW hst
   have HST:=Hd hst
   have HOUT1:=Hd hout1
   have HTK1:=Hd htk1
   have HTN1:=Hd htn1
   have HBB9:=Hd hbb9
   have HQ9:=Hd hq9
   have HMR9:=Hd hMr9
   have HOF9:=Hd hoff9
   clear hst hout1 htk1 htn1 hbb9 hq9 hMr9 hoff9 HOFX hown7 hgq hgb hqo o0 fo p0 p1 p2 hob8 o8 f8 hnob HO8 HG8 HA8 HH8 HH7 HO7
   generalize World.setCell W8 _ _=W9 at*
   have hgt:¬(2000:Int)<((ln+1:Nat):Int):=by omega
   gi_upto_region 10 with(fail)
   clear o9 hgt
   have hz9:=HST.out.size
   have m0:=Q0 _ _ 0 _ _ _ HMR9.out.m
   obtain⟨p0,p1,p2⟩:=U4 HBB9.out
   have q0:=Q0 _ _ 0 _ _ _ HQ9.out
   have hwx:IntKind.i64.wrap ((x:Int)+1)=((x+1:Nat):Int):=by rw[show((x:Int)+1)=((x+1:Nat):Int) by omega];exact Z1 _ (by omega)
   have hlen9:(LL++[t.snoc x a6 c6 a12 c12]).length+2^(M-(x+1))≤257:=by
    have e1:=HLN.out
    have e2:=H2.out
    have e3:=HLN2.out
    have e4:=HX1.out
    rw[←HLL.out,Z6] at e3
    rw[←e4] at e2
    have e5:2^(M-x)=2^(M-(x+1))+2^(M-(x+1)):=by
     rw[show M-x=(M-(x+1))+1 by omega,Nat.pow_succ]
     omega
    have e6:1≤2^(M-(x+1)):=Nat.one_le_two_pow
    rw[Z6,HLN2.out]
    simp only[List.length_cons,List.length_nil]
    omega
   have hcl:=HIH.out x hfx hx2 (t.snoc x a6 c6 a12 c12) X1 (LL++[t.snoc x a6 c6 a12 c12]) W9 (by omega) HMR9.out HOUT1.out HTN1.out (HTO.out.snoc hfx) hlen9 HOF9.out
   have HCL:=Hd (show Calls Tryz.prog 147 #[.agg #[.int .i64 V,.slice a6 (t.n+1) c6,.slice a12 (t.n+1) c12],.int .i64 ((x+1:Nat):Int),.pointer (some ⟨vb,0,none⟩),.pointer (some ⟨xb,0,none⟩),.pointer (some ⟨ob,0,none⟩),.pointer (some ⟨mb,0,none⟩)] W9 _ from hcl)
   clear hcl hlen9
   gi_wp2_with(refine⟨trivial,?_⟩;refine(CallsIn.inRound l (callsIn_wide.2 HCL.out)).mono ?_;rintro y W10 ⟨⟨v,rfl⟩,X2,L2,st2,out2,tk2,cnt2,cp2⟩;have HR2:=Hd (And.intro st2 (And.intro out2 (And.intro tk2 (And.intro cnt2 cp2))));clear st2 out2 tk2 cnt2 cp2 m0 p0 p1 p2 q0)
   obtain⟨st2,out2,tk2,cnt2,cp2⟩:=HR2.out
   rw[←HLL.out] at out2
   exact⟨X2,(HST.out.after st2).weak (Nat.zero_le _),zZ0.step HX1.out hx2 HVM.out.2 htn rfl (by omega) H2.out H3.out H4.out H5.out (HST.out.after st2) out2 (fun u hu=>tk2 u (HTK1.out u hu)) cnt2 cp2⟩
end
section
open Go Go.RowKit Go.Shelf
structure TL(N:Nat)(w:World)(V:Int)(a:Option Addr)(L:List TK):Prop where
 row:L=[]∨∃b off,a=some ⟨b,off,none⟩∧b<N∧∀i x,L[i]?=some x→w.cell? ⟨b,off+i*3,none⟩=some (.int .i64 V)∧w.cell? ⟨b,off+i*3+1,none⟩=some (.slice x.ja x.n x.jc)∧w.cell? ⟨b,off+i*3+2,none⟩=some (.slice x.sa x.n x.sc)
 el:∀x∈L,x.At N w
theorem TL.below{N:Nat}{w w':World}{V:Int}{a:Option Addr}{L:List TK}(h:TL N w V a L)(hb:Below N w w'):TL N w' V a L:=by
 refine⟨?_,fun x hx=>(h.el x hx).below hb⟩
 rcases h.row with h|⟨b,off,ha,hB,hc⟩
 ·exact .inl h
 ·have c:=(J9 hb).1
  exact .inr ⟨b,off,ha,hB,fun i x hx=>⟨(c _ _ hB).trans (hc i x hx).1,(c _ _ hB).trans (hc i x hx).2.1,(c _ _ hB).trans (hc i x hx).2.2⟩⟩
theorem TK.At.up{x:TK}{N N':Nat}{w:World}(h:x.At N w)(hN:N≤N'):x.At N' w:=⟨h.js.up hN,h.ss.up hN⟩
theorem TL.up{N N':Nat}{w:World}{V:Int}{a:Option Addr}{L:List TK}(h:TL N w V a L)(hN:N≤N'):TL N' w V a L:=by
 refine⟨?_,fun x hx=>(h.el x hx).up hN⟩
 rcases h.row with h|⟨b,off,ha,hB,hc⟩
 ·exact .inl h
 ·exact .inr ⟨b,off,ha,by omega,hc⟩
theorem qN9{W:World}{base N:Nat}{V:Int}{a:Option Addr}{c:Nat}{L:List TK}(h:W.ownsRow base 110 3 (.slice a L.length c) L.length (trC V L))(hN:W.heap.size≤N)(hel:∀x∈L,x.At N W):TL N W V a L:=by
 refine⟨?_,hel⟩
 by_cases h0:L=[]
 ·exact .inl h0
 ·have h1:0<L.length:=List.length_pos_iff.2 h0
  obtain⟨g,rfl,_,h2⟩:=qJ6 h h1
  refine .inr ⟨g,0,rfl,by omega,fun i x hx=> ?_⟩
  have hi:=(List.getElem?_eq_some_iff.1 hx).1
  obtain⟨e0,e1,e2⟩:=xQ9 V L i x hx
  rw[Nat.zero_add]
  exact⟨(h.cellAt (i*3) (by omega)).trans e0,(h.cellAt (i*3+1) (by omega)).trans e1,(h.cellAt (i*3+2) (by omega)).trans e2⟩
theorem xV1(W:World)(o1 o2 o3 o4 o5:Obj):Below W.heap.size W (((((W.alloc o1).alloc o2).alloc o3).alloc o4).alloc o5)∧(((((W.alloc o1).alloc o2).alloc o3).alloc o4).alloc o5).heap.size=W.heap.size+5∧(((((W.alloc o1).alloc o2).alloc o3).alloc o4).alloc o5).heap[W.heap.size]?=some o1∧(((((W.alloc o1).alloc o2).alloc o3).alloc o4).alloc o5).heap[W.heap.size+1]?=some o2∧(((((W.alloc o1).alloc o2).alloc o3).alloc o4).alloc o5).heap[W.heap.size+1+1]?=some o3∧(((((W.alloc o1).alloc o2).alloc o3).alloc o4).alloc o5).heap[W.heap.size+1+1+1]?=some o4∧(((((W.alloc o1).alloc o2).alloc o3).alloc o4).alloc o5).heap[W.heap.size+1+1+1+1]?=some o5:=by
 obtain⟨h1,h2,h3,h4⟩:=qG5 W o1 o2 o3
 generalize hV:((W.alloc o1).alloc o2).alloc o3=V at*
 have hz:V.heap.size=W.heap.size+3:=by rw[←hV];simp
 have hk:∀b,b<V.heap.size→((V.alloc o4).alloc o5).heap[b]?=V.heap[b]? :=fun b hb=>(Q9 _ _ _ (by simp;omega)).trans (Q9 _ _ _ hb)
 refine⟨(h1.alloc (by omega) o4).alloc (by simp;omega) o5,by simp[hz],(hk _ (by omega)).trans h2,(hk _ (by omega)).trans h3,(hk _ (by omega)).trans h4,?_,?_⟩
 ·have e:=(Q9 (V.alloc o4) o5 V.heap.size (by simp)).trans (Q3 V o4)
  rw[hz] at e
  exact e
 ·have e:=Q3 (V.alloc o4) o5
  rw[show(V.alloc o4).heap.size=W.heap.size+1+1+1+1 by simp[hz]] at e
  exact e
theorem jN7(p q:Addr)(w:World):
  CallsD Tryz.prog 146 #[.pointer (some p),.pointer (some q)] .returning w fun e u' w'=>e= .returned (.tuple #[])∧u'= .returning∧w'=w:=by
 refine callsD_of_wpS Tryz.func146 rfl fun c₀ cs hu=> ?_
 apply wpS_seq
 apply wpS_region
 simp[wpOpsS,go_sem,recoverD,hu,Tryz.ntmps146,Exit.thenS]
 refine wpS_of_wp ?_
 go_wp2
 cases c₀
 simp_all [bodyPostS,results,Tryz.results146]
def jE4(m M:Nat)(V:Int)(w:World)(y:Ending)(w':World):Prop:=(∃a c L,y= .returned (.tuple #[.slice a L.length c,.bool true])∧TL w'.heap.size w' V a L∧(∀x∈L,x.Ok m∧1≤x.n)∧L.length≤256∧L.countP (fun u=>u.n==m)=(if 0<M then 1 else 0)∧(M=0→L=[]))∧Below w.heap.size w w'
theorem xJ7(e:EV)(N eb M:Nat)(V:Int)(w:World)(hN:N≤w.heap.size)(hE:e.At N eb w)(hO:e.Ok)(hM:(V=e.view∧M=e.m)∨(V≠e.view∧M=0))
  (hAG:V=e.view→∀(x:TK) (W:World),e.At W.heap.size eb W→x.At W.heap.size W→x.Ok e.m→0<x.n→Calls Tryz.prog 151 #[.pointer (some ⟨eb,0,none⟩),x.val V] W fun y w'=>y= .returned (.bool true)∧Below W.heap.size W w'):
  Calls Tryz.prog 109 #[.pointer (some ⟨eb,0,none⟩),.int .i64 V] w (jE4 e.m M V w):=by
 obtain⟨h0,hsz,h1,h2,h3,h4,h5⟩:=xV1 w (.cells #[.pointer (some ⟨eb,0,none⟩)] 171) (.cells #[.int .i64 V] 27) (.cells #[.slice none 0 0] 106) (.cells #[.bool false] 4) (.cells #[.func (.func 147) #[] #[.pointer (some ⟨w.heap.size,0,none⟩),.pointer (some ⟨w.heap.size+1,0,none⟩),.pointer (some ⟨w.heap.size+1+1,0,none⟩),.pointer (some ⟨w.heap.size+1+1+1+1,0,none⟩)]] 254)
 have hmf:∀(fn:Fn) (first cap:Array Value) (w:World),(Instr.makeFunc fn first cap).run Tryz.prog w= .ok (.func fn first cap) w:=fun _ _ _ _=>rfl
 have hM8:M≤8:=by
  have:=hO.m8.2
  rcases hM with h|h<;>omega
 generalize hres:jE4 e.m M V w=RES
 have HRES:=Hd hres
 clear hres
 go_enter_defers Tryz.func109,Tryz.ntmps109
 go_upto_region 4 with(fail)
 generalize World.alloc (World.alloc (World.alloc (World.alloc (World.alloc w _) _) _) _) _=W5 at*
 have hN5:N≤W5.heap.size:=by omega
 have hcl:=jT7 e N eb w.heap.size (w.heap.size+1) (w.heap.size+1+1) (w.heap.size+1+1+1+1) M V hO hM hAG (M-0) 0 rfl (Nat.zero_le _) ⟨none,0,0,fun _=>0,none,0⟩ 0 (fun b=>b=w.heap.size+1+1) [] W5 hN5 ⟨hE.below (h0.mono hN),h1,h2,h5⟩
  ⟨rfl,⟨none,0,h3,World.ownsRow_nil _ _ _ _,fun g hg=>(by cases hg)⟩,fun x hx=>(by cases hx),fun x hx=>(by cases hx),fun b hb=>(by subst hb;exact⟨_,h3,rfl⟩)⟩
  ⟨⟨World.ownsRow_nil _ _ _ _,fun g hg=>(by cases hg)⟩,⟨World.ownsRow_nil _ _ _ _,fun g hg=>(by cases hg)⟩⟩ ⟨fun i hi=>absurd hi (Nat.not_lt_zero i),fun i k _ hk=>absurd hk (Nat.not_lt_zero k)⟩
  (by have:=Nat.pow_le_pow_right (n:=2) (by omega) hM8;simp only[List.length_nil,Nat.sub_zero];omega) (fun b hb=>by subst hb;omega)
 have HCL:=Hd (show Calls Tryz.prog 147 #[.agg #[.int .i64 0,.slice none 0 0,.slice none 0 0],.int .i64 0,.pointer (some ⟨w.heap.size,0,none⟩),.pointer (some ⟨w.heap.size+1,0,none⟩),.pointer (some ⟨w.heap.size+1+1,0,none⟩),.pointer (some ⟨w.heap.size+1+1+1+1,0,none⟩)] W5 _ from hcl)
 have HB5:=Hd h0
 have HF5:=Hd h4
 have hz5:w.heap.size+1+1+1<W5.heap.size:=by omega
 have m0:=Q0 _ _ 0 _ _ _ h5
 clear hcl h0 hsz h1 h2 h3 h4 h5 hE hO hM hAG hmf
 go_upto_region 5 with(go_at_call 147;refine HCL.out.mono ?_;rintro y W6 ⟨⟨v,rfl⟩,X2,L2,st2,out2,tk2,cnt2,cp2⟩;have HR2:=Hd (And.intro st2 (And.intro out2 (And.intro cnt2 cp2)));clear st2 out2 tk2 cnt2 cp2 m0)
 obtain⟨st2,out2,cnt2,cp2⟩:=HR2.out
 rw[List.nil_append] at out2
 obtain⟨ra,rc,hbo,how,hmi⟩:=out2.row
 have hf6:=(st2.block (w.heap.size+1+1+1) hz5 (fun h=>absurd h (by show ¬w.heap.size+1+1+1=w.heap.size+1+1;omega))).trans HF5.out
 have hbel:Below w.heap.size w W6:=st2.bel (fun b hb=>by subst hb;omega) HB5.out
 have o0:=Q0 _ _ 0 _ _ _ hbo
 have g0:=Z3 _ _ 0 _ _ hbo
 have q0:=Q0 _ _ 0 _ _ _ hf6
 have g1:=Z3 _ _ 0 _ _ hf6
 have hob:=Q4 W6 (w.heap.size+1+1) 0 _ _ (.slice ra L2.length rc) hbo
 have hob2:=(Q6 (W6.setCell ⟨w.heap.size+1+1,0,none⟩ (.slice ra L2.length rc)) ⟨w.heap.size+1+1+1,0,none⟩ (w.heap.size+1+1) (.bool true) (by show w.heap.size+1+1≠w.heap.size+1+1+1;omega)).trans hob
 have hfb2:=Q4 (W6.setCell ⟨w.heap.size+1+1,0,none⟩ (.slice ra L2.length rc)) (w.heap.size+1+1+1) 0 _ _ (.bool true) ((Q6 W6 ⟨w.heap.size+1+1,0,none⟩ (w.heap.size+1+1+1) _ (by show w.heap.size+1+1+1≠w.heap.size+1+1;omega)).trans hf6)
 have n1:=B0 how hbo (by decide)
 have n2:=B0 how hf6 (by decide)
 have hkeep:∀b,b≠w.heap.size+1+1→b≠w.heap.size+1+1+1→((W6.setCell ⟨w.heap.size+1+1,0,none⟩ (.slice ra L2.length rc)).setCell ⟨w.heap.size+1+1+1,0,none⟩ (.bool true)).heap[b]?=W6.heap[b]? :=fun b h1 h2=>(Q6 _ ⟨w.heap.size+1+1+1,0,none⟩ b _ h2).trans (Q6 W6 ⟨w.heap.size+1+1,0,none⟩ b _ h1)
 have how2:=L5 (w':=(W6.setCell ⟨w.heap.size+1+1,0,none⟩ (.slice ra L2.length rc)).setCell ⟨w.heap.size+1+1+1,0,none⟩ (.bool true)) how (fun g hg=>hkeep g (fun e=>n1 (by rw[hg,e])) (fun e=>n2 (by rw[hg,e])))
 have hel:∀x∈L2,x.At ((W6.setCell ⟨w.heap.size+1+1,0,none⟩ (.slice ra L2.length rc)).setCell ⟨w.heap.size+1+1+1,0,none⟩ (.bool true)).heap.size ((W6.setCell ⟨w.heap.size+1+1,0,none⟩ (.slice ra L2.length rc)).setCell ⟨w.heap.size+1+1+1,0,none⟩ (.bool true)):=fun x hx=>by
  refine((out2.el x hx).keep (X':=X2) (fun b cur hb hc=>⟨hkeep b (fun e=> ?_) (fun e=> ?_),hb⟩)).at'
  ·rw[e,hbo] at hc
   injection hc with hc
   injection hc with _ hc _
   exact absurd hc (by decide)
  ·rw[e,hf6] at hc
   injection hc with hc
   injection hc with _ hc _
   exact absurd hc (by decide)
 have hbel2:=(hbel.setCell (p:=⟨w.heap.size+1+1,0,none⟩) (by show w.heap.size≤w.heap.size+1+1;omega) (.slice ra L2.length rc)).setCell (p:=⟨w.heap.size+1+1+1,0,none⟩) (by show w.heap.size≤w.heap.size+1+1+1;omega) (.bool true)
 have h256:L2.length≤256:=by
  have:=Nat.pow_le_pow_right (n:=2) (by omega) hM8
  rw[Nat.sub_zero] at cnt2
  omega
 have hm0:M=0→L2=[]:=fun h=>by
  rw[h,Nat.sub_zero,Nat.pow_zero] at cnt2
  exact List.eq_nil_of_length_eq_zero (by omega)
 have HX:=Hd (And.intro hm0<|And.intro how2 (And.intro hel (And.intro out2.ok (And.intro h256 (And.intro cp2 hbel2)))))
 have HOB:=Hd hob2
 have HFB:=Hd hfb2
 clear hm0 st2 out2 cnt2 cp2 hmi hob hob2 hfb2 n1 n2 hkeep how how2 hel hbel hbel2 h256 hbo hf6 HR2 HF5
 go_wp2
 refine leaves_cons (f:=146) (args:= #[.pointer (some ⟨w.heap.size+1+1,0,none⟩),.pointer (some ⟨w.heap.size+1+1+1,0,none⟩)]) (by simp) (by simp[go_sem]) ?_
 refine(jN7 _ _ _).mono ?_
 rintro e' u' w'' ⟨rfl,rfl,rfl⟩
 generalize World.setCell (World.setCell W6 _ _) _ _=W7 at*
 have y0:=Q0 _ _ 0 _ _ _ HOB.out
 have y1:=Q0 _ _ 0 _ _ _ HFB.out
 simp[Leaves,settle,results,Tryz.results109,go_sem,y0,y1]
 obtain⟨hm0,how2,hel,hok,h256,cp2,hbel2⟩:=HX.out
 rw[←HRES.out]
 exact⟨⟨ra,rc,L2,rfl,qN9 how2 (Q1 _) hel,hok,h256,by rw[cp2];simp,hm0⟩,hbel2⟩
theorem xP1(a:Option Addr)(n c:Nat)(t:Nat→Int)(v:Int)(B:Nat)(w:World)(hBw:B≤w.heap.size)(hn:n≤200)(hT:D0 B w a n t):
  Calls Tryz.prog 154 #[.slice a n c,.int .i64 v] w fun e w'=>e= .returned (.int .i64 (if G9 n (fun j=>decide (t j=v))<n then(G9 n (fun j=>decide (t j=v)):Int) else-1))∧w=w':=by
 obtain⟨p,hp⟩:∃p,(fun j=>decide (t j=v))=p:=⟨_,rfl⟩
 rw[hp]
 have HP:=Hd (fun j=>show p j=decide (t j=v) from by rw[←hp])
 have HF:=Hd (fun i (hi:i<n) (hn:∀j,j<i→p j=false) (h:p i=true)=>show(if G9 n p<n then(G9 n p:Int) else-1)=(i:Int) from by rw[qW0 hi hn h,if_pos hi])
 have HG:=Hd (fun(hn:∀j,j<n→p j=false)=>show(if G9 n p<n then(G9 n p:Int) else-1)= -1 from by rw[T6 hn,if_neg (Nat.lt_irrefl _)])
 have HT:=Hd hT
 generalize(if G9 n p<n then(G9 n p:Int) else-1)=F at*
 clear hT hp
 go_enter Tryz.func154,Tryz.ntmps154
 go_wp2
 go_loopw [8] (fun x wr=>∃i:Nat,i≤n∧x= .int .i64 (i:Int)∧Hid (∀j,j<i→p j=false)∧wr=w) (fun x _=>n-(intOf x).toNat)
 case atStart=>exact⟨0,Nat.zero_le _,rfl,Hd (fun j hj=>by omega),rfl⟩
 case round=>
  obtain⟨i,hi,rfl,HN,rfl⟩:=hrel
  by_cases hlt:i<n
  ·have hlt':(i:Int)<(n:Int):=by omega
   obtain⟨b1,off,rfl,hbB,c0⟩:=HT.out.at' hlt
   have HPi:=Hd (HP.out i)
   have HFi:=Hd (HF.out i hlt HN.out)
   by_cases hd:t i=v
   ·have HE:=Hd (HFi.out (by rw[HPi.out];exact Z0 hd))
    rw[hd] at c0
    clear hd HFi HP HF HG HN
    go_wp2
    go_ret
    exact⟨by rw[HE.out];rfl,rfl⟩
   ·have HN2:=Hd (show ∀j,j<i+1→p j=false from fun j hj=>by
     by_cases e:j=i
     ·rw[e,HPi.out];exact Q7 hd
     ·exact HN.out j (by omega))
    have hd1:(v==t i)=false:=by rw[beq_eq_false_iff_ne];exact fun h=>hd h.symm
    clear hd HFi HF HG HN
    generalize t i=ti at*
    go_wp2
    go_roundw
    case rel=>exact⟨i+1,by omega,by go_num,HN2,by first|trivial|rfl⟩
    case measure=>simp[intOf];omega
  ·obtain rfl:i=n:=by omega
   have hlt':¬(i:Int)<(i:Int):=by omega
   have HGi:=Hd (HG.out HN.out)
   clear HF HG HN
   go_wp2
   go_ret
   exact⟨by rw[HGi.out];rfl,rfl⟩
def xE8(a b:TK):Bool:=M1 b.n (fun i=>U6 a.n (fun k=>decide ((a.J k:Int)=(b.J i:Int))))
theorem zG8(a b:TK)(V:Int)(N:Nat)(w:World)(hN:N≤w.heap.size)(ha:a.At N w)(hb:b.At N w)(hna:a.n≤8)(hnb:b.n≤8):
  Calls Tryz.prog 115 #[a.val V,b.val V] w fun y w'=>y= .returned (.bool (xE8 a b))∧Below w.heap.size w w':=by
 have HB:=Hd (((Q2 _ w).alloc (Q1 _) (.cells #[.int .i64 V,.slice a.ja a.n a.jc,.slice a.sa a.n a.sc] 110)).alloc (by simp) (.cells #[.int .i64 V,.slice b.ja b.n b.jc,.slice b.sa b.n b.sc] 110))
 have hxa:=(Q9 (w.alloc (.cells #[.int .i64 V,.slice a.ja a.n a.jc,.slice a.sa a.n a.sc] 110)) (.cells #[.int .i64 V,.slice b.ja b.n b.jc,.slice b.sa b.n b.sc] 110) w.heap.size (by simp)).trans (Q3 w _)
 have hxb:=Q3 (w.alloc (.cells #[.int .i64 V,.slice a.ja a.n a.jc,.slice a.sa a.n a.sc] 110)) (.cells #[.int .i64 V,.slice b.ja b.n b.jc,.slice b.sa b.n b.sc] 110)
 rw[show(w.alloc (.cells #[.int .i64 V,.slice a.ja a.n a.jc,.slice a.sa a.n a.sc] 110)).heap.size=w.heap.size+1 from by simp] at hxb
 have HXA:=Hd hxa
 have HXB:=Hd hxb
 have HA:=Hd (fun W (h:Below w.heap.size w W)=>ha.below (h.mono hN))
 have HBB:=Hd (fun W (h:Below w.heap.size w W)=>hb.below (h.mono hN))
 have HFA:=Hd (fun k (hk:k<b.n) (h:U6 a.n (fun j=>decide ((a.J j:Int)=(b.J k:Int)))=false)=>show xE8 a b=false from Y7 (f:=fun i=>U6 a.n (fun k=>decide ((a.J k:Int)=(b.J i:Int)))) hk h)
 have HTR:=Hd (fun(h:∀j,j<b.n→U6 a.n (fun k=>decide ((a.J k:Int)=(b.J j:Int)))=true)=>show xE8 a b=true from Y3 (f:=fun i=>U6 a.n (fun k=>decide ((a.J k:Int)=(b.J i:Int)))) h)
 generalize xE8 a b=RES at*
 have HAJ:=Hd (fun W h=>(HA.out W h).js)
 have HAS:=Hd (fun W h=>(HA.out W h).ss)
 have HBJ:=Hd (fun W h=>(HBB.out W h).js)
 have HBS:=Hd (fun W h=>(HBB.out W h).ss)
 unfold TK.val
 clear hxa hxb ha hb HBB HA
 generalize b.n=n at*
 generalize b.ja=bja at*
 generalize b.sa=bsa at*
 generalize a.sa=asa at*
 go_enter Tryz.func115,Tryz.ntmps115
 go_upto_region 1 with(fail)
 generalize World.alloc (World.alloc w _) _=V0 at*
 have b1:=Q0 _ _ 1 _ _ _ HXB.out
 have hwz:=HB.out.size
 have HZ:=Hd (Q2 V0.heap.size V0)
 go_wp2
 clear b1
 go_loopw [11] (fun s11 wr=>∃i:Nat,i≤n∧s11= .int .i64 (i:Int)∧Hid (∀j,j<i→U6 a.n (fun k=>decide ((a.J k:Int)=(b.J j:Int)))=true)∧Hid (Below V0.heap.size V0 wr)) (fun s11 _=>n-(intOf s11).toNat)
 case atStart=>exact⟨0,by omega,rfl,Hd (fun j hj=>absurd hj (Nat.not_lt_zero j)),HZ⟩
 case round=>
  clear HZ
  obtain⟨i,hi,rfl,HALL,HZ⟩:=hrel
  have HBr:=Hd (HB.out.trans (HZ.out.mono hwz))
  have HXA2:=Hd (J0 HXA.out HZ.out)
  have HXB2:=Hd (J0 HXB.out HZ.out)
  obtain⟨a0,a1⟩:=M7 HXA2.out
  have b0:=Q0 _ _ 0 _ _ _ HXB2.out
  have la:=J5 HXA2.out
  have lb:=J5 HXB2.out
  by_cases hl:i<n
  ·have hl':(i:Int)<(n:Int):=by omega
   obtain⟨b2,o2,rfl,hbB,c0⟩:=(HBJ.out wr HBr.out).at' hl
   have HIX:=Hd (xP1 a.ja a.n a.jc (fun k=>(a.J k:Int)) (b.J i:Int) N wr (Q5 hN HBr.out.size) (by omega) (HAJ.out wr HBr.out))
   have HFi:=Hd (HFA.out i hl)
   have HSU:=Hd (fun(h:U6 a.n (fun k=>decide ((a.J k:Int)=(b.J i:Int)))=true) j (hj:j<i+1)=>show U6 a.n (fun k=>decide ((a.J k:Int)=(b.J j:Int)))=true from by
    by_cases e:j=i
    ·rw[e];exact h
    ·exact HALL.out j (by omega))
   have hbl2:b2<wr.heap.size:=Z4 hbB (Q5 hN HBr.out.size)
   unfold U6 at HFi HSU
   obtain⟨f,hf⟩:∃f,G9 a.n (fun k=>decide ((a.J k:Int)=(b.J i:Int)))=f:=⟨_,rfl⟩
   rw[hf] at HIX HFi HSU
   clear hf HFA HALL HTR a0 b0
   generalize(b.J i:Int)=h at*
   by_cases hfa:f<a.n
   ·rw[if_pos hfa] at HIX
    have HS2:=Hd (HSU.out (Z0 hfa))
    clear HSU HFi
    go_upto_region 5 with(go_at_call 154;refine HIX.out.mono ?_;rintro y W2 ⟨rfl,rfl⟩)
    obtain⟨b3,o3,rfl,hbB3,d0⟩:=(HAS.out wr HBr.out).at' hfa
    obtain⟨b4,o4,rfl,hbB4,d1⟩:=(HBS.out wr HBr.out).at' hl
    have a2:=Q0 _ _ 2 _ _ _ HXA2.out
    have b5:=Q0 _ _ 2 _ _ _ HXB2.out
    have hb3:b3<wr.heap.size:=Z4 hbB3 (Q5 hN HBr.out.size)
    have hb4:b4<wr.heap.size:=Z4 hbB4 (Q5 hN HBr.out.size)
    have hf0:(0:Int)≤(f:Int):=by omega
    have hf1:(f:Int)<(a.n:Int):=by omega
    have hf2:decide ((f:Int)<0)=false:=Q7 (by omega)
    have hi0:(0:Int)≤(i:Int):=by omega
    (refine J4 (wr.heap.size) (by kernel_rfl) (by kernel_rfl) ?_;(repeat(first|go_big_quiet_step(fail)|quiet_step(fail)));refine X4 (wqn ?_);intro xq)
    have HZ2:=Hd (HZ.out.trans (xq.below.mono HZ.out.size))
    generalize K9.val xq=W3 at*
    go_wp2
    go_roundw
    case rel=>exact⟨i+1,by omega,by go_num,HS2,HZ2⟩
    case measure=>simp[intOf];omega
   ·rw[if_neg hfa] at HIX
    have HE:=Hd (HFi.out (Q7 hfa))
    clear HSU HFi
    go_upto_region 5 with(go_at_call 154;refine HIX.out.mono ?_;rintro y W2 ⟨rfl,rfl⟩)
    (refine J4 (wr.heap.size) (by kernel_rfl) (by kernel_rfl) ?_;(repeat(first|go_big_quiet_step(fail)|quiet_step(fail)));refine X4 (wqn ?_);intro xq)
    have HF2:=Hd (HBr.out.trans (xq.below.mono HBr.out.size))
    generalize K9.val xq=W3 at*
    go_wp2
    go_ret
    exact⟨by rw[HE.out];rfl,HF2.out⟩
  ·obtain rfl:i=n:=by omega
   have hl':¬(i:Int)<(i:Int):=by omega
   have HE:=Hd (HTR.out HALL.out)
   clear HFA HALL HTR
   go_wp2
   go_ret
   exact⟨by rw[HE.out];simp,HBr.out⟩
end
end Go.Proofs.YtmncaipgefbalaaGreatDoor
