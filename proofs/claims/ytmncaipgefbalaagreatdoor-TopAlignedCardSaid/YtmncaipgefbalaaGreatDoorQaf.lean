/- Part of the proof of the claim. -/
import Derived.Test.YtmncaipgefbalaaGreatDoorQae
import Derived.StillTailTactics
import Derived.Deep.CutBlock
set_option maxRecDepth 100000
set_option maxHeartbeats 8000000
set_option linter.unusedVariables false
set_option linter.unusedSimpArgs false
namespace Go.Proofs.YtmncaipgefbalaaGreatDoor
section
open Go Go.RowKit
section
variable {P:Program}{ops:Array Oper}{md:Region.Mode}{S:World→Prop}{Q:Exit→Act→World→Prop}
def M5(P:Program)(md:Region.Mode)(ops:Array Oper)(Q:Exit→Act→World→Prop)(S:World→Prop)(n:Nat)(L:Array Bool→Act→World→Prop):Nat→Array Bool→Act→World→Prop
 |0,listed,a,w=>L listed a w
 |f+1,listed,a,w=>Region.ready md ops listed≠[]∧∀i∈Region.ready md ops listed,i<n∧wpOp P ops Q i (fun a' w'=>S w'∧M5 P md ops Q S n L f (listed.setIfInBounds i true) a' w') a w
theorem qB8{n g:Nat}{L:Array Bool→Act→World→Prop}(hL:∀listed a w,L listed a w→wpAny P md ops Q g listed a w):
  ∀(f:Nat) (listed:Array Bool) (a:Act) (w:World),M5 P md ops Q S n L f listed a w→wpAny P md ops Q (f+g) listed a w
 |0,listed,a,w,h=>by rw[Nat.zero_add];exact hL _ _ _ h
 |f+1,listed,a,w,h=>by
  rw[show f+1+g=(f+g)+1 by omega]
  exact⟨fun h0=>absurd h0 h.1,fun i hi=>wpOp_mono (fun a' w' h'=>qB8 hL f _ a' w' h'.2) (h.2 i hi).2⟩
def xX3(md:Region.Mode)(ops:Array Oper)(n:Nat)(listed:Array Bool):Prop:=∀i,i<n→listed.getD i true=false→∃j,i<j∧j≤n∧Region.waitsFor md ops j i=true
theorem xX3.set{n i:Nat}{listed:Array Bool}(h:xX3 md ops n listed):xX3 md ops n (listed.setIfInBounds i true):=fun k hk hl=>h k hk (by
 by_cases e:i=k
 ·subst e
  rcases Nat.lt_or_ge i listed.size with h'|h'
  ·simp[h'] at hl
  ·simp[Array.getElem?_eq_none h'] at hl
 ·rw[getD_set_ne true e] at hl;exact hl)
theorem zB9{n:Nat}{listed:Array Bool}(hs:xX3 md ops n listed)(hc:Region.chainB md ops n=true)(hn:n<ops.size)(inv:HeadInv md ops n listed):
  ∀(d i:Nat),n-i=d→i<n→listed.getD i true=false→∀t,n≤t→t∉Region.ready md ops listed:=by
 intro d
 induction d using Nat.strongRecOn with
 |_ d ih=>
  intro i hd hi hun t ht hr
  obtain⟨_,ot,hot,hall⟩:=mem_ready.1 hr
  have htlt:t<ops.size:=(J5 hot)
  by_cases htn:t=n
  ·subst htn
   obtain⟨j,hj1,hj2,hw⟩:=hs i hi hun
   obtain⟨oj,hoj,e,he,hb,hon⟩:=Region.waitsFor_spec hw
   by_cases hjt:j=t
   ·subst hjt
    obtain rfl:oj=ot:=Option.some.inj (hoj.symm.trans hot)
    have h2:=hall e he hb
    rw[hon,getD_both hun] at h2
    cases h2
   ·cases hl:listed.getD j false with
    |true=>
     have h2:=inv.closed j oj hoj hl e he hb
     rw[hon,getD_both hun] at h2
     cases h2
    |false=>
     exact ih (t-j) (by omega) j rfl (by omega) (getD_in (by rw[inv.size];omega) hl) t (Q1 _) hr
  ·have h1:=List.all_eq_true.1 hc t (List.mem_range.2 htlt)
   simp only[Bool.or_eq_true,Z8] at h1
   rcases h1 with h1|h1
   ·omega
   ·obtain⟨o',ho',e,he,hb,hon⟩:=Region.waitsFor_spec h1
    obtain rfl:o'=ot:=Option.some.inj (ho'.symm.trans hot)
    have h2:=hall e he hb
    rw[hon,getD_both (inv.tail (t-1) (by omega) (by omega))] at h2
    cases h2
theorem xY4{n i:Nat}{oi:Oper}{v:Value}{L:Array Bool→Act→World→Prop}(hi:ops[i]?=some oi)(hsel:∀(j:Nat) (o:Oper) cs b,ops[j]?=some o→o.op≠.select cs b)
  (hQ:∀c a w,Q (.panic c) (a.put oi.dst v) w→Q (.panic c) a w)
  (hc:Region.chainB md ops n=true) (hn:n<ops.size) (hin:i<n)
  (hdone:∀listed a w,L listed a w→∀j∈Region.ready md ops listed,n≤j):
  ∀(f:Nat) (listed:Array Bool) (a:Act) (w:World),HeadInv md ops n listed→xX3 md ops n listed→
   (∀j oj,ops[j]?=some oj→j≠i→listed.getD j true=false→(∀e∈oj.after,Region.binds md e=true→e.on≠i)→oi.apart ops oj=true)→
   i∈Region.ready md ops listed→YieldsIf P ops S oi v a→S w→
   M5 P md ops Q S n L f (listed.setIfInBounds i true) (a.put oi.dst v) w→M5 P md ops Q S n L (f+1) listed a w:=by
 have inside:∀(listed:Array Bool),HeadInv md ops n listed→xX3 md ops n listed→i∈Region.ready md ops listed→∀j∈Region.ready md ops listed,j<n:=fun listed inv sk hr j hj=>by
  rcases Nat.lt_or_ge j n with h|h
  ·exact h
  ·exact absurd hj (zB9 sk hc hn inv _ i rfl hin (mem_ready.1 hr).1 j h)
 have nonempty:∀(listed:Array Bool),i∈Region.ready md ops listed→Region.ready md ops listed≠[]:=fun listed hr h=>by rw[h] at hr;cases hr
 intro f
 induction f with
 |zero=>
  intro listed a w inv sk _ hr hy hS H
  refine⟨nonempty _ hr,fun j hj=>⟨inside _ inv sk hr j hj,?_⟩⟩
  by_cases hji:j=i
  ·subst hji;exact hy.wpOp hi hS ⟨hS,H⟩
  ·have:=hdone _ _ _ H j (ready_mono hj hji)
   have:=inside _ inv sk hr j hj
   omega
 |succ f ih=>
  intro listed a w inv sk hfree hr hy hS H
  refine⟨nonempty _ hr,fun j hj=> ?_⟩
  have hjn:=inside _ inv sk hr j hj
  refine⟨hjn,?_⟩
  by_cases hji:j=i
  ·subst hji;exact hy.wpOp hi hS ⟨hS,H⟩
  ·obtain⟨hjun,oj,hoj,hall⟩:=mem_ready.1 hj
   have hnot:∀e∈oj.after,Region.binds md e=true→e.on≠i:=fun e he hb heq=>by
    have h1:=hall e he hb
    rw[heq,getD_both (mem_ready.1 hr).1] at h1
    cases h1
   have h2:=wpOp_putIf hoj (hfree j oj hoj hji hjun hnot) (fun cs b=>hsel i oi cs b hi) (fun cs b=>hsel j oj cs b hoj) hQ hy (H.2 j (ready_mono hj hji)).2
   refine wpOp_mono (fun a' w' h3=>⟨h3.2.1,ih (listed.setIfInBounds j true) a' w' (inv.set hj hjn) sk.set ?_ (ready_mono hr (Ne.symm hji)) h3.1 h3.2.1 ?_⟩) h2
   ·intro k ok hk hki hun hno
    refine hfree k ok hk hki ?_ hno
    by_cases hjk:j=k
    ·subst hjk;exact hjun
    ·rw[getD_set_ne true hjk] at hun;exact hun
   ·rw[Array.setIfInBounds_comm _ _ hji]
    exact h3.2.2
def qJ3(md:Region.Mode)(ops:Array Oper)(n:Nat)(listed:Array Bool):Bool:=
 decide (listed.size=ops.size)&&((List.range ops.size).all (fun j=> !(listed.getD j false)||((ops[j]?).map (·.after.all fun e=> !Region.binds md e||listed.getD e.on false)).getD true)&&(List.range ops.size).all (fun t=>decide (t<n)|| !listed.getD t true))
theorem qS1{md:Region.Mode}{ops:Array Oper}{n:Nat}{listed:Array Bool}(h:qJ3 md ops n listed=true):HeadInv md ops n listed:=by
 simp only[qJ3,Q8,Z8,List.all_eq_true,List.mem_range,Bool.or_eq_true,Bool.not_eq_true'] at h
 obtain⟨h1,h2,h3⟩:=h
 refine⟨h1,fun j oj hoj hl e he hb=> ?_,fun t ht ht'=> ?_⟩
 ·have hj:j<ops.size:=(J5 hoj)
  rcases h2 j hj with h|h
  ·rw[hl] at h;cases h
  ·rw[hoj] at h
   simp only[Option.map_some,Option.getD_some,Array.all_eq_true'] at h
   have:=h e he
   rw[hb] at this
   simpa using this
 ·rcases h3 t ht' with h|h
  ·omega
  ·exact h
def jQ2(md:Region.Mode)(ops:Array Oper)(n:Nat)(listed:Array Bool):Bool:=(List.range n).all fun i=>listed.getD i true||(List.range (n+1)).any fun j=>decide (i<j)&&Region.waitsFor md ops j i
theorem jQ3{md:Region.Mode}{ops:Array Oper}{n:Nat}{listed:Array Bool}(h:jQ2 md ops n listed=true):xX3 md ops n listed:=fun i hi hl=>by
 have h1:=List.all_eq_true.1 h i (List.mem_range.2 hi)
 rw[hl,Bool.false_or] at h1
 obtain⟨j,hj,hj2⟩:=List.any_eq_true.1 h1
 simp only[Q8,Z8] at hj2
 exact⟨j,hj2.1,by have:=List.mem_range.1 hj;omega,hj2.2⟩
def C0(P:Program)(md:Region.Mode)(l:List Oper)(Q:Exit→Act→World→Prop)(n:Nat)(listed:Array Bool)(a:Act)(w:World):Prop:=
 Region.seqB md l.toArray (l.toArray.size-n) n listed=true∧wpList P l.toArray Q (l.drop n) a w
def TkB(md:Region.Mode)(l:List Oper)(n:Nat)(listed:Array Bool)(i:Nat):Bool:=Region.noSelect l.toArray&&decide (n<l.toArray.size)&&jQ2 md l.toArray n listed&&Region.chainB md l.toArray n&&decide (i<n)&&qJ3 md l.toArray n listed&&Region.free md l.toArray listed i&&(Region.ready md l.toArray listed).contains i
theorem L9{l:List Oper}{n i:Nat}{oi:Oper}{v:Value}{f:Nat}{listed:Array Bool}{a:Act}{w:World}(hi:l.toArray[i]?=some oi)
  (hB:(Region.noSelect l.toArray&&decide (n<l.toArray.size)&&jQ2 md l.toArray n listed&&Region.chainB md l.toArray n&&decide (i<n)&&qJ3 md l.toArray n listed&&Region.free md l.toArray listed i&&(Region.ready md l.toArray listed).contains i)=true)
  (hQ:∀c a w,Q (.panic c) (a.put oi.dst v) w→Q (.panic c) a w) (hy:YieldsIf P l.toArray S oi v a) (hS:S w)
  (h:M5 P md l.toArray Q S n (C0 P md l Q n) f (listed.setIfInBounds i true) (a.put oi.dst v) w):M5 P md l.toArray Q S n (C0 P md l Q n) (f+1) listed a w:=by
 simp only[Q8,Z8] at hB
 obtain⟨⟨⟨⟨⟨⟨⟨h1,h2⟩,h3⟩,h4⟩,h5⟩,h6⟩,h7⟩,h8⟩:=hB
 exact xY4 hi (Region.noSelect_spec h1) hQ h4 h2 h5 (fun listed a w hL=>seqB_ready hL.1) f listed a w (qS1 h6) (jQ3 h3) (Region.free_spec hi h7) (by simpa using h8) hy hS h
theorem zR3{n f:Nat}{L:Array Bool→Act→World→Prop}{rs:List Nat}{listed:Array Bool}{a:Act}{w:World}(hr:Region.ready md ops listed=rs)(hne:rs≠[])(hl:rs.all (fun i=>decide (i<n))=true)
  (h:∀i∈rs,wpOp P ops Q i (fun a' w'=>S w'∧M5 P md ops Q S n L f (listed.setIfInBounds i true) a' w') a w):M5 P md ops Q S n L (f+1) listed a w:=
 ⟨by rw[hr];exact hne,fun i hi=>⟨by rw[hr] at hi;have:=List.all_eq_true.1 hl i hi;simpa using this,h i (by rw[←hr];exact hi)⟩⟩
theorem V7{n f:Nat}{L:Array Bool→Act→World→Prop}{listed:Array Bool}{a:Act}{w:World}(i:Nat)(h:wpOp P ops Q i (fun a' w'=>S w'∧M5 P md ops Q S n L f (listed.setIfInBounds i true) a' w') a w)(hr:Region.ready md ops listed=[i]:=by kernel_rfl)(hl:decide (i<n)=true:=by kernel_rfl):M5 P md ops Q S n L (f+1) listed a w:=
 zR3 hr (by simp) (by simpa using hl) fun j hj=>by rw[List.mem_singleton] at hj;subst hj;exact h
theorem zR4{n f:Nat}{L:Array Bool→Act→World→Prop}{listed:Array Bool}{a:Act}{w:World}(i j:Nat)(h:wpOp P ops Q i (fun a' w'=>S w'∧M5 P md ops Q S n L f (listed.setIfInBounds i true) a' w') a w)(h2:wpOp P ops Q j (fun a' w'=>S w'∧M5 P md ops Q S n L f (listed.setIfInBounds j true) a' w') a w)(hr:Region.ready md ops listed=[i,j]:=by kernel_rfl)(hl:(decide (i<n)&&decide (j<n))=true:=by kernel_rfl):M5 P md ops Q S n L (f+1) listed a w:=
 zR3 hr (by simp) (by simpa using hl) fun k hk=>by
  rw[List.mem_cons,List.mem_singleton] at hk
  rcases hk with rfl|rfl
  ·exact h
  ·exact h2
theorem V8{n f:Nat}{L:Array Bool→Act→World→Prop}{i:Nat}{o:Oper}{listed:Array Bool}{a:Act}{w:World}(ho:ops[i]?=some o)
  (h:∀K':Act→World→Prop,Shut (∀a w,S w→(S w→M5 P md ops Q S n L f (listed.setIfInBounds i true) a w)→K' a w)→if Region.wanted o (yielded ops a.tmps)=true then Oper.wp P o a w K' Q else K' (a.put o.dst undef) w):
  wpOp P ops Q i (fun a' w'=>S w'∧M5 P md ops Q S n L f (listed.setIfInBounds i true) a' w') a w:=
 wpOp_step ho (fun K' hK=>h K' (fun a w hS hW=>hK a w ⟨hS,hW hS⟩))
end
theorem B1{P:Program}{md:Region.Mode}{Q:Exit→Act→World→Prop}{a:Act}{w:World}{l:List Oper}{listed:Array Bool}(n f:Nat)(S:World→Prop)(hB:decide (n<l.toArray.size)=true)(hS:S w)
  (h:S w→M5 P md l.toArray Q S n (C0 P md l Q n) f listed a w):wpAny P md l.toArray Q (f+(l.toArray.size-n)) listed a w:=by
 have hn:=of_decide_eq_true hB
 exact qB8 (Q:=Q) (g:=l.toArray.size-n) (fun listed a' w' hL=>by
  have hdl:(l.drop n).length=l.toArray.size-n:=by simp
  have:=wpAny_of_seq (md:=md) (Q':=Q) (l.drop n) n listed a' w' (fun j=>by simp[List.getElem?_drop]) (by rw[hdl];exact hL.1) hL.2
  rwa [hdl] at this) _ _ _ _ (h hS)
end
section
open Go.RowKit
section
variable {a:Option Addr}{n c:Nat}{ba:Option Addr}{m bc:Nat}{ss:Nat→SV}{bs:Nat→BM}{w:World}{wa:Option Addr}{wc:Nat}{ra:Option Addr}{rc:Nat}{i:Nat}{ws rs:List Nat}
 {x:Nat} {ca:Option Addr} {cn cc:Nat} {va:Option Addr} {vn vc:Nat} {lo hi:Int} {wb rb:Nat} {f:Nat→Int} {g:Nat→SV} {W:World}
end
structure AP(base:Nat)(W0 W:World)(wv rv:Value)(nw nr:Nat)(wl rl:List Value):Prop where
 below:Below base W0 W
 keep:∀(b:Nat) (cur:Array Value) (t:TypeId) (f:Nat×Nat),W0.heap[b]?=some (.cells cur t f)→t≠28→t≠41→W.heap[b]?=W0.heap[b]?
 le:base≤W0.heap.size
 wown:W.ownsRow base 28 1 wv nw wl
 rown:W.ownsRow base 41 1 rv nr rl
section
variable {base:Nat}{W0 W W':World}{wv rv:Value}{nw nr:Nat}{wl rl:List Value}
theorem AP.drew(h:AP base W0 W wv rv nw nr wl rl):AP base W0 W.drew wv rv nw nr wl rl:=⟨h.below.drew,h.keep,h.le,h.wown,h.rown⟩
theorem AP.alloc(h:AP base W0 W wv rv nw nr wl rl)(o:Obj):AP base W0 (W.alloc o) wv rv nw nr wl rl:=
 ⟨h.below.alloc (Q5 h.le h.below.size) o,fun b cur t f hb h1 h2=>(Q9 W o b (by have:=(J5 hb);have:=h.below.size;omega)).trans (h.keep b cur t f hb h1 h2),h.le,h.wown.alloc o,h.rown.alloc o⟩
end
section
variable {a:Option Addr}{n c:Nat}{ba:Option Addr}{m bc:Nat}{ss:Nat→SV}{bs:Nat→BM}{w:World}{wa:Option Addr}{wc:Nat}{ra:Option Addr}{rc:Nat}{i:Nat}{ws rs:List Nat}
 {x:Nat} {ca:Option Addr} {cn cc:Nat} {va:Option Addr} {vn vc:Nat} {lo hi:Int} {wb rb:Nat} {W:World}
end
end
section
open Go.RowKit
end
section
structure jF5(g:List Int→Int)(l:List (List Int))(s:SV):Prop where
 all:∀f∈l,s.lo≤g f∧g f≤s.hi
 lo:∃f∈l,g f=s.lo
 hi:∃f∈l,g f=s.hi
theorem jF5.sub{g:List Int→Int}{l k:List (List Int)}{s t:SV}(h:jF5 g l s)(hk:jF5 g k t)(e:∀f,f∈l→f∈k):t.lo≤s.lo∧s.hi≤t.hi∧s.lo≤s.hi:=by
 obtain⟨f1,m1,e1⟩:=h.lo
 obtain⟨f2,m2,e2⟩:=h.hi
 have a1:=hk.all f1 (e f1 m1)
 have a2:=hk.all f2 (e f2 m2)
 have a3:=h.all f1 m1
 omega
def P5:List Int→List Int→Prop
 |a::az,b::bs=>a<b∨(a=b∧P5 az bs)
 |_,_=>False
theorem qC9:∀a,¬P5 a a
 |[]=>by simp[P5]
 |a::az=>by
  have:=qC9 az
  simp[P5,this]
theorem zX2:∀a b,P5 a b→¬P5 b a
 |[],_,h=>by simp[P5] at h
 |_::_,[],h=>by simp[P5] at h
 |a::az,b::bs,h=>by
  have:=zX2 az bs
  simp only[P5] at*
  rintro(h2|⟨h2,h3⟩)
  ·rcases h with h|h<;>omega
  ·rcases h with h|⟨h,h4⟩
   ·omega
   ·exact this h4 h3
theorem qC8:∀(p a b:List Int),P5 (p++a) (p++b)↔P5 a b
 |[],_,_=>Iff.rfl
 |x::p,a,b=>by
  have:=qC8 p a b
  simp[P5,this]
theorem xK4(s:SV):(qO0 s).Pairwise (·<·):=by
 unfold qO0
 rw[List.pairwise_map]
 exact List.pairwise_lt_range.imp (fun h=>by omega)
theorem qU7{n:Nat}{ss:Nat→SV}{ag:List Int→Bool}:∀r pre,r≤n→pre.length=n-r→(qE3 n ss ag r pre).Pairwise P5
 |0,pre,hr,hp=>by
  rw[qE3]
  split<;>simp
 |r+1,pre,hr,hp=>by
  rw[qE3,List.pairwise_flatMap]
  refine⟨fun d _=>qU7 r _ (by omega) (by simp;omega),?_⟩
  refine(xK4 _).imp ?_
  intro d e hde x hx y hy
  obtain⟨_,_,⟨t,rfl⟩,_⟩:=(qX0 r (pre++[d]) x (by omega) (by simp;omega)).1 hx
  obtain⟨_,_,⟨u,rfl⟩,_⟩:=(qX0 r (pre++[e]) y (by omega) (by simp;omega)).1 hy
  rw[List.append_assoc,List.append_assoc,qC8]
  simp only[List.singleton_append,P5]
  exact .inl hde
theorem xX8{n:Nat}{ss:Nat→SV}{m:Nat}{bs:Nat→BM}:(jL7 n ss m bs).Pairwise P5:=qU7 n [] (Q1 _) (by simp)
theorem zT3:∀{l k:List (List Int)},l.Pairwise P5→k.Pairwise P5→(∀f,f∈l↔f∈k)→l=k
 |[],[],_,_,_=>rfl
 |[],y::k,_,_,h=>by have:=(h y).2 (by simp);simp at this
 |x::l,[],_,_,h=>by have:=(h x).1 (by simp);simp at this
 |x::l,y::k,hl,hk,h=>by
  have h1:=List.pairwise_cons.1 hl
  have h2:=List.pairwise_cons.1 hk
  have e:x=y:=by
   rcases List.mem_cons.1 ((h x).1 (by simp)) with e|hx
   ·exact e
   ·rcases List.mem_cons.1 ((h y).2 (by simp)) with e|hy
    ·exact e.symm
    ·exact absurd (h1.1 y hy) (zX2 _ _ (h2.1 x hx))
  subst e
  congr 1
  refine zT3 h1.2 h2.2 (fun f=> ?_)
  constructor
  ·intro hf
   rcases List.mem_cons.1 ((h f).1 (by simp[hf])) with e|hk'
   ·subst e;exact absurd (h1.1 f hf) (qC9 f)
   ·exact hk'
  ·intro hf
   rcases List.mem_cons.1 ((h f).2 (by simp[hf])) with e|hk'
   ·subst e;exact absurd (h2.1 f hf) (qC9 f)
   ·exact hk'
theorem zN2{l k:List (List Int)}(hl:l.Pairwise P5)(hk:k.Pairwise P5){p:List Int→Bool}(h:∀f,f∈k↔f∈l∧p f=true):k=l.filter p:=
 zT3 hk (hl.sublist List.filter_sublist) (fun f=>by rw[h,List.mem_filter])
theorem zN3{l k:List (List Int)}(hl:l.Pairwise P5)(hk:k.Pairwise P5)(h:∀f,f∈k→f∈l):k.length≤l.length:=by
 have:k=l.filter (fun f=>decide (f∈k)):=zN2 hl hk (fun f=>by simp;exact fun hf=>h f hf)
 rw[this]
 exact List.length_filter_le _ _
end
section
open Go.RowKit Go.Shelf
attribute [local go_sem] Oper.semAt_some
structure FX where
 f:List Int
 fa:Option Addr
 sa:Option Addr
structure ItP where
 sB:Nat
 yB:Nat
 fB:Nat
 fb:Nat
 mB:Nat
structure Evo(R:Nat→Prop)(n fb:Nat)(p:List Int)(O:Nat→Prop)(W:World)(O':Nat→Prop)(W':World):Prop where
 sub:∀b,O b→O' b
 new:∀b,O' b→O b∨W.heap.size≤b
 lt:∀b,O' b→b<W'.heap.size
 size:W.heap.size≤W'.heap.size
 own:∀b,O b→b≠fb→W'.heap[b]?=W.heap[b]?
 rely:∀b,R b→W'.heap[b]?=W.heap[b]?
 row:∃f,IR 3 W' fb n f∧∀c,c<p.length→f c=fOf p c
section
variable {R:Nat→Prop}{n:Nat}{ss:Nat→SV}{m:Nat}{bs:Nat→BM}{sp l:Nat}{q:ItP}{p:List Int}{O O' O'':Nat→Prop}{W W' W'':World}
theorem Evo.trans{fb:Nat}(h:Evo R n fb p O W O' W')(k:Evo R n fb p O' W' O'' W''):Evo R n fb p O W O'' W'':=
 ⟨fun b hb=>k.sub b (h.sub b hb),fun b hb=>(k.new b hb).elim (h.new b) (fun h1=> .inr (Q5 h.size h1)),k.lt,Q5 h.size k.size,fun b hb hn=>(k.own b (h.sub b hb) hn).trans (h.own b hb hn),fun b hb=>(k.rely b hb).trans (h.rely b hb),k.row⟩
end
def Pos(xs:List FX)(p:List Int):Prop:=∀x∈xs,∀g,p<+:g→P5 x.f g
def Nxt(n:Nat)(ss:Nat→SV)(m:Nat)(bs:Nat→BM)(pre:List FX)(x:FX):Prop:=Pos pre x.f∧x.f∈jL7 n ss m bs
end
section
open Go.RowKit Go.Shelf
attribute [local go_sem] Oper.semAt_some
end
section
open Go.RowKit Go.Shelf
def Off(O:Nat→Prop)(fb:Nat)(b:Nat):Prop:=O b∧b≠fb
theorem zV6.off{R O O':Nat→Prop}{n m fb:Nat}{p:List Int}{W W':World}{a:Option Addr}{xs:Nat→Int}(h:zV6 (Off O fb) W a m xs)(e:Evo R n fb p O W O' W'):zV6 (Off O' fb) W' a m xs:=by
 rcases h with h|⟨b,off,ha,hB,hz,hc⟩
 ·exact .inl h
 ·exact .inr ⟨b,off,ha,⟨e.sub _ hB.1,hB.2⟩,by have:=e.size;omega,fun i hi=>(X5 (e.own _ hB.1 hB.2)).trans (hc i hi)⟩
def xA4(s:SV):Nat:=(s.hi-s.lo+1).toNat
theorem jP1{s:SV}:(qO0 s).length=xA4 s:=by simp[qO0,xA4]
theorem jP0{s:SV}{t:Nat}(h:xA4 s≤t):(qO0 s).take t=qO0 s:=List.take_of_length_le (by rw[jP1];exact h)
theorem xU5{n m:Nat}{ss:Nat→SV}{bs:Nat→BM}(hS:zY5 n ss m bs){r:Nat}{p g:List Int}(hr:p.length+r=n)(h:g∈zN4 n ss m bs r p):p<+:g:=by
 rw[jQ5 hS r p (by omega) (by omega)] at h
 exact((qX0 r p g (by omega) (by omega)).1 h).2.2.1
theorem Pos.next{n m:Nat}{ss:Nat→SV}{bs:Nat→BM}(hS:zY5 n ss m bs){xs ys:List FX}{p:List Int}{r t:Nat}{d:Int}(h:Pos xs p)(hv:ys.map FX.f=((qO0 (ss p.length)).take t).flatMap (fun d=>zN4 n ss m bs r (p++[d])))(hd:d=(ss p.length).lo+(t:Int))(hr:p.length+(r+1)=n):Pos (xs++ys) (p++[d]):=by
 intro x hx g hg
 rcases List.mem_append.1 hx with h1|h1
 ·exact h x h1 g ((List.prefix_append p [d]).trans hg)
 ·have h2:x.f∈ys.map FX.f:=List.mem_map.2 ⟨x,h1,rfl⟩
  rw[hv,List.mem_flatMap] at h2
  obtain⟨d',h3,h4⟩:=h2
  have h5:=xU5 hS (by rw[Z6,List.length_singleton];omega) h4
  have h6:d'<d:=by
   obtain⟨i,hi,e⟩:=List.mem_iff_getElem.1 h3
   rw[List.length_take] at hi
   rw[List.getElem_take] at e
   simp only[qO0,List.getElem_map,List.getElem_range] at e
   omega
  obtain⟨t1,e1⟩:=h5
  obtain⟨t2,e2⟩:=hg
  rw[←e1,←e2,List.append_assoc,List.append_assoc,qC8]
  exact .inl h6
section
variable (R:Nat→Prop)(n:Nat)(ss:Nat→SV)(m:Nat)(bs:Nat→BM)(sp l:Nat)(q:ItP)(J:List FX→(Nat→Prop)→World→Prop)(r:Nat)(p:List Int)(sa:Option Addr)(xs:List FX)(O:Nat→Prop)(W:World)(nb:Nat)
structure kP6(t:Nat)(ys:List FX)(O1:Nat→Prop)(W1:World):Prop where
 vis:ys.map FX.f=((qO0 (ss p.length)).take t).flatMap (fun d=>zN4 n ss m bs r (p++[d]))
 j:J (xs++ys) O1 W1
 evo:Evo R n q.fb p O W O1 W1
 nown:O1 nb
 nrow:∃g,IR 3 W1 nb m g
end
section
variable {R:Nat→Prop}{n:Nat}{ss:Nat→SV}{m:Nat}{bs:Nat→BM}{sp l:Nat}{q:ItP}{J Jx:List FX→(Nat→Prop)→World→Prop}{r:Nat}{p:List Int}{sa:Option Addr}{xs:List FX}{O:Nat→Prop}{W:World}{nb:Nat}{t:Nat}{ys:List FX}{O1 O2:Nat→Prop}{W1 W2:World}{d:Int}{i:Nat}
theorem kP6.all(hc:xJ5 n ss m bs (r+1) (qG0 bs p)=true)(hp:p.length+(r+1)=n)(h:kP6 R n ss m bs q J r p xs O W nb t ys O1 W1)(ht:xA4 (ss p.length)≤t):ys.map FX.f=zN4 n ss m bs (r+1) p:=by
 rw[zN4,if_pos hc,show n-(r+1)=p.length by omega,h.vis,jP0 ht]
end
end
section
open Go.RowKit Go.Shelf
theorem qR5{W V:World}{o:Obj}(hb:Below (W.alloc o).heap.size (W.alloc o) V):V.heap[W.heap.size]?=some o:=(hb.block _ (by simp)).trans (Q3 W o)
theorem qV4(V:World)(o:Obj):Below V.heap.size V (V.alloc o):=(Q2 _ _).alloc (Q1 _) _
theorem xV4(W:World)(o1 o2 o3 o4:Obj):Below W.heap.size W ((((W.alloc o1).alloc o2).alloc o3).alloc o4)∧((((W.alloc o1).alloc o2).alloc o3).alloc o4).heap.size=W.heap.size+1+1+1+1∧((((W.alloc o1).alloc o2).alloc o3).alloc o4).heap[W.heap.size]?=some o1∧((((W.alloc o1).alloc o2).alloc o3).alloc o4).heap[W.heap.size+1]?=some o2∧((((W.alloc o1).alloc o2).alloc o3).alloc o4).heap[W.heap.size+1+1]?=some o3∧((((W.alloc o1).alloc o2).alloc o3).alloc o4).heap[W.heap.size+1+1+1]?=some o4:=by
 have a1:=qV4 W o1
 have a2:=qV4 (W.alloc o1) o2
 have a3:=qV4 ((W.alloc o1).alloc o2) o3
 have a4:=qV4 (((W.alloc o1).alloc o2).alloc o3) o4
 have z1:(W.alloc o1).heap.size=W.heap.size+1:=by simp
 have z2:((W.alloc o1).alloc o2).heap.size=W.heap.size+1+1:=by simp
 have z3:(((W.alloc o1).alloc o2).alloc o3).heap.size=W.heap.size+1+1+1:=by simp
 have b3:=a3.trans (a4.mono a3.size)
 have b2:=a2.trans (b3.mono a2.size)
 refine⟨a1.trans (b2.mono a1.size),by simp,qR5 b2,?_,?_,?_⟩
 ·have:=qR5 (W:=W.alloc o1) b3;rwa [z1] at this
 ·have:=qR5 (W:=(W.alloc o1).alloc o2) a4;rwa [z2] at this
 ·have:=Q3 (((W.alloc o1).alloc o2).alloc o3) o4;rwa [z3] at this
structure zJ3(R X O:Nat→Prop)(W:World):Prop where
 off:∀b,X b→¬O b
 rest:∀b,X b→¬R b
 cells:∀b,X b→∃o,W.heap[b]?=some o∧o.isCells=true
theorem zJ3.lt{R X O:Nat→Prop}{W:World}(h:zJ3 R X O W){b:Nat}(hb:X b):b<W.heap.size:=by
 obtain⟨o,h1,_⟩:=h.cells b hb
 exact(J5 h1)
structure L8(X:Nat→Prop)(W W':World)(X':Nat→Prop):Prop where
 os:W'.os=W.os
 tape:W'.tape=W.tape
 output:W'.output=W.output
 size:W.heap.size≤W'.heap.size
 block:∀b,b<W.heap.size→¬X b→W'.heap[b]?=W.heap[b]?
 new:∀b,X' b→X b∨W.heap.size≤b
 cells:∀b,X' b→∃o,W'.heap[b]?=some o∧o.isCells=true
theorem L8.refl{R X O:Nat→Prop}{W:World}(h:zJ3 R X O W):L8 X W W X:=⟨rfl,rfl,rfl,Q1 _,fun _ _ _=>rfl,fun _ h=> .inl h,h.cells⟩
theorem L8.below{R X O:Nat→Prop}{W W':World}(h:zJ3 R X O W)(hb:Below W.heap.size W W'):L8 X W W' X:=⟨hb.os,hb.tape,hb.output,hb.size,fun b hl _=>hb.block b hl,fun _ h=> .inl h,fun b hx=>by
 obtain⟨o,h1,h2⟩:=h.cells b hx
 exact⟨o,(hb.block b (h.lt hx)).trans h1,h2⟩⟩
theorem L8.trans{X X' X'':Nat→Prop}{A B C:World}(h:L8 X A B X')(k:L8 X' B C X''):L8 X A C X'':=
 ⟨k.os.trans h.os,k.tape.trans h.tape,k.output.trans h.output,Q5 h.size k.size,fun b hl hx=>(k.block b (Z4 hl h.size) (fun h1=>(h.new b h1).elim hx (fun h2=>by omega))).trans (h.block b hl hx),fun b hb=>(k.new b hb).elim (h.new b) (fun h1=> .inr (Q5 h.size h1)),k.cells⟩
theorem L8.setCell{X X':Nat→Prop}{A B:World}(h:L8 X A B X'){b o:Nat}(hb:X b)(v:Value):L8 X A (B.setCell ⟨b,o,none⟩ v) X':=
 ⟨h.os,h.tape,h.output,by have:=h.size;simpa [World.setCell] using this,fun k hl hk=>(Below.heap_setCell B ⟨b,o,none⟩ v k (fun e=>hk (by rw[show k=b from e];exact hb))).trans (h.block k hl hk),h.new,fun k hk=>by
  obtain⟨u,h1,h2⟩:=h.cells k hk
  by_cases e:k=b
  ·subst e
   cases u with
   |cells cur t f=>exact⟨.cells (cur.setIfInBounds o v) t f,by simp[World.setCell,Array.getElem?_modify,h1],rfl⟩
   |_=>simp[Obj.isCells] at h2
  ·exact⟨u,(Q6 B ⟨b,o,none⟩ k v e).trans h1,h2⟩⟩
theorem L8.add{X X':Nat→Prop}{A B:World}(h:L8 X A B X'){g:Nat}(hg:A.heap.size≤g){o:Obj}(ho:B.heap[g]?=some o)(hc:o.isCells=true):L8 X A B (fun b=>X' b∨b=g):=
 ⟨h.os,h.tape,h.output,h.size,h.block,fun b hb=>hb.elim (h.new b) (fun e=> .inr (by omega)),fun b hb=>hb.elim (h.cells b) (fun e=>⟨o,by rw[e];exact ho,hc⟩)⟩
theorem L8.keepsFrom{R X X' O:Nat→Prop}{W W':World}{B:Nat}(h:L8 X W W' X')(m:zJ3 R X O W):KeepsFrom B W W':=
 ⟨h.size,fun k o _ hk ho=>(h.block k (J5 hk) (fun hx=>by
  obtain⟨u,h1,h2⟩:=m.cells k hx
  rw[hk] at h1
  injection h1 with h1
  rw[h1,h2] at ho
  cases ho)).trans hk⟩
theorem L8.kept{R X X' O:Nat→Prop}{W W':World}(h:L8 X W W' X')(m:zJ3 R X O W)(hO:∀b,O b→b<W.heap.size)(hR:∀b,R b→b<W.heap.size):R3 (jX0 O R) W W':=
 ⟨h.size,fun b hb=>hb.elim (fun h1=>h.block b (hO b h1) (fun h2=>m.off b h2 h1)) (fun h1=>h.block b (hR b h1) (fun h2=>m.rest b h2 h1))⟩
theorem L8.bel{X X':Nat→Prop}{W W' w0:World}(h:L8 X W W' X')(hX:∀b,X b→w0.heap.size≤b)(hb:Below w0.heap.size w0 W):Below w0.heap.size w0 W':=
 hb.trans ⟨h.os,h.tape,h.output,h.size,fun b hl=>h.block b (Z4 hl hb.size) (fun hx=>by have:=hX b hx;omega)⟩
theorem L8.mine{R X X' O:Nat→Prop}{W W':World}(h:L8 X W W' X')(m:zJ3 R X O W)(hO:∀b,O b→b<W.heap.size)(hR:∀b,R b→b<W.heap.size):zJ3 R X' O W':=
 ⟨fun b hx h1=>(h.new b hx).elim (fun h2=>m.off b h2 h1) (fun h2=>by have:=hO b h1;omega),fun b hx h1=>(h.new b hx).elim (fun h2=>m.rest b h2 h1) (fun h2=>by have:=hR b h1;omega),h.cells⟩
def zV5(n:Nat)(ss:Nat→SV)(m:Nat)(bs:Nat→BM)(xs:List FX):Prop:=(xs.map FX.f).Pairwise P5∧∀x∈xs,x.f∈jL7 n ss m bs
theorem zV5.nil{n m:Nat}{ss:Nat→SV}{bs:Nat→BM}:zV5 n ss m bs []:=⟨List.Pairwise.nil,fun x hx=>by cases hx⟩
theorem zV5.next{n m:Nat}{ss:Nat→SV}{bs:Nat→BM}{xs:List FX}{x:FX}(h:zV5 n ss m bs xs)(hx:Nxt n ss m bs xs x):zV5 n ss m bs (xs++[x]):=by
 refine⟨?_,fun y hy=> ?_⟩
 ·rw[List.map_append,List.map_singleton,List.pairwise_append]
  refine⟨h.1,List.pairwise_singleton _ _,fun a ha b hb=> ?_⟩
  obtain⟨y,hy,rfl⟩:=List.mem_map.1 ha
  rw[List.mem_singleton] at hb
  subst hb
  exact hx.1 y hy _ (List.prefix_refl _)
 ·rcases List.mem_append.1 hy with h1|h1
  ·exact h.2 y h1
  ·rw[List.mem_singleton] at h1;subst h1;exact hx.2
theorem zV5.many{n m:Nat}{ss:Nat→SV}{bs:Nat→BM}{xs:List FX}(h:zV5 n ss m bs xs):xs.length≤(jL7 n ss m bs).length:=by
 have:=zN3 xX8 h.1 (l:=jL7 n ss m bs) (fun f hf=>by
  obtain⟨x,hx,rfl⟩:=List.mem_map.1 hf
  exact h.2 x hx)
 simpa using this
theorem L5{w w':World}{base:Nat}{e:TypeId}{k:Nat}{v:Value}{n:Nat}{xs:List Value}(h:w.ownsRow base e k v n xs)(hk:∀g,v.ownBlock=some g→w'.heap[g]?=w.heap[g]?):w'.ownsRow base e k v n xs:=by
 refine⟨h.1,?_⟩
 rcases h.2 with h|⟨g,cap,cur,hv,h1,h2,h3⟩
 ·exact .inl h
 ·exact .inr ⟨g,cap,cur,hv,h1,(hk g (by rw[hv];rfl)).trans h2,h3⟩
theorem L7{w:World}{base:Nat}{e:TypeId}{k:Nat}{v:Value}{n:Nat}{xs:List Value}(h:w.ownsRow base e k v n xs){b:Nat}(hb:v.ownBlock=some b):base≤b:=by
 rcases h.2 with⟨rfl,_⟩|⟨g,cap,cur,rfl,h1,_⟩
 ·cases hb
 ·simp only[Value.ownBlock,Option.some.injEq] at hb;omega
theorem zP7{N D:Nat}{w W:World}(h:Below N w W)(hD:N≤D)(o:Obj):Below N w (W.putObj D o):=h.trans ⟨rfl,rfl,rfl,by simp,fun b hb=>World.putObj_heap_other (by omega)⟩
theorem qC7{P:Program}{fn:Func}{R:Ending→World→Prop}{tmps:Array Value}{W:World}{D n:Nat}{v:Value}(hK:W.heap[D]?=some (.deferred (some [])))
  (h:∀o',(results fn tmps).run P (W.putObj D o')= .ok v (W.putObj D o')∧R (.returned v) (W.putObj D o')):bodyPostM Fence.wide n P fn R .ret {tmps:=tmps,defers:=[{target:= .collected D,args:= #[]}]} W:=by
 refine⟨by simp,.inl ⟨_,_,rfl,run_takeDeferred hK,?_⟩⟩
 obtain⟨h1,h2⟩:=h _
 exact⟨_,h1,h2⟩
def marks(Ds:List Nat):List Deferred:=Ds.map fun D=>{target:= .collected D,args:= #[]}
theorem qH6{P:Program}{fn:Func}{R:Ending→World→Prop}{tmps:Array Value}{v:Value}:∀(Ds:List Nat) (W:World),Ds.Nodup→(∀D∈Ds,W.heap[D]?=some (.deferred (some [])))→
  (∀W':World,W'.os=W.os→W'.tape=W.tape→W'.output=W.output→W'.heap.size=W.heap.size→(∀b,b∉Ds→W'.heap[b]?=W.heap[b]?)→(results fn tmps).run P W'= .ok v W'∧R (.returned v) W')→LeavesInM Fence.wide 6 P fn tmps R (marks Ds) .returning W
 |[],W,_,_,h=>by
  obtain⟨h1,h2⟩:=h W rfl rfl rfl rfl (fun _ _=>rfl)
  exact⟨v,h1,h2⟩
 |D::Ds,W,hn,hD,h=>by
  rw[List.nodup_cons] at hn
  refine⟨by simp,.inl ⟨_,_,rfl,run_takeDeferred (hD D (by simp)),?_⟩⟩
  refine qH6 (v:=v) Ds _ hn.2 (fun E hE=> ?_) (fun W' h1 h2 h3 h4 h5=> ?_)
  ·have hne:E≠D:=fun e=>hn.1 (e▸hE)
   exact(World.putObj_heap_other hne).trans (hD E (by simp[hE]))
  ·refine h W' h1 h2 h3 (by rw[h4];simp) (fun b hb=> ?_)
   rw[List.mem_cons,not_or] at hb
   exact(h5 b hb.2).trans (World.putObj_heap_other hb.1)
theorem qJ5{P:Program}{fn:Func}{R:Ending→World→Prop}{tmps:Array Value}{v:Value}{Ds:List Nat}{W:World}(hn:Ds.Nodup)(hD:∀D∈Ds,W.heap[D]?=some (.deferred (some [])))
  (h:∀W':World,W'.os=W.os→W'.tape=W.tape→W'.output=W.output→W'.heap.size=W.heap.size→(∀b,b∉Ds→W'.heap[b]?=W.heap[b]?)→(results fn tmps).run P W'= .ok v W'∧R (.returned v) W'):bodyPostM Fence.wide 6 P fn R .ret {tmps:=tmps,defers:=marks Ds} W:=qH6 (v:=v) Ds W hn hD h
theorem zZ3{w W W':World}{Ds:List Nat}(h:Below w.heap.size w W)(hD:∀D∈Ds,w.heap.size≤D)(h1:W'.os=W.os)(h2:W'.tape=W.tape)(h3:W'.output=W.output)(h4:W'.heap.size=W.heap.size)(h5:∀b,b∉Ds→W'.heap[b]?=W.heap[b]?):Below w.heap.size w W':=
 h.trans ⟨h1,h2,h3,Nat.le_of_eq h4.symm,fun b hb=>h5 b (fun hm=>by have:=hD b hm;omega)⟩
theorem kS7(w:World)(t:TypeId):(w.alloc (.cells #[.int .i64 0,.int .i64 0,.int .i64 0,.int .i64 0,.int .i64 0,.int .i64 0,.int .i64 0,.int .i64 0,.int .i64 0,.int .i64 0,.int .i64 0,.int .i64 0,.int .i64 0,.int .i64 0,.int .i64 0,.int .i64 0,.int .i64 0,.int .i64 0,.int .i64 0,.int .i64 0,.int .i64 0,.int .i64 0,.int .i64 0,.int .i64 0,.int .i64 0,.int .i64 0,.int .i64 0,.int .i64 0,.int .i64 0,.int .i64 0,.int .i64 0,.int .i64 0,.int .i64 0,.int .i64 0,.int .i64 0,.int .i64 0,.int .i64 0,.int .i64 0,.int .i64 0,.int .i64 0] t)).rowIs w.heap.size t 40 (fun _=> .int .i64 0):=
 World.rowIs_alloc w _ t _ (fun i hi=>by
  show(List.replicate 40 (Value.int .i64 0)).toArray[i]?=_
  have h:i<40:=hi
  rw[List.getElem?_toArray,List.getElem?_replicate,if_pos h])
theorem kS8(w:World)(t:TypeId):(w.alloc (.cells #[.int .i64 0,.int .i64 0,.int .i64 0,.int .i64 0,.int .i64 0,.int .i64 0,.int .i64 0,.int .i64 0,.int .i64 0,.int .i64 0,.int .i64 0,.int .i64 0,.int .i64 0,.int .i64 0,.int .i64 0,.int .i64 0,.int .i64 0,.int .i64 0,.int .i64 0,.int .i64 0,.int .i64 0,.int .i64 0,.int .i64 0,.int .i64 0,.int .i64 0,.int .i64 0,.int .i64 0,.int .i64 0,.int .i64 0,.int .i64 0,.int .i64 0,.int .i64 0,.int .i64 0,.int .i64 0,.int .i64 0,.int .i64 0,.int .i64 0,.int .i64 0,.int .i64 0,.int .i64 0,.int .i64 0,.int .i64 0,.int .i64 0,.int .i64 0,.int .i64 0,.int .i64 0,.int .i64 0,.int .i64 0,.int .i64 0,.int .i64 0,.int .i64 0,.int .i64 0,.int .i64 0,.int .i64 0,.int .i64 0,.int .i64 0,.int .i64 0,.int .i64 0,.int .i64 0,.int .i64 0,.int .i64 0,.int .i64 0,.int .i64 0,.int .i64 0,.int .i64 0,.int .i64 0,.int .i64 0,.int .i64 0,.int .i64 0,.int .i64 0,.int .i64 0,.int .i64 0,.int .i64 0,.int .i64 0,.int .i64 0,.int .i64 0,.int .i64 0,.int .i64 0,.int .i64 0,.int .i64 0] t)).rowIs w.heap.size t 80 (fun _=> .int .i64 0):=
 World.rowIs_alloc w _ t _ (fun i hi=>by
  show(List.replicate 80 (Value.int .i64 0)).toArray[i]?=_
  have h:i<80:=hi
  rw[List.getElem?_toArray,List.getElem?_replicate,if_pos h])
end
section
open Go.RowKit
def zD4(ops:Array Oper):Prop:=∀(i:Nat) (o:Oper),ops[i]?=some o→∀c,o.op≠.defer c
def qO9:List Oper→Bool
 |[]=>true
 |o::t=>(match o.op with| .defer _=>false|_=>true)&&qO9 t
theorem zD5:∀(l:List Oper),qO9 l=true→∀o∈l,∀c,o.op≠.defer c
 |[],_,o,ho,_=>by cases ho
 |x::t,h,o,ho,c=>by
  rw[qO9,Q8] at h
  rcases List.mem_cons.1 ho with e|e
  ·subst e
   intro hc
   rw[hc] at h
   simp at h
  ·exact zD5 t h.2 o e c
theorem xD0{l:List Oper}(h:qO9 l=true):zD4 l.toArray:=fun i o ho=>zD5 l h o (by
 have:l[i]?=some o:=by simpa using ho
 exact List.mem_of_getElem? this)
section
variable {F:Fence}{n:Nat}{P:Program}{ops:Array Oper}{Q:Exit→Act→World→Prop}
theorem xS1(hro:F.round=none)(l:Nat){o:Oper}(hd:∀c,o.op≠.defer c){a:Act}{w:World}{K:Act→World→Prop}(h:o.wpIn F n P a w K Q):o.wpIn (F.inRound l) n P a w K Q:=by
 refine⟨h.1,?_⟩
 have h2:=h.2
 rw[Oper.semAt_eq _ _ _ hd] at h2 ⊢
 exact h2
theorem qM5(hro:F.round=none)(l:Nat)(hd:zD4 ops):∀(fuel:Nat) (listed:Array Bool) (a:Act) (w:World),wpAnyIn F n P .any ops Q fuel listed a w→wpAnyIn (F.inRound l) n P .any ops Q fuel listed a w
 |0,_,_,_,h=>h
 |fuel+1,listed,a,w,h=>⟨h.1,fun i hi=>by
  have h1:=h.2 i hi
  unfold wpOpIn at*
  cases ho:ops[i]? with
  |none=>
   simp only[ho] at h1
   exact qM5 hro l hd fuel _ _ _ h1
  |some o=>
   simp only[ho] at h1
   by_cases hw:Region.wanted o (yielded ops a.tmps)=true
   ·simp only[hw,if_true] at h1 ⊢
    exact xS1 hro l (hd i o ho) (Oper.wpIn_mono (fun a w=>qM5 hro l hd fuel _ a w) h1)
   ·simp only[hw] at h1 ⊢
    exact⟨h1.1,qM5 hro l hd fuel _ _ _ h1.2⟩⟩
theorem qY5(hro:F.round=none){l:Nat}{id:Nat}{a:Act}{w:World}(hm:P.follows .mixedOrders=true)(hd:zD4 ops)
  (h:wpAnyIn F n P .any ops Q ops.size (Array.replicate ops.size false) a {w with drawn:=w.drawn+1}):(Code.region id ops true).wpIn (F.inRound l) n P Q a w:=
 wpIn_region_any hm (qM5 hro l hd _ _ _ _ h)
theorem I5{l:Nat}{id:Nat}{a:Act}{w:World}{L:List Oper}(hm:P.follows .mixedOrders=true)(hB:Region.lexB .any L.toArray=true)(hd:qO9 L=true)
  (h:wpQuietIn Fence.wide n P L.toArray (fun w'=>∃n,w'=w.drewN n) (fun a'=>∀w',(∃n,w'=w.drewN n)→Q .normal a' w') L a):(Code.region id L.toArray true).wpIn (Fence.wide.inRound l) n P Q a w:=by
 simp only[Region.lexB,Q8] at hB
 refine qY5 rfl hm (xD0 hd) (wpAnyIn_of_quiet (C:=fun w'=>∃n,w'=w.drewN n) (Q:=fun a'=>∀w',(∃n,w'=w.drewN n)→Q .normal a' w') rfl (fun _ w' hw' h=>h w' hw') _ _ _ _ ⟨1,rfl⟩ ?_)
 have:=wpAnyQIn_lex (F:=Fence.wide) (n:=n) (C:=fun w'=>∃n,w'=w.drewN n) (md:= .any) hB.1 L 0 (Array.replicate L.toArray.size false) a (by simp) (by simpa using hB.2) h
 simpa using this
end
section
variable {n:Nat}{P:Program}{ops:Array Oper}{Q:Exit→Act→World→Prop}
theorem jY6{o:Oper}{a:Act}{w:World}{K:Act→World→Prop}(h:o.wp P a w K Q):o.wpIn Fence.wide n P a w K Q:=by
 refine⟨fun _ _=>trivial,?_⟩
 show o.uponIn Fence.wide n P a K Q ((o.semAt none a.eval).run P w)
 rw[Oper.semAt_none]
 unfold Oper.wp at h
 generalize(execOp a.eval o).run P w=r at h ⊢
 cases r with
 |ok x w'=>
  cases x with
  |value v=>exact h
  |skip=>exact h
  |defer d=>exact h
  |enter f args=>exact⟨fun h0=>(by cases h0),(callsIn_wide.2 h).mono (fun e w h=>by cases e<;>exact h)⟩
  |row r args=>exact⟨fun h0=>(by cases h0),fun c cs _=>let⟨v,w',r,s⟩:=h c cs;⟨v,w',r,stepsIn_wide.2 s⟩⟩
  |_=>exact h.elim
 |halt x w'=>
  cases x with
  |panic v=>exact h
  |_=>exact h.elim
theorem qU2(hQ:∀a w,¬Q .outgrown a w):∀(fuel:Nat) (listed:Array Bool) (a:Act) (w:World),wpAny P .any ops Q fuel listed a w→wpAnyIn Fence.wide n P .any ops Q fuel listed a w
 |0,_,_,_,h=>h
 |fuel+1,listed,a,w,h=>⟨h.1,fun i hi=>by
  have h1:=h.2 i hi
  unfold wpOp at h1
  unfold wpOpIn
  cases ho:ops[i]? with
  |none=>
   simp only[ho] at h1
   exact qU2 hQ fuel _ _ _ h1
  |some o=>
   simp only[ho] at h1
   by_cases hw:Region.wanted o (yielded ops a.tmps)=true
   ·simp only[hw,if_true] at h1 ⊢
    rcases h1 with h1|⟨_,a0,w0,h2⟩
    ·exact Oper.wpIn_mono (fun a w=>qU2 hQ fuel _ a w) (jY6 h1)
    ·exact absurd h2 (hQ _ _)
   ·simp only[hw] at h1 ⊢
    exact⟨fun _ _=>trivial,qU2 hQ fuel _ _ _ h1⟩⟩
theorem qK5{l:Nat}{id:Nat}{a:Act}{w:World}{L:List Oper}(hm:P.follows .mixedOrders=true)(hd:qO9 L=true)(hQ:∀a w,¬Q .outgrown a w)
  (h:wpAny P .any L.toArray Q L.toArray.size (Array.replicate L.toArray.size false) a {w with drawn:=w.drawn+1}):(Code.region id L.toArray true).wpIn (Fence.wide.inRound l) n P Q a w:=
 qY5 rfl hm (xD0 hd) (qU2 hQ _ _ _ _ h)
end
end
section
open Go.RowKit Go.Shelf
theorem zV0{α:Type}{P:Program}{g:Operand}{ps:Array Tmp}{assign body:Code}{Q:Exit→Act→World→Prop}{a:Act}{w:World}{gf:Nat}{lb:Array Value}{encs:α→Array Value}{R:Nat→Prop}{Nx:List α→α→Prop}{S Sp:List α→Prop}
  (hg:a.eval g= .func (.func gf) #[] lb) (eg:∀args w,(callFunc gf args).run P w= .ok (.enter gf args) w) (hseq:qI6 P gf lb encs R (fun _ _ _=>True) Nx S Sp w) (hR:∀b,R b→b<w.heap.size)
  (w0:World) (hw:Below w0.heap.size w0 w) (hps:∀x,(encs x).size=ps.size)
  (X0:Nat→Prop) (hX0:∀b,X0 b→w0.heap.size≤b∧¬R b∧b<w.heap.size)
  (T:(Nat→Prop)→List α→World→Prop) (hT:∀X xs W W',T X xs W→(∀b,X b→W'.heap[b]?=W.heap[b]?)→T X xs W')
  (h0:T X0 [] w) (a1:α→Nat→Act) (obj:α→Obj)
  (hassign:∀(l:Nat) (x:α) (W:World) (K:Act→World→Prop),K (a1 x W.heap.size) (W.alloc (obj x))→assign.wpIn (Fence.wide.inRound l) 4 P (Exit.then K (fun _ _ _=>False)) {tmps:=(ps.zip (encs x)).foldl (fun t (p,v)=>t.setIfInBounds p v) a.tmps,defers:=[]} W)
  (hbody:∀(l:Nat) (pre:List α) (x:α) (O X:Nat→Prop) (W:World) (q:Nat),w.heap.size≤W.heap.size→W.heap[q]?=some (obj x)→A3 w.heap.size R X O W→T X pre W→Below w0.heap.size w0 W→(∀b,R b→W.heap[b]?=w.heap[b]?)→Nx pre x→body.wpIn (Fence.wide.inRound l) 4 P (xT5 w.heap.size X T (pre++[x]) W) (a1 x q) W)
  (hdone:∀(D:Nat) (xs:List α) (X:Nat→Prop) (W:World),w.heap.size≤D→D<W.heap.size→¬X D→S xs→T X xs W→Below w0.heap.size w0 W→(∀b,R b→W.heap[b]?=w.heap[b]?)→W.heap[D]?=some (.deferred (some []))→Q .normal {a with defers:={target:= .collected D,args:= #[]}::a.defers} W):
  (Code.rangeFunc g ps assign body).wp P Q a w:=by
 refine(wpIn_wide (n:=6)).1 ?_
 have hN:w0.heap.size≤w.heap.size:=hw.size
 let I:List α→(Nat→Prop)→World→Prop:=fun xs O W=>zV9 R w0 w.heap.size T xs O W∧((∀b,R b→W.heap[b]?=w.heap[b]?)∧w.heap.size≤W.heap.size)
 let Ix:Code→List α→(Nat→Prop)→World→Prop:=fun c xs O W=>False
 have hRa:∀O W O' W',(∀b,O b→w.heap.size≤b)→((∀b,R b→W.heap[b]?=w.heap[b]?)∧w.heap.size≤W.heap.size)→U2 O W O' W'→(∀b,R b→W'.heap[b]?=w.heap[b]?)∧w.heap.size≤W'.heap.size:=fun O W O' W' hO h tn=>
  ⟨fun b hb=>(tn.block b (by have:=hR b hb;omega) (fun h1=>by have:=hO b h1;have:=hR b hb;omega)).trans (h.1 b hb),Q5 h.2 tn.size⟩
 refine qL9 (P:=P) (g:=g) hg eg hseq hR (Q2 _ _) hps
  (fun _ _ _ _ _ _ _=>trivial) I Ix ?hI (fun c=>fun _ _ _ _ _ h _=>h) ?hIb (fun c=>fun _ _ _ _ _ _ h _ _ _=>h) ?h0 (fun x a' O W=>∃q,a'=a1 x q∧W.heap[q]?=some (obj x)∧w.heap.size+2≤q) ?hAx ?hassign ?hbody ?hdone ?hstop
 case hI=>
  rintro xs O W O' W' ⟨h1,h2⟩ tn
  obtain⟨X,hm,ht,hb,hO,hX,hz⟩:=id h1
  exact⟨zV9.abide hN hT _ _ _ _ _ h1 tn,hRa _ _ _ _ hO h2 tn⟩
 case hIb=>
  rintro xs O W l o o' ⟨h1,h2⟩ hl ho hc
  exact⟨zV9.booked hN hT _ _ _ _ _ _ h1 hl ho hc,⟨fun b hb=>(World.putObj_heap_other (by have:=hR b hb;omega)).trans (h2.1 b hb),by simpa using h2.2⟩⟩
 case hAx=>
  rintro x a' O W l o' ⟨q,h1,h2,h3⟩ rfl
  exact⟨q,h1,(World.putObj_heap_other (by omega)).trans h2,h3⟩
 case h0=>
  intro W hb
  have hk:∀b,X0 b→W.heap[b]?=w.heap[b]? :=fun b hx=>hb.block b (hX0 b hx).2.2
  exact⟨⟨X0,⟨fun b _ h=>h,fun b hx=>(hX0 b hx).2.1,fun b hx=>by
   have hl:=(hX0 b hx).2.2
   exact⟨w.heap[b],(hk b hx).trans (Array.getElem?_eq_getElem hl),.inr hl⟩⟩,hT _ _ _ _ h0 hk,hw.trans (hb.mono hw.size),fun b h=>h.elim,fun b hx=>(hX0 b hx).1,hb.size⟩,⟨fun b h=>hb.block b (hR b h),hb.size⟩⟩
 case hassign=>
  rintro l pre x O W K hz hO hI hsh hK
  refine hassign l x W K (hK _ _ ?_ ?_ ?_ ⟨_,rfl,Q3 W _,hz⟩ hsh)
  ·exact⟨by simp,fun k o _ hk _=>(Q9 W (obj x) k (J5 hk)).trans hk⟩
  ·refine R3.alloc (R3.refl _ _) (fun b hb=> ?_) _
   rcases hb with hb|hb
   ·exact(hO b hb).2
   ·have:=hR b hb;omega
  ·obtain⟨⟨X,hm,ht,hb,hOn,hX,hzz⟩,hrr,hww⟩:=hI
   have hk:∀b,b<W.heap.size→(W.alloc (obj x)).heap[b]?=W.heap[b]? :=fun b hb=>Q9 W (obj x) b hb
   refine⟨⟨X,⟨hm.off,hm.rest,fun b hb=> ?_⟩,hT _ _ _ _ ht (fun b hb=>hk b (hm.lt hb)),hb.trans (((Q2 _ W).alloc (Q1 _) _).mono hb.size),hOn,hX,by simp;omega⟩,fun b hb=>(hk b (by have:=hR b hb;omega)).trans (hrr b hb),by simp;omega⟩
   obtain⟨o,h1,h2⟩:=hm.cells b hb
   exact⟨o,(hk b (hm.lt hb)).trans h1,h2⟩
 case hbody=>
  rintro l pre x a' O W hl hz hO ⟨⟨X,hm,ht,hb,hOn,hX,hzz⟩,⟨hrr,hww⟩⟩ ⟨q,rfl,hq,_⟩ hsh hnx
  have hOl:∀b,O b→b<W.heap.size:=fun b h=>(hO b h).2
  have hRl:∀b,R b→b<W.heap.size:=fun b h=>by have:=hR b h;omega
  have hX':∀W' X',M6 w.heap.size X W W' X'→∀b,X' b→w0.heap.size≤b:=fun W' X' st b hx=>(st.new b hx).elim (hX b) (fun h=>by have:=hb.size;omega)
  refine wpIn_mono (hbody l pre x O X W q hww hq hm ht hb hrr hnx) ?_
  intro e a' W' hp
  cases e with
  |normal=>
   obtain⟨X',st,h1⟩:=hp
   have mn:=st.mine hm hOl hRl
   exact⟨st.keepsFrom hm,st.kept hm hOl hRl,⟨X',mn,h1,st.bel hX hb,hOn,hX' _ _ st,Q5 hzz st.size⟩,⟨fun b h=>(st.block b (hRl b h) (fun hx=>hm.rest b hx h)).trans (hrr b h),Q5 hww st.size⟩⟩
  |_=>exact hp.elim
 case hdone=>
  rintro D xs O W hD hDO hS ⟨⟨X,hm,ht,hb,hOn,hX,hzz⟩,⟨hrr,hww⟩⟩ hDD
  have hlt:D<W.heap.size:=(J5 hDD)
  refine hdone D xs X W hD hlt (fun hx=> ?_) hS ht hb hrr hDD
  obtain⟨u,h1,h2⟩:=hm.cells D hx
  rw[hDD] at h1
  injection h1 with h1
  rcases h2 with h2|h2
  ·rw[←h1] at h2
   cases h2
  ·omega
 case hstop=>
  rintro D c pre O W hD hDO hxs h hDD
  exact h.elim
end
end Go.Proofs.YtmncaipgefbalaaGreatDoor
