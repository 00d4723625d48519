/- Part of the proof of the claim. -/
import Derived.Test.YtmncaipgefbalaaGreatDoorQbk
import Derived.Test.YtmncaipgefbalaaGreatDoorQan
set_option maxRecDepth 100000
set_option maxHeartbeats 8000000
set_option linter.unusedVariables false
set_option linter.unusedSimpArgs false
namespace Go.Proofs.YtmncaipgefbalaaGreatDoor
section
open Go.RowKit Go.Shelf
attribute [local go_sem] Oper.semAt_some
theorem zE6{F:Fence}{n:Nat}{P:Program}(w:World){ops:Array Oper}{rest:List Oper}{o:Oper}{a:Act}{Q:Exit→Act→World→Prop}
  (hg:o.guard=none) (s x:Operand) (t:TypeId) (hop:o.op=Op.call {callee:=Callee.builtin Builtin.append,args:= #[s,x],argTypes:= #[t,t]})
  (base:Nat) (e:TypeId) (i:TypeInfo) (z:Value) (size bytes:Nat) (h1:P.underlying t=some (.slice e)) (h2:P.info? e=some i) (h3:i.zero=some z) (h4:i.size=size) (h5:i.bytes=bytes) (h6:z.cells.size=size) (h7:0<size)
  (v:Value) (k:Nat) (xs:List Value) (hs:a.eval s=v) (hown:w.ownsRow base e size v k xs) (ad:Addr) (m c:Nat) (news:List Value) (hx:a.eval x= .slice (some ad) m c) (hn:news.length=m*size)
  (hc:∀j u,news[j]?=some u→w.cell? (ad.add j)=some u) (h1c:∀u∈news,u.oneCell'=true) (hm:0<m) (b1:k+m≤maxLen) (b2:(k+m)*bytes≤140737488355328) (b3:base≤w.heap.size) (H:Nat) (hH:w.heap.size=H)
  (hK:∀g cap w',w'.ownsRow base e size (.slice (some ⟨g,0,none⟩) (k+m) cap) (k+m) (xs++news)→w.grownBy w' v.ownBlock→(v.ownBlock=some g∨g=H)→g<w'.heap.size→wpListIn F n P ops Q rest (a.put o.dst (.slice (some ⟨g,0,none⟩) (k+m) cap)) w'):
  wpListIn F n P ops Q (o::rest) a w:=by
 refine wpListIn_plain hg fun K hK'=> ?_
 obtain⟨g,cap,w',hrun,r1,r2,r3,r4⟩:=run_append_lies (P:=P) w t o.type base e i z size bytes h1 h2 h3 h4 h5 h6 h7 v k xs hown ad m c news hn hc h1c hm b1 b2 b3 H hH
 unfold Oper.wpIn
 refine⟨?_,?_⟩
 ·simp[Oper.about,hop,resolve,Target.leads,Sem.run_pure]
 ·rw[Oper.semAt_plain F _ _ (by rw[hop];intro c hc';cases hc')]
  simp[execOp,hop,resolve,invoke,builtin,hs,hx,hrun,Result.andThen]
  exact hK' _ _ (hK g cap w' r1 r2 r3 r4)
def PT.cells(p:PT):List Value:=[.int .i64 p.cell,.int .i64 p.lo,.int .i64 p.hi]
def ptC:List PT→List Value
 |[]=>[]
 |x::t=>x.cells++ptC t
theorem zD7:∀(a b:List PT),ptC (a++b)=ptC a++ptC b
 |[],b=>rfl
 |h::t,b=>by rw[List.cons_append,ptC,ptC,zD7 t b,List.append_assoc]
theorem kG3(x:PT):ptC [x]=x.cells:=by simp[ptC]
theorem xO6:∀(l:List PT) (i s:Nat) (z:PT),i<l.length→s<3→(ptC l)[i*3+s]?=(l.getD i z).cells[s]?
 |[],i,s,z,h,_=>by simp at h
 |h::t,0,s,z,_,hr=>by
  rw[ptC,List.getElem?_append_left (by simp[PT.cells];omega)]
  simp
 |h::t,i+1,s,z,hi,hr=>by
  have e:(i+1)*3+s-3=i*3+s:=by omega
  rw[ptC,List.getElem?_append_right (by simp[PT.cells];omega)]
  have:h.cells.length=3:=rfl
  rw[this,e,xO6 t i s z (by simpa using hi) hr]
  simp
theorem jK8:(Tryz.prog.info? 193).map (fun i=>(i.zero,i.size,i.bytes))=some (some (.agg #[.int .i64 0,.int .i64 0,.int .i64 0]),3,24):=by kernel_rfl
theorem kM6{a b c:Int}:∀u∈[Value.int .i64 a,.int .i64 b,.int .i64 c],u.oneCell'=true:=by
 intro u hu
 simp at hu
 rcases hu with rfl|rfl|rfl<;>rfl
def kR9(v:VO)(r:RY):Nat→Int
 |0=> -1
 |k+1=>B9 v r k
theorem kY7(v:VO)(r:RY)(g:Nat→Int)(p q:Int):(zC5 v r g p q).length≤1:=by
 unfold zC5
 split
 ·simp
 ·split<;>simp
theorem zI7(v:VO)(r:RY)(g:Nat→Int):∀k,(prN v r g k).length≤k
 |0=>by simp[prN]
 |1=>by simp[prN]
 |k+2=>by
  have h1:=zI7 v r g (k+1)
  have h2:=kY7 v r g (B9 v r k) (B9 v r (k+1))
  rw[prN,Z6]
  omega
structure PaT(v:VO)(r:RY)(g:Nat→Int)(wb kb ob lb:Nat)(cb cc:Nat)(X:Nat→Prop)(xs:List Nat)(W:World):Prop where
 xw:X wb
 xk:X kb
 xo:X ob
 xl:X lb
 wk:A6 v r wb W
 kx:W.heap[kb]?=some (.cells #[.slice (some ⟨cb,0,none⟩) 1 cc] 241)
 last:W.heap[lb]?=some (.cells #[.int .i64 (kR9 v r xs.length)] 3)
 row:∃vv,W.heap[ob]?=some (.cells #[vv] 187)∧W.ownsRow (lb+1) 193 3 vv (prN v r g xs.length).length (ptC (prN v r g xs.length))∧∀b,vv.ownBlock=some b→X b
theorem PaT.keep{v:VO}{r:RY}{g:Nat→Int}{wb kb ob lb cb cc:Nat}{X:Nat→Prop}{xs:List Nat}{W W':World}(h:PaT v r g wb kb ob lb cb cc X xs W)(hk:∀b,X b→W'.heap[b]?=W.heap[b]?):PaT v r g wb kb ob lb cb cc X xs W':=by
 obtain⟨vv,h1,h2,h3⟩:=h.row
 exact⟨h.xw,h.xk,h.xo,h.xl,(hk _ h.xw).trans h.wk,(hk _ h.xk).trans h.kx,(hk _ h.xl).trans h.last,vv,(hk _ h.xo).trans h1,L5 h2 (fun b hb=>hk b (h3 b hb)),h3⟩
section
variable {v:VO}{r:RY}{g:Nat→Int}{q0 cb cc y:Nat}{R X O:Nat→Prop}{pre:List Nat}{W W2:World}
theorem kY9(hT:PaT v r g q0 (q0+1) (q0+1+1) (q0+1+1+1) cb cc X pre W)(hm:zJ3 R X O W)(hl:pre.length=y+1)(hone:prN v r g (y+2)=prN v r g (y+1))(hb:Below W.heap.size W W2):
  ∃X',L8 X W (W2.setCell ⟨q0+1+1+1,0,none⟩ (.int .i64 (B9 v r (y+1)))) X'∧PaT v r g q0 (q0+1) (q0+1+1) (q0+1+1+1) cb cc X' (pre++[y+1]) (W2.setCell ⟨q0+1+1+1,0,none⟩ (.int .i64 (B9 v r (y+1)))):=by
 have hn:(pre++[y+1]).length=y+2:=by rw[Z6,hl];rfl
 refine⟨X,(L8.below hm hb).setCell hT.xl _,?_⟩
 obtain⟨vv,r1,r2,r3⟩:=hT.row
 rw[hl] at r2
 have hk:∀b,X b→W2.heap[b]?=W.heap[b]? :=fun b hx=>hb.block b (hm.lt hx)
 have hot:∀k,k≠q0+1+1+1→(W2.setCell ⟨q0+1+1+1,0,none⟩ (.int .i64 (B9 v r (y+1)))).heap[k]?=W2.heap[k]? :=fun k hk=>Q6 W2 ⟨q0+1+1+1,0,none⟩ k _ hk
 refine⟨hT.xw,hT.xk,hT.xo,hT.xl,(hot _ (by omega)).trans ((hk _ hT.xw).trans hT.wk),(hot _ (by omega)).trans ((hk _ hT.xk).trans hT.kx),?_,vv,(hot _ (by omega)).trans ((hk _ hT.xo).trans r1),?_,r3⟩
 ·rw[hn]
  exact Q4 W2 (q0+1+1+1) 0 _ _ _ ((hk _ hT.xl).trans hT.last)
 ·rw[hn,hone]
  exact L5 r2 (fun b hb=>(hot b (by have:=L7 r2 hb;omega)).trans (hk b (r3 b hb)))
theorem kM5{vv:Value}{p:PT}{W5:World}{g1 cp:Nat}{o:Obj}(hT:PaT v r g q0 (q0+1) (q0+1+1) (q0+1+1+1) cb cc X pre W)(hm:zJ3 R X O W)(hl:pre.length=y+1)(hone:prN v r g (y+2)=prN v r g (y+1)++[p])(hb:Below W.heap.size W W2)
  (r1:W.heap[q0+1+1]?=some (.cells #[vv] 187)) (r2:W.ownsRow (q0+1+1+1+1) 193 3 vv (prN v r g (y+1)).length (ptC (prN v r g (y+1)))) (r3:∀b,vv.ownBlock=some b→X b)
  (ho:W5.ownsRow (q0+1+1+1+1) 193 3 (.slice (some ⟨g1,0,none⟩) ((prN v r g (y+1)).length+1) cp) ((prN v r g (y+1)).length+1) (ptC (prN v r g (y+1))++p.cells)) (hg:(W2.alloc o).grownBy W5 vv.ownBlock) (hat:vv.ownBlock=some g1∨g1=(W2.alloc o).heap.size) (hlt:g1<W5.heap.size):
  ∃X',L8 X W ((W5.setCell ⟨q0+1+1,0,none⟩ (.slice (some ⟨g1,0,none⟩) ((prN v r g (y+1)).length+1) cp)).setCell ⟨q0+1+1+1,0,none⟩ (.int .i64 (B9 v r (y+1)))) X'∧PaT v r g q0 (q0+1) (q0+1+1) (q0+1+1+1) cb cc X' (pre++[y+1]) ((W5.setCell ⟨q0+1+1,0,none⟩ (.slice (some ⟨g1,0,none⟩) ((prN v r g (y+1)).length+1) cp)).setCell ⟨q0+1+1+1,0,none⟩ (.int .i64 (B9 v r (y+1)))):=by
 have hn:(pre++[y+1]).length=y+2:=by rw[Z6,hl];rfl
 have hz2:=hb.size
 have hz3:(W2.alloc o).heap.size=W2.heap.size+1:=by simp
 have hz5:=hg.size
 have hmn:∀b,vv.ownBlock=some b→q0+1+1+1<b:=fun b hb=>by have:=L7 r2 hb;omega
 have hk5:∀b,b<W.heap.size→vv.ownBlock≠some b→W5.heap[b]?=W.heap[b]? :=fun b h1 h2=>(hg.block b (by omega) (Ne.symm h2)).trans ((Q9 W2 o b (by omega)).trans (hb.block b h1))
 have hne:∀b,b≤q0+1+1+1→vv.ownBlock≠some b:=fun b h1 h2=>by have:=hmn b h2;omega
 have hgq:q0+1+1+1<g1:=by
  rcases hat with h|h
  ·exact hmn _ h
  ·have:=hm.lt hT.xl;omega
 generalize hW6:(W5.setCell ⟨q0+1+1,0,none⟩ (.slice (some ⟨g1,0,none⟩) ((prN v r g (y+1)).length+1) cp)).setCell ⟨q0+1+1+1,0,none⟩ (.int .i64 (B9 v r (y+1)))=W6
 have hot:∀k,k≠q0+1+1→k≠q0+1+1+1→W6.heap[k]?=W5.heap[k]? :=fun k h1 h2=>by
  rw[←hW6]
  exact(Q6 _ ⟨q0+1+1+1,0,none⟩ k _ h2).trans (Q6 W5 ⟨q0+1+1,0,none⟩ k _ h1)
 have hsz:W6.heap.size=W5.heap.size:=by rw[←hW6];simp
 have k1:W6.heap[q0+1+1]?=some (.cells #[.slice (some ⟨g1,0,none⟩) ((prN v r g (y+1)).length+1) cp] 187):=by
  rw[←hW6]
  refine(Q6 _ ⟨q0+1+1+1,0,none⟩ (q0+1+1) _ (by show q0+1+1≠q0+1+1+1;omega)).trans ?_
  exact Q4 W5 (q0+1+1) 0 _ _ _ ((hk5 _ (hm.lt hT.xo) (hne _ (by omega))).trans r1)
 have k2:W6.heap[q0+1+1+1]?=some (.cells #[.int .i64 (B9 v r (y+1))] 3):=by
  rw[←hW6]
  refine Q4 _ (q0+1+1+1) 0 _ _ _ ((Q6 W5 ⟨q0+1+1,0,none⟩ (q0+1+1+1) _ (by show q0+1+1+1≠q0+1+1;omega)).trans ((hk5 _ (hm.lt hT.xl) (hne _ (by omega))).trans hT.last))
 have hrow:W6.ownsRow (q0+1+1+1+1) 193 3 (.slice (some ⟨g1,0,none⟩) ((prN v r g (y+1)).length+1) cp) ((prN v r g (y+1)).length+1) (ptC (prN v r g (y+1))++p.cells):=L5 ho (fun b hb=>by
  have:g1=b:=by simpa [Value.ownBlock] using hb
  exact hot b (by omega) (by omega))
 have hgc:∃u,W6.heap[g1]?=some u∧u.isCells=true:=by
  rcases hrow.2 with⟨h1,_⟩|⟨g2,cap2,cur,h1,_,h3,_⟩
  ·cases h1
  ·injection h1 with h1
   injection h1 with h1
   injection h1 with h1
   subst h1
   exact⟨_,h3,rfl⟩
 have hos:W6.os=W5.os∧W6.tape=W5.tape∧W6.output=W5.output:=by rw[←hW6];exact⟨rfl,rfl,rfl⟩
 refine⟨fun b=>(X b∧vv.ownBlock≠some b)∨b=g1,⟨hos.1.trans (hg.os.trans hb.os),hos.2.1.trans (hg.tape.trans hb.tape),hos.2.2.trans (hg.output.trans hb.output),by omega,fun b h1 h2=> ?_,fun b h1=> ?_,fun b h1=> ?_⟩,?_⟩
 ·refine(hot b (fun e=>h2 (by rw[e];exact hT.xo)) (fun e=>h2 (by rw[e];exact hT.xl))).trans (hk5 b h1 (fun e=>h2 (r3 b e)))
 ·rcases h1 with h1|h1
  ·exact .inl h1.1
  ·rcases hat with h|h
   ·exact .inl (by rw[h1];exact r3 _ h)
   ·exact .inr (by omega)
 ·rcases h1 with⟨h1,h2⟩|h1
  ·by_cases e1:b=q0+1+1
   ·exact⟨_,by rw[e1];exact k1,rfl⟩
   ·by_cases e2:b=q0+1+1+1
    ·exact⟨_,by rw[e2];exact k2,rfl⟩
    ·obtain⟨u,h3,h4⟩:=hm.cells b h1
     exact⟨u,(hot b e1 e2).trans ((hk5 b (hm.lt h1) h2).trans h3),h4⟩
  ·rw[h1];exact hgc
 ·refine⟨.inl ⟨hT.xw,hne _ (by omega)⟩,.inl ⟨hT.xk,hne _ (by omega)⟩,.inl ⟨hT.xo,hne _ (by omega)⟩,.inl ⟨hT.xl,hne _ (by omega)⟩,(hot _ (by omega) (by omega)).trans ((hk5 _ (hm.lt hT.xw) (hne _ (by omega))).trans hT.wk),(hot _ (by omega) (by omega)).trans ((hk5 _ (hm.lt hT.xk) (hne _ (by omega))).trans hT.kx),by rw[hn];exact k2,_,k1,?_,fun b hb=> .inr ?_⟩
  ·rw[hn,hone,zD7,kG3,Z6,List.length_singleton]
   exact hrow
  ·have:g1=b:=by simpa [Value.ownBlock] using hb
   exact this.symm
end
theorem kB4(W:World)(o1 o2 o3 o4:Obj):Below W.heap.size W ((((W.alloc o1).alloc o2).alloc o3).alloc o4)∧((((W.alloc o1).alloc o2).alloc o3).alloc o4).heap.size=W.heap.size+1+1+1+1∧((((W.alloc o1).alloc o2).alloc o3).alloc o4).heap[W.heap.size]?=some o1∧((((W.alloc o1).alloc o2).alloc o3).alloc o4).heap[W.heap.size+1]?=some o2∧((((W.alloc o1).alloc o2).alloc o3).alloc o4).heap[W.heap.size+1+1]?=some o3∧((((W.alloc o1).alloc o2).alloc o3).alloc o4).heap[W.heap.size+1+1+1]?=some o4:=xV4 W o1 o2 o3 o4
theorem xE3(v:VO)(r:RY)(hv:v.Ok)(hr:r.Ok)(g:Nat→Int)(gn gb qb cb cc:Nat)(w:World)(hq:A6 v r qb w)(hg:jZ3 v g gn gb w)(hc:w.cell? ⟨cb,0,none⟩=some (.func (.func 136) #[] #[.pointer (some ⟨gb,0,none⟩),.pointer (some ⟨qb,0,none⟩)]))(hcb:cb<w.heap.size):
  Calls Tryz.prog 93 #[U0 v r,.slice (some ⟨cb,0,none⟩) 1 cc] w fun e w'=>∃m pa pc,IsM v r m∧e= .returned (.slice pa (prN v r g (m+1)).length pc)∧w'.ownsRow w.heap.size 193 3 (.slice pa (prN v r g (m+1)).length pc) (prN v r g (m+1)).length (ptC (prN v r g (m+1)))∧Below w.heap.size w w':=by
 have HCR:=Hd (fun(W:World)=>zL7 v r W)
 unfold U0 at HCR
 unfold U0
 refine(callsIn_wide (n:=6)).1 ?_;refine callsIn_of_wp_marks Tryz.func93 rfl trivial ?_ rfl;simp only[Tryz.ntmps93,List.size_toArray,List.length_cons,List.length_nil,Nat.reduceAdd,Nat.reduceSub,Array.replicate_succ,Array.replicate_zero,List.push_toArray,List.append_toArray,List.nil_append,List.cons_append];refine wpIn_wide.2 ?_
 go_upto_region 3 with(fail)
 obtain⟨hVb,hVz,e1,e2,e3,e4⟩:=kB4 w (.cells #[.int .i64 v.nx,.int .i64 v.ny,.int .i64 v.nz,.int .i64 v.size,.int .i64 r.x,.int .i64 r.dx,.int .i64 v.nx,.int .i64 r.y,.int .i64 r.dy,.int .i64 v.ny,.int .i64 r.z,.int .i64 r.dz,.int .i64 v.nz,.int .i64 (D9 r:Int)] 135) (.cells #[.slice (some ⟨cb,0,none⟩) 1 cc] 241) (.cells #[.slice none 0 0] 187) (.cells #[.int .i64 (-1)] 3)
 have HQ:=Hd (show A6 v r w.heap.size ((((w.alloc (.cells #[.int .i64 v.nx,.int .i64 v.ny,.int .i64 v.nz,.int .i64 v.size,.int .i64 r.x,.int .i64 r.dx,.int .i64 v.nx,.int .i64 r.y,.int .i64 r.dy,.int .i64 v.ny,.int .i64 r.z,.int .i64 r.dz,.int .i64 v.nz,.int .i64 (D9 r:Int)] 135)).alloc (.cells #[.slice (some ⟨cb,0,none⟩) 1 cc] 241)).alloc (.cells #[.slice none 0 0] 187)).alloc (.cells #[.int .i64 (-1)] 3)) from e1)
 have HB:=Hd hVb
 have HE2:=Hd e2
 have HE3:=Hd e3
 have HE4:=Hd e4
 have HVZ:=Hd hVz
 clear hVb hVz e1 e2 e3 e4
 generalize World.alloc (World.alloc (World.alloc (World.alloc w _) _) _) _=V at*
 obtain⟨c0,c1,c2,c3,c4,c5,c6,c7,c8,c9,c10,c11,c12,c13⟩:=xM1 HQ.out
 go_wp2_with(go_at_call 134;refine(HCR.out _).mono ?_;rintro e w2 ⟨rfl,hwk2,hb2⟩)
 clear c0 c1 c2 c3 c4 c5 c6 c7 c8 c9 c10 c11 c12 c13
 have hb3:=HB.out.trans (hb2.mono HB.out.size)
 have hz2:=hb2.size
 have k1:=(hb2.block (w.heap.size) (by have:=HVZ.out;omega)).trans HQ.out
 have k2:=(hb2.block (w.heap.size+1) (by have:=HVZ.out;omega)).trans HE2.out
 have k3:=(hb2.block (w.heap.size+1+1) (by have:=HVZ.out;omega)).trans HE3.out
 have k4:=(hb2.block (w.heap.size+1+1+1) (by have:=HVZ.out;omega)).trans HE4.out
 have hVq:=hwk2.lt
 refine kQ6 v r hv hr V.heap.size hwk2 w hb3 rfl rfl (fun b=>b=w.heap.size∨b=w.heap.size+1∨b=w.heap.size+1+1∨b=w.heap.size+1+1+1) ?hX0 (PaT v r g w.heap.size (w.heap.size+1) (w.heap.size+1+1) (w.heap.size+1+1+1) cb cc) (fun X xs W W' h hk=>h.keep hk) ?h0 (fun x=>⟨#[Value.agg #[.int .i64 v.nx,.int .i64 v.ny,.int .i64 v.nz,.int .i64 v.size,.int .i64 r.x,.int .i64 r.dx,.int .i64 v.nx,.int .i64 r.y,.int .i64 r.dy,.int .i64 v.ny,.int .i64 r.z,.int .i64 r.dz,.int .i64 v.nz,.int .i64 (D9 r:Int)],.slice (some ⟨cb,0,none⟩) 1 cc,.pointer (some ⟨w.heap.size,0,none⟩),.pointer (some ⟨w.heap.size+1,0,none⟩),.slice none 0 0,.pointer (some ⟨w.heap.size+1+1,0,none⟩),.pointer (some ⟨w.heap.size+1+1+1,0,none⟩),.int .i64 (B9 v r x),undef,undef,undef,undef,Value.agg #[.int .i64 v.nx,.int .i64 v.ny,.int .i64 v.nz,.int .i64 v.size,.int .i64 r.x,.int .i64 r.dx,.int .i64 v.nx,.int .i64 r.y,.int .i64 r.dy,.int .i64 v.ny,.int .i64 r.z,.int .i64 r.dz,.int .i64 v.nz,.int .i64 (D9 r:Int)],.func (.func 167) #[] #[.pointer (some ⟨V.heap.size,0,none⟩)],.int .i64 (B9 v r x),undef,undef,undef,undef,undef,undef,undef,undef,undef,undef,undef,undef,undef,undef,undef,undef,undef,undef,undef,undef,undef,undef,undef,undef,undef,undef,undef,undef,undef,undef,undef,undef,undef],[]⟩) ?hassign ?hbody ?hdone
 case hX0=>
  rintro b (rfl|rfl|rfl|rfl)
  ·exact⟨by omega,by have:=HVZ.out;omega,_,k1,rfl⟩
  ·exact⟨by omega,by have:=HVZ.out;omega,_,k2,rfl⟩
  ·exact⟨by omega,by have:=HVZ.out;omega,_,k3,rfl⟩
  ·exact⟨by omega,by have:=HVZ.out;omega,_,k4,rfl⟩
 case h0=>exact⟨.inl rfl,.inr (.inl rfl),.inr (.inr (.inl rfl)),.inr (.inr (.inr rfl)),k1,k2,k4,_,k3,World.ownsRow_nil _ _ _ _,fun b hb=>by cases hb⟩
 case hassign=>
  intro l x W K hK
  unfold enX
  gi_wp2
  exact hK
 case hbody=>
  clear hb3 hz2 k1 k2 k3 k4 hVq hwk2 hb2 HE2 HE3 HE4 HVZ HQ HB HCR
  rintro l pre x O X W hsz hm ht hbel hwk hpre hge
  have hpl:pre.length=x:=by rw[hpre];simp
  have HM:=Hd hm
  have HT:=Hd ht
  have HBE:=Hd hbel
  have HPL:=Hd hpl
  have HG:=Hd (hg.step (show Below w.heap.size w W from hbel))
  have HQB:=Hd (hq.step (show Below w.heap.size w W from hbel))
  have hcW:=((J9 hbel).1 cb 0 hcb).trans hc
  have hcl:cb<W.heap.size:=by have:=hbel.size;omega
  have hxl:=ht.xl
  have hxo:=ht.xo
  have lz:=hm.lt ht.xl
  have oz:=hm.lt ht.xo
  have wz:=hm.lt ht.xw
  have l0:=Q0 _ _ 0 _ _ _ ht.last
  have lf:=Z3 _ _ 0 _ _ ht.last
  rw[hpl] at l0
  have HGE:=Hd hge
  cases x with
  |zero=>
   have l1:W.cell? ⟨w.heap.size+1+1+1,0,none⟩=some (.int .i64 (-1)):=l0
   clear l0 hm ht hbel hwk hpre hge hpl hcW hcl
   have HF:=Hd (show ∃X',L8 X W (W.setCell ⟨w.heap.size+1+1+1,0,none⟩ (.int .i64 (B9 v r 0))) X'∧PaT v r g w.heap.size (w.heap.size+1) (w.heap.size+1+1) (w.heap.size+1+1+1) cb cc X' (pre++[0]) (W.setCell ⟨w.heap.size+1+1+1,0,none⟩ (.int .i64 (B9 v r 0))) from by
    have hn:(pre++[0]).length=1:=by rw[Z6,HPL.out];rfl
    refine⟨X,(L8.refl HM.out).setCell hxl _,?_⟩
    obtain⟨vv,r1,r2,r3⟩:=HT.out.row
    rw[HPL.out] at r2
    have hot:∀k,k≠w.heap.size+1+1+1→(W.setCell ⟨w.heap.size+1+1+1,0,none⟩ (.int .i64 (B9 v r 0))).heap[k]?=W.heap[k]? :=fun k hk=>Q6 W ⟨w.heap.size+1+1+1,0,none⟩ k _ hk
    refine⟨HT.out.xw,HT.out.xk,HT.out.xo,HT.out.xl,(hot _ (by omega)).trans HT.out.wk,(hot _ (by omega)).trans HT.out.kx,?_,vv,(hot _ (by omega)).trans r1,?_,r3⟩
    ·rw[hn]
     exact Q4 W (w.heap.size+1+1+1) 0 _ _ _ HT.out.last
    ·rw[hn]
     exact L5 r2 (fun b hb=>hot b (by have:=L7 r2 hb;omega)))
   gi_wp2
   exact HF.out
  |succ y=>
   have l1:W.cell? ⟨w.heap.size+1+1+1,0,none⟩=some (.int .i64 (B9 v r y)):=l0
   have hy0:=hge y (by omega)
   obtain⟨ha1,ha2⟩:=I6 hv hr y
   obtain⟨hb1',hb2'⟩:=I6 hv hr (y+1)
   have HCE:=Hd (fun(W:World)=>jN3 v r (B9 v r y) (B9 v r (y+1)) W hv hr ⟨ha1,ha2⟩ ⟨hb1',hb2'⟩)
   have HCB:=Hd (qR7 hv hr (B9 v r y) (B9 v r (y+1)))
   have HUP:=Hd (xH9 hv hr (y+1) hge)
   obtain⟨c0,c1,c2,c3,c4,c5,c6,c7,c8,c9,c10,c11,c12,c13⟩:=xM1 HT.out.wk
   unfold U0 at HCE
   clear l0 hm ht hbel hwk hpre hge hpl
   gi_upto_region 7 with(refine⟨trivial,CallsIn.inRound l ((callsIn_wide.2 (HCE.out _)).mono ?_)⟩;rintro e W1 ⟨rfl,hb1⟩)
   clear c0 c1 c2 c3 c4 c5 c6 c7 c8 c9 c10 c11 c12 c13
   obtain⟨hcb1,hcb2⟩:=HCB.out
   have hn600:=hv.cells
   have l2:=((J9 hb1).1 _ 0 lz).trans l1
   have HSK:=Hd (fun(hone:zC5 v r g (B9 v r y) (B9 v r (y+1))=[]) (W2:World) (hb:Below W.heap.size W W2)=>kY9 HT.out HM.out HPL.out (show prN v r g (y+2)=prN v r g (y+1) from by rw[prN,hone,List.append_nil]) hb)
   by_cases hneg:P0 v r (B9 v r y) (B9 v r (y+1))<0
   ·have HF:=Hd (HSK.out (by unfold zC5;rw[if_pos hneg]) W1 hb1)
    have lf2:W1.frozen? ⟨w.heap.size+1+1+1,0,none⟩=false:=Z3 _ _ 0 _ _ ((hb1.block _ lz).trans HT.out.last)
    generalize P0 v r (B9 v r y) (B9 v r (y+1))=c at*
    clear HCE HCB HUP HSK l1
    gi_wp2
    exact HF.out
   ·have HONE:=Hd (show zC5 v r g (B9 v r y) (B9 v r (y+1))=if(qC2 v r g ⟨P0 v r (B9 v r y) (B9 v r (y+1)),B9 v r y,B9 v r (y+1)⟩).lo<(qC2 v r g ⟨P0 v r (B9 v r y) (B9 v r (y+1)),B9 v r y,B9 v r (y+1)⟩).hi then [qC2 v r g ⟨P0 v r (B9 v r y) (B9 v r (y+1)),B9 v r y,B9 v r (y+1)⟩] else [] from by unfold zC5;rw[if_neg hneg])
    have HCUT:=Hd (fun(W':World) (hb:Below W.heap.size W W')=>kK0 v r hv hr g gn gb qb ⟨P0 v r (B9 v r y) (B9 v r (y+1)),B9 v r y,B9 v r (y+1)⟩ (by dsimp only;omega) W' (HQB.out.step hb) (HG.out.step hb))
    unfold PT.val at HCUT
    dsimp only at HCUT
    generalize hcut:qC2 v r g ⟨P0 v r (B9 v r y) (B9 v r (y+1)),B9 v r y,B9 v r (y+1)⟩=P at*
    generalize P0 v r (B9 v r y) (B9 v r (y+1))=c at*
    obtain⟨pc,pl,ph⟩:=P
    dsimp only at HONE HCUT
    clear HCE HCB l1
    have kx1:=Q0 _ _ 0 _ _ _ ((hb1.block _ (HM.out.lt HT.out.xk)).trans HT.out.kx)
    gi_upto_region 9 with(fail)
    have hbp:=B6 W1 (.cells #[.int .i64 c,.int .i64 (B9 v r y),.int .i64 (B9 v r (y+1))] 193)
    have HP:=Hd (show qG2 W1.heap.size ⟨c,B9 v r y,B9 v r (y+1)⟩ (W1.alloc (.cells #[.int .i64 c,.int .i64 (B9 v r y),.int .i64 (B9 v r (y+1))] 193)) from Q3 _ _)
    have HB2:=Hd (hb1.trans (hbp.mono hb1.size))
    have hW1:=hb1.size
    have kx2:=((J9 hbp).1 _ 0 (Z4 (HM.out.lt HT.out.xk) hb1.size)).trans kx1
    clear kx1 hbp
    generalize World.alloc W1 _=W2 at*
    generalize W1.heap.size=pb at*
    gi_wp2
    clear kx2 l2
    gi_loopw [29] (fun s29 wr=>∃i:Nat,i≤1∧s29= .int .i64 (i:Int)∧Hid (qG2 pb (if i=0 then⟨c,B9 v r y,B9 v r (y+1)⟩ else⟨pc,pl,ph⟩) wr∧Below W.heap.size W wr)) (fun s29 _=>1-(intOf s29).toNat)
    case atStart=>exact⟨0,by omega,rfl,Hd ⟨HP.out,HB2.out⟩⟩
    case round=>
     obtain⟨i,hi,rfl,HZ⟩:=hrel
     have HB3:=Hd HZ.out.2
     by_cases hi0:i=0
     ·subst hi0
      have HP3:=Hd (show qG2 pb ⟨c,B9 v r y,B9 v r (y+1)⟩ wr from HZ.out.1)
      have d0:=((J9 HB3.out).1 cb 0 hcl).trans hcW
      obtain⟨p0,p1,p2⟩:=U4 HP3.out
      have HCC:=Hd (HCUT.out wr HB3.out)
      clear HZ HP HB2
      gi_wp2_with(fail)
      refine⟨trivial,CallsIn.inRound l ((callsIn_wide.2 HCC.out).mono ?_)⟩
      rintro e W4 ⟨rfl,hb4⟩
      dsimp only
      have HP4:=Hd (HP3.out.step hb4)
      have HB4:=Hd (HB3.out.trans (hb4.mono HB3.out.size))
      have q0':=Q0 _ _ 0 _ _ _ HP4.out
      have q1':=Q0 _ _ 1 _ _ _ HP4.out
      have q2':=Q0 _ _ 2 _ _ _ HP4.out
      obtain⟨f0,f1,f2⟩:=fr3 HP4.out
      clear d0 p0 p1 p2 HCC hb4 HP3 HB3 HCUT
      gi_wp2
      obtain⟨s1,_,_⟩:=qN6 (x:= .int .i64 pc) (y:= .int .i64 pl) (z:= .int .i64 ph) HP4.out
      have HP5:=Hd s1
      have HB5:=Hd (((HB4.out.setCell (p:=⟨pb,0,none⟩) (show W.heap.size≤pb by omega) (.int .i64 pc)).setCell (p:=⟨pb,1,none⟩) (show W.heap.size≤pb by omega) (.int .i64 pl)).setCell (p:=⟨pb,2,none⟩) (show W.heap.size≤pb by omega) (.int .i64 ph))
      clear s1 q0' q1' q2' f0 f1 f2
      generalize World.setCell (World.setCell (World.setCell W4 _ _) _ _) _ _=W6 at*
      go_roundw
      case rel=>first|exact⟨1,by omega,rfl,Hd ⟨HP5.out,HB5.out⟩⟩|((repeat apply Z9);exact⟨⟨1,by omega,rfl,Hd ⟨HP5.out,HB5.out⟩⟩,rfl⟩)
      case measure=>simp[intOf]
     ·obtain rfl:i=1:=by omega
      have HP3:=Hd (show qG2 pb ⟨pc,pl,ph⟩ wr from HZ.out.1)
      obtain⟨p0,p1,p2⟩:=U4 HP3.out
      have l3:=((J9 HB3.out).1 _ 0 lz).trans (Q0 _ _ 0 _ _ _ HT.out.last)
      have lf3:wr.frozen? ⟨w.heap.size+1+1+1,0,none⟩=false:=Z3 _ _ 0 _ _ ((HB3.out.block _ lz).trans HT.out.last)
      clear HZ HP HB2 HCUT
      by_cases hlh:pl<ph
      ·rw[if_pos hlh] at HONE
       have HON2:=Hd (show prN v r g (y+2)=prN v r g (y+1)++[⟨pc,pl,ph⟩] from by rw[prN,HONE.out])
       obtain⟨vv,r1,r2,r3⟩:=HT.out.row
       rw[HPL.out] at r2
       have o3:=((J9 HB3.out).1 _ 0 oz).trans (Q0 _ _ 0 _ _ _ r1)
       have HR1:=Hd r1
       have HR2:=Hd r2
       have HR3:=Hd r3
       have HPN:=Hd (zI7 v r g (y+1))
       generalize hln:prN v r g (y+1)=L at*
       have HOW:=Hd (K4 (K4 r2 HB3.out) (B6 wr (.cells #[.int .i64 pc,.int .i64 pl,.int .i64 ph] 193)))
       have HNW:=Hd (World.news_of_block (Q3 wr (.cells #[.int .i64 pc,.int .i64 pl,.int .i64 ph] 193)))
       have hlen:L.length+1≤43200000002:=by have:=HPN.out;have:=HUP.out;omega
       have hb64:L.length+1≤maxLen:=by unfold maxLen;omega
       have hb48:(L.length+1)*24≤140737488355328:=by omega
       obtain⟨j0,hj0,hz0,hz1,hz2⟩:=info_parts jK8
       have hzA:(wr.alloc (.cells #[.int .i64 pc,.int .i64 pl,.int .i64 ph] 193)).heap.size=wr.heap.size+1:=by simp
       have hWw:=HB3.out.size
       clear r1 r2 r3 HONE
       gi_upto_region 16 with(gi_at_builtin;refine zE6 _ rfl _ _ 187 rfl (w.heap.size+1+1+1+1) 193 j0 _ 3 24 Tryz.underlying187 hj0 hz0 hz1 hz2 rfl (by decide) vv L.length (ptC L) rfl HOW.out ⟨wr.heap.size,0,none⟩ 1 1 [.int .i64 pc,.int .i64 pl,.int .i64 ph] rfl rfl HNW.out kM6 (by decide) hb64 hb48 (by rw[hzA];omega) _ rfl ?_;intro g1 cp V9 hown9 hgrow9 hat9 hlt9;have hne9:∀b,b≤w.heap.size+1+1+1→(b:Nat)<W.heap.size→V9.heap[b]?=W.heap[b]? :=(fun b h1 h2=>(hgrow9.block b (by rw[hzA];omega) (fun e=>by have:=L7 HR2.out e.symm;omega)).trans ((Q9 wr _ b (by omega)).trans (HB3.out.block b h2)));have ob9:=(hne9 _ (by omega) oz).trans HR1.out;have o9:=Q0 _ _ 0 _ _ _ ob9;have of9:=Z3 _ _ 0 _ _ ob9;have lb9:=(hne9 _ (by omega) lz).trans HT.out.last;have l9:=Q0 _ _ 0 _ _ _ lb9;have lf9:=Z3 _ _ 0 _ _ lb9)
       have HF:=Hd (kM5 (p:=⟨pc,pl,ph⟩) HT.out HM.out HPL.out (by rw[HON2.out,hln]) HB3.out HR1.out (by rw[hln];exact HR2.out) HR3.out (by rw[hln];exact hown9) hgrow9 hat9 hlt9)
       rw[hln] at HF
       have l10:=(X5 (Q6 V9 ⟨w.heap.size+1+1,0,none⟩ (w.heap.size+1+1+1) (.slice (some ⟨g1,0,none⟩) (L.length+1) cp) (by show w.heap.size+1+1+1≠w.heap.size+1+1;omega))).trans l9
       have lf10:(V9.setCell ⟨w.heap.size+1+1,0,none⟩ (.slice (some ⟨g1,0,none⟩) (L.length+1) cp)).frozen? ⟨w.heap.size+1+1+1,0,none⟩=false:=by rw[World.frozen?_setCell];exact lf9
       clear hown9 hgrow9 hat9 hlt9 hne9 ob9 o9 of9 lb9 l9 lf9 HUP HSK
       gi_wp2
       exact HF.out
      ·rw[if_neg hlh] at HONE
       have HF:=Hd (HSK.out HONE.out wr HB3.out)
       clear HUP HSK HONE
       gi_wp2
       exact HF.out
 case hdone=>
  rintro D m X W hD hDl hDX hM ht hbel hwk hDD
  obtain⟨vv,h1,h2,h3⟩:=ht.row
  rw[List.length_range] at h2
  have c1:=Q0 _ _ 0 _ _ _ h1
  obtain⟨pa,pc,rfl⟩:=Y6 h2
  have HDD:=Hd hDD
  have hDo:∀b,(Value.slice pa (prN v r g (m+1)).length pc).ownBlock=some b→b≠D:=fun b hb e=>hDX (by rw[←e];exact h3 b hb)
  have HRR:=Hd (fun(o':Obj)=>show(W.putObj D o').ownsRow w.heap.size 193 3 (.slice pa (prN v r g (m+1)).length pc) (prN v r g (m+1)).length (ptC (prN v r g (m+1)))∧Below w.heap.size w (W.putObj D o') from⟨P8 (L5 h2 (fun b hb=>World.putObj_heap_other (hDo b hb))) (by omega),zP7 hbel (by have:=hb3.size;omega) o'⟩)
  have HM:=Hd hM
  clear h1 h2 h3 ht hbel hwk hDD hDo hM
  go_wp2
  exact qC7 (v:= .slice pa (prN v r g (m+1)).length pc) HDD.out (fun o'=>⟨by simp[results,Tryz.results93,go_sem],m,pa,pc,HM.out,rfl,(HRR.out o').1,(HRR.out o').2⟩)
end
section
open Go.RowKit
def pt0:PT:=⟨0,0,0⟩
def kZ9(W:World)(a:Option Addr)(L:List PT):Prop:=L.length=0∨∃b,a=some ⟨b,0,none⟩∧b<W.heap.size∧∀i,i<L.length→W.cell? ⟨b,i*3,none⟩=some (.int .i64 (L.getD i pt0).cell)∧W.cell? ⟨b,i*3+1,none⟩=some (.int .i64 (L.getD i pt0).lo)∧W.cell? ⟨b,i*3+2,none⟩=some (.int .i64 (L.getD i pt0).hi)
theorem kG2{W:World}{base:Nat}{a:Option Addr}{c:Nat}{L:List PT}(h:W.ownsRow base 193 3 (.slice a L.length c) L.length (ptC L)):kZ9 W a L:=by
 by_cases hl:L.length=0
 ·exact .inl hl
 ·obtain⟨b,rfl,h1,h2⟩:=qJ6 h (by omega)
  refine .inr ⟨b,rfl,h2,fun i hi=> ?_⟩
  have hc:∀s,s<3→W.cell? ⟨b,i*3+s,none⟩=(L.getD i pt0).cells[s]? :=fun s hs=>by
   rw[h.cellAt (i*3+s) (by omega)]
   exact xO6 L i s pt0 hi hs
  exact⟨hc 0 (by omega),hc 1 (by omega),hc 2 (by omega)⟩
theorem kZ9.step{W W':World}{a:Option Addr}{L:List PT}(h:kZ9 W a L)(hb:Below W.heap.size W W'):kZ9 W' a L:=by
 rcases h with h|⟨b,h1,h2,h3⟩
 ·exact .inl h
 ·exact .inr ⟨b,h1,Z4 h2 hb.size,fun i hi=>⟨((J9 hb).1 _ _ h2).trans (h3 i hi).1,((J9 hb).1 _ _ h2).trans (h3 i hi).2.1,((J9 hb).1 _ _ h2).trans (h3 i hi).2.2⟩⟩
def jH0(N:Int)(p:PT):Prop:=(0≤p.cell∧p.cell<N)∧p.lo<p.hi∧(-43200000000≤p.lo∧p.hi≤43200000000)
theorem jN9(v:VO)(r:RY)(g:Nat→Int)(p:PT):(qC2 v r g p).cell=p.cell:=by
 unfold qC2
 split
 ·rfl
 ·split
  ·rfl
  ·split<;>rfl
theorem kM1{v:VO}{r:RY}(hv:v.Ok)(hr:r.Ok){g:Nat→Int}(hg:∀p:PT,0≤p.cell→0≤g (p.cell.tmod (v.nx*v.ny)).toNat∧g (p.cell.tmod (v.nx*v.ny)).toNat≤12000){i j:Nat}:∀p∈zC5 v r g (B9 v r i) (B9 v r j),jH0 (v.nx*v.ny*v.nz) p:=fun p hp=>by
 have hc:=qR7 hv hr (B9 v r i) (B9 v r j)
 have h1:=I6 hv hr i
 have h2:=I6 hv hr j
 have hT:=T9 hr
 unfold zC5 at hp
 split at hp
 ·cases hp
 ·rename_i hn
  split at hp
  ·rename_i hlt
   rw[List.mem_singleton] at hp
   subst hp
   have hgg:=hg ⟨P0 v r (B9 v r i) (B9 v r j),B9 v r i,B9 v r j⟩ (by dsimp only;omega)
   have hw:=(zH5 (T:=(D9 r:Int)) (a:=C1 v r 2) (p:=g ((P0 v r (B9 v r i) (B9 v r j)).tmod (v.nx*v.ny)).toNat) (by omega) (qG4 hv hr 2).1 (by dsimp only at hgg;omega)).2
   refine⟨by rw[jN9];dsimp only;omega,hlt,?_⟩
   unfold qC2 at hlt ⊢
   dsimp only at hlt hgg ⊢
   split
   ·rename_i h3;rw[if_pos h3] at hlt;dsimp only at hlt ⊢;omega
   ·rename_i h3
    rw[if_neg h3] at hlt
    split
    ·rename_i h4;rw[if_pos h4] at hlt;dsimp only at hlt ⊢;omega
    ·rename_i h4
     rw[if_neg h4] at hlt
     split
     ·rename_i h5;rw[if_pos h5] at hlt;dsimp only at hlt;omega
     ·dsimp only;omega
  ·cases hp
theorem jW6{v:VO}{r:RY}(hv:v.Ok)(hr:r.Ok){g:Nat→Int}(hg:∀p:PT,0≤p.cell→0≤g (p.cell.tmod (v.nx*v.ny)).toNat∧g (p.cell.tmod (v.nx*v.ny)).toNat≤12000):∀k,∀p∈prN v r g k,jH0 (v.nx*v.ny*v.nz) p
 |0,p,hp=>by cases hp
 |1,p,hp=>by cases hp
 |k+2,p,hp=>by
  rw[prN,List.mem_append] at hp
  rcases hp with hp|hp
  ·exact jW6 hv hr hg (k+1) p hp
  ·exact kM1 hv hr hg p hp
theorem zH0(L:List PT){i:Nat}(h:i<L.length):L.take (i+1)=L.take i++[L.getD i pt0]:=by
 rw[List.take_add_one,Z5 h,X3,Z5 h]
 rfl
def grB(v:VO)(n:Nat)(g:Nat→Int):Bool:=M1 n (fun i=>P4 (g i) 0 (v.nz*v.size))&&((n:Int)==v.nx*v.ny)
theorem zA5(v:VO)(hv:v.Ok)(ga:Option Addr)(n gc:Nat)(g:Nat→Int)(w:World)(hn:n≤maxLen)(hG:D0 w.heap.size w ga n g):
  Calls Tryz.prog 52 #[v.val,.slice ga n gc] w fun e w'=>e= .returned (.bool (grB v n g))∧Below w.heap.size w w':=by
 have HG:=Hd hG
 have HNO:=Hd (fun(i:Nat) (hi:i<n) (h:P4 (g i) 0 (v.nz*v.size)=false)=>show grB v n g=false from by unfold grB;rw[Y7 hi h,Bool.false_and])
 have HYES:=Hd (fun(h:∀i,i<n→P4 (g i) 0 (v.nz*v.size)=true)=>show grB v n g=((n:Int)==v.nx*v.ny) from by unfold grB;rw[Y3 h,Bool.true_and])
 have hm1:=N3 (x:=v.nz) (y:=v.size) (K:=12) (M:=1000) (by decide) (by decide) (by have:=hv.z;omega) (by have:=hv.size;omega)
 have hm2:=N3 (x:=v.nx) (y:=v.ny) (K:=12) (M:=12) (by decide) (by decide) (by have:=hv.x;omega) (by have:=hv.y;omega)
 unfold maxLen at hn
 generalize grB v n g=RES at*
 unfold VO.val
 generalize hzs:v.nz*v.size=zs at*
 generalize hxy:v.nx*v.ny=xy at*
 clear hG
 go_enter Tryz.func52,Tryz.ntmps52
 go_upto_region 1 with(fail)
 have HB:=Hd (B6 w (.cells #[.int .i64 v.nx,.int .i64 v.ny,.int .i64 v.nz,.int .i64 v.size] 75))
 have hnn:=Q3 w (.cells #[.int .i64 v.nx,.int .i64 v.ny,.int .i64 v.nz,.int .i64 v.size] 75)
 generalize World.alloc w _=V at*
 obtain⟨k0,k1,k2,k3⟩:=cr4 hnn
 clear hnn
 go_wp2
 go_loopw [9] (fun s wr=>∃i:Nat,i≤n∧s= .int .i64 (i:Int)∧wr=V∧Hid (∀j,j<i→P4 (g j) 0 zs=true)) (fun s _=>n-(intOf s).toNat)
 case atStart=>exact⟨0,Nat.zero_le _,rfl,rfl,Hd (fun j hj=>by omega)⟩
 case round=>
  obtain⟨i,hi,rfl,rfl,HA⟩:=hrel
  by_cases hlt:i<n
  ·have hlt':(i:Int)<(n:Int):=by omega
   obtain⟨gb,go,rfl,hgl,hgc⟩:=HG.out.get hlt
   have hg1:=((J9 HB.out).1 gb (go+i) hgl).trans hgc
   clear hgc
   cases hb:P4 (g i) 0 zs
   ·have HE:=Hd (HNO.out i hlt hb)
    go_wp2_with(go_at_call 53;refine(G6 _ _ _ _).mono ?_;rintro e w' ⟨rfl,rfl⟩;rw[hb])
    go_ret
    exact⟨J2 HE.out.symm,HB.out⟩
   ·have HA2:=Hd (fun j (hj:j<i+1)=>show P4 (g j) 0 zs=true from(by by_cases e:j=i;(subst e;exact hb);exact HA.out j (by omega)))
    go_wp2_with(go_at_call 53;refine(G6 _ _ _ _).mono ?_;rintro e w' ⟨rfl,rfl⟩;rw[hb])
    go_roundw
    case rel=>first|exact⟨i+1,by omega,by go_num,trivial,HA2⟩|((repeat apply Z9);exact⟨⟨i+1,by omega,by go_num,trivial,HA2⟩,rfl⟩)
    case measure=>simp[intOf];omega
  ·obtain rfl:i=n:=by omega
   have hlt':¬(i:Int)<(i:Int):=by omega
   have HE:=Hd (HYES.out HA.out)
   go_wp2
   go_ret
   exact⟨J2 HE.out.symm,HB.out⟩
theorem xN5{v:VO}{n:Nat}{g:Nat→Int}:grB v n g=true↔(∀i,i<n→0≤g i∧g i≤v.nz*v.size)∧(n:Int)=v.nx*v.ny:=by
 unfold grB
 rw[Q8,Y9,beq_iff_eq]
 exact⟨fun⟨h1,h2⟩=>⟨fun i hi=>D4.1 (h1 i hi),h2⟩,fun⟨h1,h2⟩=>⟨fun i hi=>D4.2 (h1 i hi),h2⟩⟩
theorem kE4{v:VO}(hv:v.Ok){n:Nat}{g:Nat→Int}(h:grB v n g=true):∀i,i<n→0≤g i∧g i≤12000:=fun i hi=>by
 have h1:=(xN5.1 h).1 i hi
 have h2:=N3 (x:=v.nz) (y:=v.size) (K:=12) (M:=1000) (by decide) (by decide) (by have:=hv.z;omega) (by have:=hv.size;omega)
 omega
theorem kL2{v:VO}(hv:v.Ok){n:Nat}{g:Nat→Int}(h:grB v n g=true):∀p:PT,0≤p.cell→0≤g (p.cell.tmod (v.nx*v.ny)).toNat∧g (p.cell.tmod (v.nx*v.ny)).toNat≤12000:=fun p hp=>by
 obtain⟨k,h1,h2⟩:=zS1 hv hp
 rw[h1,Int.toNat_natCast]
 exact kE4 hv h k (by have:=(xN5.1 h).2;omega)
theorem jW5{v:VO}{r:RY}(hv:v.Ok)(hr:r.Ok){g:Nat→Int}{m:Nat}(hM:IsM v r m):(prN v r g (m+1)).length≤43200000002:=by
 have h1:=zI7 v r g (m+1)
 have h2:=xH9 hv hr m hM.1
 have h3:=(I6 hv hr m).2
 omega
def kS6(v:VO)(r:RY)(n:Nat)(g:Nat→Int):Bool:=(jC8 v&&zE1 r)&&grB v n g
def qY8:List PT→Int
 |[]=>0
 |p::t=>(p.hi-p.lo)+qY8 t
def opS(d:Nat→Int):List PT→Int
 |[]=>0
 |p::t=>(p.hi-p.lo)*d p.cell.toNat+opS d t
theorem qH7:∀(a b:List PT),qY8 (a++b)=qY8 a+qY8 b
 |[],b=>by simp[qY8]
 |p::t,b=>by rw[List.cons_append,qY8,qY8,qH7 t b];omega
theorem zC7(d:Nat→Int):∀(a b:List PT),opS d (a++b)=opS d a+opS d b
 |[],b=>by simp[opS]
 |p::t,b=>by rw[List.cons_append,opS,opS,zC7 d t b];omega
theorem kH5(v:VO)(r:RY)(g:Nat→Int)(p:PT)(h:(qC2 v r g p).lo<(qC2 v r g p).hi):p.lo≤(qC2 v r g p).lo∧(qC2 v r g p).hi≤p.hi:=by
 unfold qC2 at h ⊢
 split
 ·dsimp only;omega
 ·rename_i h1
  rw[if_neg h1] at h
  split
  ·dsimp only;omega
  ·rename_i h2
   rw[if_neg h2] at h
   split
   ·rename_i h3;rw[if_pos h3] at h;dsimp only at h;omega
   ·omega
theorem jU8(v:VO)(r:RY)(g:Nat→Int)(p q:Int)(hpq:p≤q):qY8 (zC5 v r g p q)≤q-p:=by
 unfold zC5
 split
 ·simp[qY8];omega
 ·split
  ·rename_i h1 h2
   have:=kH5 v r g _ h2
   dsimp only at this
   simp only[qY8]
   omega
  ·simp[qY8];omega
theorem xD1{v:VO}{r:RY}(hv:v.Ok)(hr:r.Ok)(g:Nat→Int):∀k,(∀j,j≤k→0≤B9 v r j)→qY8 (prN v r g (k+1))≤B9 v r k
 |0,_=>by simp[prN,qY8,B9]
 |k+1,h=>by
  have ih:=xD1 hv hr g k (fun j hj=>h j (by omega))
  have hup:B9 v r k<B9 v r (k+1):=by
   rcases zI3 hv hr (I6 hv hr k).1 with h2|h2
   ·have:=h (k+1) (Q1 _);rw[B9,h2] at this;omega
   ·rw[B9];omega
  have h1:=jU8 v r g (B9 v r k) (B9 v r (k+1)) (by omega)
  rw[prN,qH7]
  omega
theorem xI7{N:Int}:∀(l:List PT),(∀p∈l,jH0 N p)→0≤qY8 l
 |[],_=>by simp[qY8]
 |p::t,h=>by
  have h1:=(h p (by simp)).2.1
  have h2:=xI7 t (fun q hq=>h q (by simp[hq]))
  rw[qY8];omega
theorem zS5{N:Int}{d:Nat→Int}(hd:∀c:Nat,(c:Int)<N→0≤d c∧d c≤10000):∀(l:List PT),(∀p∈l,jH0 N p)→0≤opS d l∧opS d l≤10000*qY8 l
 |[],_=>by simp[opS,qY8]
 |p::t,h=>by
  obtain⟨⟨h1,h2⟩,h3,_⟩:=h p (by simp)
  have h4:=zS5 hd t (fun q hq=>h q (by simp[hq]))
  have h5:=hd p.cell.toNat (by omega)
  have h6:0≤(p.hi-p.lo)*d p.cell.toNat:=Int.mul_nonneg (by omega) (by omega)
  have h7:(p.hi-p.lo)*d p.cell.toNat≤(p.hi-p.lo)*10000:=Int.mul_le_mul_of_nonneg_left (by omega) (by omega)
  rw[opS,qY8]
  omega
theorem kY8(db:Nat)(da:Option Addr)(dn dc:Nat)(d:Nat→Int)(c:Nat)(w:World)(hb:w.cell? ⟨db,0,none⟩=some (.slice da dn dc))(hD:D0 w.heap.size w da dn d)(hc:c<dn)(hdn:dn≤maxLen):
  Calls Tryz.prog 56 #[.int .i64 (c:Int),.pointer (some ⟨db,0,none⟩)] w fun e w'=>e= .returned (.int .i64 (d c))∧w=w':=by
 obtain⟨b,off,rfl,hl,h1⟩:=hD.get hc
 have hc':(c:Int)<(dn:Int):=by omega
 unfold maxLen at hdn
 go_enter Tryz.func56,Tryz.ntmps56
 go_wp2
 go_ret
 exact⟨rfl,rfl⟩
theorem qW3{P:Program}{md:Region.Mode}{Q:Exit→Act→World→Prop}{S:World→Prop}{ops:Array Oper}{f:Nat}{listed:Array Bool}{a:Act}{w:World}{v:Value}{oi:Oper}{X:Prop}(i:Nat)(q:X)(hi:ops[i]?=some oi:=by rfl)(hB:TkE md ops listed i=true:=by kernel_rfl)(hQ:∀c a w,Q (.panic c) (a.put oi.dst v) w→Q (.panic c) a w:=by exact fun _ _ _ h=>h)(hy:YieldsIf P ops S oi v a:=by(refine Or.inl ⟨by rfl,?_⟩;intro w' hSw;(try dsimp only at hSw);obtain⟨c0,c1,c2,c3,c4,c5,c6,c7,c8,c9,c10,c11,c12,c13⟩:=xM1 hSw;(try simp only[hng]);go_simp;(try with_reducible rfl)))(hS:S w:=by assumption)(hx:X→M5 P md ops Q S ops.size (qC3 md ops Q) f (listed.setIfInBounds i true) (a.put oi.dst v) w:=by(intro qq;refine hnm ?_;exact qq)):M5 P md ops Q S ops.size (qC3 md ops Q) (f+1) listed a w:=qY0 hi hB hQ hy hS (hx q)
theorem jU9(d:Nat→Int)(L:List PT){i:Nat}(h:i<L.length):opS d (L.take (i+1))=opS d (L.take i)+((L.getD i pt0).hi-(L.getD i pt0).lo)*d (L.getD i pt0).cell.toNat:=by
 rw[zH0 L h,zC7]
 simp[opS]
theorem jV2{N:Int}(L:List PT)(h:∀p∈L,jH0 N p)(i:Nat):qY8 (L.take i)≤qY8 L:=by
 have h1:=qH7 (L.take i) (L.drop i)
 rw[List.take_append_drop] at h1
 have h2:=xI7 (L.drop i) (fun p hp=>h p (List.mem_of_mem_drop hp))
 omega
theorem xC3(v:VO)(r:RY)(hv:v.Ok)(hr:r.Ok)(ga:Option Addr)(gn gc:Nat)(g:Nat→Int)(db:Nat)(da:Option Addr)(dn dc:Nat)(d:Nat→Int)(w:World)
  (hg3:grB v gn g=true) (hG:D0 w.heap.size w ga gn g) (hb:w.cell? ⟨db,0,none⟩=some (.slice da dn dc)) (hD:D0 w.heap.size w da dn d) (hdb:db<w.heap.size)
  (hdn:(dn:Int)=v.nx*v.ny*v.nz) (hd:∀c:Nat,(c:Int)<v.nx*v.ny*v.nz→0≤d c∧d c≤10000):
  Calls Tryz.prog 54 #[U0 v r,.slice ga gn gc,.func (.func 56) #[] #[.pointer (some ⟨db,0,none⟩)]] w fun e w'=>∃m,IsM v r m∧e= .returned (.int .i64 (opS d (prN v r g (m+1))))∧Below w.heap.size w w':=by
 have HVR:=Hd (And.intro hv (And.intro hr hg3))
 have HG0:=Hd hG
 have HDB:=Hd (And.intro hb (And.intro hD (And.intro hdb (And.intro hdn hd))))
 clear hg3 hG hb hD hdb hdn hd hv hr
 unfold U0
 go_enter Tryz.func54,Tryz.ntmps54
 go_upto_region 2 with(fail)
 have hb8:=B6 w (.cells #[.int .i64 v.nx,.int .i64 v.ny,.int .i64 v.nz,.int .i64 v.size,.int .i64 r.x,.int .i64 r.dx,.int .i64 v.nx,.int .i64 r.y,.int .i64 r.dy,.int .i64 v.ny,.int .i64 r.z,.int .i64 r.dz,.int .i64 v.nz,.int .i64 (D9 r:Int)] 135)
 have HQ:=Hd (show A6 v r w.heap.size (w.alloc (.cells #[.int .i64 v.nx,.int .i64 v.ny,.int .i64 v.nz,.int .i64 v.size,.int .i64 r.x,.int .i64 r.dx,.int .i64 v.nx,.int .i64 r.y,.int .i64 r.dy,.int .i64 v.ny,.int .i64 r.z,.int .i64 r.dz,.int .i64 v.nz,.int .i64 (D9 r:Int)] 135)) from Q3 w _)
 have HB:=Hd hb8
 clear hb8
 generalize World.alloc w _=V3 at*
 generalize hq8:w.heap.size=q8 at*
 refine wp_region_any (by kernel_rfl) ?_
 change wpAny _ _ _ _ _ _ _ (World.drew V3)
 have HB1:=Hd (show Below q8 w V3.drew from HB.out.drew)
 have HQ1:=Hd (show A6 v r q8 V3.drew from HQ.out)
 clear HB HQ
 have HB:=HB1
 have HQ:=HQ1
 clear HB1 HQ1
 generalize World.drew V3=Vd at*
 refine O3 8 (fun w'=>A6 v r q8 w') HQ.out (fun hS=> ?_)
 refine qW3 0 ?_
 refine qW3 1 ?_
 refine qW3 2 ?_
 refine qW3 7 ?_
 refine V7 3 ?_
 refine V8 rfl (fun K hK=> ?_);(try simp only[hng]);go_simp
 refine(jC6 v r ga gn gc Vd).mono ?_
 rintro e W5 ⟨rfl,hw5,hg5,hb5⟩
 dsimp only
 have HQ5:=Hd (HQ.out.step hb5)
 have HB5:=Hd (HB.out.trans (hb5.mono (by have:=HB.out.size;omega)))
 have HW5:=Hd hw5
 have HGA:=Hd (show jZ3 v g gn (Vd.heap.size+1) W5 from⟨(xN5.1 HVR.out.2.2).2,kE4 HVR.out.1 HVR.out.2.2,ga,gc,hg5,((HG0.out).below (hq8▸HB5.out)).up (by have:=HB5.out.size;omega)⟩)
 refine hK.out _ _ HQ5.out (fun hS=> ?_)
 clear hK K hb5 hw5 hg5
 refine hnm ?_
 refine V7 4 ?_
 refine V8 rfl (fun K hK=> ?_);(try simp only[hng]);go_simp
 have hb6:=B6 W5 (.cells #[.func (.func 136) #[] #[.pointer (some ⟨Vd.heap.size+1,0,none⟩),.pointer (some ⟨Vd.heap.size,0,none⟩)]] 190)
 have hn6:=Q3 W5 (.cells #[.func (.func 136) #[] #[.pointer (some ⟨Vd.heap.size+1,0,none⟩),.pointer (some ⟨Vd.heap.size,0,none⟩)]] 190)
 have HC6:=Hd (Q0 _ _ 0 _ _ _ hn6)
 have hl6:=(J5 hn6)
 have HQ6:=Hd (HQ5.out.step hb6)
 have HW6:=Hd (HW5.out.step hb6)
 have HG6:=Hd (HGA.out.step hb6)
 have HB6:=Hd (HB5.out.trans (hb6.mono (by have:=HB5.out.size;omega)))
 refine hK.out _ _ HQ6.out (fun hS=> ?_)
 clear hK K hb6 hn6
 refine hnm ?_
 generalize World.alloc W5 _=W6 at*
 refine V7 5 ?_
 refine V8 rfl (fun K hK=> ?_);(try simp only[hng]);go_simp
 have hparts:=xE3 v r HVR.out.1 HVR.out.2.1 g gn (Vd.heap.size+1) Vd.heap.size W5.heap.size 1 W6 HW6.out HG6.out HC6.out hl6
 unfold U0 at hparts
 refine hparts.mono ?_
 rintro e W7 ⟨m,pa,pc,hM,rfl,hown7,hb7⟩
 dsimp only
 have HQ7:=Hd (HQ6.out.step hb7)
 have HB7:=Hd (HB6.out.trans (hb7.mono (by have:=HB6.out.size;omega)))
 have HM:=Hd hM
 have HP7:=Hd (kG2 hown7)
 refine hK.out _ _ HQ7.out (fun hS=> ?_)
 clear hK K hparts hown7 hb7
 have HN:=Hd (jW6 HVR.out.1 HVR.out.2.1 (kL2 HVR.out.1 HVR.out.2.2) (m+1))
 have hl:=jW5 HVR.out.1 HVR.out.2.1 (g:=g) hM
 have HLS:=Hd (Int.le_trans (xD1 HVR.out.1 HVR.out.2.1 g m hM.1) (I6 HVR.out.1 HVR.out.2.1 m).2)
 clear hM
 generalize hLL:prN v r g (m+1)=L at*
 obtain⟨n,hn⟩:∃n,L.length=n:=⟨_,rfl⟩
 have HLN:=Hd hn
 have HLL:=Hd hLL
 rw[hn] at hl ⊢
 clear hn hLL
 refine hnm ?_
 refine V7 6 ?_
 refine V8 rfl (fun K hK=> ?_);(try simp only[hng]);go_simp
 refine hK.out _ _ HQ7.out (fun hS=> ?_)
 clear hK K
 refine hnm ?_
 change qC3 _ _ _ _ _ _
 refine⟨by kernel_rfl,?_⟩
 clear HQ HQ5 HQ6 HQ7 HW5 HW6 HG6 HGA HC6 HB HB5 HB6 hl6
 go_wp2
 go_loopw [7,17] (fun s7 s17 wr=>∃i:Nat,i≤n∧s7= .int .i64 (opS d (L.take i))∧s17= .int .i64 (i:Int)∧Hid (Below W7.heap.size W7 wr)) (fun _ s17 _=>n-(intOf s17).toNat)
 case atStart=>exact⟨0,Nat.zero_le _,by simp[opS],rfl,Hd (Q2 _ _)⟩
 case round=>
  obtain⟨i,hi,rfl,rfl,HBW⟩:=hrel
  clear hS
  have HPW:=Hd (HP7.out.step HBW.out)
  have hw7:=HB7.out.size
  by_cases hlt:i<n
  ·have hlt':(i:Int)<(n:Int):=by omega
   rcases HPW.out with h|⟨b,rfl,hbz,hcs⟩
   ·have:=HLN.out;omega
   obtain⟨d0,d1,d2⟩:=hcs i (by have:=HLN.out;omega)
   have HTK:=Hd (jU9 d L (i:=i) (by have:=HLN.out;omega))
   have hmem:L.getD i pt0∈L:=by
    rw[X3,Z5 (by have:=HLN.out;omega)]
    exact List.getElem_mem _
   obtain⟨⟨hk1,hk2⟩,hk3,hk4,hk5⟩:=HN.out (L.getD i pt0) hmem
   have hob:=zS5 HDB.out.2.2.2.2 (L.take i) (fun p hp=>HN.out p (List.mem_of_mem_take hp))
   have hol:=jV2 L HN.out i
   have hol2:=HLS.out
   have HOD:=Hd (fun(W:World) (hbl:Below q8 w W)=>kY8 db da dn dc d (L.getD i pt0).cell.toNat W ((hbl.cell (p:=⟨db,0,none⟩) HDB.out.2.2.1).trans HDB.out.1) ((HDB.out.2.1.below hbl).up (by have:=hbl.size;have:=hq8;omega)) (by have:=HDB.out.2.2.2.1;omega) (by have:=HDB.out.2.2.2.1;have:=HVR.out.1.cells;unfold maxLen;omega))
   obtain⟨he1,he2⟩:=HDB.out.2.2.2.2 (L.getD i pt0).cell.toNat (by omega)
   have h6:0≤((L.getD i pt0).hi-(L.getD i pt0).lo)*d (L.getD i pt0).cell.toNat:=Int.mul_nonneg (by omega) (by omega)
   have h7:((L.getD i pt0).hi-(L.getD i pt0).lo)*d (L.getD i pt0).cell.toNat≤((L.getD i pt0).hi-(L.getD i pt0).lo)*10000:=Int.mul_le_mul_of_nonneg_left (by omega) (by omega)
   generalize L.getD i pt0=p at*
   obtain⟨pcell,plo,phi⟩:=p
   dsimp only at d0 d1 d2 hk1 hk2 hk3 hk4 hk5 h6 h7 he1 he2 HTK HOD
   rw[Int.toNat_of_nonneg hk1] at HOD
   generalize d pcell.toNat=dv at*
   generalize hpr:(phi-plo)*dv=pr at*
   generalize hac:opS d (L.take i)=acc at*
   obtain⟨ho1,ho2⟩:=hob
   have ho3:acc≤432000000000000:=by omega
   clear hcs hol hol2 ho2 hmem HPW hac he1 he2
   go_upto_region 5 with(fail)
   have hb1:=B6 wr (.cells #[.int .i64 pcell,.int .i64 plo,.int .i64 phi] 193)
   have hn1:=Q3 wr (.cells #[.int .i64 pcell,.int .i64 plo,.int .i64 phi] 193)
   have HB0:=Hd (HBW.out.trans (hb1.mono HBW.out.size))
   have HB1:=Hd (HB7.out.trans (HB0.out.mono (by omega)))
   obtain⟨p0,p1,p2⟩:=U4 hn1
   have hl1:=(J5 hn1)
   clear hb1 hn1 HBW d0 d1 d2
   generalize World.alloc wr _=W2 at*
   (refine J4 (W2.heap.size) (by kernel_rfl) (by kernel_rfl) ?_;(repeat(first|go_big_quiet_step((go_at_call 56;exact Calls.calm_same (HOD.out _ (HB1.out.trans ((K9.below _).mono (by have:=HB1.out.size;have:=hq8;omega))))))|quiet_step((go_at_call 56;exact Calls.calm_same (HOD.out _ (HB1.out.trans ((K9.below _).mono (by have:=HB1.out.size;have:=hq8;omega))))))));refine X4 (wqn ?_);intro xq)
   go_wp2
   have HF:=Hd (HB0.out.trans ((K9.below xq).mono (by have:=HB0.out.size;omega)))
   go_roundw
   case rel=>exact⟨i+1,by omega,by rw[HTK.out],by go_num,HF⟩
   case measure=>simp[intOf];omega
  ·obtain rfl:i=n:=by omega
   have hlt':¬(i:Int)<(i:Int):=by omega
   have HFI:=Hd (show opS d (L.take i)=opS d (prN v r g (m+1)) from by rw[HLL.out,List.take_of_length_le (by have:=HLN.out;omega)])
   rw[HFI.out]
   have HE:=Hd (HB7.out.trans (HBW.out.mono (by have:=HB7.out.size;have:=hq8;omega)))
   go_wp2
   go_ret
   exact⟨m,HM.out,rfl,HE.out⟩
def kH6(n:Nat)(d:Nat→Int):Bool:=M1 n fun i=>P4 (d i) 0 10000
theorem xK2{n:Nat}{d:Nat→Int}:kH6 n d=true↔∀i,i<n→0≤d i∧d i≤10000:=by
 unfold kH6
 rw[Y9]
 exact⟨fun h i hi=>D4.1 (h i hi),fun h i hi=>D4.2 (h i hi)⟩
theorem xF8(v:VO)(r:RY)(ga:Option Addr)(gn gc:Nat)(g:Nat→Int)(da:Option Addr)(dn dc:Nat)(d:Nat→Int)(w:World)(hgn:gn≤maxLen)(hG:D0 w.heap.size w ga gn g)(hD:D0 w.heap.size w da dn d)
  (hok:kS6 v r gn g=true) (hdn:(dn:Int)=v.nx*v.ny*v.nz) (hd:kH6 dn d=true):
  Calls Tryz.prog 20 #[v.val,.slice ga gn gc,.slice da dn dc,r.val] w fun e w'=>∃m,IsM v r m∧e= .returned (.tuple #[.int .i64 (opS d (prN v r g (m+1))),.int .i64 0])∧Below w.heap.size w w':=by
 have HVO:=Hd (fun(W:World)=>xU6 v W)
 have HRY:=Hd (fun(W:World)=>kG7 r W)
 unfold kS6 at hok
 rw[Q8,Q8] at hok
 obtain⟨⟨h1,h2⟩,h3⟩:=hok
 have hv:=kQ2.1 h1
 have hr:=jA1.1 h2
 have HGR:=Hd (fun(W:World) (hb:Below w.heap.size w W)=>zA5 v hv ga gn gc g W hgn ((hG.below hb).up hb.size))
 have HTH:=Hd (fun(W:World)=>xF0 v r W hr)
 have HVR:=Hd (And.intro hv (And.intro hr h3))
 have HG0:=Hd hG
 have HD0:=Hd hD
 have HDD:=Hd (And.intro hdn (xK2.1 hd))
 have hm1:=N3 (x:=v.nx) (y:=v.ny) (K:=12) (M:=12) (by decide) (by decide) (by have:=hv.x;omega) (by have:=hv.y;omega)
 have hdl:=hv.cells
 rw[h1] at HVO
 rw[h2] at HRY
 rw[h3] at HGR
 have HOP:=Hd (fun(W:World) (db:Nat) (hb:Below w.heap.size w W) (hc:W.cell? ⟨db,0,none⟩=some (.slice da dn dc)) (hl:db<W.heap.size)=>xC3 v r hv hr ga gn gc g db da dn dc d W h3 ((hG.below hb).up hb.size) hc ((hD.below hb).up hb.size) hl hdn (fun c hc=>xK2.1 hd c (by omega)))
 unfold U0 at HTH HOP
 unfold VO.val at HVO HGR HTH
 unfold RY.val at HRY HTH
 unfold VO.val RY.val
 generalize hxyz:v.nx*v.ny*v.nz=xyz at*
 generalize hxy:v.nx*v.ny=xy at*
 clear hG hD h1 h2 h3 hv hr hd
 go_enter Tryz.func20,Tryz.ntmps20
 go_upto_region 1 with(fail)
 (obtain⟨hVb,e1,e2,e3⟩:=xE2 w (.cells #[.int .i64 v.nx,.int .i64 v.ny,.int .i64 v.nz,.int .i64 v.size] 75) (.cells #[.slice da dn dc] 28) (.cells #[.int .i64 r.x,.int .i64 r.y,.int .i64 r.z,.int .i64 r.dx,.int .i64 r.dy,.int .i64 r.dz] 77))
 have HB:=Hd hVb
 have HV:=Hd e1
 have HD:=Hd e2
 have HR:=Hd e3
 clear hVb e1 e2 e3
 generalize World.alloc (World.alloc (World.alloc w _) _) _=V at*
 (try clear v0 v1 v2 v3 d0 s0 s1 s2 s3 s4 s5);obtain⟨v0,v1,v2,v3⟩:=cr4 HV.out;have d0:=Q0 _ _ 0 _ _ _ HD.out;obtain⟨s0,s1,s2,s3,s4,s5⟩:=cr6 HR.out
 go_upto_region 4 with(first|(go_at_call 50;refine(HVO.out _).mono ?_;rintro e w2 ⟨rfl,hb2⟩;(replace HB:=Hd (HB.out.trans ((hb2).mono HB.out.size));replace HV:=Hd (Y0 HV.out hb2);replace HD:=Hd (Y0 HD.out hb2);replace HR:=Hd (Y0 HR.out hb2);clear hb2;(try clear v0 v1 v2 v3 d0 s0 s1 s2 s3 s4 s5);obtain⟨v0,v1,v2,v3⟩:=cr4 HV.out;have d0:=Q0 _ _ 0 _ _ _ HD.out;obtain⟨s0,s1,s2,s3,s4,s5⟩:=cr6 HR.out))|(go_at_call 51;refine(HRY.out _).mono ?_;rintro e w2 ⟨rfl,hb2⟩;(replace HB:=Hd (HB.out.trans ((hb2).mono HB.out.size));replace HV:=Hd (Y0 HV.out hb2);replace HD:=Hd (Y0 HD.out hb2);replace HR:=Hd (Y0 HR.out hb2);clear hb2;(try clear v0 v1 v2 v3 d0 s0 s1 s2 s3 s4 s5);obtain⟨v0,v1,v2,v3⟩:=cr4 HV.out;have d0:=Q0 _ _ 0 _ _ _ HD.out;obtain⟨s0,s1,s2,s3,s4,s5⟩:=cr6 HR.out))|(go_at_call 52;refine(HGR.out _ HB.out).mono ?_;rintro e w2 ⟨rfl,hb2⟩;(replace HB:=Hd (HB.out.trans ((hb2).mono HB.out.size));replace HV:=Hd (Y0 HV.out hb2);replace HD:=Hd (Y0 HD.out hb2);replace HR:=Hd (Y0 HR.out hb2);clear hb2;(try clear v0 v1 v2 v3 d0 s0 s1 s2 s3 s4 s5);obtain⟨v0,v1,v2,v3⟩:=cr4 HV.out;have d0:=Q0 _ _ 0 _ _ _ HD.out;obtain⟨s0,s1,s2,s3,s4,s5⟩:=cr6 HR.out)))
 rename World=>V4
 go_loopw [41] (fun s wr=>∃i:Nat,i≤dn∧s= .int .i64 (i:Int)∧wr=V4) (fun s _=>dn-(intOf s).toNat)
 case atStart=>exact⟨0,Nat.zero_le _,rfl,rfl⟩
 case round=>
  obtain⟨i,hi,rfl,rfl⟩:=hrel
  have hdz:=HDD.out.1
  by_cases hlt:i<dn
  ·have hlt':(i:Int)<(dn:Int):=by omega
   obtain⟨gb,go,rfl,hgl,hgc⟩:=HD0.out.get hlt
   have hg1:=((J9 HB.out).1 gb (go+i) hgl).trans hgc
   have hin:=D4.2 (HDD.out.2 i hlt)
   clear hgc
   go_wp2_with(go_at_call 53;refine(G6 _ _ _ _).mono ?_;rintro e w' ⟨rfl,rfl⟩;rw[hin])
   go_roundw
   case rel=>exact⟨i+1,by omega,by go_num,trivial⟩
   case measure=>simp[intOf];omega
  ·obtain rfl:i=dn:=by omega
   have hlt':¬(i:Int)<(i:Int):=by omega
   have hdlt:=(J5 HD.out)
   go_wp2_with(first|(go_at_call 55;refine(HTH.out _).mono ?_;rintro e w2 ⟨rfl,hb2⟩;(replace HB:=Hd (HB.out.trans ((hb2).mono HB.out.size));replace HV:=Hd (Y0 HV.out hb2);replace HD:=Hd (Y0 HD.out hb2);replace HR:=Hd (Y0 HR.out hb2);clear hb2;(try clear v0 v1 v2 v3 d0 s0 s1 s2 s3 s4 s5);obtain⟨v0,v1,v2,v3⟩:=cr4 HV.out;have d0:=Q0 _ _ 0 _ _ _ HD.out;obtain⟨s0,s1,s2,s3,s4,s5⟩:=cr6 HR.out))|(go_at_call 54;refine(HOP.out _ _ HB.out d0 (J5 HD.out)).mono ?_;rintro e w9 ⟨m,hM,rfl,hb9⟩;have HM:=Hd hM;have HB9:=Hd (HB.out.trans (hb9.mono HB.out.size));clear hM hb9))
   refine Z2 (results_tmp2 (t:=8) (u:=9) rfl _ _ _) rfl ?_
   exact⟨_,HM.out,rfl,HB9.out⟩
end
section
def A7(T P k c s h:Nat):Nat:=if k=0 then T else if k=P then c else min T (c*(h+1)*P/((s+2)*k))
def A8(T P k c s h:Nat):Nat:=if k=0 then c else if k=P then T else min T (c*(s-h+1)*P/((s+2)*(P-k)))
def outs:Nat→List (List Bool)
 |0=>[[]]
 |n+1=>(outs n).map (true::·)++(outs n).map (false::·)
end
end Go.Proofs.YtmncaipgefbalaaGreatDoor
