/- Part of the proof of the claim. -/
import Derived.Test.YtmncaipgefbalaaGreatDoorQbj
set_option maxRecDepth 100000
set_option maxHeartbeats 8000000
set_option linter.unusedVariables false
set_option linter.unusedSimpArgs false
namespace Go.Proofs.YtmncaipgefbalaaGreatDoor
section
open Go.RowKit
def caI(v:VO)(r:RY)(p q:Int)(i j:Nat):Int:=if j<i then cAx (D9 r) v.size (C1 v r j) p q else 0
theorem xI5(v:VO)(r:RY){i:Nat}(hi:i<3):∀W:World,(Instr.index 133 (.agg #[.int .i64 r.x,.int .i64 r.dx,.int .i64 v.nx,.int .i64 r.y,.int .i64 r.dy,.int .i64 v.ny,.int .i64 r.z,.int .i64 r.dz,.int .i64 v.nz]) (.int .i64 (i:Int))).run Tryz.prog W= .ok (C1 v r i).val W:=by
 match i,hi with
 |0,_=>intro W;kernel_rfl
 |1,_=>intro W;kernel_rfl
 |2,_=>intro W;kernel_rfl
theorem kH3{v:VO}{r:RY}{p q:Int}{i:Nat}(hi:i<3):(#[Value.int .i64 (caI v r p q i 0),.int .i64 (caI v r p q i 1),.int .i64 (caI v r p q i 2)]:Array Value).setIfInBounds i (.int .i64 (cAx (D9 r) v.size (C1 v r i) p q))= #[.int .i64 (caI v r p q (i+1) 0),.int .i64 (caI v r p q (i+1) 1),.int .i64 (caI v r p q (i+1) 2)]:=by
 match i,hi with
 |0,_=>rfl
 |1,_=>rfl
 |2,_=>rfl
theorem kJ8{v:VO}{r:RY}{p q:Int}{i:Nat}(hi:i<3)(h:cAx (D9 r) v.size (C1 v r i) p q<0):P0 v r p q= -1:=by
 unfold P0
 rw[if_pos]
 match i,hi with
 |0,_=>exact .inl h
 |1,_=>exact .inr (.inl h)
 |2,_=>exact .inr (.inr h)
theorem jN4{v:VO}{r:RY}{p q:Int}(h:∀j,j<3→0≤cAx (D9 r) v.size (C1 v r j) p q):P0 v r p q=(caI v r p q 3 2*v.ny+caI v r p q 3 1)*v.nx+caI v r p q 3 0:=by
 unfold P0
 rw[if_neg]
 ·rfl
 ·have h0:=h 0 (by omega)
  have h1:=h 1 (by omega)
  have h2:=h 2 (by omega)
  omega
structure CeI(q:Nat)(v:VO)(r:RY)(x y:Int)(i:Nat)(w W:World):Prop where
 below:Below w.heap.size w W
 wk:W.heap[q]?=some (.cells #[.int .i64 v.nx,.int .i64 v.ny,.int .i64 v.nz,.int .i64 v.size,.int .i64 r.x,.int .i64 r.dx,.int .i64 v.nx,.int .i64 r.y,.int .i64 r.dy,.int .i64 v.ny,.int .i64 r.z,.int .i64 r.dz,.int .i64 v.nz,.int .i64 (D9 r:Int)] 135)
 at_:W.heap[q+1]?=some (.cells #[.int .i64 (caI v r x y i 0),.int .i64 (caI v r x y i 1),.int .i64 (caI v r x y i 2)] 186)
 done:∀j,j<i→0≤cAx (D9 r) v.size (C1 v r j) x y
theorem CeI.step{q:Nat}{v:VO}{r:RY}{x y:Int}{i:Nat}{w W W':World}(h:CeI q v r x y i w W)(hb:Below W.heap.size W W'):CeI q v r x y i w W':=
 ⟨h.below.trans (hb.mono h.below.size),(hb.block _ (J5 h.wk)).trans h.wk,(hb.block _ (J5 h.at_)).trans h.at_,h.done⟩
theorem CeI.set{q:Nat}{v:VO}{r:RY}{x y:Int}{i:Nat}{w W:World}(h:CeI q v r x y i w W)(hi:i<3)(hq:w.heap.size≤q)(h0:0≤cAx (D9 r) v.size (C1 v r i) x y):CeI q v r x y (i+1) w (W.setCell ⟨q+1,i,none⟩ (.int .i64 (cAx (D9 r) v.size (C1 v r i) x y))):=
 ⟨h.below.setCell (p:=⟨q+1,i,none⟩) (show w.heap.size≤q+1 by omega) _,(Q6 W ⟨q+1,i,none⟩ q _ (by show q≠q+1;omega)).trans h.wk,by
  have h1:=Q4 W (q+1) i _ _ (.int .i64 (cAx (D9 r) v.size (C1 v r i) x y)) h.at_
  rw[kH3 hi] at h1
  exact h1,fun j hj=>by
  by_cases e:j=i
  ·subst e;exact h0
  ·exact h.done j (by omega)⟩
theorem jN3(v:VO)(r:RY)(x y:Int)(w:World)(hv:v.Ok)(hr:r.Ok)(hx: -1≤x∧x≤43200000000)(hy: -1≤y∧y≤43200000000):
  Calls Tryz.prog 135 #[U0 v r,.int .i64 x,.int .i64 y] w fun e w'=>e= .returned (.int .i64 (P0 v r x y))∧Below w.heap.size w w':=by
 have HV:=Hd hv
 have HR:=Hd hr
 obtain⟨hx1,hx2⟩:=hx
 obtain⟨hy1,hy2⟩:=hy
 have HNO:=Hd (fun(i:Nat) (hi:i<3) (h:cAx (D9 r) v.size (C1 v r i) x y<0)=>kJ8 hi h)
 have HYES:=Hd (fun(h:∀j,j<3→0≤cAx (D9 r) v.size (C1 v r j) x y)=>jN4 h)
 have HCB:=Hd (qR7 hv hr x y)
 generalize P0 v r x y=RES at*
 unfold U0
 clear hv hr
 go_enter Tryz.func135,Tryz.ntmps135
 go_upto_region 2 with(fail)
 obtain⟨hVb,e1,e2⟩:=zE8 w (.cells #[.int .i64 v.nx,.int .i64 v.ny,.int .i64 v.nz,.int .i64 v.size,.int .i64 r.x,.int .i64 r.dx,.int .i64 v.nx,.int .i64 r.y,.int .i64 r.dy,.int .i64 v.ny,.int .i64 r.z,.int .i64 r.dz,.int .i64 v.nz,.int .i64 (D9 r:Int)] 135) (.cells #[.int .i64 0,.int .i64 0,.int .i64 0] 186)
 have HI:=Hd (show CeI w.heap.size v r x y 0 w ((w.alloc (.cells #[.int .i64 v.nx,.int .i64 v.ny,.int .i64 v.nz,.int .i64 v.size,.int .i64 r.x,.int .i64 r.dx,.int .i64 v.nx,.int .i64 r.y,.int .i64 r.dy,.int .i64 v.ny,.int .i64 r.z,.int .i64 r.dz,.int .i64 v.nz,.int .i64 (D9 r:Int)] 135)).alloc (.cells #[.int .i64 0,.int .i64 0,.int .i64 0] 186)) from⟨hVb,e1,e2,fun j hj=>by omega⟩)
 clear hVb e1 e2
 generalize World.alloc (World.alloc w _) _=V at*
 have m4:=Q0 _ _ 4 _ _ _ HI.out.wk
 have m5:=Q0 _ _ 5 _ _ _ HI.out.wk
 have m6:=Q0 _ _ 6 _ _ _ HI.out.wk
 have m7:=Q0 _ _ 7 _ _ _ HI.out.wk
 have m8:=Q0 _ _ 8 _ _ _ HI.out.wk
 have m9:=Q0 _ _ 9 _ _ _ HI.out.wk
 have m10:=Q0 _ _ 10 _ _ _ HI.out.wk
 have m11:=Q0 _ _ 11 _ _ _ HI.out.wk
 have m12:=Q0 _ _ 12 _ _ _ HI.out.wk
 go_wp2
 clear m4 m5 m6 m7 m8 m9 m10 m11 m12
 go_loopw [13] (fun s wr=>∃i:Nat,i≤3∧s= .int .i64 (i:Int)∧Hid (CeI w.heap.size v r x y i w wr)) (fun s _=>3-(intOf s).toNat)
 case atStart=>exact⟨0,by omega,rfl,HI⟩
 case round=>
  clear HI
  obtain⟨i,hi,rfl,HI⟩:=hrel
  by_cases hlt:i<3
  ·have hlt':(i:Int)<3:=by omega
   have hix:=xI5 v r hlt
   unfold AX.val at hix
   obtain⟨⟨g1,g2⟩,⟨g3,g4⟩,g5,g6⟩:=qG4 HV.out HR.out i
   obtain⟨hT1,hT2⟩:=T9 HR.out
   obtain⟨hS1,hS2⟩:=HV.out.size
   have HN:=Hd (HNO.out i hlt)
   have HSET:=Hd (HI.out.set hlt (Q1 _))
   have HCA:=Hd (show cAx (D9 r) v.size (C1 v r i) x y=if 2*(C1 v r i).b*(D9 r:Int)+(C1 v r i).t*(x+y)<0 then-1 else if(C1 v r i).c≤(2*(C1 v r i).b*(D9 r:Int)+(C1 v r i).t*(x+y)).tdiv (2*(D9 r:Int)*v.size) then-1 else(2*(C1 v r i).b*(D9 r:Int)+(C1 v r i).t*(x+y)).tdiv (2*(D9 r:Int)*v.size) from rfl)
   have hm1:=N3 (x:=2*(C1 v r i).b) (y:=(D9 r:Int)) (K:=200000) (M:=216000) (by decide) (by decide) (by omega) (by omega)
   have hm2:=N3 (x:=(C1 v r i).t) (y:=x+y) (K:=60) (M:=86400000000) (by decide) (by decide) (by omega) (by omega)
   have hm3:=N3 (x:=2*(D9 r:Int)) (y:=v.size) (K:=432000) (M:=1000) (by decide) (by decide) (by omega) (by omega)
   have hm4:0<2*(D9 r:Int)*v.size:=Int.mul_pos (by omega) (by omega)
   have a3:=Q0 _ _ 3 _ _ _ HI.out.wk
   have a13:=Q0 _ _ 13 _ _ _ HI.out.wk
   have lz:=(J5 HI.out.wk)
   have lz1:=(J5 HI.out.at_)
   generalize hcax:cAx (D9 r) v.size (C1 v r i) x y=CA at*
   generalize(C1 v r i).b=ab at*
   generalize(C1 v r i).t=at_ at*
   generalize(C1 v r i).c=ac at*
   go_upto_region 5 with(fail)
   have hb1:=B6 wr (.cells #[.int .i64 ab,.int .i64 at_,.int .i64 ac] 132)
   have hn1:=Q3 wr (.cells #[.int .i64 ab,.int .i64 at_,.int .i64 ac] 132)
   have HI1:=Hd (HI.out.step hb1)
   have HSET1:=Hd (fun(h:0≤CA)=>(HI1.out.set hlt (Q1 _) (by rw[hcax];exact h)))
   have hxq:=lz1
   clear HI HSET a3 a13 lz lz1 hb1 hix
   have lx:=(J5 hn1)
   generalize World.alloc wr _=V1 at*
   generalize wr.heap.size=xb at*
   have a3:=Q0 _ _ 3 _ _ _ HI1.out.wk
   have a13:=Q0 _ _ 13 _ _ _ HI1.out.wk
   obtain⟨x0,x1,x2⟩:=U4 hn1
   have HX:=Hd hn1
   have lz:=(J5 HI1.out.wk)
   have lz1:=(J5 HI1.out.at_)
   have z1:∃u,V1.cell? ⟨w.heap.size+1,i,none⟩=some u:=⟨_,by
    rw[Q0 _ _ i _ _ _ HI1.out.at_]
    exact Array.getElem?_eq_getElem (by simpa using hlt)⟩
   have zf:V1.frozen? ⟨w.heap.size+1,i,none⟩=false:=Z3 _ _ _ _ _ HI1.out.at_
   obtain⟨zu,z1⟩:=z1
   clear hn1
   have HCAX:=Hd hcax
   clear hcax
   generalize hs1:2*ab*(D9 r:Int)=s1 at*
   generalize hs2:x+y=s2 at*
   generalize hs3:at_*s2=s3 at*
   generalize hs4:2*(D9 r:Int)*v.size=s4 at*
   generalize hs5:s1+s3=s5 at*
   obtain⟨hq1,hq2⟩:=xE9 s5 s4 6000000000000 (by omega)
   have hd4:(s4==0)=false:=beq_eq_false_iff_ne.2 (by omega)
   by_cases hneg:s5<0
   ·have HE:=Hd (HN.out (by rw[HCA.out,if_pos hneg];decide))
    obtain rfl:=HE.out
    go_wp2
    go_ret
    exact⟨rfl,HI1.out.below⟩
   ·rw[if_neg hneg] at HCA
    have hq0:0≤s5.tdiv s4:=Int.tdiv_nonneg (by omega) (by omega)
    generalize hqq:s5.tdiv s4=qq at*
    by_cases hge:ac≤qq
    ·have HE:=Hd (HN.out (by rw[HCA.out,if_pos hge];decide))
     obtain rfl:=HE.out
     go_upto_region 9 with(fail)
     (have zs:=World.cell?_setCell_same' V1 ⟨w.heap.size+1,i,none⟩ (.int .i64 qq) (by rw[z1];rfl);have x2':=(X5 (Q6 V1 ⟨w.heap.size+1,i,none⟩ xb (.int .i64 qq) (by show xb≠w.heap.size+1;omega))).trans x2;have HB2:=Hd (HI1.out.below.setCell (p:=⟨w.heap.size+1,i,none⟩) (show w.heap.size≤w.heap.size+1 by omega) (.int .i64 qq));have lz1':w.heap.size+1<(V1.setCell ⟨w.heap.size+1,i,none⟩ (.int .i64 qq)).heap.size:=(by simpa using lz1);have lx':xb<(V1.setCell ⟨w.heap.size+1,i,none⟩ (.int .i64 qq)).heap.size:=(by simpa using lx);clear a3 a13 x0 x1 x2 lz z1 zf HX;generalize World.setCell V1 ⟨w.heap.size+1,i,none⟩ (.int .i64 qq)=V2 at*)
     (refine J4 (V2.heap.size) (by kernel_rfl) (by kernel_rfl) ?_;(repeat(first|go_big_quiet_step(fail)|quiet_step(fail)));refine X4 (wqn ?_);intro xq)
     have HB3:=Hd (HB2.out.trans ((K9.below xq).mono HB2.out.size))
     generalize K9.val xq=wq at*
     go_wp2
     go_ret
     exact⟨rfl,HB3.out⟩
    ·rw[if_neg hge] at HCA
     have hge':decide (ac≤qq)=false:=Q7 hge
     have HSET2:=Hd (HSET1.out (by rw[HCA.out];omega))
     rw[HCAX.out,HCA.out] at HSET2
     go_upto_region 9 with(fail)
     (have zs:=World.cell?_setCell_same' V1 ⟨w.heap.size+1,i,none⟩ (.int .i64 qq) (by rw[z1];rfl);have x2':=(X5 (Q6 V1 ⟨w.heap.size+1,i,none⟩ xb (.int .i64 qq) (by show xb≠w.heap.size+1;omega))).trans x2;have HB2:=Hd (HI1.out.below.setCell (p:=⟨w.heap.size+1,i,none⟩) (show w.heap.size≤w.heap.size+1 by omega) (.int .i64 qq));have lz1':w.heap.size+1<(V1.setCell ⟨w.heap.size+1,i,none⟩ (.int .i64 qq)).heap.size:=(by simpa using lz1);have lx':xb<(V1.setCell ⟨w.heap.size+1,i,none⟩ (.int .i64 qq)).heap.size:=(by simpa using lx);clear a3 a13 x0 x1 x2 lz z1 zf HX;generalize World.setCell V1 ⟨w.heap.size+1,i,none⟩ (.int .i64 qq)=V2 at*)
     (refine J4 (V2.heap.size) (by kernel_rfl) (by kernel_rfl) ?_;(repeat(first|go_big_quiet_step(fail)|quiet_step(fail)));refine X4 (wqn ?_);intro xq)
     have HI3:=Hd (HSET2.out.step (K9.below xq))
     generalize K9.val xq=wq at*
     go_wp2
     go_roundw
     case rel=>first|exact⟨i+1,by omega,by go_num,HI3⟩|((repeat apply Z9);exact⟨⟨i+1,by omega,by go_num,HI3⟩,rfl⟩)
     case measure=>simp[intOf];omega
  ·obtain rfl:i=3:=by omega
   have hlt':¬(3:Int)<3:=by omega
   have HE:=Hd (HYES.out HI.out.done)
   obtain⟨a0,a1⟩:=M7 HI.out.wk
   obtain⟨b0,b1,b2⟩:=U4 HI.out.at_
   have hb0: -1≤caI v r x y 3 0∧caI v r x y 3 0<12:=by
    have:=qZ9 (T:=(D9 r:Int)) (S:=v.size) (a:=C1 v r 0) (p:=x) (q:=y) (by have:=T9 HR.out;omega) HV.out.size.1 HV.out.x.1
    have h2:=HV.out.x
    show-1≤cAx (D9 r) v.size (C1 v r 0) x y∧cAx (D9 r) v.size (C1 v r 0) x y<12
    have h3:(C1 v r 0).c=v.nx:=rfl
    omega
   have hb1: -1≤caI v r x y 3 1∧caI v r x y 3 1<12:=by
    have:=qZ9 (T:=(D9 r:Int)) (S:=v.size) (a:=C1 v r 1) (p:=x) (q:=y) (by have:=T9 HR.out;omega) HV.out.size.1 HV.out.y.1
    have h2:=HV.out.y
    show-1≤cAx (D9 r) v.size (C1 v r 1) x y∧cAx (D9 r) v.size (C1 v r 1) x y<12
    have h3:(C1 v r 1).c=v.ny:=rfl
    omega
   have hb2: -1≤caI v r x y 3 2∧caI v r x y 3 2<12:=by
    have:=qZ9 (T:=(D9 r:Int)) (S:=v.size) (a:=C1 v r 2) (p:=x) (q:=y) (by have:=T9 HR.out;omega) HV.out.size.1 HV.out.z.1
    have h2:=HV.out.z
    show-1≤cAx (D9 r) v.size (C1 v r 2) x y∧cAx (D9 r) v.size (C1 v r 2) x y<12
    have h3:(C1 v r 2).c=v.nz:=rfl
    omega
   generalize caI v r x y 3 0=k0 at*
   generalize caI v r x y 3 1=k1 at*
   generalize caI v r x y 3 2=k2 at*
   have hx:=HV.out.x
   have hy:=HV.out.y
   have hm1:=N3 (x:=k2) (y:=v.ny) (K:=12) (M:=12) (by decide) (by decide) (by omega) (by omega)
   have hm2:=N3 (x:=k2*v.ny+k1) (y:=v.nx) (K:=156) (M:=12) (by decide) (by decide) (by omega) (by omega)
   generalize hs1:k2*v.ny=s1 at*
   generalize hs2:s1+k1=s2 at*
   generalize hs3:s2*v.nx=s3 at*
   obtain rfl:=HE.out
   have HBB:=Hd HI.out.below
   clear HI HNO HYES HCB
   go_wp2
   go_ret
   exact⟨rfl,HBB.out⟩
end
section
open Go.RowKit Go.Shelf
attribute [local go_sem] Oper.semAt_some
def A6(v:VO)(r:RY)(q:Nat)(W:World):Prop:=W.heap[q]?=some (.cells #[.int .i64 v.nx,.int .i64 v.ny,.int .i64 v.nz,.int .i64 v.size,.int .i64 r.x,.int .i64 r.dx,.int .i64 v.nx,.int .i64 r.y,.int .i64 r.dy,.int .i64 v.ny,.int .i64 r.z,.int .i64 r.dz,.int .i64 v.nz,.int .i64 (D9 r:Int)] 135)
theorem A6.lt{v:VO}{r:RY}{q:Nat}{W:World}(h:A6 v r q W):q<W.heap.size:=(J5 h)
theorem A6.step{v:VO}{r:RY}{q:Nat}{W W':World}(h:A6 v r q W)(hb:Below W.heap.size W W'):A6 v r q W':=(hb.block _ h.lt).trans h
theorem zL7(v:VO)(r:RY)(w:World):
  Calls Tryz.prog 134 #[U0 v r] w fun e w'=>e= .returned (.func (.func 167) #[] #[.pointer (some ⟨w.heap.size,0,none⟩)])∧A6 v r w.heap.size w'∧Below w.heap.size w w':=by
 unfold U0
 go_enter Tryz.func134,Tryz.ntmps134
 go_wp2
 go_ret
 exact⟨rfl,Q3 w _,B6 w _⟩
def enX(v:VO)(r:RY)(i:Nat):Array Value:= #[.int .i64 (B9 v r i)]
theorem jX8(v:VO)(r:RY)(hv:v.Ok)(hr:r.Ok)(q:Nat)(w:World)(hq:A6 v r q w):
  qI6 Tryz.prog 167 #[.pointer (some ⟨q,0,none⟩)] (enX v r) (fun b=>b=q) (fun _ _ _=>True) (fun pre x=>pre=List.range x∧∀j,j≤x→0≤B9 v r j) (fun xs=>∃m,IsM v r m∧xs=List.range (m+1)) (fun pre=>∃k,pre=List.range k) w:=by
 intro l J Jx W hW hJ hJx hY h0 N
 have HV:=Hd hv
 have HR:=Hd hr
 have HJ:=Hd hJ
 have HY:=Hd hY
 have hQW:=hq.step hW
 clear hY hJ hJx hv hr
 refine callsIn_of_wp Tryz.func167 rfl trivial ?_ rfl
 simp only[Tryz.ntmps167,List.size_toArray,List.length_cons,List.length_nil,Nat.reduceAdd,Nat.reduceSub,Array.replicate_succ,Array.replicate_zero,List.push_toArray,List.append_toArray,List.nil_append,List.cons_append]
 gi_wp2
 gi_loopw [3] (fun s3 wr=>∃(i:Nat) (O:Nat→Prop),s3= .int .i64 (B9 v r i)∧Hid ((∀j,j≤i→0≤B9 v r j)∧J (List.range i) O wr∧A6 v r q wr)) (fun s3 _=>(43200000001-intOf s3).toNat)
 case atStart=>exact⟨0,_,rfl,Hd ⟨fun j hj=>by rw[show j=0 by omega];exact Int.le_refl 0,h0,hQW⟩⟩
 case round=>
  clear h0 hQW
  obtain⟨i,O,rfl,HX⟩:=hrel
  obtain⟨hge,hj,hqw⟩:=HX.out
  have HGE:=Hd hge
  have HQ1:=Hd hqw
  obtain⟨hlo,hhi⟩:=I6 HV.out HR.out i
  obtain⟨fn,tmps,assign,body,hy,hR⟩:=HY.out _ i O wr hj trivial ⟨rfl,hge⟩ (N-1)
  unfold enX at hy
  clear HX hge hj hqw HY
  gi_wp2
  refine⟨fun h=>(by cases h),hR.mono ?_⟩
  rintro e W3 (⟨rfl,hj3,hk3⟩|⟨rfl,hjx3⟩)
  ·have HQ:=Hd (show A6 v r q W3 from(hk3.block q (.inr rfl)).trans HQ1.out)
   have HJ3:=Hd hj3
   clear hR hy hj3 hk3 HQ1
   generalize hat:B9 v r i=at_ at*
   have HAT:=Hd hat
   clear hat
   obtain⟨c0,c1,c2,c3,c4,c5,c6,c7,c8,c9,c10,c11,c12,c13⟩:=xM1 HQ.out
   gi_wp2
   clear c0 c1 c2 c3 c4 c5 c6 c7 c8 c9 c10 c11 c12 c13
   gi_loopw [4,14] (fun s4 s14 wx=>∃a:Nat,a≤3∧s14= .int .i64 (a:Int)∧s4= .int .i64 (nxA v r at_ a)∧Hid (Below W3.heap.size W3 wx)) (fun _ s14 _=>3-(intOf s14).toNat)
   case atStart=>exact⟨0,by omega,rfl,rfl,Hd (Q2 _ _)⟩
   case round=>
    obtain⟨a,ha,rfl,rfl,HB⟩:=hrel
    by_cases hlt:a<3
    ·have hlt':(a:Int)<3:=by omega
     have hix:=xI5 v r hlt
     obtain⟨⟨g1,g2⟩,⟨g3,g4⟩,g5,g6⟩:=qG4 HV.out HR.out a
     have HWH:=Hd (fun(W:World) (p:Int) (ht:(C1 v r a).t≠0) (hp: -100000≤p∧p≤100000)=>xF3 v r (C1 v r a) p W HR.out ht ⟨g1,g2⟩ hp)
     have HNX:=Hd (show nxA v r at_ (a+1)=if(C1 v r a).t=0 then nxA v r at_ a else nxK (fun k=>whF (D9 r) (C1 v r a) ((k:Int)*v.size)) at_ ((C1 v r a).c.toNat+1) (nxA v r at_ a) from rfl)
     have HPB:=Hd (fun(k:Nat) (hk:k≤(C1 v r a).c.toNat)=>zX6 HV.out HR.out a k hk)
     have HQx:=Hd (HQ.out.step HB.out)
     unfold AX.val at hix HWH
     unfold U0 at HWH
     by_cases ht0:(C1 v r a).t=0
     ·rw[if_pos ht0] at HNX
      generalize(C1 v r a).b=ab at*
      generalize(C1 v r a).t=at2 at*
      generalize(C1 v r a).c=ac at*
      subst ht0
      have HB2:=Hd (HB.out.trans ((B6 wr (.cells #[.int .i64 ab,.int .i64 0,.int .i64 ac] 132)).mono HB.out.size))
      gi_wp2
      go_roundw
      case rel=>first|exact⟨a+1,by omega,by go_num,by rw[HNX.out],HB2⟩|((repeat apply Z9);exact⟨⟨a+1,by omega,by go_num,by rw[HNX.out],HB2⟩,rfl⟩)
      case measure=>simp[intOf];omega
     ·rw[if_neg ht0] at HNX
      gi_upto_region 6 with(fail)
      have hb1:=B6 wr (.cells #[.int .i64 (C1 v r a).b,.int .i64 (C1 v r a).t,.int .i64 (C1 v r a).c] 132)
      have hn1:=Q3 wr (.cells #[.int .i64 (C1 v r a).b,.int .i64 (C1 v r a).t,.int .i64 (C1 v r a).c] 132)
      have HB1:=Hd (HB.out.trans (hb1.mono HB.out.size))
      have HQ1:=Hd (HQx.out.step hb1)
      have HAX:=Hd hn1
      clear HB HQx hb1 hn1 hix
      generalize World.alloc wr _=V1 at*
      generalize wr.heap.size=xb at*
      obtain⟨ab,hab⟩:∃b,(C1 v r a).b=b:=⟨_,rfl⟩
      obtain⟨at2,hat2⟩:∃b,(C1 v r a).t=b:=⟨_,rfl⟩
      obtain⟨ac,hac⟩:∃b,(C1 v r a).c=b:=⟨_,rfl⟩
      rw[hab,hat2,hac] at HAX HWH
      rw[hac] at g5 g6 HNX HPB
      rw[hat2] at ht0
      rw[hab,hat2,hac]
      have x1:=Q0 _ _ 1 _ _ _ HAX.out
      have x2:=Q0 _ _ 2 _ _ _ HAX.out
      have ht0b:(at2==0)=false:=beq_eq_false_iff_ne.2 ht0
      have hC:((ac.toNat:Nat):Int)=ac:=by omega
      have hcl:ac.toNat≤12:=by omega
      have HPC:=Hd hC
      generalize ac.toNat=C at*
      subst hC
      gi_wp2
      clear x1 x2
      gi_loopw [4,23] (fun s4 s23 wy=>∃k:Nat,k≤C+1∧s23= .int .i64 (k:Int)∧s4= .int .i64 (nxK (fun k=>whF (D9 r) (C1 v r a) ((k:Int)*v.size)) at_ k (nxA v r at_ a))∧Hid (Below V1.heap.size V1 wy)) (fun _ s23 _=>C+1-(intOf s23).toNat)
      case atStart=>exact⟨0,by omega,rfl,rfl,Hd (Q2 _ _)⟩
      case round=>
       obtain⟨k,hk,rfl,rfl,HB⟩:=hrel
       by_cases hkc:k<C+1
       ·have hkc':(k:Int)<(C:Int)+1:=by omega
        obtain⟨hp1,hp2⟩:=HPB.out k (by omega)
        have HWK:=Hd (fun(W:World)=>HWH.out W ((k:Int)*v.size) ht0 (by omega))
        have HST:=Hd (show nxK (fun k=>whF (D9 r) (C1 v r a) ((k:Int)*v.size)) at_ (k+1) (nxA v r at_ a)=if at_<whF (D9 r) (C1 v r a) ((k:Int)*v.size)∧(nxK (fun k=>whF (D9 r) (C1 v r a) ((k:Int)*v.size)) at_ k (nxA v r at_ a)<0∨whF (D9 r) (C1 v r a) ((k:Int)*v.size)<nxK (fun k=>whF (D9 r) (C1 v r a) ((k:Int)*v.size)) at_ k (nxA v r at_ a)) then whF (D9 r) (C1 v r a) ((k:Int)*v.size) else nxK (fun k=>whF (D9 r) (C1 v r a) ((k:Int)*v.size)) at_ k (nxA v r at_ a) from rfl)
        generalize nxK (fun k=>whF (D9 r) (C1 v r a) ((k:Int)*v.size)) at_ k (nxA v r at_ a)=nb at*
        generalize whF (D9 r) (C1 v r a) ((k:Int)*v.size)=tt at*
        generalize hks:(k:Int)*v.size=ks at*
        have HQ2:=HQ1
        have HQ:=Hd (HQ1.out.step HB.out)
        have hax:=(HB.out.block _ (J5 HAX.out)).trans HAX.out
        obtain⟨x0,x1,x2⟩:=U4 hax
        obtain⟨c0,c1,c2,c3,c4,c5,c6,c7,c8,c9,c10,c11,c12,c13⟩:=xM1 HQ.out
        clear hax HWH HPB HNX
        by_cases h1:at_<tt
        ·by_cases h2:nb<0
         ·have HS:=Hd (HST.out.trans (if_pos ⟨h1,.inl h2⟩))
          clear HST
          (gi_wp2_with(refine⟨trivial,fun h=>(by cases h),?_⟩;with_reducible refine(callsIn_wide.2 (HWK.out _)).mono ?_;rintro e w' ⟨rfl,hb⟩);have HB2:=Hd (HB.out.trans (hb.mono HB.out.size));go_roundw;(case rel=>first|exact⟨k+1,by omega,by go_num,by rw[HS.out],HB2⟩|((repeat apply Z9);exact⟨⟨k+1,by omega,by go_num,by rw[HS.out],HB2⟩,rfl⟩));(case measure=>(simp[intOf];omega)))
         ·by_cases h3:tt<nb
          ·have HS:=Hd (HST.out.trans (if_pos ⟨h1,.inr h3⟩))
           clear HST
           (gi_wp2_with(refine⟨trivial,fun h=>(by cases h),?_⟩;with_reducible refine(callsIn_wide.2 (HWK.out _)).mono ?_;rintro e w' ⟨rfl,hb⟩);have HB2:=Hd (HB.out.trans (hb.mono HB.out.size));go_roundw;(case rel=>first|exact⟨k+1,by omega,by go_num,by rw[HS.out],HB2⟩|((repeat apply Z9);exact⟨⟨k+1,by omega,by go_num,by rw[HS.out],HB2⟩,rfl⟩));(case measure=>(simp[intOf];omega)))
          ·have HS:=Hd (HST.out.trans (if_neg (by omega)))
           clear HST
           (gi_wp2_with(refine⟨trivial,fun h=>(by cases h),?_⟩;with_reducible refine(callsIn_wide.2 (HWK.out _)).mono ?_;rintro e w' ⟨rfl,hb⟩);have HB2:=Hd (HB.out.trans (hb.mono HB.out.size));go_roundw;(case rel=>first|exact⟨k+1,by omega,by go_num,by rw[HS.out],HB2⟩|((repeat apply Z9);exact⟨⟨k+1,by omega,by go_num,by rw[HS.out],HB2⟩,rfl⟩));(case measure=>(simp[intOf];omega)))
        ·have HS:=Hd (HST.out.trans (if_neg (by omega)))
         clear HST
         (gi_wp2_with(refine⟨trivial,fun h=>(by cases h),?_⟩;with_reducible refine(callsIn_wide.2 (HWK.out _)).mono ?_;rintro e w' ⟨rfl,hb⟩);have HB2:=Hd (HB.out.trans (hb.mono HB.out.size));go_roundw;(case rel=>first|exact⟨k+1,by omega,by go_num,by rw[HS.out],HB2⟩|((repeat apply Z9);exact⟨⟨k+1,by omega,by go_num,by rw[HS.out],HB2⟩,rfl⟩));(case measure=>(simp[intOf];omega)))
       ·obtain rfl:k=C+1:=by omega
        have hkc':¬((C+1:Nat):Int)<(C:Int)+1:=by omega
        have HB2:=Hd (HB1.out.trans (HB.out.mono HB1.out.size))
        rw[←HNX.out]
        gi_wp2
        go_roundw
        case rel=>first|exact⟨a+1,by omega,by go_num,rfl,HB2⟩|((repeat apply Z9);exact⟨⟨a+1,by omega,by go_num,rfl,HB2⟩,rfl⟩)
        case measure=>simp[intOf];omega
    ·obtain rfl:a=3:=by omega
     have hlt':¬(3:Int)<3:=by omega
     have HNF:=Hd (show nxA v r at_ 3=nxF v r at_ from rfl)
     have hok:=zI3 HV.out HR.out (at_:=at_) (by omega)
     rw[HNF.out]
     have HAS:=Hd (show B9 v r (i+1)=nxF v r at_ from by rw[←HAT.out];rfl)
     have HJE:=Hd (show J (List.range (i+1)) (zI5 O W3 wr) wr from HJ.out _ _ _ _ _ (by rw[List.range_succ];exact HJ3.out) (U2.of_below HB.out))
     have HQE:=Hd (HQ.out.step HB.out)
     by_cases hneg:nxF v r at_<0
     ·have HIM:=Hd (show IsM v r i from⟨HGE.out,by rw[HAT.out];exact hneg⟩)
      generalize nxF v r at_=nx at*
      gi_wp2
      refine Z2 (results_none rfl _ _ _) rfl ?_
      exact⟨⟨_,rfl⟩,.inl ⟨_,⟨i,HIM.out,List.range_succ⟩,_,HJE.out⟩⟩
     ·have HGE2:=Hd (fun j (hj:j≤i+1)=>show 0≤B9 v r j from by
       by_cases e:j=i+1
       ·subst e;rw[HAS.out];omega
       ·exact HGE.out j (by omega))
      have hup:at_<nxF v r at_∧nxF v r at_≤43200000000:=by
       rcases hok with h|h
       ·omega
       ·exact⟨h.1,h.2.2⟩
      obtain⟨hu1,hu2⟩:=hup
      generalize nxF v r at_=nx at*
      gi_wp2
      go_roundw
      case rel=>first|exact⟨i+1,_,by rw[HAS.out],Hd ⟨HGE2.out,HJE.out,HQE.out⟩⟩|((repeat apply Z9);exact⟨⟨i+1,_,by rw[HAS.out],Hd ⟨HGE2.out,HJE.out,HQE.out⟩⟩,rfl⟩)
      case measure=>have hz:=HAT.out;simp[intOf];omega
  ·gi_wp2
   go_end0
   exact⟨⟨_,rfl⟩,.inr ⟨_,O,⟨i+1,by rw[List.range_succ]⟩,hjx3⟩⟩
end
section
open Go.RowKit
structure jZ3(v:VO)(g:Nat→Int)(gn gb:Nat)(W:World):Prop where
 n:(gn:Int)=v.nx*v.ny
 ok:∀i,i<gn→0≤g i∧g i≤12000
 box:∃ga gc,W.heap[gb]?=some (.cells #[.slice ga gn gc] 28)∧D0 W.heap.size W ga gn g
theorem jZ3.step{v:VO}{g:Nat→Int}{gn gb:Nat}{W W':World}(h:jZ3 v g gn gb W)(hb:Below W.heap.size W W'):jZ3 v g gn gb W':=by
 obtain⟨ga,gc,h1,h2⟩:=h.box
 exact⟨h.n,h.ok,ga,gc,(hb.block _ (J5 h1)).trans h1,(h2.below hb).up hb.size⟩
def qG2(pb:Nat)(p:PT)(W:World):Prop:=W.heap[pb]?=some (.cells #[.int .i64 p.cell,.int .i64 p.lo,.int .i64 p.hi] 193)
def xZ5(xb:Nat)(a:AX)(W:World):Prop:=W.heap[xb]?=some (.cells #[.int .i64 a.b,.int .i64 a.t,.int .i64 a.c] 132)
theorem qG2.step{pb:Nat}{p:PT}{W W':World}(h:qG2 pb p W)(hb:Below W.heap.size W W'):qG2 pb p W':=(hb.block _ (J5 h)).trans h
theorem xZ5.step{pb:Nat}{p:AX}{W W':World}(h:xZ5 pb p W)(hb:Below W.heap.size W W'):xZ5 pb p W':=(hb.block _ (J5 h)).trans h
theorem xO8{x:Int}(h1: -1000000000000000000≤x)(h2:x≤1000000000000000000):IntKind.i64.wrap x=x:=by simp[IntKind.wrap,IntKind.bits,IntKind.signed];omega
theorem zS1{v:VO}(hv:v.Ok){x:Int}(hx:0≤x):∃k:Nat,x.tmod (v.nx*v.ny)=(k:Int)∧(k:Int)<v.nx*v.ny:=by
 have h1:0<v.nx*v.ny:=Int.mul_pos (by have:=hv.x;omega) (by have:=hv.y;omega)
 have h2:=Int.tmod_nonneg (v.nx*v.ny) hx
 have h3:=Int.tmod_lt_of_pos x h1
 exact⟨(x.tmod (v.nx*v.ny)).toNat,by omega,by omega⟩
theorem B3{P:Program}{md:Region.Mode}{Q:Exit→Act→World→Prop}{S:World→Prop}{l:List Oper}{n f:Nat}{listed:Array Bool}{a:Act}{w:World}{v:Value}{oi:Oper}{X:Prop}(i:Nat)(q:X)(hi:l.toArray[i]?=some oi:=by rfl)(hB:TkB md l n listed i=true:=by kernel_rfl)(hQ:∀c a w,Q (.panic c) (a.put oi.dst v) w→Q (.panic c) a w:=by exact fun _ _ _ h=>h)(hy:YieldsIf P l.toArray S oi v a:=by(refine Or.inl ⟨by rfl,?_⟩;intro w' hSw;(try dsimp only at hSw);(obtain⟨s1,s2,s3,s4⟩:=hSw);have p0:=Q0 _ _ 0 _ _ _ s1;obtain⟨c0,c1,c2,c3,c4,c5,c6,c7,c8,c9,c10,c11,c12,c13⟩:=xM1 s2;have g0:=Q0 _ _ 0 _ _ _ s3;(try simp only[hng]);go_simp;(try with_reducible rfl)))(hS:S w:=by assumption)(hx:X→M5 P md l.toArray Q S n (C0 P md l Q n) f (listed.setIfInBounds i true) (a.put oi.dst v) w:=by(intro qq;refine hnm ?_;exact qq)):M5 P md l.toArray Q S n (C0 P md l Q n) (f+1) listed a w:=L9 hi hB hQ hy hS (hx q)
theorem qN6{V:World}{xb:Nat}{a b c x y z:Value}{t:TypeId}(h:V.heap[xb]?=some (.cells #[a,b,c] t)):(((V.setCell ⟨xb,0,none⟩ x).setCell ⟨xb,1,none⟩ y).setCell ⟨xb,2,none⟩ z).heap[xb]?=some (.cells #[x,y,z] t)∧(∀k,k≠xb→(((V.setCell ⟨xb,0,none⟩ x).setCell ⟨xb,1,none⟩ y).setCell ⟨xb,2,none⟩ z).heap[k]?=V.heap[k]?)∧(((V.setCell ⟨xb,0,none⟩ x).setCell ⟨xb,1,none⟩ y).setCell ⟨xb,2,none⟩ z).heap.size=V.heap.size:=by
 have h1:=Q4 V xb 0 _ _ x h
 have h2:=Q4 _ xb 1 _ _ y h1
 have h3:=Q4 _ xb 2 _ _ z h2
 exact⟨h3,fun k hk=>(Q6 _ ⟨xb,2,none⟩ k _ hk).trans ((Q6 _ ⟨xb,1,none⟩ k _ hk).trans (Q6 V ⟨xb,0,none⟩ k _ hk)),by simp⟩
theorem S0{P:Program}{md:Region.Mode}{Q:Exit→Act→World→Prop}{S:World→Prop}{l:List Oper}{n f:Nat}{listed:Array Bool}{a:Act}{w:World}{v:Value}{oi:Oper}{X:Prop}(i:Nat)(q:X)(hi:l.toArray[i]?=some oi:=by rfl)(hB:TkB md l n listed i=true:=by kernel_rfl)(hQ:∀c a w,Q (.panic c) (a.put oi.dst v) w→Q (.panic c) a w:=by exact fun _ _ _ h=>h)(hy:YieldsIf P l.toArray S oi v a:=by(refine Or.inl ⟨by rfl,?_⟩;intro w' hSw;(try dsimp only at hSw);(obtain⟨s1,s2,s3⟩:=hSw);obtain⟨p0,p1,p2⟩:=U4 s1;obtain⟨c0,c1,c2,c3,c4,c5,c6,c7,c8,c9,c10,c11,c12,c13⟩:=xM1 s2;obtain⟨x0,x1,x2⟩:=U4 s3;(try simp only[hng]);go_simp;(try with_reducible rfl)))(hS:S w:=by assumption)(hx:X→M5 P md l.toArray Q S n (C0 P md l Q n) f (listed.setIfInBounds i true) (a.put oi.dst v) w:=by(intro qq;refine hnm ?_;exact qq)):M5 P md l.toArray Q S n (C0 P md l Q n) (f+1) listed a w:=L9 hi hB hQ hy hS (hx q)
theorem jC6(v:VO)(r:RY)(ga:Option Addr)(gn gc:Nat)(w:World):
  Calls Tryz.prog 94 #[U0 v r,.slice ga gn gc] w fun e w'=>e= .returned (.func (.func 136) #[] #[.pointer (some ⟨w.heap.size+1,0,none⟩),.pointer (some ⟨w.heap.size,0,none⟩)])∧A6 v r w.heap.size w'∧w'.heap[w.heap.size+1]?=some (.cells #[.slice ga gn gc] 28)∧Below w.heap.size w w':=by
 unfold U0
 go_enter Tryz.func94,Tryz.ntmps94
 go_wp2
 go_ret
 obtain⟨h1,h2,h3⟩:=zE8 w (.cells #[.int .i64 v.nx,.int .i64 v.ny,.int .i64 v.nz,.int .i64 v.size,.int .i64 r.x,.int .i64 r.dx,.int .i64 v.nx,.int .i64 r.y,.int .i64 r.dy,.int .i64 v.ny,.int .i64 r.z,.int .i64 r.dz,.int .i64 v.nz,.int .i64 (D9 r:Int)] 135) (.cells #[.slice ga gn gc] 28)
 exact⟨rfl,h2,h3,h1⟩
theorem kK0(v:VO)(r:RY)(hv:v.Ok)(hr:r.Ok)(g:Nat→Int)(gn gb q:Nat)(p:PT)(hp:0≤p.cell∧p.cell≤1000)(w:World)(hq:A6 v r q w)(hg:jZ3 v g gn gb w):
  Calls Tryz.prog 136 #[p.val,.pointer (some ⟨gb,0,none⟩),.pointer (some ⟨q,0,none⟩)] w fun e w'=>e= .returned (qC2 v r g p).val∧Below w.heap.size w w':=by
 obtain⟨k,hk1,hk2⟩:=zS1 hv hp.1
 have hkn:k<gn:=by have:=hg.n;omega
 have HCU:=Hd (show qC2 v r g p=if 0<r.dz then⟨p.cell,p.lo,min p.hi (whF (D9 r) (C1 v r 2) (g k))⟩ else if r.dz<0 then⟨p.cell,max p.lo (whF (D9 r) (C1 v r 2) (g k)),p.hi⟩ else if g k≤r.z then⟨p.cell,p.lo,p.lo⟩ else p from by
  unfold qC2
  rw[hk1,Int.toNat_natCast])
 obtain⟨hg1,hg2⟩:=hg.ok k hkn
 obtain⟨ga,gc,hgb,hgi⟩:=hg.box
 obtain⟨gB,gO,hga,hgl,hgc⟩:=hgi.get hkn
 subst hga
 have HV:=Hd hv
 have HR:=Hd hr
 have HQ:=Hd hq
 have HGB:=Hd hgb
 have HGC:=Hd hgc
 have hm:=N3 (x:=v.nx) (y:=v.ny) (K:=12) (M:=12) (by decide) (by decide) (by have:=hv.x;omega) (by have:=hv.y;omega)
 obtain⟨hm1,hm2⟩: -144≤v.nx*v.ny∧v.nx*v.ny≤144:=by omega
 have hmz:v.nx*v.ny≠0:=by omega
 clear hm
 have hgq:=(J5 hgb)
 have HWH:=Hd (fun(W:World) (ht:r.dz≠0)=>xF3 v r (C1 v r 2) (g k) W hr ht (qG4 hv hr 2).1 (by omega))
 generalize qC2 v r g p=C at*
 generalize whF (D9 r) (C1 v r 2) (g k)=wh at*
 unfold AX.val U0 at HWH
 generalize g k=gk at*
 obtain⟨pc,pl,ph⟩:=p
 unfold PT.val at*
 dsimp only at*
 clear hg hv hr hgi hgb hgc hq
 generalize hnm1:v.nx*v.ny=nm at*
 have hwr:IntKind.i64.wrap nm=nm:=xO8 (by omega) (by omega)
 have hwk:IntKind.i64.wrap ((k:Nat):Int)=(k:Int):=xO8 (by omega) (by omega)
 go_enter Tryz.func136,Tryz.ntmps136
 go_upto_region 1 with(fail)
 obtain⟨hVb,e1,e2⟩:=zE8 w (.cells #[.int .i64 pc,.int .i64 pl,.int .i64 ph] 193) (.cells #[.int .i64 0,.int .i64 0,.int .i64 0] 193)
 have hqz:=HQ.out.lt
 have HP:=Hd (show qG2 w.heap.size ⟨pc,pl,ph⟩ ((w.alloc (.cells #[.int .i64 pc,.int .i64 pl,.int .i64 ph] 193)).alloc (.cells #[.int .i64 0,.int .i64 0,.int .i64 0] 193)) from e1)
 have HZ:=Hd (show qG2 (w.heap.size+1) ⟨0,0,0⟩ ((w.alloc (.cells #[.int .i64 pc,.int .i64 pl,.int .i64 ph] 193)).alloc (.cells #[.int .i64 0,.int .i64 0,.int .i64 0] 193)) from e2)
 have HB:=Hd hVb
 have HQ1:=Hd (HQ.out.step hVb)
 have HG1:=Hd ((hVb.block _ hgq).trans HGB.out)
 have HG2:=Hd (((J9 hVb).1 gB (gO+k) hgl).trans HGC.out)
 clear hVb e1 e2 HQ HGB HGC
 generalize World.alloc (World.alloc w _) _=V at*
 go_cut [5,6] from 7 to 22 (fun s5 s6 wx=>s5= .int .i64 gk∧∃xb,s6= .pointer (some ⟨xb,0,none⟩)∧w.heap.size+1<xb∧Hid (xZ5 xb (C1 v r 2) wx∧qG2 w.heap.size ⟨pc,pl,ph⟩ wx∧qG2 (w.heap.size+1) ⟨0,0,0⟩ wx∧A6 v r q wx∧Below w.heap.size w wx))
 case first=>
  clear HWH HCU
  refine wp_region_any (by kernel_rfl) ?_
  change wpAny _ _ _ _ _ _ _ (World.drew V)
  have HP:=Hd (show qG2 w.heap.size ⟨pc,pl,ph⟩ V.drew from HP.out)
  have HZ:=Hd (show qG2 (w.heap.size+1) ⟨0,0,0⟩ V.drew from HZ.out)
  have HQ1:=Hd (show A6 v r q V.drew from HQ1.out)
  have HG1:=Hd (show V.drew.heap[gb]?=_ from HG1.out)
  have HG2:=Hd (show V.drew.cell? ⟨gB,gO+k,none⟩=_ from HG2.out)
  have HB:=Hd (show Below w.heap.size w V.drew from HB.out.drew)
  generalize World.drew V=Vd at*
  refine B1 18 18 (fun w'=>qG2 w.heap.size ⟨pc,pl,ph⟩ w'∧A6 v r q w'∧w'.heap[gb]?=some (.cells #[.slice (some ⟨gB,gO,none⟩) gn gc] 28)∧w'.cell? ⟨gB,gO+k,none⟩=some (.int .i64 gk)) (by kernel_rfl) ⟨HP.out,HQ1.out,HG1.out,HG2.out⟩ (fun hS=> ?_)
  refine B3 0 ?_
  refine B3 1 ?_
  refine B3 2 ?_
  refine B3 3 ?_
  refine B3 4 ?_
  refine B3 5 ?_
  refine B3 6 ?_
  refine B3 7 ?_
  refine B3 8 ?_
  refine B3 9 ?_
  refine B3 10 ?_
  refine B3 11 ?_
  refine B3 12 ?_
  refine B3 13 ?_
  refine B3 14 ?_
  refine B3 15 ?_
  refine V7 16 ?_
  refine V8 rfl (fun K hK=> ?_)
  (try simp only[hng])
  go_simp
  have hb:=B6 Vd (.cells #[.int .i64 0,.int .i64 0,.int .i64 0] 132)
  have hn:=Q3 Vd (.cells #[.int .i64 0,.int .i64 0,.int .i64 0] 132)
  have HP2:=Hd (HP.out.step hb)
  have HZ2:=Hd (HZ.out.step hb)
  have HQ2:=Hd (HQ1.out.step hb)
  have HB2:=Hd (HB.out.trans (hb.mono HB.out.size))
  refine hK.out _ _ ⟨HP2.out,HQ2.out,(hb.block _ (by have:=HB.out.size;omega)).trans HG1.out,((J9 hb).1 gB (gO+k) (by have:=HB.out.size;omega)).trans HG2.out⟩ (fun hS=> ?_)
  have HXN:=Hd hn
  have hz1:=(J5 HZ.out)
  have hxb:w.heap.size+1<Vd.heap.size:=hz1
  clear hK K hb hn
  generalize World.alloc Vd _=V2 at*
  generalize Vd.heap.size=xb at*
  refine hnm ?_
  refine B3 17 ?_
  change C0 _ _ _ _ _ _ _ _
  refine⟨by kernel_rfl,?_⟩
  simp only[X7,List.drop_zero]
  obtain⟨z0,z1,z2⟩:=U4 HXN.out
  obtain⟨f0,f1,f2⟩:=fr3 HXN.out
  go_wp2
  go_meet
  obtain⟨q1,q2,q3⟩:=qN6 (x:= .int .i64 r.z) (y:= .int .i64 r.dz) (z:= .int .i64 v.nz) HXN.out
  have hqx:q≠xb:=by omega
  have hBW:Below w.heap.size w (((V2.setCell ⟨xb,0,none⟩ (.int .i64 r.z)).setCell ⟨xb,1,none⟩ (.int .i64 r.dz)).setCell ⟨xb,2,none⟩ (.int .i64 v.nz)):=((HB2.out.setCell (p:=⟨xb,0,none⟩) (show w.heap.size≤xb by omega) _).setCell (p:=⟨xb,1,none⟩) (show w.heap.size≤xb by omega) _).setCell (p:=⟨xb,2,none⟩) (show w.heap.size≤xb by omega) _
  exact⟨rfl,xb,rfl,hxb,Hd ⟨q1,(q2 _ (by omega)).trans HP2.out,(q2 _ (by omega)).trans HZ2.out,(q2 _ hqx).trans HQ2.out,hBW⟩⟩
 case rest=>
  clear HP HZ HQ1 HG1 HG2 HB
  obtain⟨rfl,xb,rfl,hxb,HX⟩:=hcut
  have HA:=Hd HX.out.1
  have HP:=Hd HX.out.2.1
  have HZ:=Hd HX.out.2.2.1
  have HQ:=Hd HX.out.2.2.2.1
  have HB:=Hd HX.out.2.2.2.2
  clear HX hk1 hwk hm1 hm2 hwr hnm1 hmz hk2 hkn
  have x0:=(Q0 _ _ 0 _ _ _ HA.out).trans (show _=some (Value.int .i64 r.z) from rfl)
  have x1:=(Q0 _ _ 1 _ _ _ HA.out).trans (show _=some (Value.int .i64 r.dz) from rfl)
  have x2:=(Q0 _ _ 2 _ _ _ HA.out).trans (show _=some (Value.int .i64 v.nz) from rfl)
  by_cases h1:0<r.dz
  ·rw[if_pos h1] at HCU
   have HWH2:=Hd (fun(W:World)=>HWH.out W (by omega))
   clear HWH
   go_upto_region 3 with(fail)
   clear x0 x1 x2
   rename World=>V3
   refine wp_region_any (by kernel_rfl) ?_
   change wpAny _ _ _ _ _ _ _ (World.drew V3)
   (have HP:=Hd (show qG2 w.heap.size ⟨pc,pl,ph⟩ V3.drew from HP.out);have HZ:=Hd (show qG2 (w.heap.size+1) ⟨0,0,0⟩ V3.drew from HZ.out);have HQ:=Hd (show A6 v r q V3.drew from HQ.out);have HA:=Hd (show xZ5 xb (C1 v r 2) V3.drew from HA.out);have HB:=Hd (show Below w.heap.size w V3.drew from HB.out.drew))
   generalize World.drew V3=Vd at*
   refine B1 7 7 (fun w'=>qG2 w.heap.size ⟨pc,pl,ph⟩ w'∧A6 v r q w'∧xZ5 xb (C1 v r 2) w') (by kernel_rfl) ⟨HP.out,HQ.out,HA.out⟩ (fun hS=> ?_)
   refine S0 0 ?_
   refine S0 1 ?_
   refine S0 2 ?_
   refine S0 3 ?_
   refine S0 4 ?_
   (refine V7 5 ?_;refine V8 rfl (fun K hK=> ?_);(try simp only[hng]);go_simp;refine(HWH2.out _).mono ?_;rintro e W2 ⟨rfl,hb⟩;dsimp only;have HPn:=Hd (HP.out.step hb);have HZn:=Hd (HZ.out.step hb);have HQn:=Hd (HQ.out.step hb);have HAn:=Hd (HA.out.step hb);have HBn:=Hd (HB.out.trans (hb.mono HB.out.size));refine hK.out _ _ ⟨HPn.out,HQn.out,HAn.out⟩ (fun hS=> ?_);clear hK K hb;have HP:=HPn;have HZ:=HZn;have HQ:=HQn;have HA:=HAn;have HB:=HBn;refine hnm ?_)
   refine V7 6 ?_
   refine V8 rfl (fun K hK=> ?_)
   (try simp only[hng])
   go_simp
   rw[show(if wh<ph then wh else ph)=min ph wh from by split<;>omega]
   refine hK.out _ _ ⟨HP.out,HQ.out,HA.out⟩ (fun hS=> ?_)
   clear hK K
   refine hnm ?_
   change C0 _ _ _ _ _ _ _ _
   refine⟨by kernel_rfl,?_⟩
   simp only[X7,List.drop_zero]
   generalize min ph wh=mn at*
   (obtain⟨p0,p1,p2⟩:=U4 HP.out;have f1:=Z3 _ _ 1 _ _ HP.out;have f2:=Z3 _ _ 2 _ _ HP.out;have HPs:=Hd (Q4 W2 w.heap.size 2 _ _ (.int .i64 mn) HP.out);have HZs:=Hd ((Q6 W2 ⟨w.heap.size,2,none⟩ (w.heap.size+1) (.int .i64 mn) (by show w.heap.size+1≠w.heap.size;omega)).trans HZ.out);have HBs:=Hd (HB.out.setCell (p:=⟨w.heap.size,2,none⟩) (Q1 _) (.int .i64 mn)))
   go_upto_region 8 with(fail)
   generalize World.setCell W2 _ _=Wn at*
   ((obtain⟨p0,p1,p2⟩:=U4 HPs.out;obtain⟨z0,z1,z2⟩:=U4 HZs.out;obtain⟨f0,f1,f2⟩:=fr3 HZs.out;go_wp2;obtain⟨q1,q2,q3⟩:=qN6 (x:= .int .i64 pc) (y:= .int .i64 pl) (z:= .int .i64 mn) HZs.out;obtain⟨r0,r1,r2⟩:=U4 q1;have hBW:=Hd (((HBs.out.setCell (p:=⟨w.heap.size+1,0,none⟩) (show w.heap.size≤w.heap.size+1 by omega) (.int .i64 pc)).setCell (p:=⟨w.heap.size+1,1,none⟩) (show w.heap.size≤w.heap.size+1 by omega) (.int .i64 pl)).setCell (p:=⟨w.heap.size+1,2,none⟩) (show w.heap.size≤w.heap.size+1 by omega) (.int .i64 mn));clear q1 q2 q3;generalize World.setCell (World.setCell (World.setCell Wn _ _) _ _) _ _=Wf at*;refine Z2 (v:= .agg #[.int .i64 pc,.int .i64 pl,.int .i64 mn]) (by simp[results,Tryz.results136,go_sem,r0,r1,r2]) rfl ?_;exact⟨by rw[HCU.out],hBW.out⟩))
  ·rw[if_neg h1] at HCU
   by_cases h2:r.dz<0
   ·rw[if_pos h2] at HCU
    have HWH2:=Hd (fun(W:World)=>HWH.out W (by omega))
    clear HWH
    go_upto_region 5 with(fail)
    clear x0 x1 x2
    rename World=>V3
    refine wp_region_any (by kernel_rfl) ?_
    change wpAny _ _ _ _ _ _ _ (World.drew V3)
    (have HP:=Hd (show qG2 w.heap.size ⟨pc,pl,ph⟩ V3.drew from HP.out);have HZ:=Hd (show qG2 (w.heap.size+1) ⟨0,0,0⟩ V3.drew from HZ.out);have HQ:=Hd (show A6 v r q V3.drew from HQ.out);have HA:=Hd (show xZ5 xb (C1 v r 2) V3.drew from HA.out);have HB:=Hd (show Below w.heap.size w V3.drew from HB.out.drew))
    generalize World.drew V3=Vd at*
    refine B1 7 7 (fun w'=>qG2 w.heap.size ⟨pc,pl,ph⟩ w'∧A6 v r q w'∧xZ5 xb (C1 v r 2) w') (by kernel_rfl) ⟨HP.out,HQ.out,HA.out⟩ (fun hS=> ?_)
    refine S0 0 ?_
    refine S0 1 ?_
    refine S0 2 ?_
    refine S0 3 ?_
    refine S0 4 ?_
    (refine V7 5 ?_;refine V8 rfl (fun K hK=> ?_);(try simp only[hng]);go_simp;refine(HWH2.out _).mono ?_;rintro e W2 ⟨rfl,hb⟩;dsimp only;have HPn:=Hd (HP.out.step hb);have HZn:=Hd (HZ.out.step hb);have HQn:=Hd (HQ.out.step hb);have HAn:=Hd (HA.out.step hb);have HBn:=Hd (HB.out.trans (hb.mono HB.out.size));refine hK.out _ _ ⟨HPn.out,HQn.out,HAn.out⟩ (fun hS=> ?_);clear hK K hb;have HP:=HPn;have HZ:=HZn;have HQ:=HQn;have HA:=HAn;have HB:=HBn;refine hnm ?_)
    refine V7 6 ?_
    refine V8 rfl (fun K hK=> ?_)
    (try simp only[hng])
    go_simp
    rw[show(if pl<wh then wh else pl)=max pl wh from by split<;>omega]
    refine hK.out _ _ ⟨HP.out,HQ.out,HA.out⟩ (fun hS=> ?_)
    clear hK K
    refine hnm ?_
    change C0 _ _ _ _ _ _ _ _
    refine⟨by kernel_rfl,?_⟩
    simp only[X7,List.drop_zero]
    generalize max pl wh=mn at*
    (obtain⟨p0,p1,p2⟩:=U4 HP.out;have f1:=Z3 _ _ 1 _ _ HP.out;have f2:=Z3 _ _ 2 _ _ HP.out;have HPs:=Hd (Q4 W2 w.heap.size 1 _ _ (.int .i64 mn) HP.out);have HZs:=Hd ((Q6 W2 ⟨w.heap.size,1,none⟩ (w.heap.size+1) (.int .i64 mn) (by show w.heap.size+1≠w.heap.size;omega)).trans HZ.out);have HBs:=Hd (HB.out.setCell (p:=⟨w.heap.size,1,none⟩) (Q1 _) (.int .i64 mn)))
    go_upto_region 8 with(fail)
    generalize World.setCell W2 _ _=Wn at*
    ((obtain⟨p0,p1,p2⟩:=U4 HPs.out;obtain⟨z0,z1,z2⟩:=U4 HZs.out;obtain⟨f0,f1,f2⟩:=fr3 HZs.out;go_wp2;obtain⟨q1,q2,q3⟩:=qN6 (x:= .int .i64 pc) (y:= .int .i64 mn) (z:= .int .i64 ph) HZs.out;obtain⟨r0,r1,r2⟩:=U4 q1;have hBW:=Hd (((HBs.out.setCell (p:=⟨w.heap.size+1,0,none⟩) (show w.heap.size≤w.heap.size+1 by omega) (.int .i64 pc)).setCell (p:=⟨w.heap.size+1,1,none⟩) (show w.heap.size≤w.heap.size+1 by omega) (.int .i64 mn)).setCell (p:=⟨w.heap.size+1,2,none⟩) (show w.heap.size≤w.heap.size+1 by omega) (.int .i64 ph));clear q1 q2 q3;generalize World.setCell (World.setCell (World.setCell Wn _ _) _ _) _ _=Wf at*;refine Z2 (v:= .agg #[.int .i64 pc,.int .i64 mn,.int .i64 ph]) (by simp[results,Tryz.results136,go_sem,r0,r1,r2]) rfl ?_;exact⟨by rw[HCU.out],hBW.out⟩))
   ·rw[if_neg h2] at HCU
    clear HWH
    have p1:=Q0 _ _ 1 _ _ _ HP.out
    by_cases h3:gk≤r.z
    ·rw[if_pos h3] at HCU
     rename World=>W2
     (obtain⟨p0,p1,p2⟩:=U4 HP.out;have f1:=Z3 _ _ 1 _ _ HP.out;have f2:=Z3 _ _ 2 _ _ HP.out;have HPs:=Hd (Q4 W2 w.heap.size 2 _ _ (.int .i64 pl) HP.out);have HZs:=Hd ((Q6 W2 ⟨w.heap.size,2,none⟩ (w.heap.size+1) (.int .i64 pl) (by show w.heap.size+1≠w.heap.size;omega)).trans HZ.out);have HBs:=Hd (HB.out.setCell (p:=⟨w.heap.size,2,none⟩) (Q1 _) (.int .i64 pl)))
     go_upto_region 8 with(fail)
     generalize World.setCell W2 _ _=Wn at*
     ((obtain⟨p0,p1,p2⟩:=U4 HPs.out;obtain⟨z0,z1,z2⟩:=U4 HZs.out;obtain⟨f0,f1,f2⟩:=fr3 HZs.out;go_wp2;obtain⟨q1,q2,q3⟩:=qN6 (x:= .int .i64 pc) (y:= .int .i64 pl) (z:= .int .i64 pl) HZs.out;obtain⟨r0,r1,r2⟩:=U4 q1;have hBW:=Hd (((HBs.out.setCell (p:=⟨w.heap.size+1,0,none⟩) (show w.heap.size≤w.heap.size+1 by omega) (.int .i64 pc)).setCell (p:=⟨w.heap.size+1,1,none⟩) (show w.heap.size≤w.heap.size+1 by omega) (.int .i64 pl)).setCell (p:=⟨w.heap.size+1,2,none⟩) (show w.heap.size≤w.heap.size+1 by omega) (.int .i64 pl));clear q1 q2 q3;generalize World.setCell (World.setCell (World.setCell Wn _ _) _ _) _ _=Wf at*;refine Z2 (v:= .agg #[.int .i64 pc,.int .i64 pl,.int .i64 pl]) (by simp[results,Tryz.results136,go_sem,r0,r1,r2]) rfl ?_;exact⟨by rw[HCU.out],hBW.out⟩))
    ·rw[if_neg h3] at HCU
     rename World=>Wn
     have HPs:=HP
     have HZs:=HZ
     have HBs:=HB
     go_upto_region 8 with(fail)
     ((obtain⟨p0,p1,p2⟩:=U4 HPs.out;obtain⟨z0,z1,z2⟩:=U4 HZs.out;obtain⟨f0,f1,f2⟩:=fr3 HZs.out;go_wp2;obtain⟨q1,q2,q3⟩:=qN6 (x:= .int .i64 pc) (y:= .int .i64 pl) (z:= .int .i64 ph) HZs.out;obtain⟨r0,r1,r2⟩:=U4 q1;have hBW:=Hd (((HBs.out.setCell (p:=⟨w.heap.size+1,0,none⟩) (show w.heap.size≤w.heap.size+1 by omega) (.int .i64 pc)).setCell (p:=⟨w.heap.size+1,1,none⟩) (show w.heap.size≤w.heap.size+1 by omega) (.int .i64 pl)).setCell (p:=⟨w.heap.size+1,2,none⟩) (show w.heap.size≤w.heap.size+1 by omega) (.int .i64 ph));clear q1 q2 q3;generalize World.setCell (World.setCell (World.setCell Wn _ _) _ _) _ _=Wf at*;refine Z2 (v:= .agg #[.int .i64 pc,.int .i64 pl,.int .i64 ph]) (by simp[results,Tryz.results136,go_sem,r0,r1,r2]) rfl ?_;exact⟨by rw[HCU.out],hBW.out⟩))
end
section
open Go.RowKit Go.Shelf
def zV8(R:Nat→Prop)(w0:World)(N:Nat)(T:(Nat→Prop)→List Nat→World→Prop)(xs:List Nat)(O:Nat→Prop)(W:World):Prop:=
 ∃X,zJ3 R X O W∧T X xs W∧Below w0.heap.size w0 W∧(∀b,O b→N≤b)∧(∀b,X b→w0.heap.size≤b)∧N≤W.heap.size
theorem zV8.abide{R:Nat→Prop}{w0:World}{N:Nat}(hN:w0.heap.size≤N){T:(Nat→Prop)→List Nat→World→Prop}(hT:∀X xs W W',T X xs W→(∀b,X b→W'.heap[b]?=W.heap[b]?)→T X xs W'):zN6 (zV8 R w0 N T):=by
 rintro xs O W O' W' ⟨X,hm,ht,hb,hO,hX,hz⟩ tn
 have hk:∀b,X b→W'.heap[b]?=W.heap[b]? :=fun b hx=>tn.block b (hm.lt hx) (hm.off b hx)
 refine⟨X,⟨fun b hx h1=> ?_,hm.rest,fun b hx=> ?_⟩,hT _ _ _ _ ht hk,hb.trans (tn.below hb.size (fun b h1=>Q5 hN (hO b h1))),fun b h1=> ?_,hX,Q5 hz tn.size⟩
 ·rcases(tn.own b).1 h1 with h2|h2
  ·exact hm.off b hx h2
  ·have:=hm.lt hx;omega
 ·obtain⟨o,h1,h2⟩:=hm.cells b hx
  exact⟨o,(hk b hx).trans h1,h2⟩
 ·rcases(tn.own b).1 h1 with h2|h2
  ·exact hO b h2
  ·omega
theorem zV8.booked{R:Nat→Prop}{w0:World}{N B:Nat}(hB:w0.heap.size≤B){T:(Nat→Prop)→List Nat→World→Prop}(hT:∀X xs W W',T X xs W→(∀b,X b→W'.heap[b]?=W.heap[b]?)→T X xs W'):zU3 B (zV8 R w0 N T):=by
 rintro xs O W l o o' ⟨X,hm,ht,hb,hO,hX,hz⟩ hl ho hc
 have hne:∀b,X b→b≠l:=fun b hx e=>by
  obtain⟨u,h1,h2⟩:=hm.cells b hx
  rw[e,ho] at h1
  injection h1 with h1
  rw[←h1,hc] at h2
  cases h2
 have hk:∀b,X b→(W.putObj l o').heap[b]?=W.heap[b]? :=fun b hx=>World.putObj_heap_other (hne b hx)
 exact⟨X,⟨hm.off,hm.rest,fun b hx=>by
  obtain⟨u,h1,h2⟩:=hm.cells b hx
  exact⟨u,(hk b hx).trans h1,h2⟩⟩,hT _ _ _ _ ht hk,hb.trans ⟨rfl,rfl,rfl,by simp,fun b hbl=>World.putObj_heap_other (by omega)⟩,hO,hX,by simpa using hz⟩
def xT4(X:Nat→Prop)(T:(Nat→Prop)→List Nat→World→Prop)(Tx:Code→(Nat→Prop)→List Nat→World→Prop)(xs:List Nat)(W:World):Exit→Act→World→Prop
 | .normal,_,W'=>∃X',L8 X W W' X'∧T X' xs W'
 | .ret,_,W'=>∃X',L8 X W W' X'∧Tx .ret X' xs W'
 | .exit id,_,W'=>∃X',L8 X W W' X'∧Tx (.exit id) X' xs W'
 | .goto t,_,W'=>∃X',L8 X W W' X'∧Tx (.goto t) X' xs W'
 | .panic _,_,_=>False
 | .outgrown,_,_=>False
theorem kQ6{g:Operand}{ps:Array Tmp}{assign body:Code}{Q:Exit→Act→World→Prop}{a:Act}{w:World}(v:VO)(r:RY)(hv:v.Ok)(hr:r.Ok)(q:Nat)(hq:A6 v r q w)
  (w0:World) (hw:Below w0.heap.size w0 w) (hg:a.eval g= .func (.func 167) #[] #[.pointer (some ⟨q,0,none⟩)]) (hps:ps.size=1)
  (X0:Nat→Prop) (hX0:∀b,X0 b→w0.heap.size≤b∧b≠q∧∃o,w.heap[b]?=some o∧o.isCells=true)
  (T:(Nat→Prop)→List Nat→World→Prop) (hT:∀X xs W W',T X xs W→(∀b,X b→W'.heap[b]?=W.heap[b]?)→T X xs W')
  (h0:T X0 [] w) (a1:Nat→Act)
  (hassign:∀(l:Nat) (x:Nat) (W:World) (K:Act→World→Prop),K (a1 x) W→assign.wpIn (Fence.wide.inRound l) 4 Tryz.prog (Exit.then K (fun _ _ _=>False)) {tmps:=(ps.zip (enX v r x)).foldl (fun t (p,v)=>t.setIfInBounds p v) a.tmps,defers:=[]} W)
  (hbody:∀(l:Nat) (pre:List Nat) (x:Nat) (O X:Nat→Prop) (W:World),w.heap.size≤W.heap.size→zJ3 (fun b=>b=q) X O W→T X pre W→Below w0.heap.size w0 W→A6 v r q W→pre=List.range x→(∀j,j≤x→0≤B9 v r j)→body.wpIn (Fence.wide.inRound l) 4 Tryz.prog (xT4 X T (fun _ _ _ _=>False) (pre++[x]) W) (a1 x) W)
  (hdone:∀(D m:Nat) (X:Nat→Prop) (W:World),w.heap.size≤D→D<W.heap.size→¬X D→IsM v r m→T X (List.range (m+1)) W→Below w0.heap.size w0 W→A6 v r q W→W.heap[D]?=some (.deferred (some []))→Q .normal {a with defers:={target:= .collected D,args:= #[]}::a.defers} W):
  (Code.rangeFunc g ps assign body).wp Tryz.prog Q a w:=by
 refine(wpIn_wide (n:=6)).1 ?_
 have hN:w0.heap.size≤w.heap.size:=hw.size
 have hR:∀b,b=q→b<w.heap.size:=fun b h=>by rw[h];exact hq.lt
 let I:List Nat→(Nat→Prop)→World→Prop:=fun xs O W=>zV8 (fun b=>b=q) w0 w.heap.size T xs O W∧(((∀b,b=q→W.heap[b]?=w.heap[b]?)∧w.heap.size≤W.heap.size)∧xs=List.range xs.length)
 let Ix:Code→List Nat→(Nat→Prop)→World→Prop:=fun c xs O W=>False
 have hRa:∀O W O' W',(∀b,O b→w.heap.size≤b)→((∀b,b=q→W.heap[b]?=w.heap[b]?)∧w.heap.size≤W.heap.size)→U2 O W O' W'→(∀b,b=q→W'.heap[b]?=w.heap[b]?)∧w.heap.size≤W'.heap.size:=fun O W O' W' hO h tn=>
  ⟨fun b hb=>(tn.block b (by have:=hR b hb;omega) (fun h1=>by have:=hO b h1;have:=hR b hb;omega)).trans (h.1 b hb),Q5 h.2 tn.size⟩
 refine qL9 (P:=Tryz.prog) (g:=g) hg (enters_of Tryz.func167 (by kernel_rfl) rfl) (jX8 v r hv hr q w hq) hR (Q2 _ _) (fun x=>by rw[hps];rfl)
  (fun _ _ _ _ _ _ _=>trivial) I Ix ?hI (fun c=>fun _ _ _ _ _ h _=>h) ?hIb (fun c=>fun _ _ _ _ _ _ h _ _ _=>h) ?h0 (fun x a' O W=>a'=a1 x) (fun _ _ _ _ _ _ h _=>h) ?hassign ?hbody ?hdone ?hstop
 case hI=>
  rintro xs O W O' W' ⟨h1,h2,hG⟩ tn
  obtain⟨X,hm,ht,hb,hO,hX,hz⟩:=id h1
  exact⟨zV8.abide hN hT _ _ _ _ _ h1 tn,hRa _ _ _ _ hO h2 tn,hG⟩
 case hIb=>
  rintro xs O W l o o' ⟨h1,h2,hG⟩ hl ho hc
  exact⟨zV8.booked hw.size hT _ _ _ _ _ _ h1 hl ho hc,⟨fun b hb=>(World.putObj_heap_other (by have:=hR b hb;omega)).trans (h2.1 b hb),by simpa using h2.2⟩,hG⟩
 case h0=>
  intro W hb
  have hk:∀b,X0 b→W.heap[b]?=w.heap[b]? :=fun b hx=>by
   obtain⟨_,_,o,h1,_⟩:=hX0 b hx
   exact hb.block b (J5 h1)
  exact⟨⟨X0,⟨fun b _ h=>h,fun b hx=>(hX0 b hx).2.1,fun b hx=>by
   obtain⟨_,_,o,h1,h2⟩:=hX0 b hx
   exact⟨o,(hk b hx).trans h1,h2⟩⟩,hT _ _ _ _ h0 hk,hw.trans (hb.mono hw.size),fun b h=>h.elim,fun b hx=>(hX0 b hx).1,hb.size⟩,⟨fun b h=>hb.block b (hR b h),hb.size⟩,rfl⟩
 case hassign=>
  rintro l pre x O W K hz hO hI hsh hK
  exact hassign l x W K (hK _ _ (KeepsFrom.refl _ _) (R3.refl _ _) hI rfl hsh)
 case hbody=>
  rintro l pre x a' O W hl hz hO ⟨⟨X,hm,ht,hb,hOn,hX,hzz⟩,⟨hrr,hww⟩,hG⟩ rfl hsh hnx
  have hOl:∀b,O b→b<W.heap.size:=fun b h=>(hO b h).2
  have hRl:∀b,b=q→b<W.heap.size:=fun b h=>by have:=hR b h;omega
  have hX':∀W' X',L8 X W W' X'→∀b,X' b→w0.heap.size≤b:=fun W' X' st b hx=>(st.new b hx).elim (hX b) (fun h=>by have:=hb.size;omega)
  refine wpIn_mono (hbody l pre x O X W hww hm ht hb ((hrr q rfl).trans hq) hnx.1 hnx.2) ?_
  intro e a' W' hp
  cases e with
  |normal=>
   obtain⟨X',st,h1⟩:=hp
   have mn:=st.mine hm hOl hRl
   exact⟨st.keepsFrom hm,st.kept hm hOl hRl,⟨X',mn,h1,st.bel hX hb,hOn,hX' _ _ st,Q5 hzz st.size⟩,⟨fun b h=>(st.block b (hRl b h) (fun hx=>hm.rest b hx h)).trans (hrr b h),Q5 hww st.size⟩,by rw[hnx.1,←List.range_succ];simp⟩
  |ret=>obtain⟨X',st,h1⟩:=hp;exact h1.elim
  |exit id=>obtain⟨X',st,h1⟩:=hp;exact h1.elim
  |goto t=>obtain⟨X',st,h1⟩:=hp;exact h1.elim
  |panic ch=>exact hp.elim
  |outgrown=>exact hp.elim
 case hdone=>
  rintro D xs O W hD hDO ⟨m,hM,rfl⟩ ⟨⟨X,hm,ht,hb,hOn,hX,hzz⟩,⟨hrr,hww⟩,hG⟩ hDD
  have hlt:D<W.heap.size:=(J5 hDD)
  refine hdone D m X W hD hlt (fun hx=> ?_) hM ht hb ((hrr q rfl).trans hq) hDD
  obtain⟨u,h1,h2⟩:=hm.cells D hx
  rw[hDD] at h1
  injection h1 with h1
  rw[←h1] at h2
  cases h2
 case hstop=>
  rintro D c pre O W hD hDO hxs h hDD
  exact h.elim
end
end Go.Proofs.YtmncaipgefbalaaGreatDoor
