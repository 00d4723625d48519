/- Part of the proof of the claim. -/
import Derived.Test.YtmncaipgefbalaaGreatDoorQaf
import Derived.LaidMore
set_option maxRecDepth 100000
set_option maxHeartbeats 8000000
set_option linter.unusedVariables false
set_option linter.unusedSimpArgs false
namespace Go.Proofs.YtmncaipgefbalaaGreatDoor
section
open Go Go.RowKit
attribute [local go_sem] Oper.semAt_some
structure qF8(db cb:Nat)(Ds:List Nat)(d:Nat→Int)(X:Nat→Prop)(pre:List SP)(W:World):Prop where
 xd:X db
 xc:X cb
 tab:W.rowIs db 202 40 (fun i=> .int .i64 (S3 d (pre.map SP.fr) i))
 chg:W.heap[cb]?=some (.cells #[.bool (qZ1 d (pre.map SP.fr))] 4)
 marks:∀D∈Ds,X D∧W.heap[D]?=some (.deferred (some []))
theorem qF8.keep{db cb:Nat}{Ds:List Nat}{d:Nat→Int}{X:Nat→Prop}{pre:List SP}{W W':World}(h:qF8 db cb Ds d X pre W)(hk:∀b,X b→W'.heap[b]?=W.heap[b]?):qF8 db cb Ds d X pre W':=
 ⟨h.xd,h.xc,h.tab.of_block (hk _ h.xd),(hk _ h.xc).trans h.chg,fun D hD=>⟨(h.marks D hD).1,(hk D (h.marks D hD).1).trans (h.marks D hD).2⟩⟩
theorem qZ6(W:World)(n:Nat):Below W.heap.size W (W.drewN n):=below_drewN (Q2 _ W) n
theorem qF8.hit{N db cb nq t:Nat}{R O:Nat→Prop}{Ds:List Nat}{d dd:Nat→Int}{cc:Bool}{X:Nat→Prop}{pre:List SP}{x:SP}{W:World}{v:Int}(hm:A3 N R X O W)(xd:X db)(xc:X cb)(hne:db≠cb)
  (h3:W.rowIs db 202 40 (fun i=> .int .i64 (dd i))) (h4:W.heap[cb]?=some (.cells #[.bool cc] 4)) (h5:∀D∈Ds,X D∧W.heap[D]?=some (.deferred (some [])))
  (h1:S3 d ((pre++[x]).map SP.fr)=jB2 dd t v) (h2:qZ1 d ((pre++[x]).map SP.fr)=true):
  ∃X',M6 N X W (((W.drewN nq).setCell ⟨db,t,none⟩ (.int .i64 v)).setCell ⟨cb,0,none⟩ (.bool true)) X'∧qF8 db cb Ds d X' (pre++[x]) (((W.drewN nq).setCell ⟨db,t,none⟩ (.int .i64 v)).setCell ⟨cb,0,none⟩ (.bool true)):=by
 have hr:(W.drewN nq).rowIs db 202 40 (fun i=> .int .i64 (dd i)):=h3.of_block (by simp)
 have hc:(W.drewN nq).heap[cb]?=some (.cells #[.bool cc] 4):=by simpa using h4
 refine⟨X,((M6.below hm (qZ6 W nq)).setCell xd _).setCell xc _,xd,xc,?_,?_,fun D hD=>⟨(h5 D hD).1,?_⟩⟩
 ·rw[h1]
  refine((hr.set t (.int .i64 v)).setOther (a:=⟨cb,0,none⟩) hne _).congr (fun i _=> ?_)
  unfold jB2
  split<;>rfl
 ·rw[h2]
  have:=Q4 _ cb 0 _ _ (.bool true) ((Q6 (W.drewN nq) ⟨db,t,none⟩ cb (.int .i64 v) (Ne.symm hne)).trans hc)
  simpa using this
 ·obtain⟨hx,hd⟩:=h5 D hD
  have n1:D≠cb:=fun e=>by rw[e,h4] at hd;cases hd
  have n2:D≠db:=fun e=>by
   obtain⟨c,hb,_⟩:=h3
   rw[e,hb] at hd;cases hd
  refine(Q6 _ ⟨cb,0,none⟩ D _ n1).trans ((Q6 _ ⟨db,t,none⟩ D _ n2).trans ?_)
  simpa using hd
theorem qF8.miss{N db cb nq:Nat}{R O:Nat→Prop}{Ds:List Nat}{d dd:Nat→Int}{cc:Bool}{X:Nat→Prop}{pre:List SP}{x:SP}{W:World}(hm:A3 N R X O W)(xd:X db)(xc:X cb)
  (h3:W.rowIs db 202 40 (fun i=> .int .i64 (dd i))) (h4:W.heap[cb]?=some (.cells #[.bool cc] 4)) (h5:∀D∈Ds,X D∧W.heap[D]?=some (.deferred (some [])))
  (h1:S3 d ((pre++[x]).map SP.fr)=dd) (h2:qZ1 d ((pre++[x]).map SP.fr)=cc):
  ∃X',M6 N X W (W.drewN nq) X'∧qF8 db cb Ds d X' (pre++[x]) (W.drewN nq):=by
 refine⟨X,M6.below hm (qZ6 W nq),xd,xc,?_,?_,fun D hD=>⟨(h5 D hD).1,by simpa using(h5 D hD).2⟩⟩
 ·rw[h1];exact h3.of_block (by simp)
 ·rw[h2];simpa using h4
def kE7(s:SP):Obj:= .cells #[.int .i64 s.tie,.bool s.bk,.int .i64 s.f,.int .i64 s.t,.int .i64 s.len] 159
theorem kD2(a:Option Addr)(N m c:Nat)(ts:Nat→TI)(vs:Nat→Int)(B q:Nat)(w:World)(hBw:B≤w.heap.size)(hq:qT6 B N a m c ts q w)(hql:q<w.heap.size)(hO:qG7 N m ts=true)(hA:T1 N m ts N vs=true):
  Calls Tryz.prog 66 #[.pointer (some ⟨q,0,none⟩)] w fun e w'=>e= .returned (.bool false)∧Below w.heap.size w w':=by
 have HW:=Hd hq
 have HSA:=Hd (fun W=>zZ1 q W)
 have HSQ:=Hd (fun qp W hb hp=>zT4 a N m c ts B q qp W hb hp hO)
 have HOK:=Hd (T8 hO)
 obtain⟨hw1,hw2,hw3⟩:=qA9 hO
 have HWO:=Hd hw1
 have HWN:=Hd hw2
 have HKP:=Hd (zA9 hA)
 have hN40:=(U9.1 hO).2.1
 have hm200:=(U9.1 hO).2.2
 have HR0:=Hd (qZ4.start ((K8 ts m).map SP.fr) N)
 clear hq hO hA hw1 hw2
 refine(callsIn_wide (n:=6)).1 ?_
 refine callsIn_of_wp_marks Tryz.func66 rfl trivial ?_ rfl
 simp only[Tryz.ntmps66,List.size_toArray,List.length_cons,List.length_nil,Nat.reduceAdd,Nat.reduceSub,Array.replicate_succ,Array.replicate_zero,List.push_toArray,List.append_toArray,List.nil_append,List.cons_append]
 refine wpIn_wide.2 ?_
 go_upto_region 2 with(fail)
 have HV:=Hd ((Q2 _ w).alloc (Q1 _) (.cells #[.int .i64 0,.int .i64 0,.int .i64 0,.int .i64 0,.int .i64 0,.int .i64 0,.int .i64 0,.int .i64 0,.int .i64 0,.int .i64 0,.int .i64 0,.int .i64 0,.int .i64 0,.int .i64 0,.int .i64 0,.int .i64 0,.int .i64 0,.int .i64 0,.int .i64 0,.int .i64 0,.int .i64 0,.int .i64 0,.int .i64 0,.int .i64 0,.int .i64 0,.int .i64 0,.int .i64 0,.int .i64 0,.int .i64 0,.int .i64 0,.int .i64 0,.int .i64 0,.int .i64 0,.int .i64 0,.int .i64 0,.int .i64 0,.int .i64 0,.int .i64 0,.int .i64 0,.int .i64 0] 202))
 have HX:=Hd (kS7 w 202)
 generalize World.alloc w _=V at*
 have k0:=(Q0 _ _ 0 _ _ _ (Y0 HW.out.box HV.out)).trans (show _=some (Value.int .i64 (N:Int)) from rfl)
 have hVl:=HV.out.size
 go_wp2
 clear k0
 have hN1:0<N:=by omega
 refine wp_loop_ghost_k (fun k a w'=>∃u1 u4 u5 u6 u7 u8 u9 u10 u13 u14 u15 u16 u17 u18 u19 u20 u21 u22 u23 u24 u25 u26 u27 u28 u29 u30 u31 u32 u33 u34 u35 u36:Value,∃(Ds:List Nat) (i:Nat) (d:Nat→Int),a=⟨#[.pointer (some ⟨q,0,none⟩),u1,.bool false,.pointer (some ⟨w.heap.size,0,none⟩),u4,u5,u6,u7,u8,u9,u10,.int .i64 (N:Int),.int .i64 (i:Int),u13,u14,u15,u16,u17,u18,u19,u20,u21,u22,u23,u24,u25,u26,u27,u28,u29,u30,u31,u32,u33,u34,u35,u36],marks Ds⟩∧i<N∧k=N-i∧Hid (qZ4 ((K8 ts m).map SP.fr) N i d)∧Hid (w'.rowIs w.heap.size 202 40 (fun j=> .int .i64 (d j)))∧Hid (Below w.heap.size w w')∧Hid (Ds.Nodup∧∀D∈Ds,w.heap.size<D∧D<w'.heap.size∧w'.heap[D]?=some (.deferred (some [])))) N ?h0 ?round
 case h0=>exact⟨_,_,_,_,_,_,_,_,_,_,_,_,_,_,_,_,_,_,_,_,_,_,_,_,_,_,_,_,_,_,_,_,[],0,fun _=>0,rfl,hN1,rfl,HR0,HX,HV,Hd ⟨by simp,fun D hD=>by cases hD⟩⟩
 case round=>
  rintro k0 a0 w1 hI J K hJ hK
  clear HV HX HR0
  obtain⟨u1,u4,u5,u6,u7,u8,u9,u10,u13,u14,u15,u16,u17,u18,u19,u20,u21,u22,u23,u24,u25,u26,u27,u28,u29,u30,u31,u32,u33,u34,u35,u36,Ds,i,d,rfl,hi,rfl,HR,HX,HB,HD⟩:=hI
  have hlt:(i:Int)<(N:Int):=by omega
  go_upto_region 5 with(fail)
  have hb1:=(Q2 _ w1).alloc (Q1 _) (.cells #[.bool false] 4)
  have hc1:=Q3 w1 (.cells #[.bool false] 4)
  have hx1:=HX.out.of_block (hb1.block _ HX.out.lt)
  have hd1:∀D∈Ds,w.heap.size<D∧D<w1.heap.size∧(w1.alloc (.cells #[.bool false] 4)).heap[D]?=some (.deferred (some [])):=fun D hD=>⟨(HD.out.2 D hD).1,(HD.out.2 D hD).2.1,(hb1.block _ (HD.out.2 D hD).2.1).trans (HD.out.2 D hD).2.2⟩
  have hdn:=HD.out.1
  have hwl:w.heap.size<w1.heap.size:=HX.out.lt
  have hbw:=HB.out.trans (hb1.mono HB.out.size)
  have hsz:(w1.alloc (.cells #[.bool false] 4)).heap.size=w1.heap.size+1:=by simp
  clear HX HB HD
  generalize World.alloc w1 _=W2 at*
  generalize w1.heap.size=cb at*
  clear hb1
  have HC1:=Hd hc1
  have HX1:=Hd hx1
  have HD1:=Hd hd1
  have HB1:=Hd hbw
  have HSZ:=Hd hsz
  clear hc1 hx1 hd1 hbw hsz
  go_wp2_with(go_at_call 67;refine(HSA.out _).mono ?_;rintro e W3 ⟨rfl,hbx,hb3⟩;have HBX:=Hd hbx;have HB3:=Hd hb3;clear hbx hb3)
  have hsz:=HSZ.out
  have hB3:=HB3.out
  have hw03:Below w.heap.size w W3:=HB1.out.trans (hB3.mono HB1.out.size)
  have hq3l:W2.heap.size<W3.heap.size:=J5 HBX.out
  have hQ3:qX7 B N a m c ts q W2.heap.size W3:=⟨HW.out.below hBw hw03,HBX.out⟩
  have hRlt:∀b,WbR a m q W2.heap.size b→b<W3.heap.size∧(b=W2.heap.size∨b<w.heap.size):=by
   rintro b (h|h|⟨h0,o,h⟩)
   ·have:=hw03.size;exact⟨by omega,.inr (by omega)⟩
   ·exact⟨by omega,.inl h⟩
   ·rcases HW.out.rows with h1|⟨b',o',h1,h2,_⟩
    ·exact absurd h1 h0
    ·rw[h] at h1;injection h1 with h1;injection h1 with h1
     have:=hw03.size;exact⟨by omega,.inr (by omega)⟩
  have hz23:=hB3.size
  have hz03:=hw03.size
  have hT0:qF8 w.heap.size cb Ds d (fun b=>b=w.heap.size∨b=cb∨b∈Ds) [] W3:=by
   refine⟨.inl rfl,.inr (.inl rfl),HX1.out.of_block (hB3.block _ (by omega)),Y0 HC1.out hB3,fun D hD=>⟨.inr (.inr hD),?_⟩⟩
   have:=HD1.out D hD
   exact(hB3.block D (by omega)).trans this.2.2
  refine zV0 (P:=Tryz.prog) rfl (enters_of Tryz.func100 (by kernel_rfl) rfl) (HSQ.out _ W3 (by omega) hQ3) (fun b hb=>(hRlt b hb).1) w hw03 (fun _=>rfl)
   (fun b=>b=w.heap.size∨b=cb∨b∈Ds) ?hX0 (qF8 w.heap.size cb Ds d) (fun _ _ _ _ h hk=>h.keep hk) hT0
   (fun x qx=>⟨#[.pointer (some ⟨q,0,none⟩),u1,.bool false,.pointer (some ⟨w.heap.size,0,none⟩),.pointer (some ⟨cb,0,none⟩),.pointer (some ⟨qx,0,none⟩),u6,u7,u8,u9,u10,.int .i64 (N:Int),.int .i64 (i:Int),.bool true,.pointer (some ⟨q,0,none⟩),.func (.func 100) #[] #[.pointer (some ⟨W2.heap.size,0,none⟩)],.agg #[.int .i64 x.tie,.bool x.bk,.int .i64 x.f,.int .i64 x.t,.int .i64 x.len],u17,u18,u19,u20,u21,u22,u23,u24,u25,u26,u27,u28,u29,u30,u31,u32,u33,u34,u35,u36],[]⟩) kE7 ?hassign ?hbody ?hdone
  case hX0=>
   intro b hb
   have h1:w.heap.size≤b∧b<W2.heap.size:=by
    rcases hb with h|h|h
    ·omega
    ·omega
    ·have:=HD1.out b h;omega
   refine⟨h1.1,fun h2=> ?_,by omega⟩
   have:=(hRlt b h2).2
   omega
  case hassign=>
   intro l x W K hK
   clear hsz
   unfold SP.val
   gi_wp2
   exact hK
  case hbody=>
   intro l pre x O X W qx hz hqx hm hT hb hrr hnx
   clear hsz
   have hxE:x∈K8 ts m:=by
    obtain⟨u,hu⟩:=hnx
    rw[←hu]
    simp
   obtain⟨hs1,hs2,hs3,hs4⟩:=HOK.out x hxE
   have hbd:=jG5 (p:=pre.map SP.fr) HR.out.bd (Int.mul_nonneg (by omega) (by omega)) HWO.out (by
    obtain⟨u,hu⟩:=hnx
    rw[←hu,List.append_assoc,List.map_append]
    exact List.prefix_append _ _)
   have hU:((((K8 ts m).map SP.fr).length:Int)*(i:Int)+(((K8 ts m).map SP.fr).length:Int))≤16400:=by
    have h1:((K8 ts m).map SP.fr).length*i≤400*40:=X8 (by omega) (by omega)
    have h2:((((K8 ts m).map SP.fr).length*i:Nat):Int)=(((K8 ts m).map SP.fr).length:Int)*(i:Int):=by simp
    omega
   have hbd:=hbd.mono hU
   obtain⟨tie,bk,f,t,len⟩:=x
   dsimp only at hs1 hs2 hs3 hs4
   obtain⟨f,rfl⟩:∃k:Nat,f=k:=⟨f.toNat,by omega⟩
   obtain⟨t,rfl⟩:∃k:Nat,t=k:=⟨t.toNat,by omega⟩
   have htn1:S3 d ((pre++[(⟨tie,bk,(f:Int),(t:Int),len⟩:SP)]).map SP.fr)=zQ1 (S3 d (pre.map SP.fr)) f t len:=by
    rw[List.map_append];exact xT2 _ _ _
   have htn2:qZ1 d ((pre++[(⟨tie,bk,(f:Int),(t:Int),len⟩:SP)]).map SP.fr)=(qZ1 d (pre.map SP.fr)||decide (S3 d (pre.map SP.fr) f+len<S3 d (pre.map SP.fr) t)):=by
    rw[List.map_append];exact zG4 _ _ _
   obtain⟨x1,x2,x3,x4,x5⟩:=id hT
   have HM:=Hd hm
   have HT:=Hd hT
   have HQX:=Hd hqx
   have e1:=x3.cell (i:=f) (by omega)
   have e2:=x3.cell (i:=t) (by omega)
   have fz:=x3.frozen t
   have ce:=(Q0 _ _ 0 _ _ _ x4)
   have cf:=Z3 _ _ 0 _ _ x4
   simp only[P2] at ce
   obtain⟨q0,q1,q2,q3,q4⟩:=cr5 hqx
   simp only[P2] at q0 q1 q2 q3 q4
   have bf:=hbd f
   have bt:=hbd t
   have HX3:=Hd x3
   have HX4:=Hd x4
   have HX5:=Hd x5
   have HN1:=Hd htn1
   have HN2:=Hd htn2
   have hql:=J5 hqx
   have hdl:=x3.lt
   have hcl:=J5 x4
   have hcne:w.heap.size≠cb:=by omega
   clear hm hT hqx hbd x3 x4 x5 htn1 htn2
   generalize S3 d (pre.map SP.fr)=dd at*
   generalize qZ1 d (pre.map SP.fr)=cc at*
   have hf40:(f:Int)<40:=by omega
   have ht40:(t:Int)<40:=by omega
   dsimp only
   gi_upto_region 7 with(fail)
   (refine I5 (by kernel_rfl) (by kernel_rfl) (by kernel_rfl) ?_;(repeat(gi_big_quiet_step(fail)));refine wpQuietIn_nil ?_;intro _ hw';obtain⟨nq,hw''⟩:=hw';subst hw'')
   by_cases hlt2:dd f+len<dd t
   ·have hq1:=HN1.out
    have hq2:=HN2.out
    rw[zQ1,if_pos hlt2] at hq1
    rw[Z0 hlt2,Bool.or_true] at hq2
    have HN1:=Hd hq1
    have HN2:=Hd hq2
    clear hq1 hq2
    gi_wp2
    exact qF8.hit HM.out x1 x2 hcne HX3.out HX4.out HX5.out HN1.out HN2.out
   ·have hq1:=HN1.out
    have hq2:=HN2.out
    rw[zQ1,if_neg hlt2] at hq1
    rw[Q7 hlt2,Bool.or_false] at hq2
    have HN1:=Hd hq1
    have HN2:=Hd hq2
    clear hq1 hq2
    gi_wp2
    exact qF8.miss HM.out x1 x2 HX3.out HX4.out HX5.out HN1.out HN2.out
  case hdone=>
   rintro D xs X W hD hDl hDX hxs hT hb hrr hDD
   unfold EqS at hxs
   subst hxs
   obtain⟨x1,x2,x3,x4,x5⟩:=hT
   have ce:=(Q0 _ _ 0 _ _ _ x4)
   simp only[P2] at ce
   have HX3:=Hd x3
   have HDS:=Hd (show(D::Ds).Nodup∧∀E∈D::Ds,w.heap.size<E∧E<W.heap.size∧W.heap[E]?=some (.deferred (some [])) from by
    refine⟨List.nodup_cons.2 ⟨fun h=> ?_,hdn⟩,fun E hE=> ?_⟩
    ·have:=HD1.out D h;omega
    ·rcases List.mem_cons.1 hE with rfl|hE
     ·exact⟨by omega,hDl,hDD⟩
     ·have:=HD1.out E hE
      exact⟨this.1,by omega,(x5 E hE).2⟩)
   have HB:=Hd hb
   have hnx:=HR.out.next HWO.out HWN.out
   have hfew:=HR.out.few HWN.out HKP.out
   have HNX:=Hd hnx
   clear x3 x4 x5 hb hDD hnx hsz
   cases hcc:qZ1 d ((K8 ts m).map SP.fr) with
   |true=>
    rw[hcc] at ce
    have hi2:=hfew hcc
    clear hfew hcc
    go_wp2
    refine Handed.intro (N-(i+1)) (by omega) (hJ _ _ _ ?_)
    refine⟨_,_,_,_,_,_,_,_,_,_,_,_,_,_,_,_,_,_,_,_,_,_,_,_,_,_,_,_,_,_,_,_,D::Ds,i+1,S3 d ((K8 ts m).map SP.fr),rfl,hi2,rfl,HNX,HX3,HB,HDS⟩
   |false=>
    rw[hcc] at ce
    clear hfew hcc
    go_wp2
    refine qJ5 (Ds:=D::Ds) (v:= .bool false) HDS.out.1 (fun E hE=>(HDS.out.2 E hE).2.2) (fun W' h1 h2 h3 h4 h5=>⟨by simp[results,Tryz.results66,go_sem],rfl,zZ3 HB.out (fun E hE=>by have:=HDS.out.2 E hE;omega) h1 h2 h3 h4 h5⟩)
end
section
open Go Go.RowKit
def qG1(d:Nat→FV)(j:Nat):Value:=if j%2=0 then .int .i64 (d (j/2)).len else .int .i64 (d (j/2)).uses
def A2(d:Nat→FV):List Value:=(List.range 80).map (qG1 d)
def kC8(d:Nat→FV):Value:= .agg (A2 d).toArray
theorem qL8{W:World}{db:Nat}{t:TypeId}{d:Nat→FV}(h:W.rowIs db t 80 (qG1 d)){f:Nat}(hf:f<40):
  W.cell? ⟨db,f*2,none⟩=some (.int .i64 (d f).len)∧W.cell? ⟨db,f*2+1,none⟩=some (.int .i64 (d f).uses)∧W.frozen? ⟨db,f*2,none⟩=false∧W.frozen? ⟨db,f*2+1,none⟩=false:=by
 have h1:=h.cell (i:=f*2) (by omega)
 have h2:=h.cell (i:=f*2+1) (by omega)
 unfold qG1 at h1 h2
 rw[if_pos (by omega),show f*2/2=f by omega] at h1
 rw[if_neg (by omega),show(f*2+1)/2=f by omega] at h2
 exact⟨h1,h2,h.frozen _,h.frozen _⟩
theorem xQ8{W:World}{db:Nat}{t:TypeId}{d:Nat→FV}(h:W.rowIs db t 80 (qG1 d))(f:Nat)(x:FV):((W.setCell ⟨db,f*2,none⟩ (.int .i64 x.len)).setCell ⟨db,f*2+1,none⟩ (.int .i64 x.uses)).rowIs db t 80 (qG1 (qP3 d f x)):=by
 refine((h.set (f*2) _).set (f*2+1) _).congr (fun j hj=> ?_)
 unfold qG1 qP3
 by_cases h1:j=f*2+1
 ·subst h1
  rw[if_pos rfl,if_neg (by omega),if_pos (by omega)]
 ·rw[if_neg h1]
  by_cases h2:j=f*2
  ·subst h2
   rw[if_pos rfl,if_pos (by omega),if_pos (by omega)]
  ·rw[if_neg h2,if_neg (show ¬j/2=f by omega)]
theorem jC1{W:World}{db:Nat}{t:TypeId}{d:Nat→FV}(h:W.rowIs db t 80 (qG1 d)):W.rangeAt db 0 (A2 d):=by
 intro j v hv
 unfold A2 at hv
 rw[List.getElem?_map] at hv
 by_cases hj:j<80
 ·rw[List.getElem?_range hj] at hv
  simp only[Option.map_some,Option.some.injEq] at hv
  rw[Nat.zero_add,←hv]
  exact h.cell hj
 ·rw[List.getElem?_eq_none (by simp;omega)] at hv
  cases hv
theorem qL7(d:Nat→FV):(A2 d).length=80:=by simp[A2]
theorem qX3(d:Nat→FV):(A2 d).toArray.size=80:=by simp[A2]
theorem zF9(d:Nat→FV):(A2 d).toArray.all (·.oneCell')=true:=all_oneCell_toArray (fun v hv=>by
 obtain⟨j,_,rfl⟩:=List.mem_map.1 hv
 unfold qG1
 split<;>rfl)
theorem zE9{W:World}{db:Nat}{t:TypeId}{n:Nat}{f:Nat→Value}(h:W.rowIs db t n f):W.there db 0 n:=fun j hj=>by
 rw[Nat.zero_add]
 exact⟨by rw[h.cell hj];rfl,h.frozen j⟩
theorem qK2:(Tryz.prog.info? 91).map (·.size)=some 80:=by kernel_rfl
def qV1(W:World):Prop:=W.cell? ⟨0,0,none⟩=some (.int .i64 1000000000000)∧W.cell? ⟨0,1,none⟩=some (.int .i64 0)
theorem qV1.below{W W':World}{B:Nat}(h:qV1 W)(hb:Below B W W')(hB:0<B):qV1 W':=⟨((J9 hb).1 _ _ hB).trans h.1,((J9 hb).1 _ _ hB).trans h.2⟩
theorem qV1.c2{W:World}(h:qV1 W):W.cell? ⟨0,0,none⟩=(#[.int .i64 1000000000000,.int .i64 0]:Array Value)[0]?∧W.cell? ⟨0,1,none⟩=(#[.int .i64 1000000000000,.int .i64 0]:Array Value)[1]? :=⟨h.1,h.2⟩
def qE4(i:Nat)(j:Nat):FV:=if j<i then FV.never else⟨0,0⟩
theorem jK9(i:Nat):qP3 (qE4 i) i FV.never=qE4 (i+1):=by
 funext j
 unfold qP3 qE4
 by_cases h:j=i
 ·subst h;simp
 ·rw[if_neg h]
  by_cases h2:j<i
  ·rw[if_pos h2,if_pos (by omega)]
  ·rw[if_neg h2,if_neg (by omega)]
theorem xP7:qG1 (qE4 0)=fun _=> .int .i64 0:=by
 funext j
 unfold qG1 qE4
 simp
theorem jC0{W:World}{db:Nat}{t:TypeId}{d e:Nat→FV}(h:W.rowIs db t 80 (qG1 d))(he:∀i,i<40→d i=e i):W.rowIs db t 80 (qG1 e):=
 h.congr (fun j hj=>by unfold qG1;rw[he (j/2) (by omega)])
theorem jO1(n:Nat):∀i,i<40→qP3 (qE4 40) n ⟨0,0⟩ i=qL6 n i:=by
 intro i hi
 unfold qL6 qP3 qE4
 split
 ·rfl
 ·simp[hi]
theorem kK1(w:World)(a b c d:Int):(Op.equalIn (9999+1) 89 (.agg #[.int .i64 a,.int .i64 b]) (.agg #[.int .i64 c,.int .i64 d])).run Tryz.prog w= .ok (a==c&&b==d) w:=by
 have u3:=Tryz.underlying3
 have a3:=Tryz.isAgg3
 have z3:=Tryz.sizeOf3
 have hS:Tryz.prog.underlying 89=some (.struct (Tryz.prog.fieldsOf 89)):=by kernel_rfl
 have hp:Tryz.prog.stoodInHeld 89=false:=by kernel_rfl
 rw[run_equalIn_struct w 9999 _ _ _ hS hp]
 simp only[Program.fieldsOf,Tryz.underlying89]
 go_simp
 by_cases h1:a=c<;>by_cases h2:b=d<;>simp[h1,h2]
theorem jP8(w:World)(a b c d:Int):(Op.equalIn 10000 89 (.agg #[.int .i64 a,.int .i64 b]) (.agg #[.int .i64 c,.int .i64 d])).run Tryz.prog w= .ok (a==c&&b==d) w:=kK1 w a b c d
theorem zK8(w:World):(w.alloc (.cells Tryz.zeroCells91 91)).rowIs w.heap.size 91 80 (qG1 (qE4 0)):=by
 rw[xP7]
 exact kS8 w 91
theorem R5{B:Nat}{a:World}{b:Nat}(hB:B≤b):∀(vs:List Value) (o:Nat) (w:World),Below B a w→Below B a (w.setCells b o vs)
 |[],_,_,h=>h
 |v::r,o,w,h=>R5 hB r (o+1) _ (h.setCell (p:=⟨b,o,none⟩) hB v)
theorem E5{b c:Nat}(h:c≠b):∀(vs:List Value) (o:Nat) (w:World),(w.setCells b o vs).heap[c]?=w.heap[c]?
 |[],_,_=>rfl
 |v::r,o,w=>(E5 h r (o+1) _).trans (Q6 w ⟨b,o,none⟩ c v h)
theorem E7{W W':World}{b o:Nat}{cs:List Value}(h:W.rangeAt b o cs)(e:W'.heap[b]?=W.heap[b]?):W'.rangeAt b o cs:=fun j v hv=>(X5 (a:=⟨b,o+j,none⟩) e).trans (h j v hv)
theorem kB3{P:Program}{fn:Func}{p:Tmp}{ty:TypeId}{d:TypeDesc}(h:fn.results= #[.cell p ty])(tmps:Array Value)(w:World)(g:Nat)(cs:List Value)(hp:tmps.getD p undef= .pointer (some ⟨g,0,none⟩))(hr:w.rangeAt g 0 cs)
  (hu:P.underlying ty=some d) (hd:d.isRow=true) (hi:(P.info? ty).map (·.size)=some cs.length):(results fn tmps).run P w= .ok (.agg cs.toArray) w:=by
 have hp':tmps[p]?.getD undef= .pointer (some ⟨g,0,none⟩):=by simpa using hp
 simp[results,h,hp',asAddr,run_loadVar_mid w g 0 ty cs d hr hu hd hi]
theorem kJ2(n:Nat)(t:Array Value)(h:t.size=n):t=((List.range n).map fun i=>t.getD i undef).toArray:=by
 subst h
 apply Array.ext
 ·simp
 ·intro i h1 h2
  simp[h1]
theorem kE1(t:Array Value)(h:t.size=66):∃u:Nat→Value,t= #[u 0,u 1,u 2,u 3,u 4,u 5,u 6,u 7,u 8,u 9,u 10,u 11,u 12,u 13,u 14,u 15,u 16,u 17,u 18,u 19,u 20,u 21,u 22,u 23,u 24,u 25,u 26,u 27,u 28,u 29,u 30,u 31,u 32,u 33,u 34,u 35,u 36,u 37,u 38,u 39,u 40,u 41,u 42,u 43,u 44,u 45,u 46,u 47,u 48,u 49,u 50,u 51,u 52,u 53,u 54,u 55,u 56,u 57,u 58,u 59,u 60,u 61,u 62,u 63,u 64,u 65]∧∀i,i<66→t[i]?=some (u i):=
 ⟨fun i=>t.getD i undef,kJ2 66 t h,fun i hi=>by simp[h,hi]⟩
structure ToT(rt dt cb:Nat)(Ds:List Nat)(wy:SP→WY)(d:Nat→FV)(X:Nat→Prop)(pre:List SP)(W:World):Prop where
 xr:X rt
 xd:X dt
 xc:X cb
 res:W.rowIs rt 91 80 (qG1 (qE4 0))
 tab:W.rowIs dt 91 80 (qG1 (S2 d (pre.map wy)))
 chg:W.heap[cb]?=some (.cells #[.bool (R9 d (pre.map wy))] 4)
 marks:∀D∈Ds,X D∧W.heap[D]?=some (.deferred (some []))
theorem ToT.keep{rt dt cb:Nat}{Ds:List Nat}{wy:SP→WY}{d:Nat→FV}{X:Nat→Prop}{pre:List SP}{W W':World}(h:ToT rt dt cb Ds wy d X pre W)(hk:∀b,X b→W'.heap[b]?=W.heap[b]?):ToT rt dt cb Ds wy d X pre W':=
 ⟨h.xr,h.xd,h.xc,h.res.of_block (hk _ h.xr),h.tab.of_block (hk _ h.xd),(hk _ h.xc).trans h.chg,fun D hD=>⟨(h.marks D hD).1,(hk D (h.marks D hD).1).trans (h.marks D hD).2⟩⟩
theorem ToT.miss{N rt dt cb:Nat}{R O:Nat→Prop}{Ds:List Nat}{wy:SP→WY}{d:Nat→FV}{X:Nat→Prop}{pre:List SP}{x:SP}{W W2:World}(hm:A3 N R X O W)(hT:ToT rt dt cb Ds wy d X pre W)(hb:Below W.heap.size W W2)
  (h1:S2 d ((pre++[x]).map wy)=S2 d (pre.map wy)) (h2:R9 d ((pre++[x]).map wy)=R9 d (pre.map wy)):∃X',M6 N X W W2 X'∧ToT rt dt cb Ds wy d X' (pre++[x]) W2:=by
 refine⟨X,M6.below hm hb,?_⟩
 have:=hT.keep (W':=W2) (fun b hx=>hb.block b (hm.lt hx))
 exact⟨this.xr,this.xd,this.xc,this.res,by rw[h1];exact this.tab,by rw[h2];exact this.chg,this.marks⟩
theorem ToT.hit{N rt dt cb bn:Nat}{R O:Nat→Prop}{Ds:List Nat}{wy:SP→WY}{d:Nat→FV}{X:Nat→Prop}{pre:List SP}{x:SP}{W W2:World}{v:FV}{nb:Bool}(hm:A3 N R X O W)(hT:ToT rt dt cb Ds wy d X pre W)(hb:Below W.heap.size W W2)(n1:rt≠dt)(n2:rt≠cb)(n3:dt≠cb)
  (h1:S2 d ((pre++[x]).map wy)=qP3 (S2 d (pre.map wy)) bn v) (h2:R9 d ((pre++[x]).map wy)=nb):
  ∃X',M6 N X W (((W2.setCell ⟨cb,0,none⟩ (.bool nb)).setCell ⟨dt,bn*2,none⟩ (.int .i64 v.len)).setCell ⟨dt,bn*2+1,none⟩ (.int .i64 v.uses)) X'∧ToT rt dt cb Ds wy d X' (pre++[x]) (((W2.setCell ⟨cb,0,none⟩ (.bool nb)).setCell ⟨dt,bn*2,none⟩ (.int .i64 v.len)).setCell ⟨dt,bn*2+1,none⟩ (.int .i64 v.uses)):=by
 have h:=hT.keep (W':=W2) (fun b hx=>hb.block b (hm.lt hx))
 refine⟨X,(((M6.below hm hb).setCell h.xc _).setCell h.xd _).setCell h.xd _,h.xr,h.xd,h.xc,?_,?_,?_,fun D hD=>⟨(h.marks D hD).1,?_⟩⟩
 ·exact((h.res.setOther (a:=⟨cb,0,none⟩) n2 _).setOther (a:=⟨dt,bn*2,none⟩) n1 _).setOther (a:=⟨dt,bn*2+1,none⟩) n1 _
 ·rw[h1]
  exact xQ8 (h.tab.setOther (a:=⟨cb,0,none⟩) n3 _) bn v
 ·rw[h2]
  have h3:=Q4 W2 cb 0 _ _ (.bool nb) h.chg
  refine(Q6 _ ⟨dt,bn*2+1,none⟩ cb _ (Ne.symm n3)).trans ((Q6 _ ⟨dt,bn*2,none⟩ cb _ (Ne.symm n3)).trans ?_)
  simpa using h3
 ·obtain⟨hx,hd⟩:=h.marks D hD
  have m1:D≠cb:=fun e=>by rw[e,h.chg] at hd;cases hd
  have m2:D≠dt:=fun e=>by
   obtain⟨c,hb,_⟩:=h.tab
   rw[e,hb] at hd;cases hd
  exact(Q6 _ ⟨dt,bn*2+1,none⟩ D _ m2).trans ((Q6 _ ⟨dt,bn*2,none⟩ D _ m2).trans ((Q6 _ ⟨cb,0,none⟩ D _ m1).trans hd))
theorem xM6(a:FV):qV8 a a=false:=by simp[qV8]
theorem kM0(g c:FV):(!((xB4 g c).len==g.len&&(xB4 g c).uses==g.uses))=qV8 c g:=by
 unfold xB4
 cases h:qV8 c g
 ·simp
 ·have hne:c≠g:=fun e=>by rw[e,xM6] at h;cases h
  rw[if_pos rfl]
  by_cases h1:c.len=g.len
  ·by_cases h2:c.uses=g.uses
   ·exact absurd (by cases c;cases g;simp_all) hne
   ·simp[h2]
  ·simp[h1]
theorem kB2(d:Nat→FV)(a b:Nat)(len:Int)(h:d a≠FV.never):zQ0 d a b len=qP3 d b (xB4 (d b) (qQ9 d a len))∧zW1 d a b len=qV8 (qQ9 d a len) (d b):=by
 unfold zQ0 zW1
 rw[if_neg h,if_neg h]
 refine⟨?_,rfl⟩
 unfold xB4
 split
 ·rfl
 ·funext x
  unfold qP3
  split
  ·rename_i e;rw[e]
  ·rfl
theorem zL3{P:Program}(B:Nat)(n:Nat){Q:Exit→Act→World→Prop}{a:Act}{w:World}{l:List Oper}(hB:Region.lexTailB .any l.toArray n=true)
  (h:wpQuiet P l.toArray (fun w'=>∃x:K9 B w,w'=x.val) (fun a'=>∀w',(∃x:K9 B w,w'=x.val)→wpList P l.toArray Q (l.drop n) a' w') (l.take n) a):wpAny P .any l.toArray Q l.toArray.size (Array.replicate l.toArray.size false) a {w with drawn:=w.drawn+1}:=by
 simp only[Region.lexTailB,Q8,Z8] at hB
 obtain⟨⟨⟨⟨hsel,hn⟩,hs⟩,hc⟩,hlex⟩:=hB
 have hn':n<l.length:=by simpa using hn
 have htl:(l.take n).length=n:=by simp;omega
 have hdl:(l.drop n).length=l.toArray.size-n:=by simp
 have inv0:HeadInv .any l.toArray n (Array.replicate l.toArray.size false):=
  ⟨by simp,fun j oj _ hl=>(by rw[getD_replicate_false] at hl;cases hl),fun t _ ht=>getD_in (by simpa using ht) (getD_replicate_false _ _)⟩
 have H:=qO4 (md:= .any) (g:=l.toArray.size-n) hsel hs hc hn (l.take n) 0 _ a (fun j hj=>by
  have hj':j<n:=by rw[htl] at hj;exact hj
  simp[hj']) (by simpa using htl) inv0 (by rw[htl];exact hlex) h
 have:=qB9 (Q':=Q) (g:=l.toArray.size-n) (fun listed a' w' hw' hL=>by
  have:=wpAny_of_seq (md:= .any) (Q':=Q) (l.drop n) n listed a' w' (fun j=>by simp[List.getElem?_drop]) (by rw[hdl];exact hL.1) (hL.2 w' hw')
  rwa [hdl] at this) _ _ _ _ ⟨⟨w.drew,(Q2 _ _).drew⟩,rfl⟩ H
 rw[htl,show n+(l.toArray.size-n)=l.toArray.size by omega] at this
 exact this
end
section
open Go.ChangeShapes Go.WideShapes Go.RowKit Go.Deep Go.Joins
theorem xB7{W:World}(h:laidMetH Tryz.prog [("overburden/align.never",Rows.laid_overburden_align_never)] W):qV1 W:=by
 rw[MakeChecks.laidMetH_plain _ _ _ (by kernel_rfl)] at h
 obtain⟨ps,⟨g0,t0,cs0,f0,p0,q0,hg,ht,hv,hd,_,_⟩,_,_⟩:=h
 have hgn:Tryz.prog.globalNamed "overburden/align.never"=some 0:=by kernel_rfl
 obtain rfl:=Option.some.inj (hgn.symm.trans hg)
 have htn:(Tryz.prog.globals[0]?).map (·.type)=some 89:=by kernel_rfl
 obtain rfl:=Option.some.inj (htn.symm.trans ht)
 have hc:=World.var?_cell hgn hv
 obtain⟨xs,m,e0,e1,e2,hxl,hf⟩:=DataW.trod_struct Tryz.underlying89 hd
 have e3:=congrArg Prod.fst e1
 unfold Rows.laid_overburden_align_never at e3
 dsimp only at e3
 injection e3 with e3
 match xs,hxl,e3,hf with
 |[z0,z1],_,e3,hf=>
  simp only[List.map_cons,List.map_nil,List.cons.injEq,and_true] at e3
  obtain⟨n0,c0,r0,_⟩:=DataW.trod_int (x:=z0) Tryz.underlying3 (hf 0 _ rfl)
  obtain⟨n1,c1,r1,_⟩:=DataW.trod_int (x:=z1) Tryz.underlying3 (hf 1 _ rfl)
  have k0:=O5 c0
  have k1:=O5 c1
  rw[r0,r1] at e3
  obtain⟨q0,q1⟩:=e3
  injection q0 with q0
  injection q0 with _ q0
  injection q1 with q1
  injection q1 with _ q1
  subst q0
  subst q1
  exact⟨(hc 0).trans (by simpa using k0),(hc 1).trans (by simpa using k1)⟩
end
section
open Go.RowKit
theorem L4(a b c:Int)(w:World):
  Calls Tryz.prog 17 #[.int .i64 a,.int .i64 b,.int .i64 c] w fun e w'=>e= .returned (.bool (J1 a b c))∧w=w':=by
 by_cases h:b≤a
 ·go_enter Tryz.func17,Tryz.ntmps17
  go_wp2
  go_ret
  exact⟨J2 (by unfold J1;rw[Z0 h,Bool.true_and]),rfl⟩
 ·go_enter Tryz.func17,Tryz.ntmps17
  go_wp2
  go_ret
  exact⟨J2 (by unfold J1;rw[Q7 (by omega),Bool.false_and]),rfl⟩
theorem I2(a:Int)(w:World):
  Calls Tryz.prog 44 #[.int .i64 a] w fun e w'=>e= .returned (.bool (J1 a (-1000000) 1000000))∧w=w':=by
 go_enter Tryz.func44,Tryz.ntmps44
 go_wp2_with(go_at_call 17;refine(L4 _ _ _ _).mono ?_;rintro e w' ⟨rfl,rfl⟩)
 go_ret
 exact⟨rfl,rfl⟩
theorem zQ8(pitch:Int)(da:Option Addr)(dn dc:Nat)(ds:Nat→DV)(w:World)(B:Nat)(hBw:B≤w.heap.size)(hd:R8 B w da dn ds)(hn:dn≤maxLen)(hp:2≤pitch)(hp2:pitch≤100000):
  Calls Tryz.prog 45 #[.slice da dn dc,.int .i64 pitch] w fun e w'=>e= .returned (.bool (E6 pitch dn ds))∧Below w.heap.size w w':=by
 unfold maxLen at hn
 have HD:=Hd hd
 clear hd
 go_enter Tryz.func45,Tryz.ntmps45
 go_wp2
 go_loopw [5,6] (fun t _ wr=>∃k:Nat,k≤dn∧t= .int .i64 k∧(∀j,j<k→I4 pitch ds j=true)∧Below w.heap.size w wr) (fun t _ _=>dn-(intOf t).toNat)
 case atStart=>exact⟨0,Nat.zero_le _,rfl,fun j h=>by omega,Q2 _ _⟩
 case round=>
  obtain⟨k,hk,rfl,hall,hB0⟩:=hrel
  have HALL:=Hd hall
  clear hall
  obtain⟨hc,hf⟩:=J9 hB0
  have hz:w.heap.size≤wr.heap.size:=hB0.size
  by_cases hlt:k<dn
  ·rcases HD.out with hd|⟨b,off,rfl,hbs,hcell⟩
   ·omega
   obtain⟨c0,c1,c2⟩:=hcell k hlt
   have hbz:b<wr.heap.size:=by omega
   have hbz0:b<w.heap.size:=by omega
   by_cases hok:I4 pitch ds k=true
   ·have hok':=hok
    simp only[I4,xQ5,Q8,Z8] at hok'
    obtain⟨⟨o1,o2,o3⟩,o4⟩:=hok'
    obtain⟨o5,o6⟩:=J8.1 o2
    have HOK:=Hd hok
    clear hok
    by_cases hk0:k=0
    ·have hk1:decide (0<k)=false:=by simp;omega
     have HK:=Hd hk0
     clear o4 hk0 hcell
     go_wp2_with(go_at_call 17;refine(L4 _ _ _ _).mono ?_;rintro e w' ⟨rfl,rfl⟩)
     go_quiet (fail)
     go_wp2
     go_roundw
     case rel=>exact⟨k+1,by omega,by go_num,fun j hj=>by(by_cases e:j=k;subst e;exact HOK.out;exact HALL.out j (by omega)),by first|exact hB0|exact hB0.alloc (by omega) _|exact below_drewN (hB0.alloc (by omega) _) _|exact below_drewN hB0 _⟩
     case measure=>simp[intOf];omega
    ·obtain⟨d0,d1,d2⟩:=hcell (k-1) (by omega)
     have o7:zQ6 (ds (k-1)) (ds k)=true:=by simpa [hk0] using o4
     simp only[zQ6,Q8,Z8] at o7
     obtain⟨u1,u2,u3⟩:=o7
     have e1':decide ((ds k).time≤(ds (k-1)).time)=false:=Q7 (by omega)
     have e2':decide ((ds k).lo<(ds (k-1)).lo)=false:=Q7 (by omega)
     have e3':decide ((ds k).hi<(ds (k-1)).hi)=false:=Q7 (by omega)
     have hi4:k-1<dn:=by omega
     have hk1:decide (0<k)=true:=by simp;omega
     have hi1:(0:Int)≤(k:Int)-1:=by omega
     have hi2:((k:Int)-1).toNat=k-1:=by omega
     have hi3:IntKind.i64.wrap ((k:Int)-1)=(k:Int)-1:=Z1 _ (by omega)
     clear o4 hk0 u1 u2 u3 hcell
     go_wp2_with(go_at_call 17;refine(L4 _ _ _ _).mono ?_;rintro e w' ⟨rfl,rfl⟩)
     go_quiet (fail)
     go_wp2
     clear hi1 hi2 hi3
     go_roundw
     case rel=>exact⟨k+1,by omega,by go_num,fun j hj=>by(by_cases e:j=k;subst e;exact HOK.out;exact HALL.out j (by omega)),by first|exact hB0|exact hB0.alloc (by omega) _|exact below_drewN (hB0.alloc (by omega) _) _|exact below_drewN hB0 _⟩
     case measure=>simp[intOf];omega
   ·have HF:=Hd (qI2 hlt hok).symm
    rw[qK3] at hok
    by_cases o1:J1 (ds k).time 0 1000000=true∧0≤(ds k).lo∧(ds k).lo≤(ds k).hi∧(ds k).hi≤pitch/2
    ·obtain⟨o1,o2,o3,o4⟩:=o1
     have hk0:¬k=0:=fun e=>hok ⟨J8.1 o1,⟨o2,o3⟩,o4,.inl e⟩
     obtain⟨d0,d1,d2⟩:=hcell (k-1) (by omega)
     have hi4:k-1<dn:=by omega
     have hk1:decide (0<k)=true:=by simp;omega
     have hi1:(0:Int)≤(k:Int)-1:=by omega
     have hi2:((k:Int)-1).toNat=k-1:=by omega
     have hi3:IntKind.i64.wrap ((k:Int)-1)=(k:Int)-1:=Z1 _ (by omega)
     have hok2:¬((ds (k-1)).time<(ds k).time∧(ds (k-1)).lo≤(ds k).lo∧(ds (k-1)).hi≤(ds k).hi):=fun e=>hok ⟨J8.1 o1,⟨o2,o3⟩,o4,.inr e⟩
     clear hok hcell hk0
     by_cases e1:(ds k).time≤(ds (k-1)).time
     ·have e1':decide ((ds k).time≤(ds (k-1)).time)=true:=Z0 e1
      clear hok2
      go_wp2_with(go_at_call 17;refine(L4 _ _ _ _).mono ?_;rintro e w' ⟨rfl,rfl⟩)
      go_quiet (fail)
      go_wp2
      go_ret
      exact⟨J2 HF.out,by first|exact hB0|exact hB0.alloc (by omega) _|exact below_drewN (hB0.alloc (by omega) _) _|exact below_drewN hB0 _⟩
     ·have e1':decide ((ds k).time≤(ds (k-1)).time)=false:=Q7 e1
      by_cases e2:(ds k).lo<(ds (k-1)).lo
      ·have e2':decide ((ds k).lo<(ds (k-1)).lo)=true:=Z0 e2
       clear hok2
       go_wp2_with(go_at_call 17;refine(L4 _ _ _ _).mono ?_;rintro e w' ⟨rfl,rfl⟩)
       go_quiet (fail)
       go_wp2
       go_ret
       exact⟨J2 HF.out,by first|exact hB0|exact hB0.alloc (by omega) _|exact below_drewN (hB0.alloc (by omega) _) _|exact below_drewN hB0 _⟩
      ·have e2':decide ((ds k).lo<(ds (k-1)).lo)=false:=Q7 e2
       have e3':decide ((ds k).hi<(ds (k-1)).hi)=true:=Z0 (by omega)
       clear hok2
       go_wp2_with(go_at_call 17;refine(L4 _ _ _ _).mono ?_;rintro e w' ⟨rfl,rfl⟩)
       go_quiet (fail)
       go_wp2
       go_ret
       exact⟨J2 HF.out,by first|exact hB0|exact hB0.alloc (by omega) _|exact below_drewN (hB0.alloc (by omega) _) _|exact below_drewN hB0 _⟩
    ·clear hok hcell
     by_cases o2:J1 (ds k).time 0 1000000=true
     ·have o3:¬(0≤(ds k).lo∧(ds k).lo≤(ds k).hi∧(ds k).hi≤pitch/2):=fun e=>o1 ⟨o2,e⟩
      clear o1
      by_cases p1:(ds k).lo<0
      ·clear o3
       go_wp2_with(go_at_call 17;refine(L4 _ _ _ _).mono ?_;rintro e w' ⟨rfl,rfl⟩)
       go_ret
       exact⟨J2 HF.out,by first|exact hB0|exact hB0.alloc (by omega) _|exact below_drewN (hB0.alloc (by omega) _) _|exact below_drewN hB0 _⟩
      ·by_cases p2:(ds k).hi<(ds k).lo
       ·clear o3
        go_wp2_with(go_at_call 17;refine(L4 _ _ _ _).mono ?_;rintro e w' ⟨rfl,rfl⟩)
        go_ret
        exact⟨J2 HF.out,by first|exact hB0|exact hB0.alloc (by omega) _|exact below_drewN (hB0.alloc (by omega) _) _|exact below_drewN hB0 _⟩
       ·have p3:pitch/2<(ds k).hi:=by omega
        clear o3
        go_wp2_with(go_at_call 17;refine(L4 _ _ _ _).mono ?_;rintro e w' ⟨rfl,rfl⟩)
        go_ret
        exact⟨J2 HF.out,by first|exact hB0|exact hB0.alloc (by omega) _|exact below_drewN (hB0.alloc (by omega) _) _|exact below_drewN hB0 _⟩
     ·have o3:J1 (ds k).time 0 1000000=false:=by simpa using o2
      clear o1 o2
      go_wp2_with(go_at_call 17;refine(L4 _ _ _ _).mono ?_;rintro e w' ⟨rfl,rfl⟩)
      go_ret
      exact⟨J2 HF.out,by first|exact hB0|exact hB0.alloc (by omega) _|exact below_drewN (hB0.alloc (by omega) _) _|exact below_drewN hB0 _⟩
  ·go_wp2_with(go_at_call 17;refine(L4 _ _ _ _).mono ?_;rintro e w' ⟨rfl,rfl⟩)
   go_ret
   exact⟨J2 (qT1 (by omega) HALL.out).symm,hB0⟩
def Y1(p:PR)(c:Int):Bool:= !M1 p.en (fun j=> !(p.es j==c))
theorem xM4{p:PR}{c:Int}{k:Nat}(hk:k<p.en)(h:p.es k=c):true=Y1 p c:=by
 rw[Y1,Y7 hk (by simp[h])];rfl
theorem jX9{p:PR}{c:Int}{k:Nat}(hk:k=p.en)(h:∀j,j<k→¬p.es j=c):false=Y1 p c:=by
 subst hk;rw[Y1,Y3 (fun j hj=>by simp[h j hj])];rfl
theorem qR9{p:PR}{c:Int}:Y1 p c=true↔∃j,j<p.en∧p.es j=c:=by
 simp[Y1,M1]
theorem xL8(x:Int)(w:World):Calls Tryz.prog 189 #[.int .i64 x] w fun e w'=>e= .returned (.bool false)∧w=w':=by
 go_enter Tryz.func189,Tryz.ntmps189
 go_wp2
 go_ret
 exact⟨by simp,rfl⟩
theorem qB2(x:Int)(w:World):Calls Tryz.prog 209 #[.int .i64 x] w fun e w'=>e= .returned (.bool false)∧w=w':=by
 go_enter Tryz.func209,Tryz.ntmps209
 go_wp2
 go_ret
 exact⟨by simp,rfl⟩
theorem qH8(x y:Int)(w:World):Calls Tryz.prog 208 #[.int .i64 x,.int .i64 y] w fun e w'=>e= .returned (.bool (decide (x<y)))∧w=w':=by
 go_enter Tryz.func208,Tryz.ntmps208
 go_wp2_with(go_at_call 189;refine(xL8 _ _).mono ?_;rintro e w' ⟨rfl,rfl⟩)
 go_ret
 exact⟨rfl,rfl⟩
def zY1(n:Nat)(es:Nat→Int):Prop:=∀i j,i<j→j<n→es i<es j
theorem jR1{p:PR}{x:Int}{hi:Nat}(h1:∀t,t<hi→p.es t<x)(h2:∀t,hi≤t→t<p.en→x≤p.es t)(hs:zY1 p.en p.es):Y1 p x=decide (hi<p.en∧p.es hi=x):=by
 rw[Bool.eq_iff_iff,qR9,Z8]
 constructor
 ·rintro⟨j,hj,he⟩
  have a1:¬j<hi:=fun h=>by have:=h1 j h;omega
  by_cases e:j=hi
  ·subst e;exact⟨hj,he⟩
  ·have:=hs hi j (by omega) hj
   have:=h2 hi (Q1 _) (by omega)
   omega
 ·rintro⟨a,b⟩;exact⟨hi,a,b⟩
theorem kJ4(p:PR)(x:Int)(w:World)(B:Nat)(hBw:B≤w.heap.size)(hm:p.mem B w)(hs:zY1 p.en p.es)(hn:p.en≤100):
  Calls Tryz.prog 202 #[.slice p.ea p.en p.ec,.int .i64 x] w fun e w'=>∃i,e= .returned (.tuple #[.int .i64 i,.bool (Y1 p x)])∧w=w':=by
 obtain⟨hdn,hen,hD,hI⟩:=hm
 have HS:=Hd hs
 have HI:=Hd hI
 have HF:=Hd (fun(hi:Nat) h1 h2=> @jR1 p x hi h1 h2 hs)
 clear hs hI hD hen hdn
 obtain⟨kind,view,z,first,pitch,strips,spill,olo,ohi,clo,chi,jitter,least,da,dn,dc,ea,en,ec,ds,es⟩:=p
 dsimp only at*
 generalize Y1 ⟨kind,view,z,first,pitch,strips,spill,olo,ohi,clo,chi,jitter,least,da,dn,dc,ea,en,ec,ds,es⟩ x=F at*
 go_enter Tryz.func202,Tryz.ntmps202
 go_wp2
 go_loopg [7,8] en (fun g s7 s8 wr=>∃lo hi:Nat,s7= .int .i64 lo∧s8= .int .i64 hi∧lo≤hi∧hi≤en∧hi-lo≤g∧wr=w∧Hid ((∀t,t<lo→es t<x)∧(∀t,hi≤t→t<en→x≤es t)))
 case atStart=>exact⟨0,en,rfl,rfl,Nat.zero_le _,Q1 _,by omega,rfl,Hd ⟨fun t ht=>absurd ht (Nat.not_lt_zero _),fun t h1 h2=>by omega⟩⟩
 case round=>
  obtain⟨lo,hi,rfl,rfl,hlh,hin,hg,rfl,I⟩:=hrel
  by_cases hlt:lo<hi
  ·rcases HI.out with h0|⟨b,off,rfl,hb,hc⟩
   ·omega
   have cm:=hc ((lo+hi)/2) (by omega)
   clear hc
   have hmid:((lo+hi)/2:Nat)<en:=by omega
   generalize hy:es ((lo+hi)/2)=y at cm
   have Y:=Hd hy
   clear hy
   by_cases hyx:y<x
   ·go_wp2_with(first|(go_at_call 208;refine(qH8 _ _ _).mono ?_;rintro e w' ⟨rfl,rfl⟩)|(go_at_call 209;refine(qB2 _ _).mono ?_;rintro e w' ⟨rfl,rfl⟩))
    go_roundg (hi-((lo+hi)/2+1))
    case measure=>omega
    case rel=>
     refine⟨(lo+hi)/2+1,hi,by rw[show((lo:Int)+(hi:Int))/2+1=(((lo+hi)/2+1:Nat):Int) by omega],rfl,by omega,hin,Q1 _,rfl,Hd ⟨fun t ht=> ?_,I.out.2⟩⟩
     have e:=Y.out
     by_cases ht':t=(lo+hi)/2
     ·subst ht';omega
     ·have:=HS.out t ((lo+hi)/2) (by omega) (by omega)
      omega
   ·go_wp2_with(first|(go_at_call 208;refine(qH8 _ _ _).mono ?_;rintro e w' ⟨rfl,rfl⟩)|(go_at_call 209;refine(qB2 _ _).mono ?_;rintro e w' ⟨rfl,rfl⟩))
    go_roundg ((lo+hi)/2-lo)
    case measure=>omega
    case rel=>
     refine⟨lo,(lo+hi)/2,rfl,by rw[show((lo:Int)+(hi:Int))/2=(((lo+hi)/2:Nat):Int) by omega],by omega,by omega,Q1 _,rfl,Hd ⟨I.out.1,fun t ht htn=> ?_⟩⟩
     have e:=Y.out
     by_cases ht':t=(lo+hi)/2
     ·subst ht';omega
     ·have:=HS.out ((lo+hi)/2) t (by omega) (by omega)
      omega
  ·obtain rfl:hi=lo:=by omega
   have hF:=HF.out hi I.out.1 I.out.2
   by_cases hn':hi<en
   ·rcases HI.out with h0|⟨b,off,rfl,hb,hc⟩
    ·omega
    have cl:=hc hi hn'
    clear hc
    by_cases hyx:es hi=x
    ·have HFF:=Hd (show F=true by rw[hF];exact Z0 ⟨hn',hyx⟩)
     clear hF
     rw[hyx] at cl
     clear hyx
     go_wp2_with(first|(go_at_call 208;refine(qH8 _ _ _).mono ?_;rintro e w' ⟨rfl,rfl⟩)|(go_at_call 209;refine(qB2 _ _).mono ?_;rintro e w' ⟨rfl,rfl⟩))
     go_ret2
     exact⟨_,by rw[HFF.out];rfl,rfl⟩
    ·have HFF:=Hd (show F=false by rw[hF];exact Q7 (fun h=>hyx h.2))
     clear hF
     obtain⟨y,hy⟩:∃y,y=es hi:=⟨_,rfl⟩
     rw[←hy] at cl hyx
     clear hy
     have hyx':(y==x)=false:=by simp[hyx]
     go_wp2_with(first|(go_at_call 208;refine(qH8 _ _ _).mono ?_;rintro e w' ⟨rfl,rfl⟩)|(go_at_call 209;refine(qB2 _ _).mono ?_;rintro e w' ⟨rfl,rfl⟩))
     go_ret2
     exact⟨_,by rw[HFF.out];rfl,rfl⟩
   ·have HFF:=Hd (show F=false by rw[hF];exact Q7 (fun h=>hn' h.1))
    clear hF
    go_wp2_with(first|(go_at_call 208;refine(qH8 _ _ _).mono ?_;rintro e w' ⟨rfl,rfl⟩)|(go_at_call 209;refine(qB2 _ _).mono ?_;rintro e w' ⟨rfl,rfl⟩))
    go_ret2
    exact⟨_,by rw[HFF.out];rfl,rfl⟩
end
section
def T7(f:Nat→Int)(P:Int)(dead:Nat→Bool)(low:Int):Nat→Int
 |0=>low
 |c+1=>if dead c=true then T7 f P dead low c else if f c≤T7 f P dead low c∧T7 f P dead low c≤f c+P-1 then f c+P-1+1 else T7 f P dead low c
def qU4(f:Nat→Int)(P s:Int)(dead:Nat→Bool)(low high:Int):Nat→Bool
 |0=>false
 |c+1=>if dead c=true then qU4 f P s dead low high c else qU4 f P s dead low high c||(decide (f c-s≤high)&&decide (low≤f c+P-1+s))
def qR1(f:Nat→Int)(P:Int)(dead:Nat→Bool)(low high:Int)(m:Bool):Nat→Bool
 |0=>m
 |c+1=>if dead c=true∧f c≤high∧low≤f c+P-1 then false else qR1 f P dead low high m c
theorem zA3{f:Nat→Int}{P:Int}(hP:1≤P)(hf:∀c,f (c+1)=f c+P):∀j k,j≤k→f j≤f k
 |j,0,h=>by(obtain rfl:j=0:=(by omega));exact Int.le_refl _
 |j,k+1,h=>by
  by_cases e:j=k+1
  ·subst e;exact Int.le_refl _
  ·have:=zA3 hP hf j k (by omega)
   rw[hf];omega
theorem kH7{f:Nat→Int}{P:Int}(hP:1≤P)(hf:∀c,f (c+1)=f c+P){j k:Nat}(h:j<k):f j+P≤f k:=by
 have:=zA3 hP hf (j+1) k h
 rw[hf] at this;exact this
theorem jN1{f:Nat→Int}{P s:Int}{dead:Nat→Bool}{low high:Int}:∀n,qU4 f P s dead low high n=true↔∃c,c<n∧dead c=false∧f c-s≤high∧low≤f c+P-1+s
 |0=>by simp[qU4]
 |n+1=>by
  rw[qU4]
  have ih:=jN1 (f:=f) (P:=P) (s:=s) (dead:=dead) (low:=low) (high:=high) n
  split
  ·rename_i hd
   rw[ih]
   constructor
   ·rintro⟨c,hc,h⟩;exact⟨c,by omega,h⟩
   ·rintro⟨c,hc,h1,h2⟩
    refine⟨c,?_,h1,h2⟩
    by_cases e:c=n
    ·subst e;rw[hd] at h1;simp at h1
    ·omega
  ·rename_i hd
   simp only[Bool.or_eq_true,ih,Q8,Z8]
   constructor
   ·rintro(⟨c,hc,h⟩|h)
    ·exact⟨c,by omega,h⟩
    ·exact⟨n,by omega,by simpa using hd,h⟩
   ·rintro⟨c,hc,h1,h2⟩
    by_cases e:c=n
    ·subst e;exact .inr h2
    ·exact .inl ⟨c,by omega,h1,h2⟩
theorem qN3{f:Nat→Int}{P:Int}{dead:Nat→Bool}{low high:Int}{m:Bool}:∀n,qR1 f P dead low high m n=true↔m=true∧∀c,c<n→dead c=true→¬(f c≤high∧low≤f c+P-1)
 |0=>by simp[qR1]
 |n+1=>by
  rw[qR1]
  have ih:=qN3 (f:=f) (P:=P) (dead:=dead) (low:=low) (high:=high) (m:=m) n
  split
  ·rename_i h
   simp only[Bool.false_eq_true,false_iff]
   rintro⟨_,h2⟩
   exact h2 n (by omega) h.1 h.2
  ·rename_i h
   rw[ih]
   constructor
   ·rintro⟨h1,h2⟩
    refine⟨h1,fun c hc hd hh=> ?_⟩
    by_cases e:c=n
    ·subst e;exact h ⟨hd,hh⟩
    ·exact h2 c (by omega) hd hh
   ·rintro⟨h1,h2⟩
    exact⟨h1,fun c hc=>h2 c (by omega)⟩
theorem xC0{f:Nat→Int}{P:Int}{dead:Nat→Bool}{low:Int}(hP:1≤P)(hf:∀c,f (c+1)=f c+P):∀n,
  (low<f 0∧T7 f P dead low n=low)∨(f 0≤low∧((f n≤low∧T7 f P dead low n=low)∨(low<f n∧T7 f P dead low n=f n∧∀j,j<n→low≤f j+P-1→dead j=false)∨
   ∃d,d<n∧dead d=true∧low≤f d+P-1∧(T7 f P dead low n=low∨T7 f P dead low n=f d)∧low≤T7 f P dead low n∧f d≤T7 f P dead low n∧∀j,j<d→low≤f j+P-1→dead j=false))
 |0=>by
  by_cases h:low<f 0
  ·exact .inl ⟨h,rfl⟩
  ·exact .inr ⟨by omega,.inl ⟨by omega,rfl⟩⟩
 |n+1=>by
  have h0:=zA3 hP hf 0 n (by omega)
  have h1:=hf n
  rcases xC0 (dead:=dead) (low:=low) hP hf n with⟨h,e⟩|⟨h,⟨h2,e⟩|⟨h2,e,ha⟩|⟨d,hd,hdd,h2,e,h3,h4,ha⟩⟩
  ·refine .inl ⟨h,?_⟩
   rw[T7,e]
   split
   ·rfl
   ·split
    ·omega
    ·rfl
  ·refine .inr ⟨h,?_⟩
   have hbefore:∀j,j<n→¬low≤f j+P-1:=fun j hj hl=>by have:=kH7 hP hf hj;omega
   rw[T7,e]
   split
   ·rename_i hd
    by_cases hl:low≤f n+P-1
    ·exact .inr (.inr ⟨n,by omega,hd,hl,.inl rfl,by omega,by omega,fun j hj hl'=>absurd hl' (hbefore j hj)⟩)
    ·exact .inl ⟨by omega,rfl⟩
   ·rename_i hd
    split
    ·refine .inr (.inl ⟨by omega,by omega,fun j hj hl=> ?_⟩)
     by_cases ej:j=n
     ·subst ej;simpa using hd
     ·exact absurd hl (hbefore j (by omega))
    ·exact .inl ⟨by omega,rfl⟩
  ·refine .inr ⟨h,.inr ?_⟩
   rw[T7,e]
   split
   ·rename_i hd
    exact .inr ⟨n,by omega,hd,by omega,.inr rfl,by omega,by omega,ha⟩
   ·rename_i hd
    split
    ·refine .inl ⟨by omega,by omega,fun j hj hl=> ?_⟩
     by_cases ej:j=n
     ·subst ej;simpa using hd
     ·exact ha j (by omega) hl
    ·omega
  ·have h5:=kH7 hP hf hd
   refine .inr ⟨h,.inr (.inr ⟨d,by omega,hdd,h2,?_,?_,?_,ha⟩)⟩
   all_goals
    rw[T7]
    split
    ·assumption
    ·split
     ·omega
     ·assumption
theorem kY4{f:Nat→Int}{P:Int}{dead:Nat→Bool}{low high:Int}(hP:1≤P)(hf:∀c,f (c+1)=f c+P)(hlh:low≤high){n:Nat}(hn:1≤n):
  decide (high<T7 f P dead low n)=qR1 f P dead low high (decide (f 0≤low)&&decide (high≤f (n-1)+P-1)) n:=by
 have h1:=hf (n-1)
 rw[Nat.sub_add_cancel hn] at h1
 rw[Bool.eq_iff_iff,qN3,Z8]
 simp only[Q8,Z8]
 rcases xC0 (dead:=dead) (low:=low) hP hf n with⟨h,e⟩|⟨h,⟨h2,e⟩|⟨h2,e,ha⟩|⟨d,hd,hdd,h2,e,h3,h4,ha⟩⟩
 ·rw[e];constructor
  ·intro;omega
  ·rintro⟨⟨_,_⟩,_⟩;omega
 ·rw[e];constructor
  ·intro;omega
  ·rintro⟨⟨_,_⟩,_⟩;omega
 ·rw[e];constructor
  ·intro hh
   refine⟨⟨h,by omega⟩,fun c hc hd hx=> ?_⟩
   have:=ha c hc hx.2
   rw[hd] at this;simp at this
  ·rintro⟨⟨_,_⟩,_⟩;omega
 ·have h5:=kH7 hP hf hd
  constructor
  ·intro hh
   refine⟨⟨h,by omega⟩,fun c hc hd' hx=> ?_⟩
   have hcd:c<d:=by
    by_cases hcd:c<d
    ·exact hcd
    ·have:=zA3 hP hf d c (by omega)
     rcases e with e|e<;>omega
   have:=ha c hcd hx.2
   rw[hd'] at this;simp at this
  ·rintro⟨⟨_,_⟩,hx⟩
   have:=hx d hd hdd
   omega
end
end Go.Proofs.YtmncaipgefbalaaGreatDoor
