/- Part of the proof of the claim. -/
import Derived.Test.YtmncaipgefbalaaGreatDoorQag
set_option maxRecDepth 100000
set_option maxHeartbeats 8000000
set_option linter.unusedVariables false
set_option linter.unusedSimpArgs false
namespace Go.Proofs.YtmncaipgefbalaaGreatDoor
section
open Go Go.RowKit
attribute [local go_sem] Oper.semAt_some
theorem C4{P:Program}{md:Region.Mode}{Q:Exit→Act→World→Prop}{S:World→Prop}{l:List Oper}{n f:Nat}{listed:Array Bool}{a:Act}{w:World}{v:Value}{oi:Oper}{X:Prop}(i:Nat)(q:X)(hi:l.toArray[i]?=some oi:=by rfl)(hB:TkB md l n listed i=true:=by kernel_rfl)(hQ:∀c a w,Q (.panic c) (a.put oi.dst v) w→Q (.panic c) a w:=by exact fun _ _ _ h=>h)(hy:YieldsIf P l.toArray S oi v a:=by(refine Or.inl ⟨by rfl,?_⟩;intro w' hSw;have cc:=(J9 hSw).1;go_simp;(try with_reducible rfl)))(hS:S w:=by assumption)(hx:X→M5 P md l.toArray Q S n (C0 P md l Q n) f (listed.setIfInBounds i true) (a.put oi.dst v) w:=by(intro qq;refine hnm ?_;exact qq)):M5 P md l.toArray Q S n (C0 P md l Q n) (f+1) listed a w:=L9 hi hB hQ hy hS (hx q)
theorem zP5(dir:Bool)(a:Option Addr)(N m c node:Nat)(ts:Nat→TI)(vs:Nat→Int)(B q:Nat)(w:World)(hBw:B≤w.heap.size)(hq:qT6 B N a m c ts q w)(hO:qG7 N m ts=true)(hA:T1 N m ts N vs=true)(hN8:N≤8)(hm12:m≤12)(hnode:node<N)(hnv:qV1 w):
  Calls Tryz.prog (if dir=true then 28 else 29) #[.pointer (some ⟨q,0,none⟩),.int .i64 (node:Int)] w fun e w'=>∃d,e= .returned (kC8 d)∧(∃r,r≤N∧F5 ((K8 ts m).map (if dir=true then SP.tw else SP.fr)) node N r d)∧Below w.heap.size w w':=by
 obtain⟨gd,hgd⟩:∃g,g=(if dir=true then SP.tw else SP.fr):=⟨_,rfl⟩
 obtain⟨vv,hvv⟩:∃v:Nat→Int,v=(if dir=true then(fun i=> -vs i) else vs):=⟨_,rfl⟩
 have hw123:WOk ((K8 ts m).map gd)∧(∀e∈(K8 ts m).map gd,e.a<N∧e.b<N)∧((K8 ts m).map gd).length≤2*m:=by
  subst hgd;cases dir
  ·exact qA9 hO
  ·exact zF6 hO
 have hkp:∀e∈(K8 ts m).map gd,vv e.b-vv e.a≤e.len:=by
  subst hgd hvv;cases dir
  ·exact zA9 hA
  ·exact xI6 hA
 rw[←hgd]
 have HW:=Hd hq
 have HSA:=Hd (fun W=>zZ1 q W)
 have HSQ:=Hd (fun qp W hb hp=>zT4 a N m c ts B q qp W hb hp hO)
 have HOK:=Hd (T8 hO)
 obtain⟨hw1,hw2,hw3⟩:=hw123
 have HWO:=Hd hw1
 have HWN:=Hd (fun e he=>(hw2 e he).2)
 have HKP:=Hd hkp
 have HNV:=Hd hnv
 have HLN:=Hd (fun r (h1:r≤N) (h2:r+1≤N)=>show((K8 ts m).map gd).length*(r+1)<900∧((((K8 ts m).map gd).length:Int)*(r:Int)+(((K8 ts m).map gd).length:Int))<800 from by
  have h3:((K8 ts m).map gd).length*(r+1)≤24*8:=X8 (by omega) (by omega)
  have h4:((((K8 ts m).map gd).length*(r+1):Nat):Int)=(((K8 ts m).map gd).length:Int)*(r:Int)+(((K8 ts m).map gd).length:Int):=by rw[Nat.mul_add];simp
  omega)
 have hql:=J5 hq.box
 have hR0:=F5.start ((K8 ts m).map gd) node N
 have HR0:=Hd hR0
 clear hq hO hA hw1 hw2 hnv hR0 hvv hkp
 cases dir
 all_goals(
 refine(callsIn_wide (n:=6)).1 ?_
 first|refine callsIn_of_wp_marks Tryz.func28 rfl trivial ?_ rfl|refine callsIn_of_wp_marks Tryz.func29 rfl trivial ?_ rfl
 simp only[Tryz.ntmps28,Tryz.ntmps29,List.size_toArray,List.length_cons,List.length_nil,Nat.reduceAdd,Nat.reduceSub,Array.replicate_succ,Array.replicate_zero,List.push_toArray,List.append_toArray,List.nil_append,List.cons_append]
 refine wpIn_wide.2 ?_
 go_upto_region 2 with(fail)
 have HV:=Hd (((Q2 _ w).alloc (Q1 _) (.cells Tryz.zeroCells91 91)).alloc (by simp) (.cells Tryz.zeroCells91 91))
 have hx2:=zK8 (w.alloc (.cells Tryz.zeroCells91 91))
 have hx1:=(zK8 w).alloc (.cells Tryz.zeroCells91 91)
 rw[show(w.alloc (.cells Tryz.zeroCells91 91)).heap.size=w.heap.size+1 from by simp] at hx2
 generalize World.alloc (World.alloc w _) _=V at*
 have HX1:=Hd hx1
 have HX2:=Hd hx2
 have hw0:0<w.heap.size:=by omega
 clear hx1 hx2
 go_wp2
 go_loopw [6,10] (fun s6 s10 wr=>∃i:Nat,i≤40∧s10= .int .i64 (i:Int)∧Hid (Below w.heap.size w wr)∧Hid (wr.rowIs w.heap.size 91 80 (qG1 (qE4 0)))∧Hid (wr.rowIs (w.heap.size+1) 91 80 (qG1 (qE4 i)))) (fun _ s10 _=>40-(intOf s10).toNat)
 case atStart=>exact⟨0,by omega,rfl,HV,HX1,HX2⟩
 case round=>
  clear HV HX1 HX2
  obtain⟨i,hi,rfl,HV,HX1,HX2⟩:=hrel
  by_cases hlt:i<40
  ·have hlt':(i:Int)<40:=by omega
   obtain⟨n0,n1⟩:=(HNV.out.below HV.out hw0).c2
   simp only[P2] at n0 n1
   obtain⟨t0,t1,f0,f1⟩:=qL8 HX2.out hlt
   go_wp2
   have hb:=(HV.out.setCell (p:=⟨w.heap.size+1,i*2,none⟩) (Nat.le_succ _) (.int .i64 1000000000000)).setCell (p:=⟨w.heap.size+1,i*2+1,none⟩) (Nat.le_succ _) (.int .i64 0)
   have hr2:=xQ8 HX2.out i FV.never
   rw[jK9] at hr2
   have hr1:=(HX1.out.setOther (a:=⟨w.heap.size+1,i*2,none⟩) (by dsimp only;omega) (.int .i64 1000000000000)).setOther (a:=⟨w.heap.size+1,i*2+1,none⟩) (by dsimp only;omega) (.int .i64 0)
   go_roundw
   case rel=>exact⟨i+1,by omega,by go_num,Hd hb,Hd hr1,Hd hr2⟩
   case measure=>simp[intOf];omega
  ·obtain rfl:i=40:=by omega
   have hlt':¬((40:Nat):Int)<40:=by omega
   obtain⟨t0,t1,f0,f1⟩:=qL8 HX2.out (f:=node) (by omega)
   have hnd:(node:Int)<40:=by omega
   go_wp2
   have hb0:=(HV.out.setCell (p:=⟨w.heap.size+1,node*2,none⟩) (Nat.le_succ _) (.int .i64 0)).setCell (p:=⟨w.heap.size+1,node*2+1,none⟩) (Nat.le_succ _) (.int .i64 0)
   have hr2:=jC0 (xQ8 HX2.out node ⟨0,0⟩) (jO1 node)
   have hr1:=(HX1.out.setOther (a:=⟨w.heap.size+1,node*2,none⟩) (by dsimp only;omega) (.int .i64 0)).setOther (a:=⟨w.heap.size+1,node*2+1,none⟩) (by dsimp only;omega) (.int .i64 0)
   clear HV HX1 HX2 t0 t1 f0 f1 hnd hlt'
   have hz0:((wr.setCell ⟨w.heap.size+1,node*2,none⟩ (.int .i64 0)).setCell ⟨w.heap.size+1,node*2+1,none⟩ (.int .i64 0)).heap.size=wr.heap.size:=by simp[World.setCell]
   generalize World.setCell (World.setCell wr _ _) _ _=W0 at*
   have hb1:=(Q2 _ W0).alloc (Q1 _) (.cells #[.bool true] 4)
   have hc1:=Q3 W0 (.cells #[.bool true] 4)
   have HV:=Hd (hb0.trans (hb1.mono hb0.size))
   have hl2:=hr2.lt
   have HX1:=Hd (hr1.alloc (.cells #[.bool true] 4))
   have HX2:=Hd (hr2.alloc (.cells #[.bool true] 4))
   have HC1:=Hd hc1
   clear hb0 hb1 hc1 hr1 hr2
   generalize World.alloc W0 _=W1 at*
   rw[hz0] at HC1 hl2
   generalize wr.heap.size=cb0 at*
   clear hz0
   refine wp_loop_ghost_k (fun k a0 w'=>∃(tm:Array Value) (Ds:List Nat) (r cb:Nat) (d:Nat→FV) (ch:Bool),a0=⟨tm,marks Ds⟩∧(tm.size=66∧tm[0]?=some (.pointer (some ⟨q,0,none⟩))∧tm[1]?=some (.int .i64 (node:Int))∧tm[4]?=some (.pointer (some ⟨w.heap.size,0,none⟩))∧tm[5]?=some (.pointer (some ⟨w.heap.size+1,0,none⟩))∧tm[7]?=some (.pointer (some ⟨cb,0,none⟩)))∧k=(if ch=true then N-r+1 else 0)∧r≤N∧w.heap.size+1<cb∧Hid (ch=true→r+1≤N)∧Hid (F5 ((K8 ts m).map gd) node N r d)∧Hid (w'.rowIs w.heap.size 91 80 (qG1 (qE4 0)))∧Hid (w'.rowIs (w.heap.size+1) 91 80 (qG1 d))∧Hid (w'.heap[cb]?=some (.cells #[.bool ch] 4))∧Hid (Below w.heap.size w w')∧Hid (Ds.Nodup∧∀D∈Ds,w.heap.size+1<D∧D<w'.heap.size∧w'.heap[D]?=some (.deferred (some [])))) (N-0+1) ?h0 ?round
   case h0=>exact⟨_,[],0,cb0,qL6 node,true,rfl,⟨rfl,rfl,rfl,rfl,rfl,rfl⟩,rfl,Nat.zero_le _,hl2,Hd (fun _=>by omega),HR0,HX1,HX2,HC1,HV,Hd ⟨by simp,fun D hD=>by cases hD⟩⟩
   case round=>
    rintro k0 a0 w1 hI J K hJ hK
    clear HV HX1 HX2 HC1 HR0 hl2
    obtain⟨tm,Ds,r,cb,d,ch,rfl,⟨htm,h0,h1,h4,h5,h7⟩,rfl,hrN,hcbl,HCH,HR,HX1,HX2,HCB,HB,HD⟩:=hI
    obtain⟨u,rfl,hu⟩:=kE1 tm htm
    rw[hu 0 (by decide)] at h0
    rw[hu 1 (by decide)] at h1
    rw[hu 4 (by decide)] at h4
    rw[hu 5 (by decide)] at h5
    rw[hu 7 (by decide)] at h7
    rw[Option.some.inj h0,Option.some.inj h1,Option.some.inj h4,Option.some.inj h5,Option.some.inj h7]
    clear h0 h1 h4 h5 h7 hu htm
    have cc0:=Q0 _ _ 0 _ _ _ HCB.out
    cases ch with
    |false=>
     have hrng:=jC1 HX2.out
     have hthr:=zE9 HX1.out
     go_upto_region 19 with(fail)
     refine wp_region_lit ?_
     refine wpList_load_mid rfl 91 _ rfl (w.heap.size+1) 0 rfl (A2 d) _ hrng Tryz.underlying91 rfl (by rw[qL7];exact qK2) ?_
     (try dsimp only[Act.put]);(try simp only[hns])
     refine wpList_store_mid rfl 91 _ _ rfl w.heap.size 0 (A2 d).toArray rfl rfl (by rw[qX3];exact hthr) (by rw[qX3];exact qK2) (zF9 d) ?_
     (try dsimp only[Act.put])
     have hbe:=R5 (Q1 w.heap.size) (A2 d) 0 w1 HB.out
     have hrs:=World.rangeAt_setCells_same w1 w.heap.size 0 (A2 d) (by rw[qL7];exact hthr)
     have hds:∀D∈Ds,w.heap.size+1<D∧(w1.setCells w.heap.size 0 (A2 d)).heap[D]?=some (.deferred (some [])):=fun D hD=>⟨(HD.out.2 D hD).1,(E5 (by have:=(HD.out.2 D hD).1;omega) _ _ _).trans (HD.out.2 D hD).2.2⟩
     have HBE:=Hd hbe
     have HRS:=Hd hrs
     have HDS:=Hd hds
     clear hbe hrs hds hrng hthr cc0
     generalize World.setCells w1 _ _ _=W9 at*
     simp only[wpList]
     go_wp2
     refine qJ5 (Ds:=Ds) (v:=kC8 d) HD.out.1 (fun E hE=>(HDS.out E hE).2) (fun W' e1 e2 e3 e4 e5=>⟨kB3 (p:=4) rfl _ W' w.heap.size (A2 d) rfl (E7 HRS.out (e5 _ (fun hm=>by have:=(HDS.out _ hm).1;omega))) Tryz.underlying91 rfl (by rw[qL7];exact qK2),d,rfl,⟨r,hrN,HR.out⟩,zZ3 HBE.out (fun E hE=>by have:=(HDS.out E hE).1;omega) e1 e2 e3 e4 e5⟩)
    |true=>
     have hr1N:=HCH.out rfl
     have cf0:=Z3 _ _ 0 _ _ HCB.out
     have hcl:=J5 HCB.out
     go_upto_region 11 with(fail)
     have hs2:(w1.setCell ⟨cb,0,none⟩ (.bool false)).heap.size=w1.heap.size:=by simp[World.setCell]
     have hbw:=HB.out.setCell (p:=⟨cb,0,none⟩) (by dsimp only;omega) (.bool false)
     have hcb:=Q4 w1 cb 0 _ _ (.bool false) HCB.out
     have hx1:=HX1.out.setOther (a:=⟨cb,0,none⟩) (by dsimp only;omega) (.bool false)
     have hx2:=HX2.out.setOther (a:=⟨cb,0,none⟩) (by dsimp only;omega) (.bool false)
     have hd2:∀D∈Ds,w.heap.size+1<D∧D<w1.heap.size∧(w1.setCell ⟨cb,0,none⟩ (.bool false)).heap[D]?=some (.deferred (some [])):=fun D hD=>⟨(HD.out.2 D hD).1,(HD.out.2 D hD).2.1,(Q6 w1 ⟨cb,0,none⟩ D _ (fun e=>by
      have h1:=(HD.out.2 D hD).2.2
      rw[show D=cb from e,HCB.out] at h1;cases h1)).trans (HD.out.2 D hD).2.2⟩
     have hdn:=HD.out.1
     clear HX1 HX2 HB HCB HD HCH cf0 cc0
     generalize World.setCell w1 _ _=W2 at*
     have HC2:=Hd (show W2.heap[cb]?=some (.cells #[.bool false] 4) from by simpa using hcb)
     have HX1:=Hd hx1
     have HX2:=Hd hx2
     have HD2:=Hd (fun D hD=>by have:=hd2 D hD;rw[←hs2] at this;exact this)
     have HB2:=Hd hbw
     have hcl2:cb<W2.heap.size:=by omega
     clear hcb hx1 hx2 hd2 hbw hs2 hcl
     go_wp2_with(go_at_call 67;refine(HSA.out _).mono ?_;rintro e W3 ⟨rfl,hbx,hb3⟩;have HBX:=Hd hbx;have HB3:=Hd hb3;clear hbx hb3)
     have hB3:=HB3.out
     have hw03:Below w.heap.size w W3:=HB2.out.trans (hB3.mono HB2.out.size)
     have hq3l:W2.heap.size<W3.heap.size:=J5 HBX.out
     have hQ3:qX7 B N a m c ts q W2.heap.size W3:=⟨HW.out.below hBw hw03,HBX.out⟩
     have hRlt:∀b,WbR a m q W2.heap.size b→b<W3.heap.size∧(b=W2.heap.size∨b<w.heap.size):=by
      rintro b (h|h|⟨h0,o,h⟩)
      ·have:=hw03.size;exact⟨by omega,.inr (by omega)⟩
      ·exact⟨by omega,.inl h⟩
      ·rcases HW.out.rows with h1|⟨b',o',h1,h2,_⟩
       ·exact absurd h1 h0
       ·rw[h] at h1;injection h1 with h1;injection h1 with h1
        have:=hw03.size;exact⟨by omega,.inr (by omega)⟩
     have hz23:=hB3.size
     have hz03:=hw03.size
     have hz02:=HB2.out.size
     have hT0:ToT w.heap.size (w.heap.size+1) cb Ds gd d (fun b=>b=w.heap.size∨b=w.heap.size+1∨b=cb∨b∈Ds) [] W3:=by
      refine⟨.inl rfl,.inr (.inl rfl),.inr (.inr (.inl rfl)),HX1.out.of_block (hB3.block _ (by omega)),HX2.out.of_block (hB3.block _ (by omega)),Y0 HC2.out hB3,fun D hD=>⟨.inr (.inr (.inr hD)),?_⟩⟩
      have:=HD2.out D hD
      exact(hB3.block D (by omega)).trans this.2.2
     refine zV0 (P:=Tryz.prog) rfl (enters_of Tryz.func100 (by kernel_rfl) rfl) (HSQ.out _ W3 (by omega) hQ3) (fun b hb=>(hRlt b hb).1) w hw03 (fun _=>rfl)
      (fun b=>b=w.heap.size∨b=w.heap.size+1∨b=cb∨b∈Ds) ?hX0 (ToT w.heap.size (w.heap.size+1) cb Ds gd d) (fun _ _ _ _ h hk=>h.keep hk) hT0
      (fun x qx=>⟨#[.pointer (some ⟨q,0,none⟩),.int .i64 (node:Int),u 2,u 3,.pointer (some ⟨w.heap.size,0,none⟩),.pointer (some ⟨w.heap.size+1,0,none⟩),u 6,.pointer (some ⟨cb,0,none⟩),.pointer (some ⟨qx,0,none⟩),u 9,u 10,u 11,u 12,u 13,u 14,u 15,u 16,u 17,u 18,u 19,.bool true,.pointer (some ⟨q,0,none⟩),.func (.func 100) #[] #[.pointer (some ⟨W2.heap.size,0,none⟩)],.agg #[.int .i64 x.tie,.bool x.bk,.int .i64 x.f,.int .i64 x.t,.int .i64 x.len],u 24,u 25,u 26,u 27,u 28,u 29,u 30,u 31,u 32,u 33,u 34,u 35,u 36,u 37,u 38,u 39,u 40,u 41,u 42,u 43,u 44,u 45,u 46,u 47,u 48,u 49,u 50,u 51,u 52,u 53,u 54,u 55,u 56,u 57,u 58,u 59,u 60,u 61,u 62,u 63,u 64,u 65],[]⟩) kE7 ?hassign ?hbody ?hdone
     case hX0=>
      intro b hb
      have h1:w.heap.size≤b∧b<W2.heap.size:=by
       rcases hb with h|h|h|h
       ·omega
       ·omega
       ·omega
       ·have:=HD2.out b h;omega
      refine⟨h1.1,fun h2=> ?_,by omega⟩
      have:=(hRlt b h2).2
      omega
     case hassign=>
      intro l x W K hK
      unfold SP.val
      gi_wp2
      exact hK
     case hbody=>
      intro l pre x O X W qx hz hqx hm hT hb hrr hnx
      have hxE:x∈K8 ts m:=by
       obtain⟨u,hu⟩:=hnx
       rw[←hu]
       simp
      obtain⟨hs1,hs2,hs3,hs4⟩:=HOK.out x hxE
      have hpf:pre.map gd<+:(K8 ts m).map gd:=by
       obtain⟨u,hu⟩:=hnx
       rw[←hu,List.append_assoc,List.map_append]
       exact List.prefix_append _ _
      have hln:=HLN.out r hrN hr1N
      have hok:=jG4 HR.out.ok HWO.out hpf (by have:=hln.2;omega)
      have hok2:=hok.mono (V:=800) (by have:=hpf.length_le;omega)
      obtain⟨x',hx'⟩:∃x':SP,x'=x:=⟨_,rfl⟩
      (first|(have _:=(show gd=SP.tw from hgd);obtain⟨tie,bk,zb,za,len⟩:=x)|obtain⟨tie,bk,za,zb,len⟩:=x)
      dsimp only at hs1 hs2 hs3 hs4
      obtain⟨za,rfl⟩:∃k:Nat,za=k:=⟨za.toNat,by omega⟩
      obtain⟨zb,rfl⟩:∃k:Nat,zb=k:=⟨zb.toNat,by omega⟩
      have htn1:S2 d ((pre++[x']).map gd)=zQ0 (S2 d (pre.map gd)) za zb len:=by
       rw[List.map_append,hx',hgd];exact xT1 _ _ _
      have htn2:R9 d ((pre++[x']).map gd)=(R9 d (pre.map gd)||zW1 (S2 d (pre.map gd)) za zb len):=by
       rw[List.map_append,hx',hgd];exact zG3 _ _ _
      have hla:=hok2 za
      have hlb:=hok2 zb
      have HM:=Hd hm
      have HT:=Hd hT
      have HQX:=Hd hqx
      have HTA:=Hd hT.tab
      have HCG:=Hd hT.chg
      have HN1:=Hd htn1
      have HN2:=Hd htn2
      have HBW:=Hd hb
      have HMIS:=Hd (fun W2 h0 h1 h2=>ToT.miss (x:=x') (W2:=W2) hm hT h0 h1 h2)
      have HHIT:=Hd (fun W2 v nb h0 h1 h2=>ToT.hit (x:=x') (bn:=zb) (W2:=W2) (v:=v) (nb:=nb) hm hT h0 (by omega) (by omega) (by omega) h1 h2)
      subst hx'
      have hql:=J5 hqx
      have hdl:=hT.tab.lt
      have hcl:=J5 hT.chg
      have hw0W:0<W.heap.size:=by omega
      clear hm hT hqx htn1 htn2 hok hok2 hb
      generalize S2 d (pre.map gd)=dd at*
      generalize R9 d (pre.map gd)=cc at*
      have hf40:(za:Int)<40:=by omega
      have ht40:(zb:Int)<40:=by omega
      obtain⟨q0,q1,q2,q3,q4⟩:=cr5 HQX.out
      simp only[P2] at q0 q1 q2 q3 q4
      obtain⟨n0,n1⟩:=(HNV.out.below HBW.out hw0).c2
      simp only[P2] at n0 n1
      obtain⟨e0,e1,_,_⟩:=qL8 HTA.out (f:=za) (by omega)
      have heq:=jP8
      dsimp only
      gi_upto_region 13 with(fail)
      by_cases hnev:dd za=FV.never
      ·have hc1:((dd za).len==1000000000000&&(dd za).uses==0)=true:=by rw[hnev];rfl
       have hq1:=HN1.out
       have hq2:=HN2.out
       rw[zQ0,if_pos hnev] at hq1
       rw[zW1,if_pos hnev,Bool.or_false] at hq2
       have HN1:=Hd hq1
       have HN2:=Hd hq2
       have HNE:=Hd hnev
       clear hq1 hq2 hnev
       (refine I5 (by kernel_rfl) (by kernel_rfl) (by kernel_rfl) ?_;(repeat(gi_big_quiet_step(fail)));refine wpQuietIn_nil ?_;intro _ hw';obtain⟨nq,hw''⟩:=hw';subst hw'')
       clear q0 q1 q2 q3 q4 n0 n1 e0 e1 heq hc1
       gi_wp2
       exact HMIS.out _ (qZ6 W nq) HN1.out HN2.out
      ·have hc1:((dd za).len==1000000000000&&(dd za).uses==0)=false:=by
        rw[Bool.and_eq_false_iff,beq_eq_false_iff_ne,beq_eq_false_iff_ne]
        by_cases h1:(dd za).len=1000000000000
        ·exact .inr (fun h2=>hnev (by cases h3:dd za;rw[h3] at h1 h2;simp only at h1 h2;subst h1 h2;rfl))
        ·exact .inl h1
       obtain⟨hq1,hq2⟩:=kB2 dd za zb len hnev
       rw[←HN1.out] at hq1
       have hq3:=HN2.out
       rw[hq2] at hq3
       have hla:=hla.resolve_left hnev
       have HN1:=Hd hq1
       have HN2:=Hd hq3
       clear hq1 hq2 hq3 hnev
       (refine I5 (by kernel_rfl) (by kernel_rfl) (by kernel_rfl) ?_;(repeat(gi_big_quiet_step(fail)));refine wpQuietIn_nil ?_;intro _ hw';obtain⟨nq,hw''⟩:=hw';subst hw'')
       clear q0 q1 q2 q3 q4 n0 n1 e0 e1 heq hc1
       gi_upto_region 14 with(fail)
       rename_i KR hKR
       have hbq:=qZ6 W nq
       have hcand:=hla.cand hs4
       have HLE:=Hd (fun sb cc V hs=>xR2 (dd zb) (qQ9 dd za len) sb cc V hs)
       unfold FV.val qQ9 at HLE
       dsimp only at HLE
       obtain⟨x0,x1,hxx⟩:∃x0 x1,xB4 (dd zb) (qQ9 dd za len)=⟨x0,x1⟩:=⟨_,_,rfl⟩
       unfold qQ9 at hxx
       rw[hxx] at HLE
       dsimp only at HLE
       have hmn:=kM0 (dd zb) ⟨(dd za).len+len,(dd za).uses+1⟩
       rw[hxx,Bool.not_and] at hmn
       dsimp only at hmn
       have hq1:=HN1.out
       have hq2:=HN2.out
       unfold qQ9 at hq1 hq2
       rw[hxx] at hq1
       rw[←hmn] at hq2
       have HN1:=Hd hq1
       have HN2:=Hd hq2
       clear hq1 hq2 hmn hxx
       have HREST:∀(tm:Array Value) (xb:Nat) (V2:World),(tm.size=66∧tm[5]?=some (.pointer (some ⟨w.heap.size+1,0,none⟩))∧tm[7]?=some (.pointer (some ⟨cb,0,none⟩))∧tm[8]?=some (.pointer (some ⟨qx,0,none⟩))∧tm[9]?=some (.pointer (some ⟨xb,0,none⟩)))→Below W.heap.size W V2→W.heap.size≤xb→V2.heap[xb]?=some (.cells #[.int .i64 x0,.int .i64 x1] 89)→KR ⟨tm,[]⟩ V2:=by
        clear HLE hcand hbq
        rintro tm xb V2 ⟨htm,h5,h7,h8,h9⟩ hb2 hxl hxb
        obtain⟨u,rfl,hu⟩:=kE1 tm htm
        rw[hu 5 (by decide)] at h5
        rw[hu 7 (by decide)] at h7
        rw[hu 8 (by decide)] at h8
        rw[hu 9 (by decide)] at h9
        rw[Option.some.inj h5,Option.some.inj h7,Option.some.inj h8,Option.some.inj h9]
        clear h5 h7 h8 h9 hu htm
        have HQX2:=Hd (Y0 HQX.out hb2)
        have hta:=HTA.out.of_block (hb2.block _ hdl)
        have hcg:=Y0 HCG.out hb2
        have hbl:=hb2.size
        have HB2V:=Hd hb2
        have hxbl:=J5 hxb
        clear hb2
        refine hKR _ _ ?_
        clear hKR
        obtain⟨q0,q1,q2,q3,q4⟩:=cr5 HQX2.out
        obtain⟨y0,y1⟩:=M7 hxb
        simp only[P2] at q0 q1 q2 q3 q4 y0 y1
        obtain⟨e0,e1,f0,f1⟩:=qL8 hta (f:=zb) (by omega)
        have c0:=Q0 _ _ 0 _ _ _ hcg
        have cf:=Z3 _ _ 0 _ _ hcg
        simp only[P2] at c0
        have heq:=jP8
        have hl1:cb<V2.heap.size:=by omega
        have hl2:qx<V2.heap.size:=by omega
        have hl3:w.heap.size+1<V2.heap.size:=by omega
        have HXB:=Hd hxb
        have HCG2:=Hd hcg
        have HTA2:=Hd hta
        clear hxb hcg hta
        gi_upto_region 15 with(fail)
        refine qK5 (by kernel_rfl) (by kernel_rfl) (fun _ _ h=>h) (zL3 V2.heap.size 9 (by kernel_rfl) ?_)
        simp only[List.take_succ_cons,List.take_zero,X7,List.drop_zero]
        cases cc
        ·have hn2:=HN2.out
         rw[Bool.false_or] at hn2
         have HN2:=Hd hn2
         clear hn2
         (repeat(first|go_big_quiet_step(fail)|quiet_step(fail)))
         refine X4 (wqn ?_);intro xq
         have hxq:=xq.below
         generalize K9.val xq=V3 at*
         have HB3:=Hd (HB2V.out.trans (hxq.mono hbl))
         have HXB3:=Hd (Y0 HXB.out hxq)
         have HQX3:=Hd (Y0 HQX2.out hxq)
         have HCG3:=Hd (Y0 HCG2.out hxq)
         have HTA3:=Hd (HTA2.out.of_block (hxq.block _ hl3))
         have hcl3:=J5 HCG3.out
         have hql3:=J5 HQX3.out
         have hdl3:=HTA3.out.lt
         have hxl3:=J5 HXB3.out
         clear q0 q1 q2 q3 q4 y0 y1 e0 e1 f0 f1 c0 cf heq hxq xq HXB HQX2 HCG2 HTA2 HB2V
         obtain⟨q0,q1,q2,q3,q4⟩:=cr5 HQX3.out
         obtain⟨y0,y1⟩:=M7 HXB3.out
         simp only[P2] at q0 q1 q2 q3 q4 y0 y1
         obtain⟨e0,e1,f0,f1⟩:=qL8 HTA3.out (f:=zb) (by omega)
         have cf:=Z3 _ _ 0 _ _ HCG3.out
         have c0:=Q0 _ _ 0 _ _ _ HCG3.out
         simp only[P2] at c0
         have n1:cb≠qx:=fun e=>by have h1:=HCG3.out;rw[e,HQX3.out] at h1;cases h1
         have n2:cb≠xb:=fun e=>by have h1:=HCG3.out;rw[e,HXB3.out] at h1;cases h1
         have n3:w.heap.size+1≠cb:=by omega
         have n4:=Ne.symm n1
         have n5:=Ne.symm n2
         have n6:=Ne.symm n3
         go_wp2_with fail
         gi_wp2
         exact HHIT.out V3 ⟨x0,x1⟩ _ HB3.out HN1.out HN2.out
        ·have hn2:=HN2.out
         rw[Bool.true_or] at hn2
         have HN2:=Hd hn2
         clear hn2
         (repeat(first|go_big_quiet_step(fail)|quiet_step(fail)))
         refine X4 (wqn ?_);intro xq
         have hxq:=xq.below
         generalize K9.val xq=V3 at*
         have HB3:=Hd (HB2V.out.trans (hxq.mono hbl))
         have HXB3:=Hd (Y0 HXB.out hxq)
         have HQX3:=Hd (Y0 HQX2.out hxq)
         have HCG3:=Hd (Y0 HCG2.out hxq)
         have HTA3:=Hd (HTA2.out.of_block (hxq.block _ hl3))
         have hcl3:=J5 HCG3.out
         have hql3:=J5 HQX3.out
         have hdl3:=HTA3.out.lt
         have hxl3:=J5 HXB3.out
         clear q0 q1 q2 q3 q4 y0 y1 e0 e1 f0 f1 c0 cf heq hxq xq HXB HQX2 HCG2 HTA2 HB2V
         obtain⟨q0,q1,q2,q3,q4⟩:=cr5 HQX3.out
         obtain⟨y0,y1⟩:=M7 HXB3.out
         simp only[P2] at q0 q1 q2 q3 q4 y0 y1
         obtain⟨e0,e1,f0,f1⟩:=qL8 HTA3.out (f:=zb) (by omega)
         have cf:=Z3 _ _ 0 _ _ HCG3.out
         have c0:=Q0 _ _ 0 _ _ _ HCG3.out
         simp only[P2] at c0
         have n1:cb≠qx:=fun e=>by have h1:=HCG3.out;rw[e,HQX3.out] at h1;cases h1
         have n2:cb≠xb:=fun e=>by have h1:=HCG3.out;rw[e,HXB3.out] at h1;cases h1
         have n3:w.heap.size+1≠cb:=by omega
         have n4:=Ne.symm n1
         have n5:=Ne.symm n2
         have n6:=Ne.symm n3
         go_wp2_with fail
         gi_wp2
         exact HHIT.out V3 ⟨x0,x1⟩ _ HB3.out HN1.out HN2.out
       clear hKR HHIT HMIS HN1 HN2
       have hbd:Below W.heap.size W (World.drew (W.drewN nq)):=hbq.drew
       have hc3:=hcand.len
       have hc4:=hcand.uses
       simp only[qQ9] at hc3 hc4
       have hwr1:IntKind.i64.wrap ((dd za).len+len)=(dd za).len+len:=Z1 _ (by omega)
       have hwr2:IntKind.i64.wrap ((dd za).uses+1)=(dd za).uses+1:=Z1 _ (by omega)
       obtain⟨q0,q1,q2,q3,q4⟩:=cr5 HQX.out
       simp only[P2] at q0 q1 q2 q3 q4
       obtain⟨e0,e1,_,_⟩:=qL8 HTA.out (f:=za) (by omega)
       obtain⟨g0,g1,_,_⟩:=qL8 HTA.out (f:=zb) (by omega)
       clear hcand hc3 hc4 hla hlb hbq
       refine qK5 (by kernel_rfl) (by kernel_rfl) (fun _ _ h=>h) ?_
       change wpAny _ _ _ _ _ _ _ (World.drew (World.drewN W nq))
       generalize World.drew (World.drewN W nq)=Wd at*
       refine B1 22 22 (fun w'=>Below W.heap.size W w') (by kernel_rfl) hbd (fun hS=> ?_)
       refine C4 0 ?_
       refine C4 1 ?_
       refine C4 2 ?_
       refine C4 3 ?_
       refine C4 4 ?_
       refine C4 5 ?_
       refine C4 6 ?_
       refine C4 7 ?_
       refine C4 8 ?_
       refine C4 9 ?_
       refine C4 10 ?_
       refine C4 11 ?_
       refine C4 12 ?_
       refine C4 13 ?_
       refine C4 14 ?_
       refine C4 15 ?_
       refine C4 16 ?_
       refine C4 17 ?_
       refine C4 18 ?_
       clear q0 q1 q2 q3 q4 e0 e1 g0 g1 hwr1 hwr2
       refine zR4 19 21 ?_ ?_
       ·refine V8 rfl (fun K hK=> ?_)
        go_simp
        have hnw:=Q3 Wd (.cells #[.int .i64 ((dd za).len+len),.int .i64 ((dd za).uses+1)] 89)
        have hal:=(Q2 _ Wd).alloc (Q1 _) (.cells #[.int .i64 ((dd za).len+len),.int .i64 ((dd za).uses+1)] 89)
        refine hK.out _ _ (hS.alloc hS.size _) (fun hSz=> ?_)
        clear hK K
        refine hnm ?_
        have sbl:W.heap.size≤Wd.heap.size:=hS.size
        clear hS hal
        generalize World.alloc Wd _=V1 at*
        generalize Wd.heap.size=sb at*
        have hsb:=hnw
        clear hnw
        have hSx:=hSz
        clear hSz
        refine zR4 20 21 ?_ ?_
        ·refine V8 rfl (fun K hK=> ?_)
         go_simp
         refine(HLE.out sb 1 V1 hsb).mono ?_
         rintro e V2 ⟨rfl,hb2⟩
         have hSy:=hSx.trans (hb2.mono hSx.size)
         refine hK.out _ _ hSy (fun hSx2=> ?_)
         clear hK K hSx2
         refine hnm ?_
         clear hSx hb2
         refine V7 21 ?_
         refine V8 rfl (fun K hK=> ?_)
         go_simp
         have hnw:=Q3 V2 (.cells #[.int .i64 0,.int .i64 0] 89)
         have hal:=(Q2 _ V2).alloc (Q1 _) (.cells #[.int .i64 0,.int .i64 0] 89)
         refine hK.out _ _ (hSy.alloc hSy.size _) (fun hSz=> ?_)
         clear hK K
         refine hnm ?_
         have xbl:W.heap.size≤V2.heap.size:=hSy.size
         clear hSy hal
         generalize World.alloc V2 _=V4 at*
         generalize V2.heap.size=xb at*
         have hxb:=hnw
         clear hnw
         have hSx:=hSz
         clear hSz
         change C0 _ _ _ _ _ _ _ _
         refine⟨by kernel_rfl,?_⟩
         simp only[X7,List.drop_zero]
         obtain⟨y0,y1⟩:=M7 hxb
         simp only[P2] at y0 y1
         obtain⟨f0,f1⟩:=fr2 hxb
         have hxbl:=J5 hxb
         go_wp2
         exact HREST _ xb _ ⟨rfl,rfl,rfl,rfl,rfl⟩ ((hSx.setCell (p:=⟨xb,0,none⟩) xbl (.int .i64 x0)).setCell (p:=⟨xb,1,none⟩) xbl (.int .i64 x1)) xbl (Q4 _ xb 1 _ _ (.int .i64 x1) (Q4 V4 xb 0 _ _ (.int .i64 x0) hxb))
        ·refine V8 rfl (fun K hK=> ?_)
         go_simp
         have hnw:=Q3 V1 (.cells #[.int .i64 0,.int .i64 0] 89)
         have hal:=(Q2 _ V1).alloc (Q1 _) (.cells #[.int .i64 0,.int .i64 0] 89)
         refine hK.out _ _ (hSx.alloc hSx.size _) (fun hSz=> ?_)
         clear hK K
         refine hnm ?_
         have hsb:=Y0 hsb hal
         have xbl:W.heap.size≤V1.heap.size:=hSx.size
         clear hSx hal
         generalize World.alloc V1 _=V2 at*
         generalize V1.heap.size=xb at*
         have hxb:=hnw
         clear hnw
         have hSx:=hSz
         clear hSz
         refine V7 20 ?_
         refine V8 rfl (fun K hK=> ?_)
         go_simp
         refine(HLE.out sb 1 V2 hsb).mono ?_
         rintro e V4 ⟨rfl,hb2⟩
         have hSy:=hSx.trans (hb2.mono hSx.size)
         refine hK.out _ _ hSy (fun hSx2=> ?_)
         clear hK K hSx2
         refine hnm ?_
         have hxb:=Y0 hxb hb2
         clear hSx hb2
         change C0 _ _ _ _ _ _ _ _
         refine⟨by kernel_rfl,?_⟩
         simp only[X7,List.drop_zero]
         obtain⟨y0,y1⟩:=M7 hxb
         simp only[P2] at y0 y1
         obtain⟨f0,f1⟩:=fr2 hxb
         have hxbl:=J5 hxb
         go_wp2
         exact HREST _ xb _ ⟨rfl,rfl,rfl,rfl,rfl⟩ ((hSy.setCell (p:=⟨xb,0,none⟩) xbl (.int .i64 x0)).setCell (p:=⟨xb,1,none⟩) xbl (.int .i64 x1)) xbl (Q4 _ xb 1 _ _ (.int .i64 x1) (Q4 V4 xb 0 _ _ (.int .i64 x0) hxb))
       ·refine V8 rfl (fun K hK=> ?_)
        go_simp
        have hnw:=Q3 Wd (.cells #[.int .i64 0,.int .i64 0] 89)
        have hal:=(Q2 _ Wd).alloc (Q1 _) (.cells #[.int .i64 0,.int .i64 0] 89)
        refine hK.out _ _ (hS.alloc hS.size _) (fun hSz=> ?_)
        clear hK K
        refine hnm ?_
        have xbl:W.heap.size≤Wd.heap.size:=hS.size
        clear hS hal
        generalize World.alloc Wd _=V1 at*
        generalize Wd.heap.size=xb at*
        have hxb:=hnw
        clear hnw
        have hSx:=hSz
        clear hSz
        refine V7 19 ?_
        refine V8 rfl (fun K hK=> ?_)
        go_simp
        have hnw:=Q3 V1 (.cells #[.int .i64 ((dd za).len+len),.int .i64 ((dd za).uses+1)] 89)
        have hal:=(Q2 _ V1).alloc (Q1 _) (.cells #[.int .i64 ((dd za).len+len),.int .i64 ((dd za).uses+1)] 89)
        refine hK.out _ _ (hSx.alloc hSx.size _) (fun hSz=> ?_)
        clear hK K
        refine hnm ?_
        have hxb:=Y0 hxb hal
        have sbl:W.heap.size≤V1.heap.size:=hSx.size
        clear hSx hal
        generalize World.alloc V1 _=V2 at*
        generalize V1.heap.size=sb at*
        have hsb:=hnw
        clear hnw
        have hSx:=hSz
        clear hSz
        refine V7 20 ?_
        refine V8 rfl (fun K hK=> ?_)
        go_simp
        refine(HLE.out sb 1 V2 hsb).mono ?_
        rintro e V4 ⟨rfl,hb2⟩
        have hSy:=hSx.trans (hb2.mono hSx.size)
        refine hK.out _ _ hSy (fun hSx2=> ?_)
        clear hK K hSx2
        refine hnm ?_
        have hxb:=Y0 hxb hb2
        clear hSx hb2
        change C0 _ _ _ _ _ _ _ _
        refine⟨by kernel_rfl,?_⟩
        simp only[X7,List.drop_zero]
        obtain⟨y0,y1⟩:=M7 hxb
        simp only[P2] at y0 y1
        obtain⟨f0,f1⟩:=fr2 hxb
        have hxbl:=J5 hxb
        go_wp2
        exact HREST _ xb _ ⟨rfl,rfl,rfl,rfl,rfl⟩ ((hSy.setCell (p:=⟨xb,0,none⟩) xbl (.int .i64 x0)).setCell (p:=⟨xb,1,none⟩) xbl (.int .i64 x1)) xbl (Q4 _ xb 1 _ _ (.int .i64 x1) (Q4 V4 xb 0 _ _ (.int .i64 x0) hxb))
     case hdone=>
      rintro D xs X W hD hDl hDX hxs hT hb hrr hDD
      unfold EqS at hxs
      subst hxs
      have hln:=HLN.out r hrN hr1N
      have hnx:=HR.out.next HWO.out hln.1
      have hfew:=HR.out.few (v:=vv) HWO.out hln.1 HWN.out hnode HKP.out
      obtain⟨xr,xd,xc,h1,h2,h3,h5⟩:=hT
      have hb1:=(Q2 _ W).alloc (Q1 _) (.cells #[.bool (R9 d ((K8 ts m).map gd))] 4)
      have hc1:=Q3 W (.cells #[.bool (R9 d ((K8 ts m).map gd))] 4)
      have hds:(D::Ds).Nodup∧∀E∈D::Ds,w.heap.size+1<E∧E<(W.alloc (.cells #[.bool (R9 d ((K8 ts m).map gd))] 4)).heap.size∧(W.alloc (.cells #[.bool (R9 d ((K8 ts m).map gd))] 4)).heap[E]?=some (.deferred (some [])):=by
       refine⟨List.nodup_cons.2 ⟨fun h=> ?_,hdn⟩,fun E hE=> ?_⟩
       ·have:=HD2.out D h;omega
       ·rcases List.mem_cons.1 hE with rfl|hE
        ·exact⟨by omega,by simp;omega,(hb1.block _ hDl).trans hDD⟩
        ·have:=HD2.out E hE
         exact⟨this.1,by simp;omega,(hb1.block _ (by omega)).trans (h5 E hE).2⟩
      have HBE:=Hd (hb.trans (hb1.mono hb.size))
      have HX1:=Hd (h1.of_block (hb1.block _ h1.lt))
      have HX2:=Hd (h2.of_block (hb1.block _ h2.lt))
      have HDS:=Hd hds
      have HC3:=Hd hc1
      have HNX:=Hd hnx
      have hwl:w.heap.size+1<W.heap.size:=by omega
      have c0:=(Q0 _ _ 0 _ _ _ h3)
      simp only[P2] at c0
      have hclt:=J5 h3
      clear hb hb1 hc1 hds h1 h2 h3 h5 hnx hDD
      generalize R9 d ((K8 ts m).map gd)=ch at*
      have HFW:=Hd hfew
      clear hfew
      go_wp2
      refine Handed.intro (if ch=true then N-(r+1)+1 else 0) ?_ (hJ _ _ _ ⟨_,D::Ds,r+1,W.heap.size,S2 d ((K8 ts m).map gd),ch,rfl,⟨rfl,rfl,rfl,rfl,rfl,rfl⟩,rfl,hr1N,hwl,Hd (fun h=>by have:=HFW.out h;omega),HNX,HX1,HX2,HC3,HBE,HDS⟩)
      (try rw[if_pos rfl])
      split<;>omega)
theorem jL5(a:Option Addr)(N m c node:Nat)(ts:Nat→TI)(vs:Nat→Int)(B q:Nat)(w:World)(hBw:B≤w.heap.size)(hq:qT6 B N a m c ts q w)(hO:qG7 N m ts=true)(hA:T1 N m ts N vs=true)(hN8:N≤8)(hm12:m≤12)(hnode:node<N)(hnv:qV1 w):
  Calls Tryz.prog 28 #[.pointer (some ⟨q,0,none⟩),.int .i64 (node:Int)] w fun e w'=>∃d,e= .returned (kC8 d)∧(∃r,r≤N∧F5 ((K8 ts m).map SP.tw) node N r d)∧Below w.heap.size w w':=
 zP5 true a N m c node ts vs B q w hBw hq hO hA hN8 hm12 hnode hnv
theorem xH7(a:Option Addr)(N m c node:Nat)(ts:Nat→TI)(vs:Nat→Int)(B q:Nat)(w:World)(hBw:B≤w.heap.size)(hq:qT6 B N a m c ts q w)(hO:qG7 N m ts=true)(hA:T1 N m ts N vs=true)(hN8:N≤8)(hm12:m≤12)(hnode:node<N)(hnv:qV1 w):
  Calls Tryz.prog 29 #[.pointer (some ⟨q,0,none⟩),.int .i64 (node:Int)] w fun e w'=>∃d,e= .returned (kC8 d)∧(∃r,r≤N∧F5 ((K8 ts m).map SP.fr) node N r d)∧Below w.heap.size w w':=
 zP5 false a N m c node ts vs B q w hBw hq hO hA hN8 hm12 hnode hnv
end
end Go.Proofs.YtmncaipgefbalaaGreatDoor
