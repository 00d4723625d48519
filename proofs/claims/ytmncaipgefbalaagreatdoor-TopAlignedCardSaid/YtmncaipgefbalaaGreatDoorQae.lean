/- Part of the proof of the claim. -/
import Derived.Test.YtmncaipgefbalaaGreatDoorQad
import Derived.Sort.CutIn
import Derived.Deep.OwnRows
import Derived.Deep.AppendLies
import Derived.Deep.RegionLaw
import Derived.Deep.RegionHeld3
import Derived.OneCell
set_option maxRecDepth 100000
set_option maxHeartbeats 8000000
set_option linter.unusedVariables false
set_option linter.unusedSimpArgs false
namespace Go.Proofs.YtmncaipgefbalaaGreatDoor
section
open Go Go.RowKit
attribute [local go_sem] Oper.semAt_some
theorem kW9(u v:Value):∀W:World,(Instr.index 207 (.agg #[u,v]) (.int .i64 0)).run Tryz.prog W= .ok u W:=by
 intro W;kernel_rfl
theorem kA0(u v:Value):∀W:World,(Instr.index 207 (.agg #[u,v]) (.int .i64 1)).run Tryz.prog W= .ok v W:=by
 intro W;kernel_rfl
theorem zT4(a:Option Addr)(N m c:Nat)(ts:Nat→TI)(B q qp:Nat)(w:World)(hBw:B≤w.heap.size)(hq:qX7 B N a m c ts q qp w)(hO:qG7 N m ts=true):
  qI6 Tryz.prog 100 #[.pointer (some ⟨qp,0,none⟩)] (fun s=> #[s.val]) (WbR a m q qp) (fun _ _ _=>True) (PfS (K8 ts m)) (EqS (K8 ts m)) kP4 w:=by
 intro l J Jx W hW hJ hJx hY h0 NN
 have HS0:∃O,J [] O W∧qX7 B N a m c ts q qp W∧B≤W.heap.size∧∀e∈([]:List (Nat×Obj)),O e.1∧W.heap[e.1]?=some e.2:=⟨_,h0,hq.below hBw hW,Q5 hBw hW.size,fun e he=>by cases he⟩
 have HSTEP:∀pre (F:List (Nat×Obj)) A A',(∃O,J pre O A∧qX7 B N a m c ts q qp A∧B≤A.heap.size∧∀e∈F,O e.1∧A.heap[e.1]?=some e.2)→Below A.heap.size A A'→(∃O,J pre O A'∧qX7 B N a m c ts q qp A'∧B≤A'.heap.size∧∀e∈F,O e.1∧A'.heap[e.1]?=some e.2):=by
  rintro pre F A A' ⟨O,h1,h2,h3,h4⟩ hb
  exact⟨_,hJ _ _ _ _ _ h1 (U2.of_below hb),h2.below h3 hb,Q5 h3 hb.size,fun e he=>⟨.inl (h4 e he).1,Y0 (h4 e he).2 hb⟩⟩
 have HNEW:∀pre (F:List (Nat×Obj)) A (o:Obj),(∃O,J pre O A∧qX7 B N a m c ts q qp A∧B≤A.heap.size∧∀e∈F,O e.1∧A.heap[e.1]?=some e.2)→(∃O,J pre O (A.alloc o)∧qX7 B N a m c ts q qp (A.alloc o)∧B≤(A.alloc o).heap.size∧∀e∈(A.heap.size,o)::F,O e.1∧(A.alloc o).heap[e.1]?=some e.2):=by
  rintro pre F A o ⟨O,h1,h2,h3,h4⟩
  have hb:=(Q2 _ A).alloc (Q1 _) o
  refine⟨_,hJ _ _ _ _ _ h1 (U2.of_below hb),h2.below h3 hb,Q5 h3 hb.size,fun e he=> ?_⟩
  rcases List.mem_cons.1 he with rfl|he
  ·exact⟨.inr ⟨Q1 _,by simp⟩,Q3 A o⟩
  ·exact⟨.inl (h4 e he).1,Y0 (h4 e he).2 hb⟩
 have HDROP:∀pre (f:Nat×Obj) (F:List (Nat×Obj)) A,(∃O,J pre O A∧qX7 B N a m c ts q qp A∧B≤A.heap.size∧∀e∈(f::F),O e.1∧A.heap[e.1]?=some e.2)→(∃O,J pre O A∧qX7 B N a m c ts q qp A∧B≤A.heap.size∧∀e∈F,O e.1∧A.heap[e.1]?=some e.2):=by
  rintro pre f F A ⟨O,h1,h2,h3,h4⟩
  exact⟨O,h1,h2,h3,fun e he=>h4 e (List.mem_cons_of_mem _ he)⟩
 have HCN:∀pre (F:List (Nat×Obj)) A,(∃O,J pre O A∧qX7 B N a m c ts q qp A∧B≤A.heap.size∧∀e∈F,O e.1∧A.heap[e.1]?=some e.2)→qX7 B N a m c ts q qp A∧B≤A.heap.size∧∀e∈F,A.heap[e.1]?=some e.2:=by
  rintro pre F A ⟨O,h1,h2,h3,h4⟩
  exact⟨h2,h3,fun e he=>(h4 e he).2⟩
 have HY:∀pre (F:List (Nat×Obj)) A x,(∃O,J pre O A∧qX7 B N a m c ts q qp A∧B≤A.heap.size∧∀e∈F,O e.1∧A.heap[e.1]?=some e.2)→PfS (K8 ts m) pre x→∀NN,YieldAt Fence.wide NN Tryz.prog l #[x.val] A fun e W'=>(e= .returned (.bool true)∧(∃O,J (pre++[x]) O W'∧qX7 B N a m c ts q qp W'∧B≤W'.heap.size∧∀e∈F,O e.1∧W'.heap[e.1]?=some e.2))∨(e= .returned (.bool false)∧∃pre O,kP4 pre∧Jx pre O W'):=by
  rintro pre F A x ⟨O,h1,h2,h3,hF⟩ hm NN
  obtain⟨fn,tmps,assign,body,hy,hR⟩:=hY pre x O A h1 trivial hm NN
  refine⟨fn,tmps,assign,body,hy,hR.mono ?_⟩
  rintro e W' (⟨h4,h5,h6⟩|⟨h4,h5⟩)
  ·exact .inl ⟨h4,_,h5,h2.step (fun b hb=>h6.block b (.inr hb)),Q5 h3 h6.size,fun e he=>⟨(hF e he).1,(h6.block _ (.inl (hF e he).1)).trans (hF e he).2⟩⟩
  ·exact .inr ⟨h4,_,_,trivial,h5⟩
 have HFIN:∀A,(∃O,J (K8 ts m) O A∧qX7 B N a m c ts q qp A∧B≤A.heap.size∧∀e∈([]:List (Nat×Obj)),O e.1∧A.heap[e.1]?=some e.2)→∃xs O,EqS (K8 ts m) xs∧J xs O A:=by
  rintro A ⟨O,h1,h2⟩
  exact⟨_,O,rfl,h1⟩
 clear hJ hJx hY h0 hq
 generalize hST:(fun(pre:List SP) (F:List (Nat×Obj)) (A:World)=>∃O,J pre O A∧qX7 B N a m c ts q qp A∧B≤A.heap.size∧∀e∈F,O e.1∧A.heap[e.1]?=some e.2)=S at*
 have eST:∀pre (F:List (Nat×Obj)) A,(∃O,J pre O A∧qX7 B N a m c ts q qp A∧B≤A.heap.size∧∀e∈F,O e.1∧A.heap[e.1]?=some e.2)=S pre F A:=fun pre F A=>by rw[←hST]
 simp only[eST] at HS0 HSTEP HNEW HDROP HCN HY HFIN
 clear eST hST
 simp only[SP.val] at HY
 have HW0:=Hd (fun i (hi:i<m) h=>jD0 ts m (i:=i) hi h)
 have HW1:=Hd (fun i (h:(ts i).hi=1000000000000)=>xU7 ts (i:=i) h)
 have HW2:=Hd (fun i (hi:i<m) h=>kQ4 ts m (i:=i) hi h)
 have HW3:=Hd (fun i (h:(ts i).lo= -1000000000000)=>jC9 ts (i:=i) h)
 have HTI:=Hd (fun i (hi:i<m)=>qN8.1 ((U9.1 hO).1 i hi))
 have hm200:=(U9.1 hO).2.2
 have HSTEP:=Hd HSTEP
 have HNEW:=Hd HNEW
 have HDROP:=Hd HDROP
 have HCN:=Hd HCN
 have HY:=Hd HY
 have HFIN:=Hd HFIN
 clear hO
 refine callsIn_of_wp Tryz.func100 rfl trivial ?_ rfl
 simp only[Tryz.ntmps100,List.size_toArray,List.length_cons,List.length_nil,Nat.reduceAdd,Nat.reduceSub,Array.replicate_succ,Array.replicate_zero,List.push_toArray,List.append_toArray,List.nil_append,List.cons_append]
 have HS0:=Hd HS0
 (have HQ:=(HCN.out _ _ _ (HS0).out).1;have kp:=Q0 _ _ 0 _ _ _ HQ.ptr;have kq:=Q0 _ _ 1 _ _ _ HQ.web.box;have kr:=Q0 _ _ 2 _ _ _ HQ.web.box;clear HQ)
 gi_wp2
 clear kp kq kr
 gi_loopw [16] (fun s16 wr=>∃i:Nat,i≤m∧s16= .int .i64 (i:Int)∧Hid (S (S1 ts i) [] wr)) (fun s16 _=>m-(intOf s16).toNat)
 case atStart=>exact⟨0,by omega,rfl,HS0⟩
 case round=>
  clear HS0
  obtain⟨i,hi,rfl,H1⟩:=hrel
  by_cases hl1:i<m
  ·have hl1':(i:Int)<(m:Int):=by omega
   obtain⟨hQ,hBr,_⟩:=HCN.out _ _ _ H1.out
   obtain⟨b,off,rfl,hbB,c0,c1,c2,c3⟩:=hQ.web.rows.get hl1
   have ht1:=HTI.out i hl1
   clear hQ
   gi_upto_region 3 with(fail)
   have HS1:=Hd (HNEW.out _ _ _ (Obj.cells #[Value.int IntKind.i64 (ts i).frm,Value.int IntKind.i64 (ts i).tow,Value.int IntKind.i64 (ts i).lo,Value.int IntKind.i64 (ts i).hi] 83) H1.out)
   generalize World.alloc wr _=wa at*
   generalize wr.heap.size=g at*
   clear c0 c1 c2 c3 H1 hBr
   (have HQ:=(HCN.out _ _ _ (HS1).out).1;have kp:=Q0 _ _ 0 _ _ _ HQ.ptr;have kq:=Q0 _ _ 1 _ _ _ HQ.web.box;have kr:=Q0 _ _ 2 _ _ _ HQ.web.box;clear HQ)
   have hlook:=jV8 (i:Int) (by omega) wa
   gi_upto_region 4 with(fail)
   clear kp kq kr hlook
   have HQ:=Hd (HCN.out _ _ _ HS1.out).2.2
   obtain⟨kg0,kg1,kg2,kg3⟩:=cr4 (HQ.out _ List.mem_cons_self)
   simp only[P2] at kg0 kg1 kg2 kg3
   gi_upto_region 5 with(fail)
   have HS2:=Hd (HNEW.out _ _ _ (Obj.cells #[Value.int IntKind.i64 (ts i).frm,Value.int IntKind.i64 (ts i).tow,Value.int IntKind.i64 (ts i).lo,Value.int IntKind.i64 (ts i).hi,Value.int IntKind.i64 (i:Int)] 205) HS1.out)
   generalize World.alloc wa _=wb at*
   generalize wa.heap.size=h at*
   clear kg0 kg1 kg2 kg3 HS1 HQ
   have HQ:=Hd (HCN.out _ _ _ HS2.out).2.2
   obtain⟨kg0,kg1,kg2,kg3,kg4⟩:=cr5 (HQ.out _ List.mem_cons_self)
   simp only[P2] at kg0 kg1 kg2 kg3 kg4
   have hcF:=fun W=>xX7 (ts i) i W
   have hcB:=fun W=>xH6 (ts i) i W (by omega)
   unfold TI.agg SP.val at hcF hcB
   have hcF:=Hd hcF
   have hcB:=Hd hcB
   gi_wp2
   clear kg0 kg1 kg2 kg3 kg4 HQ
   gi_loopw [35] (fun s35 wd=>∃x:Nat,x≤2∧s35= .int .i64 (x:Int)∧Hid (S (S1 ts i++qK4 (ts i) i x) [(h,Obj.cells #[Value.int IntKind.i64 (ts i).frm,Value.int IntKind.i64 (ts i).tow,Value.int IntKind.i64 (ts i).lo,Value.int IntKind.i64 (ts i).hi,Value.int IntKind.i64 (i:Int)] 205),(g,Obj.cells #[Value.int IntKind.i64 (ts i).frm,Value.int IntKind.i64 (ts i).tow,Value.int IntKind.i64 (ts i).lo,Value.int IntKind.i64 (ts i).hi] 83)] wd)) (fun s35 _=>2-(intOf s35).toNat)
   case atStart=>exact⟨0,by omega,rfl,Hd (by rw[show qK4 (ts i) (i:Int) 0=[] from rfl,List.append_nil];exact HS2.out)⟩
   case round=>
    clear HS2
    obtain⟨x,hx,rfl,H3⟩:=hrel
    by_cases hl2:x<2
    ·have hl2':(x:Int)<2:=by omega
     by_cases hx0:x=0
     ·subst hx0
      clear hl2' hx
      have hix:=kW9
      have hwy:=HW0.out i hl1
      have hwn:=HW1.out i
      have hcall:=hcF.out
      generalize qQ5 (i:Int) (ts i)=st at*
      have hcall:=Hd hcall
      have HWY:=Hd hwy
      have HWN:=Hd hwn
      clear hwy hwn hcF hcB
      by_cases hq:(ts i).hi=1000000000000
      ·have hqb:((ts i).hi !=1000000000000)=false:=by simp[hq]
       rw[hqb] at hcall
       have HQQ:=Hd hq
       clear hq hqb
       gi_upto_region 9 with(refine⟨trivial,fun h=>(by cases h),?_⟩;with_reducible refine(callsIn_wide.2 (hcall.out _)).mono ?_;rintro e W5 ⟨rfl,hb⟩;have HS5:=Hd (HSTEP.out _ _ _ _ H3.out hb);clear hb)
       clear hix
       have HS6:=Hd (HNEW.out _ _ _ (Obj.cells #[Value.int IntKind.i64 (st).tie,Value.bool (st).bk,Value.int IntKind.i64 (st).f,Value.int IntKind.i64 (st).t,Value.int IntKind.i64 (st).len] 159) HS5.out)
       generalize World.alloc W5 _=wf at*
       have HW1i:=Hd (HWN.out HQQ.out)
       have HS7:=Hd (HDROP.out _ _ _ _ HS6.out)
       gi_wp2
       refine⟨fun _ h=>(by cases h),?_⟩
       gi_wp2
       go_roundw
       case rel=>first|exact⟨1,by omega,by go_num,Hd (by rw[←HW1i.out];exact HS7.out)⟩|((repeat apply Z9);exact⟨⟨1,by omega,by go_num,Hd (by rw[←HW1i.out];exact HS7.out)⟩,rfl⟩)
       case measure=>simp[intOf]
      ·have hqb:((ts i).hi !=1000000000000)=true:=by simp[hq]
       rw[hqb] at hcall
       have HQQ:=Hd hq
       clear hq hqb
       gi_upto_region 9 with(refine⟨trivial,fun h=>(by cases h),?_⟩;with_reducible refine(callsIn_wide.2 (hcall.out _)).mono ?_;rintro e W5 ⟨rfl,hb⟩;have HS5:=Hd (HSTEP.out _ _ _ _ H3.out hb);clear hb)
       clear hix
       have HS6:=Hd (HNEW.out _ _ _ (Obj.cells #[Value.int IntKind.i64 (st).tie,Value.bool (st).bk,Value.int IntKind.i64 (st).f,Value.int IntKind.i64 (st).t,Value.int IntKind.i64 (st).len] 159) HS5.out)
       generalize World.alloc W5 _=wf at*
       generalize W5.heap.size=sx at*
       have HS7:=HDROP.out _ _ _ _ HS6.out
       have HQ:=Hd (HCN.out _ _ _ HS6.out).2.2
       obtain⟨kg0,kg1,kg2,kg3,kg4⟩:=cr5 (HQ.out _ List.mem_cons_self)
       simp only[P2] at kg0 kg1 kg2 kg3 kg4
       obtain⟨hp1,hp2⟩:=HWY.out HQQ.out
       obtain⟨fn,tmps,assign,body,hy,hR⟩:=HY.out _ _ _ _ HS7 hp1 (NN-1)
       clear HQ HS5 HS6 HS7 H3
       gi_wp2
       refine⟨fun h=>(by cases h),hR.mono ?_⟩
       rintro e W6 (⟨rfl,hs6⟩|⟨rfl,pre,O,_,hj6⟩)
       ·rw[hp2] at hs6
        have HS8:=Hd hs6
        clear hR hy hs6 kg0 kg1 kg2 kg3 kg4
        gi_wp2
        go_roundw
        case rel=>first|exact⟨1,by omega,by go_num,HS8⟩|((repeat apply Z9);exact⟨⟨1,by omega,by go_num,HS8⟩,rfl⟩)
        case measure=>simp[intOf]
       ·gi_wp2
        refine Z2 (results_none rfl _ _ _) rfl ?_
        exact⟨⟨_,rfl⟩,.inr ⟨_,O,trivial,hj6⟩⟩
     ·obtain rfl:x=1:=by omega
      clear hl2' hx
      have hix:=kA0
      have hwy:=HW2.out i hl1
      have hwn:=HW3.out i
      have hcall:=hcB.out
      generalize qE2 (i:Int) (ts i)=st at*
      have hcall:=Hd hcall
      have HWY:=Hd hwy
      have HWN:=Hd hwn
      clear hwy hwn hcF hcB
      by_cases hq:(ts i).lo= -1000000000000
      ·have hqb:((ts i).lo != -1000000000000)=false:=by simp[hq]
       rw[hqb] at hcall
       have HQQ:=Hd hq
       clear hq hqb
       gi_upto_region 9 with(refine⟨trivial,fun h=>(by cases h),?_⟩;with_reducible refine(callsIn_wide.2 (hcall.out _)).mono ?_;rintro e W5 ⟨rfl,hb⟩;have HS5:=Hd (HSTEP.out _ _ _ _ H3.out hb);clear hb)
       clear hix
       have HS6:=Hd (HNEW.out _ _ _ (Obj.cells #[Value.int IntKind.i64 (st).tie,Value.bool (st).bk,Value.int IntKind.i64 (st).f,Value.int IntKind.i64 (st).t,Value.int IntKind.i64 (st).len] 159) HS5.out)
       generalize World.alloc W5 _=wf at*
       have HW1i:=Hd (HWN.out HQQ.out)
       have HS7:=Hd (HDROP.out _ _ _ _ HS6.out)
       gi_wp2
       refine⟨fun _ h=>(by cases h),?_⟩
       gi_wp2
       go_roundw
       case rel=>first|exact⟨2,by omega,by go_num,Hd (by rw[←HW1i.out];exact HS7.out)⟩|((repeat apply Z9);exact⟨⟨2,by omega,by go_num,Hd (by rw[←HW1i.out];exact HS7.out)⟩,rfl⟩)
       case measure=>simp[intOf]
      ·have hqb:((ts i).lo != -1000000000000)=true:=by simp[hq]
       rw[hqb] at hcall
       have HQQ:=Hd hq
       clear hq hqb
       gi_upto_region 9 with(refine⟨trivial,fun h=>(by cases h),?_⟩;with_reducible refine(callsIn_wide.2 (hcall.out _)).mono ?_;rintro e W5 ⟨rfl,hb⟩;have HS5:=Hd (HSTEP.out _ _ _ _ H3.out hb);clear hb)
       clear hix
       have HS6:=Hd (HNEW.out _ _ _ (Obj.cells #[Value.int IntKind.i64 (st).tie,Value.bool (st).bk,Value.int IntKind.i64 (st).f,Value.int IntKind.i64 (st).t,Value.int IntKind.i64 (st).len] 159) HS5.out)
       generalize World.alloc W5 _=wf at*
       generalize W5.heap.size=sx at*
       have HS7:=HDROP.out _ _ _ _ HS6.out
       have HQ:=Hd (HCN.out _ _ _ HS6.out).2.2
       obtain⟨kg0,kg1,kg2,kg3,kg4⟩:=cr5 (HQ.out _ List.mem_cons_self)
       simp only[P2] at kg0 kg1 kg2 kg3 kg4
       obtain⟨hp1,hp2⟩:=HWY.out HQQ.out
       obtain⟨fn,tmps,assign,body,hy,hR⟩:=HY.out _ _ _ _ HS7 hp1 (NN-1)
       clear HQ HS5 HS6 HS7 H3
       gi_wp2
       refine⟨fun h=>(by cases h),hR.mono ?_⟩
       rintro e W6 (⟨rfl,hs6⟩|⟨rfl,pre,O,_,hj6⟩)
       ·rw[hp2] at hs6
        have HS8:=Hd hs6
        clear hR hy hs6 kg0 kg1 kg2 kg3 kg4
        gi_wp2
        go_roundw
        case rel=>first|exact⟨2,by omega,by go_num,HS8⟩|((repeat apply Z9);exact⟨⟨2,by omega,by go_num,HS8⟩,rfl⟩)
        case measure=>simp[intOf]
       ·gi_wp2
        refine Z2 (results_none rfl _ _ _) rfl ?_
        exact⟨⟨_,rfl⟩,.inr ⟨_,O,trivial,hj6⟩⟩
    ·obtain rfl:x=2:=by omega
     have hl3':¬((2:Nat):Int)<2:=by omega
     gi_wp2
     go_roundw
     case rel=>first|exact⟨i+1,by omega,by go_num,Hd (by rw[zK4];exact HDROP.out _ _ _ _ (HDROP.out _ _ _ _ H3.out))⟩|((repeat apply Z9);exact⟨⟨i+1,by omega,by go_num,Hd (by rw[zK4];exact HDROP.out _ _ _ _ (HDROP.out _ _ _ _ H3.out))⟩,rfl⟩)
     case measure=>simp[intOf];omega
  ·obtain rfl:i=m:=by omega
   have hl1':¬(i:Int)<(i:Int):=by omega
   gi_wp2
   go_end0
   obtain⟨xs,O,hf1,hf2⟩:=HFIN.out _ H1.out
   exact⟨⟨_,rfl⟩,.inl ⟨xs,hf1,O,hf2⟩⟩
end
section
open Go.RowKit
theorem K4{w w':World}{base:Nat}{e:TypeId}{k:Nat}{v:Value}{n:Nat}{xs:List Value}(h:w.ownsRow base e k v n xs)(hb:Below w.heap.size w w'):w'.ownsRow base e k v n xs:=by
 refine h.kept (row:=none) ⟨hb.os,hb.tape,hb.output,hb.size,fun i hi _=>hb.block i hi⟩ ?_
 cases v.ownBlock<;>simp
theorem kM3{w:World}{b1 b2:Nat}{e1 e2:TypeId}{k1 k2:Nat}{v1 v2:Value}{n1 n2:Nat}{x1 x2:List Value}(h1:w.ownsRow b1 e1 k1 v1 n1 x1)(h2:w.ownsRow b2 e2 k2 v2 n2 x2)(he:e1≠e2):v1.ownBlock=none∨v1.ownBlock≠v2.ownBlock:=by
 rcases h1.2 with⟨rfl,_⟩|⟨g,cap,cur,rfl,_,hg,_⟩
 ·exact .inl rfl
 ·right
  rcases h2.2 with⟨rfl,_⟩|⟨g',cap',cur',rfl,_,hg',_⟩
  ·simp[Value.ownBlock]
  ·simp only[Value.ownBlock,ne_eq,Option.some.injEq]
   intro e
   subst e
   rw[hg] at hg'
   injection hg' with hg'
   injection hg' with _ h _
   exact he h
theorem P8{w:World}{b1 b2:Nat}{e:TypeId}{k:Nat}{v:Value}{n:Nat}{xs:List Value}(h:w.ownsRow b1 e k v n xs)(hb:b2≤b1):w.ownsRow b2 e k v n xs:=by
 refine⟨h.1,?_⟩
 rcases h.2 with h|⟨g,cap,cur,hv,hg,hr⟩
 ·exact .inl h
 ·exact .inr ⟨g,cap,cur,hv,by omega,hr⟩
theorem Y6{w:World}{base:Nat}{e:TypeId}{k:Nat}{v:Value}{n:Nat}{xs:List Value}(h:w.ownsRow base e k v n xs):∃a c,v= .slice a n c:=by
 rcases h.2 with⟨rfl,rfl⟩|⟨g,cap,cur,rfl,_⟩
 ·exact⟨none,0,rfl⟩
 ·exact⟨_,_,rfl⟩
theorem qT8(b o j:Nat):(⟨b,o,none⟩:Addr).add j=⟨b,o+j,none⟩:=by unfold Addr.add;split<;>simp_all
theorem R4{w:World}{t:TypeId}{xs:List Value}:∀j u,xs[j]?=some u→(w.alloc (.cells xs.toArray t)).cell? ((⟨w.heap.size,0,none⟩:Addr).add j)=some u:=by
 intro j u h
 rw[qT8,Nat.zero_add]
 exact(Q0 _ _ _ _ _ _ (Q3 _ _)).trans (by simpa using h)
structure SV where
 lo:Int
 hi:Int
structure BM where
 ca:Option Addr
 cn:Nat
 cc:Nat
 wa:Option Addr
 wn:Nat
 wc:Nat
 lo:Int
 hi:Int
 cs:Nat→Int
 ws:Nat→Int
abbrev SV.val(s:SV):Value:= .agg #[.int .i64 s.lo,.int .i64 s.hi]
abbrev BM.val(b:BM):Value:= .agg #[.slice b.ca b.cn b.cc,.slice b.wa b.wn b.wc,.int .i64 b.lo,.int .i64 b.hi]
def qV3(B:Nat)(w:World)(a:Option Addr)(n:Nat)(ss:Nat→SV):Prop:=
 n≤maxLen∧(n=0∨∃b off,a=some ⟨b,off,none⟩∧b<B∧∀i,i<n→w.cell? ⟨b,off+i*2,none⟩=some (.int .i64 (ss i).lo)∧w.cell? ⟨b,off+i*2+1,none⟩=some (.int .i64 (ss i).hi))
theorem qV3.below{B:Nat}{w w':World}{a:Option Addr}{n:Nat}{ss:Nat→SV}(h:qV3 B w a n ss)(hb:Below B w w'):qV3 B w' a n ss:=by
 refine⟨h.1,?_⟩
 rcases h.2 with h|⟨b,off,ha,hB,hc⟩
 ·exact .inl h
 ·have c:=(J9 hb).1
  exact .inr ⟨b,off,ha,hB,fun i hi=>⟨(c _ _ hB).trans (hc i hi).1,(c _ _ hB).trans (hc i hi).2⟩⟩
theorem qV3.up{B B':Nat}{w:World}{a:Option Addr}{n:Nat}{ss:Nat→SV}(h:qV3 B w a n ss)(hb:B≤B'):qV3 B' w a n ss:=by
 refine⟨h.1,?_⟩
 rcases h.2 with h|⟨b,off,ha,hB,hc⟩
 ·exact .inl h
 ·exact .inr ⟨b,off,ha,by omega,hc⟩
theorem qV3.get{B:Nat}{w:World}{a:Option Addr}{n:Nat}{ss:Nat→SV}(h:qV3 B w a n ss){i:Nat}(hi:i<n):∃b off,a=some ⟨b,off,none⟩∧b<B∧w.cell? ⟨b,off+i*2,none⟩=some (.int .i64 (ss i).lo)∧w.cell? ⟨b,off+i*2+1,none⟩=some (.int .i64 (ss i).hi):=by
 rcases h.2 with h|⟨b,off,ha,hB,hc⟩
 ·omega
 ·exact⟨b,off,ha,hB,(hc i hi).1,(hc i hi).2⟩
theorem D0.get{B:Nat}{w:World}{a:Option Addr}{n:Nat}{xs:Nat→Int}(h:D0 B w a n xs){i:Nat}(hi:i<n):∃b off,a=some ⟨b,off,none⟩∧b<B∧w.cell? ⟨b,off+i,none⟩=some (.int .i64 (xs i)):=by
 rcases h with h|⟨b,off,ha,hB,hc⟩
 ·omega
 ·exact⟨b,off,ha,hB,hc i hi⟩
def BM.at(p:BM)(w:World)(b o:Nat):Prop:=
 w.cell? ⟨b,o,none⟩=some (.slice p.ca p.cn p.cc)∧w.cell? ⟨b,o+1,none⟩=some (.slice p.wa p.wn p.wc)∧w.cell? ⟨b,o+2,none⟩=some (.int .i64 p.lo)∧w.cell? ⟨b,o+3,none⟩=some (.int .i64 p.hi)
theorem BM.at.below{p:BM}{w w':World}{B b o:Nat}(h:p.at w b o)(hb:Below B w w')(hB:b<B):p.at w' b o:=by
 obtain⟨h0,h1,h2,h3⟩:=h
 have c:=(J9 hb).1
 exact⟨(c _ _ hB).trans h0,(c _ _ hB).trans h1,(c _ _ hB).trans h2,(c _ _ hB).trans h3⟩
def BM.mem(p:BM)(B:Nat)(w:World):Prop:=p.cn≤maxLen∧p.wn≤maxLen∧D0 B w p.ca p.cn p.cs∧D0 B w p.wa p.wn p.ws
theorem BM.mem.below{p:BM}{B:Nat}{w w':World}(h:p.mem B w)(hb:Below B w w'):p.mem B w':=⟨h.1,h.2.1,h.2.2.1.below hb,h.2.2.2.below hb⟩
theorem BM.mem.up{p:BM}{B B':Nat}{w:World}(h:p.mem B w)(hb:B≤B'):p.mem B' w:=⟨h.1,h.2.1,h.2.2.1.up hb,h.2.2.2.up hb⟩
def zN7(B:Nat)(w:World)(a:Option Addr)(n:Nat)(bs:Nat→BM):Prop:=
 n≤maxLen∧(n=0∨∃b off,a=some ⟨b,off,none⟩∧b<B∧∀i,i<n→(bs i).at w b (off+i*4)∧(bs i).mem B w)
theorem zN7.below{B:Nat}{w w':World}{a:Option Addr}{n:Nat}{bs:Nat→BM}(h:zN7 B w a n bs)(hb:Below B w w'):zN7 B w' a n bs:=by
 refine⟨h.1,?_⟩
 rcases h.2 with h|⟨b,off,ha,hB,hc⟩
 ·exact .inl h
 ·exact .inr ⟨b,off,ha,hB,fun i hi=>⟨(hc i hi).1.below hb hB,(hc i hi).2.below hb⟩⟩
theorem zN7.up{B B':Nat}{w:World}{a:Option Addr}{n:Nat}{bs:Nat→BM}(h:zN7 B w a n bs)(hb:B≤B'):zN7 B' w a n bs:=by
 refine⟨h.1,?_⟩
 rcases h.2 with h|⟨b,off,ha,hB,hc⟩
 ·exact .inl h
 ·exact .inr ⟨b,off,ha,by omega,fun i hi=>⟨(hc i hi).1,(hc i hi).2.up hb⟩⟩
def P4(a b c:Int):Bool:=decide (b≤a)&&decide (a≤c)
theorem D4{a b c:Int}:P4 a b c=true↔b≤a∧a≤c:=by simp[P4]
def jI4(n:Nat)(cs:Nat→Int)(i:Nat):Bool:=P4 (cs i) 0 ((n:Int)-1)&&(i==0||decide (cs (i-1)<cs i))
def xT7(n k:Nat)(cs:Nat→Int):Bool:=M1 k (jI4 n cs)
theorem kB9{n k:Nat}{cs:Nat→Int}(h:xT7 n k cs=true){i:Nat}(hi:i<k):0≤cs i∧cs i<(n:Int):=by
 have:=Y9.1 h i hi
 simp only[jI4,Q8,D4] at this
 omega
theorem jB1{n k:Nat}{cs:Nat→Int}(h:xT7 n k cs=true){i:Nat}(hi:i+1<k):cs i<cs (i+1):=by
 have:=Y9.1 h (i+1) hi
 simp only[jI4,Q8,Bool.or_eq_true,beq_iff_eq,Z8] at this
 rcases this.2 with h|h
 ·omega
 ·exact h
theorem xO9{n k:Nat}{cs:Nat→Int}(h:xT7 n k cs=true){i j:Nat}(hij:i<j)(hj:j<k):cs i<cs j:=by
 induction j with
 |zero=>omega
 |succ j ih=>
  have hs:=jB1 h hj
  by_cases e:i=j
  ·subst e;exact hs
  ·have:=ih (by omega) (by omega);omega
theorem kC0{n k:Nat}{cs:Nat→Int}(h:xT7 n k cs=true){i j:Nat}(hi:i<k)(hj:j<k)(e:cs i=cs j):i=j:=by
 by_cases h1:i<j
 ·have:=xO9 h h1 hj;omega
 ·by_cases h2:j<i
  ·have:=xO9 h h2 hi;omega
  ·omega
structure zY5(n:Nat)(ss:Nat→SV)(m:Nat)(bs:Nat→BM):Prop where
 n1:1≤n
 n40:n≤40
 m20:m≤20
 span:∀i,i<n→0≤(ss i).lo∧(ss i).lo≤(ss i).hi∧(ss i).hi≤1000
 wn:∀i,i<m→(bs i).wn=(bs i).cn
 set:∀i,i<m→xT7 n (bs i).cn (bs i).cs=true
 weight:∀i,i<m→∀k,k<(bs i).cn→1≤(bs i).ws k∧(bs i).ws k≤1000000
 bound:∀i,i<m→0≤(bs i).lo∧(bs i).lo≤(bs i).hi∧(bs i).hi≤1000000000000
end
section
def qD6(f:Nat→Int):Nat→Int
 |0=>0
 |n+1=>qD6 f n+f n
theorem qD7{f g:Nat→Int}:∀n,(∀i,i<n→f i=g i)→qD6 f n=qD6 g n
 |0,_=>rfl
 |n+1,h=>by rw[qD6,qD6,qD7 n (fun i hi=>h i (by omega)),h n (by omega)]
theorem zT5{f:Nat→Int}:∀n,(∀i,i<n→f i=0)→qD6 f n=0
 |0,_=>rfl
 |n+1,h=>by rw[qD6,zT5 n (fun i hi=>h i (by omega)),h n (by omega)];rfl
theorem zF8{f:Nat→Int}{c:Nat}{x:Int}:∀n,c<n→qD6 (fun i=>if i=c then f i+x else f i) n=qD6 f n+x
 |0,h=>by omega
 |n+1,h=>by
  rw[qD6,qD6]
  by_cases e:c=n
  ·subst e
   rw[if_pos rfl,qD7 (f:=fun i=>if i=c then f i+x else f i) (g:=f) c (fun i hi=>if_neg (by omega))]
   omega
  ·rw[if_neg (by omega),zF8 n (by omega)]
   omega
def wUp(cs ws:Nat→Int):Nat→Nat→Int
 |0,_=>0
 |k+1,c=>if cs k=(c:Int) then ws k else wUp cs ws k c
theorem xF2{cs ws:Nat→Int}:∀(k c:Nat),(∀j,j<k→cs j≠(c:Int))→wUp cs ws k c=0
 |0,_,_=>rfl
 |k+1,c,h=>by
  rw[wUp,if_neg (h k (by omega))]
  exact xF2 k c (fun j hj=>h j (by omega))
theorem jQ6{cs ws:Nat→Int}:∀(k:Nat),(∀j,j<k→1≤ws j∧ws j≤1000000)→∀(c:Nat),0≤wUp cs ws k c∧wUp cs ws k c≤1000000
 |0,_,_=>by simp[wUp]
 |k+1,h,c=>by
  rw[wUp]
  split
  ·have:=h k (by omega);omega
  ·exact jQ6 k (fun j hj=>h j (by omega)) c
theorem jQ7{n m:Nat}{cs ws:Nat→Int}(hs:xT7 n m cs=true)(f:Nat→Int):∀k,k≤m→qD6 (fun c=>wUp cs ws k c*f c) n=qD6 (fun j=>ws j*f (cs j).toNat) k
 |0,_=>by rw[qD6];exact zT5 n (fun i _=>by simp[wUp])
 |k+1,hk=>by
  have h0:=kB9 hs (i:=k) (by omega)
  rw[qD6,←jQ7 hs f k (by omega),←zF8 (c:=(cs k).toNat) n (by omega)]
  refine qD7 n (fun c _=> ?_)
  rw[wUp]
  by_cases e:c=(cs k).toNat
  ·rw[if_pos (by omega),if_pos e,xF2 k c (fun j hj h=> ?_),e]
   ·simp
   ·have:=kC0 hs (i:=j) (j:=k) (by omega) (by omega) (by omega)
    omega
  ·rw[if_neg (by omega),if_neg e]
def BM.w(b:BM)(c:Nat):Int:=wUp b.cs b.ws b.cn c
def ofN(b:BM)(f:Nat→Int):Int:=qD6 (fun k=>b.ws k*f (b.cs k).toNat) b.cn
theorem zS3{n:Nat}{b:BM}(hs:xT7 n b.cn b.cs=true)(f:Nat→Int):ofN b f=qD6 (fun c=>b.w c*f c) n:=(jQ7 hs f b.cn (Q1 _)).symm
def fOf(l:List Int)(c:Nat):Int:=l.getD c 0
def qM3(m:Nat)(bs:Nat→BM)(f:Nat→Int):Bool:=M1 m (fun i=>P4 (ofN (bs i) f) (bs i).lo (bs i).hi)
def qO0(s:SV):List Int:=(List.range (s.hi-s.lo+1).toNat).map (fun k:Nat=>s.lo+(k:Int))
theorem xK3{s:SV}{d:Int}:d∈qO0 s↔s.lo≤d∧d≤s.hi:=by
 simp only[qO0,List.mem_map,List.mem_range]
 constructor
 ·rintro⟨k,hk,rfl⟩;omega
 ·intro h;exact⟨(d-s.lo).toNat,by omega,by omega⟩
def qE3(n:Nat)(ss:Nat→SV)(ag:List Int→Bool):Nat→List Int→List (List Int)
 |0,pre=>if ag pre=true then [pre] else []
 |r+1,pre=>(qO0 (ss (n-(r+1)))).flatMap (fun d=>qE3 n ss ag r (pre++[d]))
theorem qX0{n:Nat}{ss:Nat→SV}{ag:List Int→Bool}:∀r pre g,r≤n→pre.length=n-r→(g∈qE3 n ss ag r pre↔ag g=true∧g.length=n∧pre<+:g∧∀c,n-r≤c→c<n→(ss c).lo≤fOf g c∧fOf g c≤(ss c).hi)
 |0,pre,g,hr,hp=>by
  rw[qE3]
  constructor
  ·intro h
   split at h
   ·rename_i ha
    simp at h;subst h
    exact⟨ha,by omega,List.prefix_refl _,fun c h1 h2=>by omega⟩
   ·simp at h
  ·rintro⟨h1,h2,h3,h4⟩
   have e:pre=g:=h3.eq_of_length (by omega)
   subst e
   rw[if_pos h1];simp
 |r+1,pre,g,hr,hp=>by
  rw[qE3]
  simp only[List.mem_flatMap]
  constructor
  ·rintro⟨d,hd,hg⟩
   obtain⟨h1,h2,h3,h4⟩:=(qX0 r (pre++[d]) g (by omega) (by simp;omega)).1 hg
   have h5:pre<+:g:=(List.prefix_append _ _).trans h3
   refine⟨h1,h2,h5,fun c hc1 hc2=> ?_⟩
   by_cases e:c=n-(r+1)
   ·have:fOf g c=d:=by
     obtain⟨t,rfl⟩:=h3
     rw[fOf,X3,List.getElem?_append_left (by simp;omega),List.getElem?_append_right (by omega)]
     simp[show c-pre.length=0 by omega]
    rw[this,e]
    exact xK3.1 hd
   ·exact h4 c (by omega) hc2
  ·rintro⟨h1,h2,h3,h4⟩
   have h5:=h4 (n-(r+1)) (by omega) (by omega)
   refine⟨fOf g (n-(r+1)),xK3.2 h5,(qX0 r _ g (by omega) (by simp;omega)).2 ⟨h1,h2,?_,fun c hc1 hc2=>h4 c (by omega) hc2⟩⟩
   obtain⟨t,rfl⟩:=h3
   cases t with
   |nil=>simp at h2;omega
   |cons x t=>
    have:fOf (pre++x::t) (n-(r+1))=x:=by
     rw[fOf,X3,List.getElem?_append_right (by omega)]
     simp[show n-(r+1)-pre.length=0 by omega]
    rw[this]
    exact⟨t,by simp⟩
def jL7(n:Nat)(ss:Nat→SV)(m:Nat)(bs:Nat→BM):List (List Int):=qE3 n ss (fun f=>qM3 m bs (fOf f)) n []
def qD2(b:BM)(f:Nat→Int)(c:Nat):Int:=qD6 (fun i=>b.w i*f i) c
def rest(n:Nat)(b:BM)(f:Nat→Int):Nat→Int
 |0=>0
 |j+1=>rest n b f j+b.w (n-(j+1))*f (n-(j+1))
theorem xE1{n:Nat}{b:BM}{f:Nat→Int}:∀j,j≤n→qD2 b f (n-j)+rest n b f j=qD2 b f n
 |0,_=>by simp[rest]
 |j+1,h=>by
  have ih:=xE1 (n:=n) (b:=b) (f:=f) j (by omega)
  have e:qD2 b f (n-j)=qD2 b f (n-(j+1))+b.w (n-(j+1))*f (n-(j+1)):=by
   rw[show n-j=n-(j+1)+1 by omega];rfl
  rw[rest];omega
theorem xQ1{n:Nat}{b:BM}{f g:Nat→Int}(hw:∀c,0≤b.w c):∀j,j≤n→(∀c,n-j≤c→c<n→f c≤g c)→rest n b f j≤rest n b g j
 |0,_,_=>Int.le_refl _
 |j+1,h,hf=>by
  have ih:=xQ1 hw (n:=n) (f:=f) (g:=g) j (by omega) (fun c (h1:n-j≤c) (h2:c<n)=>hf c (by omega) h2)
  have h1:=Int.mul_le_mul_of_nonneg_left (hf (n-(j+1)) (by omega) (by omega)) (hw (n-(j+1)))
  rw[rest,rest];omega
def sLo(ss:Nat→SV)(c:Nat):Int:=(ss c).lo
def sHi(ss:Nat→SV)(c:Nat):Int:=(ss c).hi
def xJ5(n:Nat)(ss:Nat→SV)(m:Nat)(bs:Nat→BM)(r:Nat)(sums:Nat→Int):Bool:=
 M1 m (fun i=> !(decide ((bs i).hi<sums i+rest n (bs i) (sLo ss) r)||decide (sums i+rest n (bs i) (sHi ss) r<(bs i).lo)))
def qG0(bs:Nat→BM)(pre:List Int)(i:Nat):Int:=qD2 (bs i) (fOf pre) pre.length
def zN4(n:Nat)(ss:Nat→SV)(m:Nat)(bs:Nat→BM):Nat→List Int→List (List Int)
 |0,pre=>if xJ5 n ss m bs 0 (qG0 bs pre)=true then [pre] else []
 |r+1,pre=>if xJ5 n ss m bs (r+1) (qG0 bs pre)=true then(qO0 (ss (n-(r+1)))).flatMap (fun d=>zN4 n ss m bs r (pre++[d])) else []
theorem zY5.w{n m:Nat}{ss:Nat→SV}{bs:Nat→BM}(h:zY5 n ss m bs){i:Nat}(hi:i<m)(c:Nat):0≤(bs i).w c∧(bs i).w c≤1000000:=jQ6 _ (fun j hj=>h.weight i hi j hj) c
theorem zI8{b:BM}{f g:Nat→Int}{c:Nat}(h:∀i,i<c→f i=g i):qD2 b f c=qD2 b g c:=qD7 c (fun i hi=>by rw[h i hi])
theorem xM7{pre g:List Int}(h:pre<+:g){c:Nat}(hc:c<pre.length):fOf pre c=fOf g c:=by
 obtain⟨t,rfl⟩:=h
 rw[fOf,fOf,X3,X3,List.getElem?_append_left hc]
theorem zL5{n m:Nat}{ss:Nat→SV}{bs:Nat→BM}(hS:zY5 n ss m bs){r:Nat}{pre g:List Int}(hr:r≤n)(hp:pre.length=n-r)(hpg:pre<+:g)(ha:qM3 m bs (fOf g)=true)(hb:∀c,n-r≤c→c<n→(ss c).lo≤fOf g c∧fOf g c≤(ss c).hi):xJ5 n ss m bs r (qG0 bs pre)=true:=by
 simp only[xJ5,Y9]
 intro i hi
 have h1:=Y9.1 ha i hi
 rw[D4,zS3 (hS.set i hi)] at h1
 have h2:qG0 bs pre i=qD2 (bs i) (fOf g) (n-r):=by
  unfold qG0
  rw[hp]
  exact zI8 (fun c hc=>xM7 hpg (by omega))
 have h3:=xE1 (b:=bs i) (f:=fOf g) r hr
 have h4:=xQ1 (n:=n) (b:=bs i) (f:=sLo ss) (g:=fOf g) (fun c=>(hS.w hi c).1) r hr (fun c h1 h2=>(hb c h1 h2).1)
 have h5:=xQ1 (n:=n) (b:=bs i) (f:=fOf g) (g:=sHi ss) (fun c=>(hS.w hi c).1) r hr (fun c h1 h2=>(hb c h1 h2).2)
 have h6:qD2 (bs i) (fOf g) n=qD6 (fun c=>(bs i).w c*fOf g c) n:=rfl
 rw[h2]
 simp only[Bool.not_eq_true',Bool.or_eq_false_iff]
 exact⟨Q7 (by omega),Q7 (by omega)⟩
theorem kJ7{n m:Nat}{ss:Nat→SV}{bs:Nat→BM}(hS:zY5 n ss m bs){pre:List Int}(hp:pre.length=n):xJ5 n ss m bs 0 (qG0 bs pre)=qM3 m bs (fOf pre):=by
 rw[Bool.eq_iff_iff]
 simp only[xJ5,qM3,Y9]
 have key:∀i,i<m→ofN (bs i) (fOf pre)=qG0 bs pre i:=fun i hi=>by
  rw[zS3 (hS.set i hi),qG0,hp];rfl
 constructor
 ·intro h i hi
  have:=h i hi
  rw[D4,key i hi]
  simp only[rest,Bool.not_eq_true',Bool.or_eq_false_iff,decide_eq_false_iff_not] at this
  have t1:=of_decide_eq_false this.1
  have t2:=of_decide_eq_false this.2
  omega
 ·intro h i hi
  have:=h i hi
  rw[D4,key i hi] at this
  simp only[rest,Bool.not_eq_true',Bool.or_eq_false_iff]
  exact⟨Q7 (by omega),Q7 (by omega)⟩
theorem jQ5{n m:Nat}{ss:Nat→SV}{bs:Nat→BM}(hS:zY5 n ss m bs):∀r pre,r≤n→pre.length=n-r→zN4 n ss m bs r pre=qE3 n ss (fun f=>qM3 m bs (fOf f)) r pre
 |0,pre,hr,hp=>by
  rw[zN4,qE3,kJ7 hS (by omega)]
 |r+1,pre,hr,hp=>by
  have ih:∀d,zN4 n ss m bs r (pre++[d])=qE3 n ss (fun f=>qM3 m bs (fOf f)) r (pre++[d]):=fun d=>jQ5 hS r (pre++[d]) (by omega) (by simp;omega)
  rw[zN4]
  cases hc:xJ5 n ss m bs (r+1) (qG0 bs pre)
  ·rw[if_neg (by simp)]
   symm
   rw[List.eq_nil_iff_forall_not_mem]
   intro g hg
   obtain⟨h1,h2,h3,h4⟩:=(qX0 (r+1) pre g hr hp).1 hg
   rw[zL5 hS hr hp h3 h1 h4] at hc
   cases hc
  ·rw[if_pos rfl,qE3]
   simp only[ih]
end
section
open Go.RowKit
def qV2(R:Nat→Prop)(W W':World):Prop:=∀b,R b→W'.heap[b]?=W.heap[b]?
theorem qV2.cell{R:Nat→Prop}{W W':World}(h:qV2 R W W'){b o:Nat}(hb:R b):W'.cell? ⟨b,o,none⟩=W.cell? ⟨b,o,none⟩:=X5 (h b hb)
theorem qV2.trans{R:Nat→Prop}{A B C:World}(h:qV2 R A B)(k:qV2 R B C):qV2 R A C:=fun b hb=>(k b hb).trans (h b hb)
theorem qV2.below{R:Nat→Prop}{W W':World}{B:Nat}(h:Below B W W')(hR:∀b,R b→b<B):qV2 R W W':=fun b hb=>h.block b (hR b hb)
def zV6(R:Nat→Prop)(w:World)(a:Option Addr)(n:Nat)(xs:Nat→Int):Prop:=
 n=0∨∃b off,a=some ⟨b,off,none⟩∧R b∧b<w.heap.size∧∀i,i<n→w.cell? ⟨b,off+i,none⟩=some (.int .i64 (xs i))
theorem zV6.rests{R:Nat→Prop}{w w':World}{a:Option Addr}{n:Nat}{xs:Nat→Int}(h:zV6 R w a n xs)(hr:qV2 R w w')(hz:w.heap.size≤w'.heap.size):zV6 R w' a n xs:=by
 rcases h with h|⟨b,off,ha,hB,hz2,hc⟩
 ·exact .inl h
 ·exact .inr ⟨b,off,ha,hB,by omega,fun i hi=>(hr.cell hB).trans (hc i hi)⟩
def zY6(R:Nat→Prop)(w:World)(a:Option Addr)(n:Nat)(ss:Nat→SV):Prop:=
 n=0∨∃b off,a=some ⟨b,off,none⟩∧R b∧b<w.heap.size∧∀i,i<n→w.cell? ⟨b,off+i*2,none⟩=some (.int .i64 (ss i).lo)∧w.cell? ⟨b,off+i*2+1,none⟩=some (.int .i64 (ss i).hi)
theorem zY6.rests{R:Nat→Prop}{w w':World}{a:Option Addr}{n:Nat}{ss:Nat→SV}(h:zY6 R w a n ss)(hr:qV2 R w w')(hz:w.heap.size≤w'.heap.size):zY6 R w' a n ss:=by
 rcases h with h|⟨b,off,ha,hB,hz2,hc⟩
 ·exact .inl h
 ·exact .inr ⟨b,off,ha,hB,by omega,fun i hi=>⟨(hr.cell hB).trans (hc i hi).1,(hr.cell hB).trans (hc i hi).2⟩⟩
def zU2(R:Nat→Prop)(w:World)(a:Option Addr)(m:Nat)(bs:Nat→BM):Prop:=
 m=0∨∃b off,a=some ⟨b,off,none⟩∧R b∧b<w.heap.size∧∀i,i<m→(bs i).at w b (off+i*4)
theorem zU2.rests{R:Nat→Prop}{w w':World}{a:Option Addr}{m:Nat}{bs:Nat→BM}(h:zU2 R w a m bs)(hr:qV2 R w w')(hz:w.heap.size≤w'.heap.size):zU2 R w' a m bs:=by
 rcases h with h|⟨b,off,ha,hB,hz2,hc⟩
 ·exact .inl h
 ·refine .inr ⟨b,off,ha,hB,by omega,fun i hi=> ?_⟩
  obtain⟨h0,h1,h2,h3⟩:=hc i hi
  exact⟨(hr.cell hB).trans h0,(hr.cell hB).trans h1,(hr.cell hB).trans h2,(hr.cell hB).trans h3⟩
def xW4(R:Nat→Prop)(w:World)(a:Option Addr)(k n:Nat)(xs:Nat→Nat→Int):Prop:=
 k=0∨∃b off,a=some ⟨b,off,none⟩∧R b∧b<w.heap.size∧∀i,i<k→∃ra rc,w.cell? ⟨b,off+i,none⟩=some (.slice ra n rc)∧zV6 R w ra n (xs i)
theorem xW4.rests{R:Nat→Prop}{w w':World}{a:Option Addr}{k n:Nat}{xs:Nat→Nat→Int}(h:xW4 R w a k n xs)(hr:qV2 R w w')(hz:w.heap.size≤w'.heap.size):xW4 R w' a k n xs:=by
 rcases h with h|⟨b,off,ha,hB,hz2,hc⟩
 ·exact .inl h
 ·refine .inr ⟨b,off,ha,hB,by omega,fun i hi=> ?_⟩
  obtain⟨ra,rc,h1,h2⟩:=hc i hi
  exact⟨ra,rc,(hr.cell hB).trans h1,h2.rests hr hz⟩
def xW5(R:Nat→Prop)(w:World)(a:Option Addr)(k n:Nat)(xs:Nat→Nat→SV):Prop:=
 k=0∨∃b off,a=some ⟨b,off,none⟩∧R b∧b<w.heap.size∧∀i,i<k→∃ra rc,w.cell? ⟨b,off+i,none⟩=some (.slice ra n rc)∧zY6 R w ra n (xs i)
theorem xW5.rests{R:Nat→Prop}{w w':World}{a:Option Addr}{k n:Nat}{xs:Nat→Nat→SV}(h:xW5 R w a k n xs)(hr:qV2 R w w')(hz:w.heap.size≤w'.heap.size):xW5 R w' a k n xs:=by
 rcases h with h|⟨b,off,ha,hB,hz2,hc⟩
 ·exact .inl h
 ·refine .inr ⟨b,off,ha,hB,by omega,fun i hi=> ?_⟩
  obtain⟨ra,rc,h1,h2⟩:=hc i hi
  exact⟨ra,rc,(hr.cell hB).trans h1,h2.rests hr hz⟩
def kS5(n:Nat)(ss:Nat→SV)(b:BM)(c:Nat):SV:=⟨rest n b (sLo ss) (n-c),rest n b (sHi ss) (n-c)⟩
structure zY3(R:Nat→Prop)(n:Nat)(ss:Nat→SV)(m:Nat)(bs:Nat→BM)(sp:Nat)(W:World):Prop where
 own:R sp
 lt:sp<W.heap.size
 img:∃ca cc ba bc wa wc ra rc,W.cell? ⟨sp,0,none⟩=some (.slice ca n cc)∧W.cell? ⟨sp,1,none⟩=some (.slice ba m bc)∧W.cell? ⟨sp,2,none⟩=some (.slice wa m wc)∧W.cell? ⟨sp,3,none⟩=some (.slice ra m rc)∧
  zY6 R W ca n ss∧zU2 R W ba m bs∧xW4 R W wa m n (fun i=>(bs i).w)∧xW5 R W ra m (n+1) (fun i=>kS5 n ss (bs i))
theorem zY3.rests{R:Nat→Prop}{n:Nat}{ss:Nat→SV}{m:Nat}{bs:Nat→BM}{sp:Nat}{W W':World}(h:zY3 R n ss m bs sp W)(hr:qV2 R W W')(hz:W.heap.size≤W'.heap.size):zY3 R n ss m bs sp W':=by
 obtain⟨ca,cc,ba,bc,wa,wc,ra,rc,h0,h1,h2,h3,h4,h5,h6,h7⟩:=h.img
 exact⟨h.own,by have:=h.lt;omega,ca,cc,ba,bc,wa,wc,ra,rc,(hr.cell h.own).trans h0,(hr.cell h.own).trans h1,(hr.cell h.own).trans h2,(hr.cell h.own).trans h3,h4.rests hr hz,h5.rests hr hz,h6.rests hr hz,h7.rests hr hz⟩
def IR(t:TypeId)(W:World)(b m:Nat)(f:Nat→Int):Prop:=∃cur,W.heap[b]?=some (.cells cur t)∧cur.size=m∧∀j,j<m→cur[j]?=some (.int .i64 (f j))
section
variable {t:TypeId}{W W':World}{b m:Nat}{f:Nat→Int}
theorem IR.lt(h:IR t W b m f):b<W.heap.size:=by obtain⟨cur,h1,_⟩:=h;exact(J5 h1)
theorem IR.cell(h:IR t W b m f){j:Nat}(hj:j<m):W.cell? ⟨b,j,none⟩=some (.int .i64 (f j)):=by
 obtain⟨cur,h1,_,h2⟩:=h
 exact(Q0 _ _ _ _ _ _ h1).trans (h2 j hj)
theorem IR.frozen(h:IR t W b m f)(j:Nat):W.frozen? ⟨b,j,none⟩=false:=by
 obtain⟨cur,h1,_,h2⟩:=h
 exact Z3 _ _ _ _ _ h1
theorem IR.block(h:IR t W b m f)(hb:W'.heap[b]?=W.heap[b]?):IR t W' b m f:=by
 obtain⟨cur,h1,h2,h3⟩:=h
 exact⟨cur,hb.trans h1,h2,h3⟩
theorem IR.alloc(h:IR t W b m f)(o:Obj):IR t (W.alloc o) b m f:=h.block (Q9 W o b h.lt)
theorem IR.set(h:IR t W b m f){i:Nat}(hi:i<m)(x:Int):IR t (W.setCell ⟨b,i,none⟩ (.int .i64 x)) b m (fun j=>if j=i then x else f j):=by
 obtain⟨cur,h1,h2,h3⟩:=h
 refine⟨cur.setIfInBounds i (.int .i64 x),Q4 W b i _ _ _ h1,by simpa using h2,fun j hj=> ?_⟩
 by_cases e:j=i
 ·subst e
  rw[Array.getElem?_setIfInBounds_self_of_lt (by omega)]
  simp
 ·rw[Array.getElem?_setIfInBounds_ne (Ne.symm e),h3 j hj]
  simp[e]
theorem IR.other(h:IR t W b m f){x j:Nat}(hn:x≠b)(u:Value):IR t (W.setCell ⟨x,j,none⟩ u) b m f:=h.block (Q6 W ⟨x,j,none⟩ b u (Ne.symm hn))
theorem IR.congr{g:Nat→Int}(h:IR t W b m f)(e:∀j,j<m→f j=g j):IR t W b m g:=by
 obtain⟨cur,h1,h2,h3⟩:=h
 exact⟨cur,h1,h2,fun j hj=>by rw[←e j hj];exact h3 j hj⟩
theorem IR.made(W:World)(t:TypeId)(m:Nat):IR t (W.alloc (.cells (madeCells #[.int .i64 0] m) t)) W.heap.size m (fun _=>0):=by
 have e:(madeCells #[Value.int .i64 0] m).toList=List.replicate m (.int .i64 0):=toList_madeCells_one _ _
 refine⟨_,Q3 W _,?_,fun j hj=> ?_⟩
 ·have:=congrArg List.length e
  simpa using this
 ·rw[←Array.getElem?_toList,e]
  simp[hj]
end
end
section
open Go.RowKit
end
section
open Go.RowKit
theorem B0{W:World}{base:Nat}{e t:TypeId}{s:Nat}{v:Value}{n:Nat}{xs:List Value}{g:Nat}{cur:Array Value}{f:Nat×Nat}(h:W.ownsRow base e s v n xs)(hg:W.heap[g]?=some (.cells cur t f))(ht:e≠t):v.ownBlock≠some g:=by
 rcases h.2 with⟨rfl,_⟩|⟨g',cap',cur',rfl,_,hg',_⟩
 ·simp[Value.ownBlock]
 ·simp only[Value.ownBlock,ne_eq,Option.some.injEq]
  intro e'
  subst e'
  rw[hg] at hg'
  injection hg' with hg'
  injection hg' with _ h _
  exact ht h.symm
theorem qJ6{w:World}{base:Nat}{e:TypeId}{k:Nat}{a:Option Addr}{n m c:Nat}{xs:List Value}(h:w.ownsRow base e k (.slice a m c) n xs)(hn:0<n):∃g,a=some ⟨g,0,none⟩∧base≤g∧g<w.heap.size:=by
 obtain⟨g,cap,hv,h1,h2⟩:=h.form hn
 injection hv with e1 e2 e3
 exact⟨g,e1,h1,h2⟩
def SR(t:TypeId)(W:World)(b m:Nat)(f:Nat→SV):Prop:=∃cur,W.heap[b]?=some (.cells cur t)∧cur.size=m*2∧∀j,j<m→cur[j*2]?=some (.int .i64 (f j).lo)∧cur[j*2+1]?=some (.int .i64 (f j).hi)
section
variable {t:TypeId}{W W':World}{b m:Nat}{f:Nat→SV}
theorem SR.lt(h:SR t W b m f):b<W.heap.size:=by obtain⟨cur,h1,_⟩:=h;exact(J5 h1)
theorem SR.cell(h:SR t W b m f){j:Nat}(hj:j<m):W.cell? ⟨b,j*2,none⟩=some (.int .i64 (f j).lo)∧W.cell? ⟨b,j*2+1,none⟩=some (.int .i64 (f j).hi):=by
 obtain⟨cur,h1,_,h2⟩:=h
 exact⟨(Q0 _ _ _ _ _ _ h1).trans (h2 j hj).1,(Q0 _ _ _ _ _ _ h1).trans (h2 j hj).2⟩
theorem SR.frozen(h:SR t W b m f)(j:Nat):W.frozen? ⟨b,j,none⟩=false:=by
 obtain⟨cur,h1,_,h2⟩:=h
 exact Z3 _ _ _ _ _ h1
theorem SR.block(h:SR t W b m f)(hb:W'.heap[b]?=W.heap[b]?):SR t W' b m f:=by
 obtain⟨cur,h1,h2,h3⟩:=h
 exact⟨cur,hb.trans h1,h2,h3⟩
theorem SR.step(h:SR t W b m f)(hb:Below W.heap.size W W'):SR t W' b m f:=h.block (hb.block b h.lt)
theorem SR.alloc(h:SR t W b m f)(o:Obj):SR t (W.alloc o) b m f:=h.block (Q9 W o b h.lt)
theorem SR.set(h:SR t W b m f){i:Nat}(hi:i<m)(x y:Int):SR t ((W.setCell ⟨b,i*2,none⟩ (.int .i64 x)).setCell ⟨b,i*2+1,none⟩ (.int .i64 y)) b m (fun j=>if j=i then⟨x,y⟩ else f j):=by
 obtain⟨cur,h1,h2,h3⟩:=h
 refine⟨(cur.setIfInBounds (i*2) (.int .i64 x)).setIfInBounds (i*2+1) (.int .i64 y),Q4 _ b _ _ _ _ (Q4 W b _ _ _ _ h1),by simpa using h2,fun j hj=> ?_⟩
 by_cases e:j=i
 ·subst e
  refine⟨?_,?_⟩
  ·rw[Array.getElem?_setIfInBounds_ne (by omega),Array.getElem?_setIfInBounds_self_of_lt (by omega)]
   simp
  ·rw[Array.getElem?_setIfInBounds_self_of_lt (by simp;omega)]
   simp
 ·refine⟨?_,?_⟩
  ·rw[Array.getElem?_setIfInBounds_ne (by omega),Array.getElem?_setIfInBounds_ne (by omega),(h3 j hj).1]
   simp[e]
  ·rw[Array.getElem?_setIfInBounds_ne (by omega),Array.getElem?_setIfInBounds_ne (by omega),(h3 j hj).2]
   simp[e]
theorem SR.other(h:SR t W b m f){x j:Nat}(hn:x≠b)(u:Value):SR t (W.setCell ⟨x,j,none⟩ u) b m f:=h.block (Q6 W ⟨x,j,none⟩ b u (Ne.symm hn))
theorem SR.congr{g:Nat→SV}(h:SR t W b m f)(e:∀j,j<m→f j=g j):SR t W b m g:=by
 obtain⟨cur,h1,h2,h3⟩:=h
 exact⟨cur,h1,h2,fun j hj=>by rw[←e j hj];exact h3 j hj⟩
theorem SR.made(W:World)(t:TypeId)(m:Nat):SR t (W.alloc (.cells (madeCells #[.int .i64 0,.int .i64 0] (m*2)) t)) W.heap.size m (fun _=>⟨0,0⟩):=by
 have e:∀j,j<m*2→(madeCells #[Value.int .i64 0,.int .i64 0] (m*2))[j]?=some (.int .i64 0):=by
  intro j hj
  unfold madeCells
  simp[hj]
  have h:=Nat.mod_lt j (show 0<2 by omega)
  have:j%2=0∨j%2=1:=by omega
  rcases this with h|h<;>simp[h]
 refine⟨_,Q3 W _,?_,fun j hj=>⟨e _ (by omega),e _ (by omega)⟩⟩
 unfold madeCells
 simp
end
theorem jS7:(Tryz.prog.info? 3).map (fun i=>(i.zero,i.size,i.bytes))=some (some (.int .i64 0),1,8):=by kernel_rfl
theorem zR8:(Tryz.prog.info? 47).map (fun i=>(i.zero,i.size,i.bytes))=some (some (.agg #[.int .i64 0,.int .i64 0]),2,16):=by kernel_rfl
theorem kN9(n:Nat)(hn:n≤1000000)(W:World):(Instr.makeSlice 28 (.int .i64 (n:Int)) (.int .i64 (n:Int))).run Tryz.prog W= .ok (.slice (some ⟨W.heap.size,0,none⟩) n n) (W.alloc (.cells (madeCells #[.int .i64 0] n) 3)):=by
 obtain⟨i0,hi,hz0,hz1,hz2⟩:=info_parts jS7
 have:=run_make (P:=Tryz.prog) W 28 3 i0 _ Tryz.underlying28 hi hz0 .i64 .i64 (n:Int) (n:Int) (by omega) (Int.le_refl _) (by rw[hz2];omega) (by omega)
 rw[hz1,show(Value.int .i64 0).cells= #[.int .i64 0] from rfl] at this
 simpa using this
theorem xR6(n:Nat)(hn:n≤1000000)(W:World):(Instr.makeSlice 41 (.int .i64 (n:Int)) (.int .i64 (n:Int))).run Tryz.prog W= .ok (.slice (some ⟨W.heap.size,0,none⟩) n n) (W.alloc (.cells (madeCells #[.int .i64 0,.int .i64 0] (n*2)) 47)):=by
 obtain⟨i0,hi,hz0,hz1,hz2⟩:=info_parts zR8
 have:=run_make (P:=Tryz.prog) W 41 47 i0 _ Tryz.underlying41 hi hz0 .i64 .i64 (n:Int) (n:Int) (by omega) (Int.le_refl _) (by rw[hz2];omega) (by omega)
 rw[hz1,show(Value.agg #[.int .i64 0,.int .i64 0]).cells= #[.int .i64 0,.int .i64 0] by kernel_rfl] at this
 simpa using this
end
section
open Go.RowKit
end
end Go.Proofs.YtmncaipgefbalaaGreatDoor
