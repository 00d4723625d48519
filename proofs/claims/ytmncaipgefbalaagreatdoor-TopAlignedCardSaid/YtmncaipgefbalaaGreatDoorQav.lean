/- Part of the proof of the claim. -/
import Derived.Test.YtmncaipgefbalaaGreatDoorQau
set_option maxRecDepth 100000
set_option maxHeartbeats 8000000
set_option linter.unusedVariables false
set_option linter.unusedSimpArgs false
namespace Go.Proofs.YtmncaipgefbalaaGreatDoor
section
open Go Go.RowKit Go.Shelf
theorem TL.get{N:Nat}{w:World}{V:Int}{a:Option Addr}{L:List TK}(h:TL N w V a L){i:Nat}{x:TK}(hx:L[i]?=some x):∃b off,a=some ⟨b,off,none⟩∧b<N∧w.cell? ⟨b,off+i*3,none⟩=some (.int .i64 V)∧w.cell? ⟨b,off+i*3+1,none⟩=some (.slice x.ja x.n x.jc)∧w.cell? ⟨b,off+i*3+2,none⟩=some (.slice x.sa x.n x.sc):=by
 rcases h.row with h0|⟨b,off,ha,hB,hc⟩
 ·rw[h0] at hx;simp at hx
 ·exact⟨b,off,ha,hB,hc i x hx⟩
theorem jM2{L:List TK}{p:TK→Bool}(h:∀j x,j<L.length→L[j]?=some x→p x=false):L.any p=false:=by
 rw[List.any_eq_false]
 intro x hx
 obtain⟨i,hi,rfl⟩:=List.mem_iff_getElem.1 hx
 rw[h i _ hi (Z5 hi)]
 simp
theorem xP3(f:Nat)(ca:Array Value)(a:Option Addr)(L:List TK)(c:Nat)(V:Int)(N:Nat)(p:TK→Bool)(w:World)(hN:N≤w.heap.size)(hn:L.length≤600)(hT:TL N w V a L)
  (eg:∀args W,(callFunc f args).run Tryz.prog W= .ok (.enter f args) W)
  (hC:∀W,Below w.heap.size w W→∀x∈L,Calls Tryz.prog f (#[x.val V]++ca) W fun e w'=>e= .returned (.bool (p x))∧Below W.heap.size W w'):
  Calls Tryz.prog 153 #[.slice a L.length c,.func (.func f) #[] ca] w fun e w'=>(∃r:Int,e= .returned (.int .i64 r)∧decide (0≤r)=L.any p)∧Below w.heap.size w w':=by
 have HC:=Hd hC
 have HT:=Hd hT
 have HY:=Hd (fun(x:TK) (hx:x∈L) (h:p x=true)=>show L.any p=true from List.any_eq_true.2 ⟨x,hx,h⟩)
 have HNO:=Hd (fun h=>jM2 (L:=L) (p:=p) h)
 have HB0:=Hd (Q2 w.heap.size w)
 have HGT:=Hd (fun i (h:i<L.length)=>show ∃x,L[i]?=some x∧x∈L from⟨L[i],Z5 h,List.getElem_mem h⟩)
 generalize L.any p=RES at*
 obtain⟨n,hnn⟩:∃n,L.length=n:=⟨_,rfl⟩
 rw[hnn] at HNO HGT hn ⊢
 clear hT hC hnn
 go_enter Tryz.func153,Tryz.ntmps153
 go_wp2
 go_loopw [8] (fun x wr=>∃i:Nat,i≤n∧x= .int .i64 (i:Int)∧Hid (∀j x,j<i→L[j]?=some x→p x=false)∧Hid (Below w.heap.size w wr)) (fun x _=>n-(intOf x).toNat)
 case atStart=>exact⟨0,Nat.zero_le _,rfl,Hd (fun j x hj=>absurd hj (Nat.not_lt_zero j)),HB0⟩
 case round=>
  clear HB0
  obtain⟨i,hi,rfl,HN,HB0⟩:=hrel
  by_cases hlt:i<n
  ·have hlt':(i:Int)<(n:Int):=by omega
   obtain⟨x,hx1,hx2⟩:=HGT.out i hlt
   obtain⟨b1,off,rfl,hbB,c0,c1,c2⟩:=(HT.out.below (HB0.out.mono hN)).get hx1
   have HCi:=Hd (HC.out wr HB0.out x hx2)
   have HYi:=Hd (HY.out x hx2)
   have HX:=Hd hx1
   unfold TK.val at HCi
   cases hpi:p x with
   |true=>
    rw[hpi] at HCi
    have HFi:=Hd (HYi.out hpi)
    clear hpi HC HYi HY HN hx1 hx2 HNO
    go_wp2_with(refine HCi.out.mono ?_;rintro e W1 ⟨rfl,hb1⟩;have HB1:=Hd (HB0.out.trans (hb1.mono HB0.out.size));clear hb1 c0 c1 c2)
    go_ret
    exact⟨⟨_,rfl,by rw[HFi.out];exact Z0 (by omega)⟩,HB1.out⟩
   |false=>
    rw[hpi] at HCi
    have HN2:=Hd (show ∀j y,j<i+1→L[j]?=some y→p y=false from fun j y hj hy=>by
     by_cases e:j=i
     ·rw[e,HX.out] at hy
      obtain rfl:=Option.some.inj hy
      exact hpi
     ·exact HN.out j y (by omega) hy)
    clear hpi HC HYi HY HN hx1 hx2 HNO
    go_wp2_with(refine HCi.out.mono ?_;rintro e W1 ⟨rfl,hb1⟩;have HB1:=Hd (HB0.out.trans (hb1.mono HB0.out.size));clear hb1 c0 c1 c2)
    go_roundw
    case rel=>exact⟨i+1,by omega,by go_num,HN2,HB1⟩
    case measure=>simp[intOf];omega
  ·obtain rfl:i=n:=by omega
   have HGi:=Hd (HNO.out HN.out)
   clear HC HNO HN
   go_wp2
   go_ret
   exact⟨⟨_,rfl,by rw[HGi.out];rfl⟩,HB0.out⟩
theorem zL6(f:Nat)(ca:Array Value)(a:Option Addr)(L:List TK)(c:Nat)(V:Int)(N:Nat)(p:TK→Bool)(w:World)(hN:N≤w.heap.size)(hn:L.length≤600)(hT:TL N w V a L)
  (eg:∀args W,(callFunc f args).run Tryz.prog W= .ok (.enter f args) W)
  (hC:∀W,Below w.heap.size w W→∀x∈L,Calls Tryz.prog f (#[x.val V]++ca) W fun e w'=>e= .returned (.bool (p x))∧Below W.heap.size W w'):
  Calls Tryz.prog 113 #[.slice a L.length c,.func (.func f) #[] ca] w fun e w'=>e= .returned (.bool (L.any p))∧Below w.heap.size w w':=by
 have HI:=Hd (xP3 f ca a L c V N p w hN hn hT eg hC)
 generalize L.any p=RES at*
 generalize L.length=n at*
 clear hC hT eg
 go_enter Tryz.func113,Tryz.ntmps113
 go_wp2_with(go_at_call 153;refine HI.out.mono ?_;rintro e W1 ⟨⟨r,rfl,hr⟩,hb1⟩)
 go_ret
 exact⟨rfl,hb1⟩
theorem kV5(args:Array Value)(W:World):(callFunc 114 args).run Tryz.prog W= .ok (.enter 114 args) W:=enters_of Tryz.func114 (by kernel_rfl) rfl args W
theorem kL7(args:Array Value)(W:World):(callFunc 112 args).run Tryz.prog W= .ok (.enter 112 args) W:=enters_of Tryz.func112 (by kernel_rfl) rfl args W
theorem kH8(args:Array Value)(W:World):(callFunc 111 args).run Tryz.prog W= .ok (.enter 111 args) W:=enters_of Tryz.func111 (by kernel_rfl) rfl args W
def zL8(t y:TK):Bool:=decide (t.n<y.n)&&xE8 y t
theorem jT0(t y:TK)(V:Int)(N tb:Nat)(w:World)(hN:N≤w.heap.size)(ht:t.At N w)(hy:y.At N w)(hnt:t.n≤8)(hny:y.n≤8)(htb:w.heap[tb]?=some (.cells #[.int .i64 V,.slice t.ja t.n t.jc,.slice t.sa t.n t.sc] 110)):
  Calls Tryz.prog 114 (#[y.val V]++ #[.pointer (some ⟨tb,0,none⟩)]) w fun e w'=>e= .returned (.bool (zL8 t y))∧Below w.heap.size w w':=by
 have HB:=Hd (J3 w (.cells #[.int .i64 V,.slice y.ja y.n y.jc,.slice y.sa y.n y.sc] 110))
 have HX:=Hd (Q3 w (.cells #[.int .i64 V,.slice y.ja y.n y.jc,.slice y.sa y.n y.sc] 110))
 have HTB:=Hd (J0 htb HB.out)
 have HCO:=Hd (fun W (hb:Below w.heap.size w W)=>zG8 y t V N W (Q5 hN hb.size) (hy.below (hb.mono hN)) (ht.below (hb.mono hN)) hny hnt)
 unfold TK.val at HCO
 unfold TK.val
 unfold zL8
 generalize xE8 y t=SB at*
 generalize y.n=yn at*
 generalize t.n=tn at*
 clear ht hy htb
 by_cases hd:tn<yn
 ·rw[Z0 hd,Bool.true_and]
  have hd1:(tn:Int)<(yn:Int):=by omega
  go_enter Tryz.func114,Tryz.ntmps114
  go_upto_region 1 with(fail)
  generalize World.alloc w _=V0 at*
  obtain⟨k0,k1,k2⟩:=U4 HX.out
  obtain⟨t0,t1,t2⟩:=U4 HTB.out
  go_wp2_with(go_at_call 115;refine(HCO.out _ HB.out).mono ?_;rintro e W1 ⟨rfl,hb1⟩;have HB1:=Hd (HB.out.trans (hb1.mono HB.out.size));clear hb1 k0 k1 k2 t0 t1 t2)
  go_ret
  exact⟨rfl,HB1.out⟩
 ·rw[Q7 hd,Bool.false_and]
  have hd1:¬(tn:Int)<(yn:Int):=by omega
  go_enter Tryz.func114,Tryz.ntmps114
  go_upto_region 1 with(fail)
  generalize World.alloc w _=V0 at*
  have k1:=Q0 _ _ 1 _ _ _ HX.out
  have t1:=Q0 _ _ 1 _ _ _ HTB.out
  go_wp2
  go_ret
  exact⟨rfl,HB.out⟩
theorem kV6(t:TK)(V:Int)(L:List TK)(la:Option Addr)(lc N fb pb:Nat)(ev tv:Value)(w:World)(hN:N≤w.heap.size)(ht:t.At N w)(hnt:t.n≤8)(hT:TL N w V la L)(hlen:L.length≤600)(h8:∀y∈L,y.n≤8)(hp:w.heap[pb]?=some (.cells #[.pointer (some ⟨fb,0,none⟩)] 168))(hf:w.heap[fb]?=some (.cells #[ev,.slice la L.length lc,tv] 173)):
  Calls Tryz.prog 112 (#[]++ #[t.val V]++ #[.pointer (some ⟨pb,0,none⟩)]) w fun e w'=>e= .returned (.bool (!(L.any (zL8 t))))∧Below w.heap.size w w':=by
 have HB:=Hd (J3 w (.cells #[.int .i64 V,.slice t.ja t.n t.jc,.slice t.sa t.n t.sc] 110))
 have HX:=Hd (Q3 w (.cells #[.int .i64 V,.slice t.ja t.n t.jc,.slice t.sa t.n t.sc] 110))
 have HP:=Hd (J0 hp HB.out)
 have HF:=Hd (J0 hf HB.out)
 have HCT:=Hd (fun W (hb:Below w.heap.size w W) (hX:W.heap[w.heap.size]?=some (.cells #[.int .i64 V,.slice t.ja t.n t.jc,.slice t.sa t.n t.sc] 110))=>zL6 114 #[.pointer (some ⟨w.heap.size,0,none⟩)] la L lc V N (zL8 t) W (Q5 hN hb.size) hlen (hT.below (hb.mono hN)) kV5 (fun W' hb' y hy=>jT0 t y V N w.heap.size W' (Q5 hN (Q5 hb.size hb'.size)) ((ht.below (hb.mono hN)).below (hb'.mono (Q5 hN hb.size))) ((hT.below (hb.mono hN)).below (hb'.mono (Q5 hN hb.size))|>.el y hy) hnt (h8 y hy) (J0 hX hb')))
 unfold TK.val
 generalize L.any (zL8 t)=RES at*
 generalize L.length=ln at*
 clear ht hT hp hf
 go_enter Tryz.func112,Tryz.ntmps112
 go_upto_region 1 with(fail)
 generalize World.alloc w _=V0 at*
 have p0:=Q0 _ _ 0 _ _ _ HP.out
 have f1:=Q0 _ _ 1 _ _ _ HF.out
 have lf:=J5 HF.out
 go_wp2_with(go_at_call 113;refine(HCT.out _ HB.out HX.out).mono ?_;rintro e W1 ⟨rfl,hb1⟩;have HB1:=Hd (HB.out.trans (hb1.mono HB.out.size));clear hb1 p0 f1 lf)
 go_ret
 exact⟨rfl,HB1.out⟩
def jF1(V:Int)(L:List TK)(R:TK→Bool→Prop)(w:World)(y:Ending)(w':World):Prop:=
 (∃a c M,y= .returned (.slice a M.length c)∧TL w'.heap.size w' V a M∧(M=[]→a=none∧c=0)∧w'.ownsRow w.heap.size 110 3 (.slice a M.length c) M.length (trC V M)∧(∀x∈M,x∈L∧R x true)∧M.length≤L.length∧∀q:TK→Bool,(∀x∈L,∀b,R x b→q x=true→b=true)→M.countP q=L.countP q)∧Below w.heap.size w w'
structure FiK(L:List TK)(R:TK→Bool→Prop)(i:Nat)(M:List TK):Prop where
 el:∀x∈M,x∈L∧R x true
 len:M.length≤i
 cnt:∀q:TK→Bool,(∀x∈L,∀b,R x b→q x=true→b=true)→M.countP q=(L.take i).countP q
theorem FiK.start(L:List TK)(R:TK→Bool→Prop):FiK L R 0 []:=⟨fun x hx=>(by cases hx),Q1 _,fun q _=>by simp⟩
theorem zT6{L:List TK}{i:Nat}{x:TK}(h:L[i]?=some x):L.take (i+1)=L.take i++[x]:=by
 rw[List.take_add_one,h]
 rfl
theorem FiK.yes{L M:List TK}{R:TK→Bool→Prop}{i:Nat}{x:TK}(h:FiK L R i M)(hx:L[i]?=some x)(hr:R x true):FiK L R (i+1) (M++[x]):=by
 refine⟨fun y hy=> ?_,by have:=h.len;simp;omega,fun q hq=> ?_⟩
 ·rcases List.mem_append.1 hy with hy|hy
  ·exact h.el y hy
  ·obtain rfl:y=x:=by simpa using hy
   exact⟨List.mem_of_getElem? hx,hr⟩
 ·rw[zT6 hx,List.countP_append,List.countP_append,h.cnt q hq]
theorem FiK.no{L M:List TK}{R:TK→Bool→Prop}{i:Nat}{x:TK}(h:FiK L R i M)(hx:L[i]?=some x)(hr:R x false):FiK L R (i+1) M:=by
 refine⟨h.el,by have:=h.len;omega,fun q hq=> ?_⟩
 rw[zT6 hx,List.countP_append,h.cnt q hq,List.countP_cons,List.countP_nil]
 have:¬q x=true:=fun h2=>by
  have:=hq x (List.mem_of_getElem? hx) false hr h2
  cases this
 rw[if_neg this]
 rfl
theorem zB0(f:Nat)(fi ca:Array Value)(R:TK→Bool→Prop)(a:Option Addr)(L:List TK)(c:Nat)(V:Int)(N:Nat)(w:World)(hN:N≤w.heap.size)(hn:L.length≤600)(hT:TL N w V a L)
  (eg:∀args W,(callFunc f args).run Tryz.prog W= .ok (.enter f args) W)
  (hC:∀W,Below w.heap.size w W→∀x∈L,Calls Tryz.prog f (fi++ #[x.val V]++ca) W fun e w'=>(∃b,e= .returned (.bool b)∧R x b)∧Below W.heap.size W w'):
  Calls Tryz.prog 110 #[.slice a L.length c,.func (.func f) fi ca] w (jF1 V L R w):=by
 have HC:=Hd hC
 have HT:=Hd hT
 have HGT:=Hd (fun i (h:i<L.length)=>show ∃x,L[i]?=some x∧x∈L from⟨L[i],Z5 h,List.getElem_mem h⟩)
 have HK0:=Hd (FiK.start L R)
 have HB0:=Hd (Q2 w.heap.size w)
 have HO0:=Hd (World.ownsRow_nil w w.heap.size 110 3)
 have HRES:=Hd (fun(w':World) (b:Option Addr) (d:Nat) (M:List TK) (hb:Below w.heap.size w w') (ho:w'.ownsRow w.heap.size 110 3 (.slice b M.length d) M.length (trC V M)) (hk:FiK L R L.length M) (h0:M.length=0→b=none∧d=0)=>show jF1 V L R w (.returned (.slice b M.length d)) w' from
  ⟨⟨b,d,M,rfl,qN9 ho (Q1 _) (fun x hx=>((hT.below (hb.mono hN)).el x (hk.el x hx).1).up (Q5 hN hb.size)),fun h=>h0 (by rw[h];rfl),ho,hk.el,hk.len,fun q hq=>by rw[hk.cnt q hq,List.take_length]⟩,hb⟩)
 generalize jF1 V L R w=RES at*
 obtain⟨n,hnn⟩:∃n,L.length=n:=⟨_,rfl⟩
 rw[hnn] at HGT HRES hn ⊢
 clear hT hC hnn
 go_enter Tryz.func110,Tryz.ntmps110
 go_wp2
 go_loopw [5,10] (fun s5 s10 wr=>∃i:Nat,i≤n∧s10= .int .i64 (i:Int)∧∃la k lc M,s5= .slice la k lc∧Hid (k=0→la=none∧lc=0)∧Hid (M.length=k)∧k≤i∧Hid (FiK L R i M)∧Hid (wr.ownsRow w.heap.size 110 3 (.slice la k lc) k (trC V M))∧Hid (Below w.heap.size w wr)) (fun _ s10 _=>n-(intOf s10).toNat)
 case atStart=>exact⟨0,Nat.zero_le _,rfl,none,0,0,[],rfl,Hd (fun _=>⟨rfl,rfl⟩),Hd rfl,Q1 _,HK0,HO0,HB0⟩
 case round=>
  clear HB0 HO0 HK0
  obtain⟨i,hi,rfl,la,k,lc,M,rfl,HZ0,HL,hki,HK,HO,HB⟩:=hrel
  by_cases hlt:i<n
  ·have hlt':(i:Int)<(n:Int):=by omega
   obtain⟨x,hx1,hx2⟩:=HGT.out i hlt
   obtain⟨b1,off,rfl,hbB,c0,c1,c2⟩:=(HT.out.below (HB.out.mono hN)).get hx1
   have HX:=Hd hx1
   have HX2:=Hd hx2
   clear hx1 hx2
   go_upto_region 5 with(fail)
   have hb2:=J3 wr (.cells #[.int .i64 V,.slice x.ja x.n x.jc,.slice x.sa x.n x.sc] 110)
   have HIB:=Hd (Q3 wr (.cells #[.int .i64 V,.slice x.ja x.n x.jc,.slice x.sa x.n x.sc] 110))
   have HO1:=Hd (K4 HO.out hb2)
   have HB1:=Hd (HB.out.trans (hb2.mono HB.out.size))
   clear hb2 c0 c1 c2 HO HB
   generalize World.alloc wr _=V1 at*
   generalize wr.heap.size=ib at*
   obtain⟨k0,k1,k2⟩:=U4 HIB.out
   have HCi:=Hd (HC.out V1 HB1.out x HX2.out)
   unfold TK.val at HCi
   go_upto_if 16 with(refine HCi.out.mono ?_;rintro y W2 ⟨⟨b,rfl,hr⟩,hb2⟩;have HR:=Hd hr;have HO2:=Hd (K4 HO1.out hb2);have HB2:=Hd (HB1.out.trans (hb2.mono HB1.out.size));have HIB2:=Hd (J0 HIB.out hb2);clear hr hb2 k0 k1 k2 HO1 HB1 HIB HCi)
   cases b with
   |false=>
    have HKn:=Hd (HK.out.no HX.out HR.out)
    go_wp2
    go_roundw
    case rel=>exact⟨i+1,by omega,by go_num,la,k,lc,M,rfl,HZ0,HL,by omega,HKn,HO2,HB2⟩
    case measure=>simp[intOf];omega
   |true=>
    have HKn:=Hd (HK.out.yes HX.out HR.out)
    obtain⟨k0,k1,k2⟩:=U4 HIB2.out
    obtain⟨i0,hi0,hz0,hz1,hz2⟩:=info_parts qH4
    have hcn:k+1≤maxLen∧(k+1)*56≤140737488355328:=by unfold maxLen;omega
    have hws:=HB2.out.size
    have hle:(M++[x]).length=k+1:=by rw[Z6,HL.out];rfl
    have HLn:=Hd hle
    have HTC:=Hd (zH2 V M x)
    clear hle HC HRES HGT
    generalize M++[x]=M2 at*
    go_wp2_with(at_builtin;refine wpList_append_own _ rfl _ _ 106 rfl w.heap.size 110 i0 _ 3 56 Tryz.underlying106 hi0 hz0 hz1 hz2 rfl (by decide) _ k (trC V M) rfl (HO2.out.alloc _) ⟨W2.heap.size,0,none⟩ 1 1 [.int .i64 V,.slice x.ja x.n x.jc,.slice x.sa x.n x.sc] rfl rfl (kE6 W2 _ _ _ _) (by intro u hu;simp at hu;rcases hu with rfl|rfl|rfl<;>rfl) hcn.1 hcn.2 (by simp;omega) ?_;intro v' W8 hown8 hgrow8 _;have hbf:=((J3 W2 (.cells #[.int .i64 V,.slice x.ja x.n x.jc,.slice x.sa x.n x.sc] 110)).mono hws).grown hgrow8 (by simp;omega) (fun b hb=>L7 HO2.out hb);obtain⟨a8,c8,hv8⟩:=Y6 hown8;subst hv8;rw[←HTC.out] at hown8;have HO8:=Hd hown8;have HB8:=Hd (HB2.out.trans hbf);clear hbf hown8 hgrow8 k0 k1 k2)
    go_roundw
    case rel=>exact⟨i+1,by omega,by go_num,a8,k+1,c8,M2,rfl,Hd (fun h=>absurd h (Nat.succ_ne_zero k)),HLn,by omega,HKn,HO8,HB8⟩
    case measure=>simp[intOf];omega
  ·obtain rfl:i=n:=by omega
   have hlt':¬(i:Int)<(i:Int):=by omega
   have hr:=HRES.out wr la lc M HB.out (by rw[HL.out];exact HO.out) HK.out (by rw[HL.out];exact HZ0.out)
   rw[HL.out] at hr
   have HR:=Hd hr
   clear hr HC HRES HK HO HB HGT
   go_wp2
   exact HR.out
theorem jV1(w:World):Calls Tryz.prog 187 #[.int .u64 1] w fun e w'=>(∃r,e= .returned (.int .i64 r))∧w=w':=by
 go_enter Tryz.func187,Tryz.ntmps187
 go_upto_region 10 with(fail)
 go_wp2
 go_ret
 exact⟨⟨_,rfl⟩,rfl⟩
theorem kV4(w:World):Calls Tryz.prog 156 #[.int .u64 1] w fun e w'=>(∃r,e= .returned (.int .i64 r))∧w=w':=by
 go_enter Tryz.func156,Tryz.ntmps156
 go_wp2_with(go_at_call 187;refine(jV1 _).mono ?_;rintro e w' ⟨⟨r,rfl⟩,rfl⟩)
 go_ret
 exact⟨⟨_,rfl⟩,rfl⟩
theorem kV0(a:Option Addr)(c:Nat)(fv:Value)(w:World):Calls Tryz.prog 178 #[.slice a 1 c,.int .i64 0,.int .i64 1,fv] w fun e w'=>(∃v,e= .returned v)∧w=w':=by
 go_enter Tryz.func178,Tryz.ntmps178
 go_wp2
 go_loopw [8] (fun s8 wr=>s8= .int .i64 1∧wr=w) (fun _ _=>0)
 case atStart=>exact⟨rfl,rfl⟩
 case round=>
  obtain⟨rfl,rfl⟩:=hrel
  go_wp2
  go_end0
  exact⟨⟨_,rfl⟩,rfl⟩
theorem kG0(a:Option Addr)(c:Nat)(r:Int)(fv:Value)(w:World):Calls Tryz.prog 155 #[.slice a 1 c,.int .i64 0,.int .i64 1,.int .i64 r,fv] w fun e w'=>(∃v,e= .returned v)∧w=w':=by
 go_enter Tryz.func155,Tryz.ntmps155
 go_wp2
 go_loopw [1,2,3] (fun s1 s2 s3 wr=>s1= .int .i64 0∧s2= .int .i64 1∧s3= .int .i64 r∧wr=w) (fun _ _ _ _=>0)
 case atStart=>exact⟨rfl,rfl,rfl,rfl⟩
 case round=>
  obtain⟨rfl,rfl,rfl,rfl⟩:=hrel
  go_wp2_with(go_at_call 178;refine(kV0 a c fv _).mono ?_;rintro e w' ⟨⟨v,rfl⟩,rfl⟩)
  exact Z2 (results_none rfl _ _ _) rfl ⟨⟨_,rfl⟩,rfl⟩
theorem jI8(a:Option Addr)(c:Nat)(fv:Value)(w:World):Calls Tryz.prog 116 #[.slice a 1 c,fv] w fun e w'=>(∃v,e= .returned v)∧w=w':=by
 go_enter Tryz.func116,Tryz.ntmps116
 go_wp2_with(first
  |(go_at_call 156;refine(kV4 _).mono ?_;rintro e w' ⟨⟨r,rfl⟩,rfl⟩)
  |(go_at_call 155;refine(kG0 a c r fv _).mono ?_;rintro e w' ⟨⟨v,rfl⟩,rfl⟩))
 go_end0
 exact⟨⟨_,rfl⟩,rfl⟩
end
section
open Go.RowKit
theorem jQ9(a:Option Addr)(n c:Nat)(ps:Nat→PR)(w:World)(B:Nat)(hBw:B≤w.heap.size)(hP:Y2 B w a n ps):
  Calls Tryz.prog 160 #[L3 a n c] w fun e w'=>e= .returned (.int .i64 (qC1 (K7 n ps)))∧Below w.heap.size w w':=by
 have HP:=Hd hP
 clear hP
 by_cases hC:K7 n ps=true
 ·go_enter Tryz.func160,Tryz.ntmps160
  go_wp2_with(go_at_call 30;refine(N8 a n c ps _ B (by simp;omega) (HP.out.below ((Q2 B w).alloc hBw _))).mono ?_;rintro e w1 ⟨rfl,hb⟩;have hB1:Below w.heap.size w w1:=(((Q2 _ _).alloc (Q1 _) _).trans (hb.mono (by simp))))
  go_ret
  exact⟨qY3 (by simp[qC1,hC]),hB1⟩
 ·have hC':K7 n ps=false:=by simpa using hC
  clear hC
  go_enter Tryz.func160,Tryz.ntmps160
  go_wp2_with(go_at_call 30;refine(N8 a n c ps _ B (by simp;omega) (HP.out.below ((Q2 B w).alloc hBw _))).mono ?_;rintro e w1 ⟨rfl,hb⟩;have hB1:Below w.heap.size w w1:=(((Q2 _ _).alloc (Q1 _) _).trans (hb.mono (by simp))))
  go_ret
  exact⟨qY3 (by simp[qC1,hC']),hB1⟩
theorem jZ4(a:Option Addr)(n c:Nat)(ps:Nat→PR)(h:HV)(w:World)(B:Nat)(hBw:B≤w.heap.size)(hP:Y2 B w a n ps):
  Calls Tryz.prog 119 #[L3 a n c,h.val] w fun e w'=>e= .returned (.int .i64 (qC1 (K7 n ps&&ofB n ps h)))∧Below w.heap.size w w':=by
 have HP:=Hd hP
 clear hP
 by_cases hC:(K7 n ps&&ofB n ps h)=true
 ·go_enter Tryz.func119,Tryz.ntmps119
  go_wp2_with(go_at_call 36;refine(qN2 a n c ps h _ B (by simp;omega) (HP.out.below (((Q2 B w).alloc hBw _).alloc (by simp;omega) _))).mono ?_;rintro e w1 ⟨rfl,hb⟩;have hB1:Below w.heap.size w w1:=((((Q2 _ _).alloc (Q1 _) _).alloc (by simp) _).trans (hb.mono (by simp;omega)));rw[hC])
  go_ret
  exact⟨qY3 (by simp[qC1,hC]),hB1⟩
 ·have hC':(K7 n ps&&ofB n ps h)=false:=by simpa using hC
  clear hC
  go_enter Tryz.func119,Tryz.ntmps119
  go_wp2_with(go_at_call 36;refine(qN2 a n c ps h _ B (by simp;omega) (HP.out.below (((Q2 B w).alloc hBw _).alloc (by simp;omega) _))).mono ?_;rintro e w1 ⟨rfl,hb⟩;have hB1:Below w.heap.size w w1:=((((Q2 _ _).alloc (Q1 _) _).alloc (by simp) _).trans (hb.mono (by simp;omega)));rw[hC'])
  go_ret
  exact⟨qY3 (by simp[qC1,hC']),hB1⟩
end
end Go.Proofs.YtmncaipgefbalaaGreatDoor
