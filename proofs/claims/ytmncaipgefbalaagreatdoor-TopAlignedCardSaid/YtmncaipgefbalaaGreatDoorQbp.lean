/- Part of the proof of the claim. -/
import Derived.Test.YtmncaipgefbalaaGreatDoorQbo
import Derived.Test.YtmncaipgefbalaaGreatDoorQbi
set_option maxRecDepth 100000
set_option maxHeartbeats 8000000
set_option linter.unusedVariables false
set_option linter.unusedSimpArgs false
namespace Go.Proofs.YtmncaipgefbalaaGreatDoor
section
open Go.RowKit
theorem zB7:(Tryz.prog.info? 47).map (fun i=>(i.zero,i.size,i.bytes))=some (some (.agg #[.int .i64 0,.int .i64 0]),2,16):=by kernel_rfl
theorem xP9(x bb lb P lv cap k:Nat)(B:Nat→BS)(w:World)(hx:w.heap[x]?=some (.cells #[.pointer (some ⟨bb,0,none⟩)] 139))(hB:N5 w bb lb P lv cap B)(hk:k≤P)(hP:P≤1000):
  Calls Tryz.prog 141 #[.int .i64 (k:Int),.pointer (some ⟨x,0,none⟩)] w fun e w'=>e= .returned (.bool (!(B k).out))∧w'=w:=by
 obtain⟨⟨cs,out,h1,h2,h5⟩,_⟩:=hB
 have d1:w.cell? ⟨x,0,none⟩=some (.pointer (some ⟨bb,0,none⟩)):=Q0 _ _ 0 _ _ _ hx
 have d2:w.cell? ⟨bb,3+k,none⟩=some (.bool (B k).out):=(Q0 _ _ _ _ _ _ h1).trans ((h2.outs k (by omega)).trans (by rw[h5 k hk]))
 have hk2:(k:Int)<1001:=by omega
 clear h1 h2 h5 hx
 generalize(B k).out=b at*
 go_enter Tryz.func141,Tryz.ntmps141
 go_wp2
 go_ret
 exact⟨rfl,rfl⟩
theorem zF5(a b:Int)(w:World):
  Calls Tryz.prog 142 #[.int .i64 a,.int .i64 b] w fun e w'=>e= .returned (.agg #[.int .i64 a,.int .i64 b])∧Below w.heap.size w w':=by
 have HR:=Hd (Q2 w.heap.size w)
 go_enter Tryz.func142,Tryz.ntmps142
 go_wp2
 refine Z2 (v:= .agg #[.int .i64 a,.int .i64 b]) (by simp[results,Tryz.results142,go_sem]) rfl ⟨rfl,?_⟩
 exact HR.out.alloc (Q1 _) _
structure qQ3(is:Nat→Bool)(low:Nat)(S:List (Nat×Nat)):Prop where
 none:S=[]→∀k,k<low→is k=false
 first:∀p,S.head?=some p→is p.1=true∧p.1<low∧∀k,k<p.1→is k=false
 last:∀p,S.getLast?=some p→is p.2=true∧p.2<low∧∀k,p.2<k→k<low→is k=false
theorem qQ3.skip{is:Nat→Bool}{low:Nat}{S:List (Nat×Nat)}(h:qQ3 is low S)(hf:is low=false):qQ3 is (low+1) S:=by
 refine⟨fun hS k hk=> ?_,fun p hp=> ?_,fun p hp=> ?_⟩
 ·by_cases e:k=low
  ·rw[e,hf]
  ·exact h.none hS k (by omega)
 ·obtain⟨h1,h2,h3⟩:=h.first p hp
  exact⟨h1,by omega,h3⟩
 ·obtain⟨h1,h2,h3⟩:=h.last p hp
  refine⟨h1,by omega,fun k hk1 hk2=> ?_⟩
  by_cases e:k=low
  ·rw[e,hf]
  ·exact h3 k hk1 (by omega)
theorem qQ3.add{is:Nat→Bool}{low high:Nat}{S:List (Nat×Nat)}(h:qQ3 is low S)(hle:low≤high)(hl:is low=true)(hh:is high=true):qQ3 is (high+1) (S++[(low,high)]):=by
 refine⟨fun hS=>by simp at hS,fun p hp=> ?_,fun p hp=> ?_⟩
 ·cases S with
  |nil=>
   simp only[List.nil_append,List.head?_cons,Option.some.injEq] at hp
   subst hp
   exact⟨hl,by dsimp only;omega,h.none rfl⟩
  |cons q S=>
   simp only[List.cons_append,List.head?_cons,Option.some.injEq] at hp
   subst hp
   obtain⟨h1,h2,h3⟩:=h.first q rfl
   exact⟨h1,by omega,h3⟩
 ·simp only[List.getLast?_append,List.getLast?_singleton,Option.some_or,Option.some.injEq] at hp
  subst hp
  exact⟨hh,by dsimp only;omega,fun k h1 h2=>by dsimp only at h1;omega⟩
def prC(S:List (Nat×Nat)):List Value:=(S.map fun p=>[Value.int .i64 (p.1:Int),.int .i64 (p.2:Int)]).flatten
theorem jW3(S:List (Nat×Nat))(p:Nat×Nat):prC (S++[p])=prC S++[.int .i64 (p.1:Int),.int .i64 (p.2:Int)]:=by simp[prC]
theorem xO5(a b:Nat):∀u∈[Value.int .i64 (a:Int),.int .i64 (b:Int)],u.oneCell'=true:=by
 intro u hu
 simp only[List.mem_cons,List.not_mem_nil,or_false] at hu
 rcases hu with rfl|rfl<;>rfl
def qE7(w W:World)(v:Value)(S:List (Nat×Nat)):Prop:=W.ownsRow w.heap.size 47 2 v S.length (prC S)∧Below w.heap.size w W
theorem qE7.start(w:World):qE7 w w (.slice none 0 0) []:=⟨⟨rfl,Or.inl ⟨rfl,rfl⟩⟩,Q2 _ _⟩
theorem qE7.step{w W W':World}{v:Value}{S:List (Nat×Nat)}(h:qE7 w W v S)(hb:Below W.heap.size W W'):qE7 w W' v S:=⟨K4 h.1 hb,h.2.trans (hb.mono h.2.size)⟩
theorem qE7.app{w W W':World}{v v':Value}{S:List (Nat×Nat)}(h:qE7 w W v S){o:Obj}{p:Nat×Nat}(hown:W'.ownsRow w.heap.size 47 2 v' (S.length+1) (prC S++[.int .i64 (p.1:Int),.int .i64 (p.2:Int)]))(hg:(W.alloc o).grownBy W' v.ownBlock):qE7 w W' v' (S++[p]):=by
 refine⟨by rw[Z6,List.length_singleton,jW3];exact hown,?_⟩
 have hA:Below w.heap.size w (W.alloc o):=h.2.alloc h.2.size _
 exact hA.grown hg hA.size (fun g e=>((h.1.alloc o).lt g e).1)
theorem jI0(x bb lb P lv cap:Nat)(B:Nat→BS)(w:World)(hx:w.heap[x]?=some (.cells #[.pointer (some ⟨bb,0,none⟩)] 139))(hB:N5 w bb lb P lv cap B)(hP:P≤1000):
  Calls Tryz.prog 140 #[.int .i64 ((P:Int)+1),.func (Fn.func 141) #[] #[.pointer (some ⟨x,0,none⟩)],.func (Fn.func 142) #[] #[]] w fun e w'=>∃a c S,e= .returned (.slice a S.length c)∧qQ3 (fun k=> !(B k).out) (P+1) S∧qE7 w w' (.slice a S.length c) S:=by
 have HI:=Hd (fun(W:World) (hb:Below w.heap.size w W) (k:Nat) (hk:k<P+1)=>show Calls Tryz.prog 141 #[.int .i64 (k:Int),.pointer (some ⟨x,0,none⟩)] W fun e w'=>e= .returned (.bool ((fun k=> !(B k).out) k))∧w'=W from
  xP9 x bb lb P lv cap k B W (Y0 hx hb) (hB.mono (hb.block _ hB.lt.1) (hb.block _ hB.lt.2)) (by omega) hP)
 have HO:=Hd (qE7.start w)
 have HK:=Hd (show qQ3 (fun k=> !(B k).out) 0 [] from⟨fun _ k hk=>by omega,fun p hp=>by simp at hp,fun p hp=>by simp at hp⟩)
 obtain⟨m,hm⟩:∃m,P+1=m:=⟨_,rfl⟩
 rw[show(P:Int)+1=(m:Int) by omega,hm]
 rw[hm] at HI
 have hm1:m≤1001:=by omega
 generalize(fun k=> !(B k).out)=is at*
 clear hx hB hP hm
 go_enter Tryz.func140,Tryz.ntmps140
 go_wp2
 go_loopw [7,8] (fun v t wr=>∃(low:Nat) (a:Option Addr) (c:Nat) (S:List (Nat×Nat)),low≤m∧v= .slice a S.length c∧t= .int .i64 (low:Int)∧Hid (qQ3 is low S)∧Hid (qE7 w wr (.slice a S.length c) S)∧S.length≤low) (fun _ t _=>m-(intOf t).toNat)
 case atStart=>exact⟨0,none,0,[],Nat.zero_le _,rfl,rfl,HK,HO,Q1 _⟩
 case round=>
  clear HK HO
  obtain⟨low,a,c,S,hlow,rfl,rfl,HK,HO,hSl⟩:=hrel
  by_cases hlt:low<m
  ·have hlt':(low:Int)<(m:Int):=by omega
   have HC:=Hd (HI.out wr HO.out.2 low hlt)
   cases hb:is low with
   |false=>
    rw[hb] at HC
    have HK2:=Hd (HK.out.skip hb)
    go_wp2_with(go_at_call 141;refine HC.out.mono ?_;rintro e W1 ⟨rfl,rfl⟩)
    go_roundw
    case rel=>exact⟨low+1,a,c,S,by omega,rfl,by go_num,HK2,HO,by omega⟩
    case measure=>simp[intOf];omega
   |true=>
    rw[hb] at HC
    have HH:=Hd hb
    clear hb
    go_upto_region 6 with(go_at_call 141;refine HC.out.mono ?_;rintro e W1 ⟨rfl,rfl⟩)
    clear HC
    go_wp2
    rename World=>wo
    go_loopw [9] (fun t wr=>∃high:Nat,low≤high∧high<m∧t= .int .i64 (high:Int)∧Hid (is high=true)∧Hid (wr=wo)) (fun t _=>m-(intOf t).toNat)
    case atStart=>exact⟨low,Q1 _,hlt,rfl,HH,Hd rfl⟩
    case round=>
     obtain⟨high,hlh,hhm,rfl,HHI,HW⟩:=hrel
     obtain rfl:=HW.out
     clear HW
     by_cases hlt2:high+1<m
     ·have hlt2':(high:Int)+1<(m:Int):=by omega
      have HC2:=Hd (HI.out wr HO.out.2 (high+1) hlt2)
      have hcast:((high+1:Nat):Int)=(high:Int)+1:=by omega
      rw[hcast] at HC2
      cases hb2:is (high+1) with
      |true=>
       rw[hb2] at HC2
       have HB2:=Hd hb2
       clear hb2
       go_wp2_with(go_at_call 141;refine HC2.out.mono ?_;rintro e W1 ⟨rfl,rfl⟩)
       go_roundw
       case rel=>exact⟨high+1,by omega,by omega,by go_num,HB2,Hd trivial⟩
       case measure=>simp[intOf];omega
      |false=>
       rw[hb2] at HC2
       clear hb2
       go_upto_region 9 with(go_at_call 141;refine HC2.out.mono ?_;rintro e W1 ⟨rfl,rfl⟩)
       clear HC2
       have HK3:=Hd (HK.out.add hlh HH.out HHI.out);have HF:=Hd (fun W=>zF5 (low:Int) (high:Int) W);obtain⟨j0,hj0,hz0,hz1,hz2⟩:=info_parts zB7;have hb63:S.length+1≤maxLen:=(by unfold maxLen;omega);have hb47:(S.length+1)*16≤140737488355328:=(by omega);go_upto_region 10 with(first|(go_at_call 142;refine(HF.out _).mono ?_;rintro e W1 ⟨rfl,hb1⟩;have HO2:=Hd (HO.out.step hb1);have hsz:=HO2.out.2.size;clear hb1)|(at_builtin;refine wpList_append_own _ rfl _ _ 41 rfl w.heap.size 47 j0 _ 2 16 Tryz.underlying41 hj0 hz0 hz1 hz2 rfl (by decide) (.slice a S.length c) S.length (prC S) rfl (HO2.out.1.alloc _) ⟨W1.heap.size,0,none⟩ 1 1 [.int .i64 (low:Int),.int .i64 (high:Int)] rfl rfl R4 (xO5 low high) hb63 hb47 (by simp;omega) ?_;intro v' w6 hown6 hgrow6 hnil6;obtain⟨a6,c6,rfl⟩:=Y6 hown6;have HO6:=Hd (HO2.out.app (p:=(low,high)) hown6 hgrow6);clear hown6 hgrow6 hnil6));go_wp2;go_roundw;(case rel=>exact⟨high+1,a6,c6,S++[(low,high)],by omega,by simp,by go_num,HK3,by rw[show(S++[(low,high)]).length=S.length+1 from by simp];exact HO6,by simp;omega⟩);(case measure=>simp[intOf];omega)
     ·have hlt2':¬(high:Int)+1<(m:Int):=by omega
      go_upto_region 9 with(fail)
      have HK3:=Hd (HK.out.add hlh HH.out HHI.out);have HF:=Hd (fun W=>zF5 (low:Int) (high:Int) W);obtain⟨j0,hj0,hz0,hz1,hz2⟩:=info_parts zB7;have hb63:S.length+1≤maxLen:=(by unfold maxLen;omega);have hb47:(S.length+1)*16≤140737488355328:=(by omega);go_upto_region 10 with(first|(go_at_call 142;refine(HF.out _).mono ?_;rintro e W1 ⟨rfl,hb1⟩;have HO2:=Hd (HO.out.step hb1);have hsz:=HO2.out.2.size;clear hb1)|(at_builtin;refine wpList_append_own _ rfl _ _ 41 rfl w.heap.size 47 j0 _ 2 16 Tryz.underlying41 hj0 hz0 hz1 hz2 rfl (by decide) (.slice a S.length c) S.length (prC S) rfl (HO2.out.1.alloc _) ⟨W1.heap.size,0,none⟩ 1 1 [.int .i64 (low:Int),.int .i64 (high:Int)] rfl rfl R4 (xO5 low high) hb63 hb47 (by simp;omega) ?_;intro v' w6 hown6 hgrow6 hnil6;obtain⟨a6,c6,rfl⟩:=Y6 hown6;have HO6:=Hd (HO2.out.app (p:=(low,high)) hown6 hgrow6);clear hown6 hgrow6 hnil6));go_wp2;go_roundw;(case rel=>exact⟨high+1,a6,c6,S++[(low,high)],by omega,by simp,by go_num,HK3,by rw[show(S++[(low,high)]).length=S.length+1 from by simp];exact HO6,by simp;omega⟩);(case measure=>simp[intOf];omega)
  ·obtain rfl:low=m:=by omega
   go_wp2
   go_ret
   exact⟨a,c,S,rfl,HK.out,HO.out⟩
theorem jB8(bb lb P lv cap:Nat)(B:Nat→BS)(w:World)(hB:N5 w bb lb P lv cap B)(hP:P≤1000):
  Calls Tryz.prog 98 #[.pointer (some ⟨bb,0,none⟩)] w fun e w'=>∃a c S,e= .returned (.slice a S.length c)∧qQ3 (fun k=> !(B k).out) (P+1) S∧qE7 w w' (.slice a S.length c) S:=by
 have hmf:∀(fn:Fn) (first cap:Array Value) (w:World),(Instr.makeFunc fn first cap).run Tryz.prog w= .ok (.func fn first cap) w:=fun _ _ _ _=>rfl
 have hb1:Below w.heap.size w (w.alloc (.cells #[.pointer (some ⟨bb,0,none⟩)] 139)):=(Q2 _ _).alloc (Q1 _) _
 have hB1:=hB.mono (hb1.block _ hB.lt.1) (hb1.block _ hB.lt.2)
 have hx:(w.alloc (.cells #[.pointer (some ⟨bb,0,none⟩)] 139)).heap[w.heap.size]?=some (.cells #[.pointer (some ⟨bb,0,none⟩)] 139):=zB6 rfl
 have HR:=Hd (jI0 w.heap.size bb lb P lv cap B _ hx hB1 hP)
 have HX:=Hd (fun(W:World) v S (h:qE7 (w.alloc (.cells #[.pointer (some ⟨bb,0,none⟩)] 139)) W v S)=>show qE7 w W v S from
  ⟨P8 h.1 (by simp),hb1.trans (h.2.mono (by simp))⟩)
 obtain⟨⟨cs,out,h1,h2,h5⟩,_⟩:=hB1
 have d1:(w.alloc (.cells #[.pointer (some ⟨bb,0,none⟩)] 139)).cell? ⟨w.heap.size,0,none⟩=some (.pointer (some ⟨bb,0,none⟩)):=Q0 _ _ 0 _ _ _ hx
 have d2:(w.alloc (.cells #[.pointer (some ⟨bb,0,none⟩)] 139)).cell? ⟨bb,0,none⟩=some (.int .i64 (P:Int)):=(Q0 _ _ _ _ _ _ h1).trans h2.parts
 clear h1 h2 h5 hx hb1 hB
 go_enter Tryz.func98,Tryz.ntmps98
 go_upto_region 1 with(fail)
 generalize World.alloc w _=V at*
 go_wp2_with(go_at_call 140;refine HR.out.mono ?_;rintro e W1 ⟨a,c,S,rfl,hS,hO⟩;have HS:=Hd hS;have HO:=Hd (HX.out _ _ _ hO);clear hS hO)
 go_ret
 exact⟨a,c,S,rfl,HS.out,HO.out⟩
structure kZ7(B:Nat→BS)(P lo hi:Nat):Prop where
 le:lo≤hi∧hi≤P
 low:(B lo).out=false
 high:(B hi).out=false
 below:∀k,k<lo→(B k).out=true
 above:∀k,hi<k→k≤P→(B k).out=true
theorem kK9{B:Nat→BS}{P:Nat}{S:List (Nat×Nat)}(h:qQ3 (fun k=> !(B k).out) (P+1) S)(hk:E4 B (P+1)≠0):∃p q,S.head?=some p∧S.getLast?=some q∧kZ7 B P p.1 q.2:=by
 obtain⟨k,hk,hout⟩:=zR9 (P+1) hk
 cases S with
 |nil=>
  have:=h.none rfl k hk
  simp[hout] at this
 |cons p S=>
  have hl:∃q,(p::S).getLast?=some q:=⟨(p::S).getLast (by simp),by rw[List.getLast?_eq_some_getLast (by simp)]⟩
  obtain⟨q,hq⟩:=hl
  obtain⟨f1,f2,f3⟩:=h.first p rfl
  obtain⟨l1,l2,l3⟩:=h.last q hq
  refine⟨p,q,rfl,hq,⟨?_,by omega⟩,by simpa using f1,by simpa using l1,fun k hk=>by simpa using f3 k hk,fun k h1 h2=>by simpa using l3 k h1 (by omega)⟩
  by_cases hc:p.1≤q.2
  ·exact hc
  ·have:=f3 q.2 (by omega)
   rw[l1] at this
   exact absurd this (by decide)
theorem kG1(S:List (Nat×Nat)):∀(i:Nat) (p:Nat×Nat),S[i]?=some p→(prC S)[i*2]?=some (.int .i64 (p.1:Int))∧(prC S)[i*2+1]?=some (.int .i64 (p.2:Int)):=by
 induction S with
 |nil=>intro i p h;simp at h
 |cons q S ih=>
  intro i p h
  have e:prC (q::S)= .int .i64 (q.1:Int):: .int .i64 (q.2:Int)::prC S:=by simp[prC]
  rw[e]
  cases i with
  |zero=>
   simp only[List.getElem?_cons_zero,Option.some.injEq] at h
   subst h
   exact⟨rfl,rfl⟩
  |succ i=>
   rw[show(i+1)*2=i*2+1+1 by omega]
   simp only[List.getElem?_cons_succ] at h ⊢
   exact ih i p h
theorem qE7.get{w W:World}{a:Option Addr}{c:Nat}{S:List (Nat×Nat)}(h:qE7 w W (.slice a S.length c) S){i:Nat}{p:Nat×Nat}(hp:S[i]?=some p):∃b,a=some ⟨b,0,none⟩∧W.cell? ⟨b,i*2,none⟩=some (.int .i64 (p.1:Int))∧W.cell? ⟨b,i*2+1,none⟩=some (.int .i64 (p.2:Int)):=by
 have hi:=(List.getElem?_eq_some_iff.1 hp).1
 rcases h.1.2 with⟨hv,hn⟩|⟨g,cap,cur,hv,hb,hg,hnc,hcm,hcs,htake⟩
 ·omega
 ·injection hv with h1 h2 h3
  have hc:∀j,j<S.length*2→cur[j]?=(prC S)[j]? :=fun j hj=>by
   rw[←htake,List.getElem?_take_of_lt hj];simp
  obtain⟨g1,g2⟩:=kG1 S i p hp
  exact⟨g,h1,(Q0 _ _ _ _ _ _ hg).trans ((hc _ (by omega)).trans g1),(Q0 _ _ _ _ _ _ hg).trans ((hc _ (by omega)).trans g2)⟩
theorem qE7.few{w W:World}{v:Value}{S:List (Nat×Nat)}(h:qE7 w W v S):S.length≤maxLen:=by
 rcases h.1.2 with⟨hv,hn⟩|⟨g,cap,cur,hv,hb,hg,hnc,hcm,hcs,htake⟩
 ·omega
 ·omega
theorem jS3(bb lb P lv cap:Nat)(B:Nat→BS)(w:World)(hB:N5 w bb lb P lv cap B)(hP:P≤1000)(hk:E4 B (P+1)≠0):
  Calls Tryz.prog 62 #[.pointer (some ⟨bb,0,none⟩)] w fun e w'=>∃lo hi:Nat,e= .returned (.agg #[.int .i64 (lo:Int),.int .i64 (hi:Int)])∧kZ7 B P lo hi∧Below w.heap.size w w':=by
 have HB:=Hd hB
 have HH:=Hd (fun S (h:qQ3 (fun k=> !(B k).out) (P+1) S)=>kK9 h hk)
 have hb1:Below w.heap.size w (w.alloc (.cells #[.int .i64 0,.int .i64 0] 47)):=(Q2 _ _).alloc (Q1 _) _
 have hB1:=hB.mono (hb1.block _ hB.lt.1) (hb1.block _ hB.lt.2)
 have HS:=Hd (jB8 bb lb P lv cap B _ hB1 hP)
 have HB1:=Hd hb1
 have HX:=Hd (show(w.alloc (.cells #[.int .i64 0,.int .i64 0] 47)).heap[w.heap.size]?=some (.cells #[.int .i64 0,.int .i64 0] 47) from zB6 rfl)
 have HZ:=Hd (show(w.alloc (.cells #[.int .i64 0,.int .i64 0] 47)).heap.size=w.heap.size+1 from by simp)
 clear hB hB1 hb1 hk HB
 go_enter Tryz.func62,Tryz.ntmps62
 go_upto_region 1 with(fail)
 generalize World.alloc w _=V at*
 go_upto_region 2 with(go_at_call 98;refine HS.out.mono ?_;rintro e W1 ⟨a,c,S,rfl,hS,hO⟩;have HO:=Hd hO;obtain⟨p,q,hp,hq,hh⟩:=HH.out S hS;have HHU:=Hd hh;have HP:=Hd hp;have HQ:=Hd hq;clear hS hO hh hp hq)
 clear HH HS
 obtain⟨b,rfl,c0,_⟩:=HO.out.get (i:=0) (by rw[←List.head?_eq_getElem?];exact HP.out)
 obtain⟨b2,hb2,_,c1⟩:=HO.out.get (i:=S.length-1) (by rw[←List.getLast?_eq_getElem?];exact HQ.out)
 injection hb2 with hb2
 injection hb2 with hb2
 subst hb2
 obtain⟨n,hn⟩:∃n,S.length=n+1:=by
  cases S with
  |nil=>have:=HP.out;simp at this
  |cons x S=>exact⟨S.length,rfl⟩
 have HN:=Hd hn
 have hmx:=HO.out.few
 rw[hn] at HO c1 hmx
 unfold maxLen at hmx
 have hX1:=(HO.out.2.block w.heap.size (by rw[HZ.out];omega)).trans HX.out
 obtain⟨f0,f1⟩:=fr2 hX1
 have r0:W1.cell? ⟨w.heap.size,0,none⟩=some (.int .i64 0):=Q0 _ _ 0 _ _ _ hX1
 have r1:W1.cell? ⟨w.heap.size,1,none⟩=some (.int .i64 0):=Q0 _ _ 1 _ _ _ hX1
 have hbl:Below w.heap.size w W1:=HB1.out.trans (HO.out.2.mono (by rw[HZ.out];omega))
 have HBE:=Hd hbl
 have c0':W1.cell? ⟨b,0,none⟩=some (.int .i64 (p.1:Int)):=c0
 rw[show n+1-1=n from rfl] at c1
 obtain⟨lo,hlo⟩:∃lo,p.1=lo:=⟨_,rfl⟩
 obtain⟨hi,hhi⟩:∃hi,q.2=hi:=⟨_,rfl⟩
 rw[hlo,hhi] at HHU
 rw[hlo] at c0'
 rw[hhi] at c1
 rw[hn]
 have hcast:((n+1:Nat):Int)=(n:Int)+1:=by omega
 have hrow:=Q4 _ _ 1 _ _ (.int .i64 (hi:Int)) (Q4 W1 _ 0 _ _ (.int .i64 (lo:Int)) hX1)
 have HW:=Hd (show((W1.setCell ⟨w.heap.size,0,none⟩ (.int .i64 (lo:Int))).setCell ⟨w.heap.size,1,none⟩ (.int .i64 (hi:Int))).drew.heap[w.heap.size]?=some (.cells #[.int .i64 (lo:Int),.int .i64 (hi:Int)] 47) from hrow)
 have HBE2:=Hd (show Below w.heap.size w ((W1.setCell ⟨w.heap.size,0,none⟩ (.int .i64 (lo:Int))).setCell ⟨w.heap.size,1,none⟩ (.int .i64 (hi:Int))).drew from((hbl.setCell (p:=⟨w.heap.size,0,none⟩) (Q1 _) _).setCell (p:=⟨w.heap.size,1,none⟩) (Q1 _) _).drew)
 clear hX1 hbl c0 hn HP HQ hlo hhi hrow
 go_region
 generalize World.drew _=Z at*
 obtain⟨q0,q1⟩:=M7 HW.out
 go_wp2
 refine Z2 (v:= .agg #[.int .i64 (lo:Int),.int .i64 (hi:Int)]) (by simp[results,Tryz.results62,go_sem,q0,q1]) rfl ⟨lo,hi,rfl,HHU.out,HBE2.out⟩
theorem zZ7(a b c:Int)(w:World):
  Calls Tryz.prog 96 #[.int .i64 a,.int .i64 b,.int .i64 c] w fun e w'=>e= .returned (.bool (J1 a b c))∧w=w':=by
 by_cases h:b≤a
 ·go_enter Tryz.func96,Tryz.ntmps96
  go_wp2
  go_ret
  exact⟨J2 (by unfold J1;rw[Z0 h,Bool.true_and]),rfl⟩
 ·go_enter Tryz.func96,Tryz.ntmps96
  go_wp2
  go_ret
  exact⟨J2 (by unfold J1;rw[Q7 (by omega),Bool.false_and]),rfl⟩
theorem xG9(l:Int)(w:World):
  Calls Tryz.prog 59 #[.int .i64 l] w fun e w'=>e= .returned (.bool (J1 l 2 900000))∧w=w':=by
 go_enter Tryz.func59,Tryz.ntmps59
 go_wp2_with((go_at_call 96;refine(zZ7 _ _ _ _).mono ?_;rintro e w' ⟨rfl,rfl⟩))
 go_ret
 exact⟨rfl,rfl⟩
theorem jI3(x:Nat)(l:Int)(w:World)(hx:w.heap[x]?=some (.cells #[.int .i64 l] 3)):
  Calls Tryz.prog 58 #[.pointer (some ⟨x,0,none⟩)] w fun e w'=>e= .returned (.bool (J1 l 2 900000))∧w=w':=by
 have d1:w.cell? ⟨x,0,none⟩=some (.int .i64 l):=Q0 _ _ 0 _ _ _ hx
 clear hx
 go_enter Tryz.func58,Tryz.ntmps58
 go_wp2_with(go_at_call 59;refine(xG9 _ _).mono ?_;rintro e w' ⟨rfl,rfl⟩)
 go_ret
 exact⟨rfl,rfl⟩
theorem xR3(x n cp:Nat)(a:Option Addr)(P:Nat)(l:Int)(w:World)(hx:w.heap[x]?=some (.cells #[.int .i64 l] 3))(hn:n≤4000)(hP:2≤P∧P≤1000)(hl:2≤l∧l≤900000):
  Calls Tryz.prog 57 #[.slice a n cp,.int .i64 (P:Int),.func (Fn.func 58) #[] #[.pointer (some ⟨x,0,none⟩)]] w fun e w'=>e= .returned (.int .i64 0)∧w=w':=by
 have HS:=Hd (jI3 x l w hx)
 have e1:J1 l 2 900000=true:=by unfold J1;rw[Z0 hl.1,Z0 hl.2];rfl
 have e2:J1 (P:Int) 2 1000=true:=by unfold J1;rw[Z0 (by omega),Z0 (by omega)];rfl
 rw[e1] at HS
 have hn':(n:Int)≤4000:=by omega
 clear hx
 go_enter Tryz.func57,Tryz.ntmps57
 go_wp2_with(first|((go_at_call 96;refine(zZ7 _ _ _ _).mono ?_;rintro e w' ⟨rfl,rfl⟩);rw[e2])|(go_at_call 58;refine HS.out.mono ?_;rintro e w' ⟨rfl,rfl⟩))
 go_ret
 exact⟨rfl,rfl⟩
def qB1(P lv:Nat)(o:List Bool):Nat→BS:=qX8 P lv (fun _=>⟨1048576,0,0,false⟩) o
theorem jM6{P:Nat}(hP:2≤P∧P≤1000):qX5 (fun _=>⟨1048576,0,0,false⟩) P 0:=⟨hP,fun k _=>⟨Q1 _,Q1 _,by show 1048576≤N6;decide⟩⟩
theorem B8.to_below{a b k:Nat}{w w':World}(h:B8 a b w w')(hk:k≤w.heap.size)(ha:k≤a)(hb:k≤b):Below k w w':=⟨h.os,h.tape,h.output,h.size,fun i hi=>h.block i (by omega) (by omega) (by omega)⟩
def zY4(P lv:Nat)(o:List Bool)(w:World)(e:Ending)(w':World):Prop:=
 ((E4 (qB1 P lv o) (P+1)=0∧e= .returned (.tuple #[.agg #[.int .i64 0,.int .i64 0],.int .i64 5]))∨
  (∃lo hi:Nat,kZ7 (qB1 P lv o) P lo hi∧e= .returned (.tuple #[.agg #[.int .i64 (lo:Int),.int .i64 (hi:Int)],.int .i64 0])))∧Below w.heap.size w w'
theorem kX6(P lv cp:Nat)(a:Option Addr)(o:List Bool)(w:World)(ho:R2 w a o)(hn:o.length≤4000)(hP:2≤P∧P≤1000)(hl:2≤lv∧lv≤900000):
  Calls Tryz.prog 21 #[.slice a o.length cp,.int .i64 (P:Int),.int .i64 (lv:Int)] w (zY4 P lv o w):=by
 have hmf:∀(fn:Fn) (first cap:Array Value) (w:World),(Instr.makeFunc fn first cap).run Tryz.prog w= .ok (.func fn first cap) w:=fun _ _ _ _=>rfl
 have hb1:Below w.heap.size w ((w.alloc (.cells #[.int .i64 (lv:Int)] 3)).alloc (.cells #[.int .i64 0,.int .i64 0] 47)):=((Q2 _ _).alloc (Q1 _) _).alloc (by simp) _
 have hx:((w.alloc (.cells #[.int .i64 (lv:Int)] 3)).alloc (.cells #[.int .i64 0,.int .i64 0] 47)).heap[w.heap.size]?=some (.cells #[.int .i64 (lv:Int)] 3):=(jS2 (by simp)).trans (zB6 rfl)
 have hr:((w.alloc (.cells #[.int .i64 (lv:Int)] 3)).alloc (.cells #[.int .i64 0,.int .i64 0] 47)).heap[w.heap.size+1]?=some (.cells #[.int .i64 0,.int .i64 0] 47):=zB6 (by simp)
 have HZ:=Hd (show((w.alloc (.cells #[.int .i64 (lv:Int)] 3)).alloc (.cells #[.int .i64 0,.int .i64 0] 47)).heap.size=w.heap.size+2 from by simp)
 have HO:=Hd (ho.below hb1)
 have HB1:=Hd hb1
 have HX:=Hd hx
 have HRR:=Hd hr
 obtain⟨n,hnn⟩:∃n,o.length=n:=⟨_,rfl⟩
 have HNN:=Hd hnn
 rw[hnn] at hn ⊢
 have HR1:=Hd (fun(W:World) (h:E4 (qB1 P lv o) (P+1)=0) (hb:Below w.heap.size w W)=>show zY4 P lv o w (.returned (.tuple #[.agg #[.int .i64 0,.int .i64 0],.int .i64 5])) W from⟨Or.inl ⟨h,rfl⟩,hb⟩)
 have HR2:=Hd (fun(W:World) (lo hi:Nat) (h:kZ7 (qB1 P lv o) P lo hi) (hb:Below w.heap.size w W)=>show zY4 P lv o w (.returned (.tuple #[.agg #[.int .i64 (lo:Int),.int .i64 (hi:Int)],.int .i64 0])) W from⟨Or.inr ⟨lo,hi,h,rfl⟩,hb⟩)
 generalize zY4 P lv o w=Q at*
 have HLS:=Hd (xR3 w.heap.size n cp a P lv _ hx hn hP (by omega))
 have d0:((w.alloc (.cells #[.int .i64 (lv:Int)] 3)).alloc (.cells #[.int .i64 0,.int .i64 0] 47)).cell? ⟨w.heap.size,0,none⟩=some (.int .i64 (lv:Int)):=Q0 _ _ 0 _ _ _ hx
 clear hb1 hx hr ho hnn
 go_enter Tryz.func21,Tryz.ntmps21
 go_upto_region 1 with(fail)
 generalize World.alloc (World.alloc w _) _=V at*
 go_upto_region 4 with(go_at_call 57;refine HLS.out.mono ?_;rintro e w' ⟨rfl,rfl⟩)
 have HBG:=Hd (jX5 P lv V hP)
 go_upto_region 5 with(first
  |(go_at_call 60;refine HBG.out.mono ?_;rintro e W1 ⟨lb,cap,hlb,rfl,hB,hb⟩;have HRN:=Hd (kB7 V.heap.size lb P lv cap 0 cp _ a o W1 hB (jM6 hP) (HO.out.below hb) (by rw[HNN.out];omega) (by omega));rw[HNN.out] at HRN;have HV1:=Hd hb;clear hB hb)
  |(go_at_call 61;refine HRN.out.mono ?_;rintro e W2 ⟨rfl,hB2,hk2⟩;have HV2:=Hd (HV1.out.trans (hk2.to_below HV1.out.size (Q1 _) hlb));have HB2:=Hd hB2;clear hB2 hk2))
 clear HBG HRN
 have HW2:=Hd (HB1.out.trans (HV2.out.mono (by rw[HZ.out];omega)))
 have hX2:=(HV2.out.block (w.heap.size+1) (by rw[HZ.out];omega)).trans HRR.out
 have HR2X:=Hd hX2
 obtain⟨cs,out,h1,h2,h5⟩:=HB2.out.big
 have d1:W2.cell? ⟨V.heap.size,1004,none⟩=some (.int .i64 (E4 (qB1 P lv o) (P+1):Int)):=(Q0 _ _ _ _ _ _ h1).trans h2.kept
 clear h1 h2 h5 hX2
 by_cases hk:E4 (qB1 P lv o) (P+1)=0
 ·have HQ:=Hd (fun W=>HR1.out W hk)
  rw[hk] at d1
  have hk0:((0:Nat):Int)=0:=rfl
  rw[hk0] at d1
  (obtain⟨f0,f1⟩:=fr2 HR2X.out;have r0:W2.cell? ⟨w.heap.size+1,0,none⟩=some (.int .i64 0):=Q0 _ _ 0 _ _ _ HR2X.out;have r1:W2.cell? ⟨w.heap.size+1,1,none⟩=some (.int .i64 0):=Q0 _ _ 1 _ _ _ HR2X.out;have hrow:=Q4 _ _ 1 _ _ (.int .i64 0) (Q4 W2 _ 0 _ _ (.int .i64 0) HR2X.out);have q0:((W2.setCell ⟨w.heap.size+1,0,none⟩ (.int .i64 0)).setCell ⟨w.heap.size+1,1,none⟩ (.int .i64 0)).cell? ⟨w.heap.size+1,0,none⟩=some (.int .i64 0):=Q0 _ _ 0 _ _ _ hrow;have q1:((W2.setCell ⟨w.heap.size+1,0,none⟩ (.int .i64 0)).setCell ⟨w.heap.size+1,1,none⟩ (.int .i64 0)).cell? ⟨w.heap.size+1,1,none⟩=some (.int .i64 0):=Q0 _ _ 1 _ _ _ hrow;have HBE:=Hd ((HW2.out.setCell (p:=⟨w.heap.size+1,0,none⟩) (by dsimp only;omega) (.int .i64 0)).setCell (p:=⟨w.heap.size+1,1,none⟩) (by dsimp only;omega) (.int .i64 0));clear hrow)
  clear HR1 HR2
  go_upto_region 6 with(fail)
  go_wp2
  generalize World.setCell (World.setCell W2 _ _) _ _=Z at*
  refine Z2 (v:= .tuple #[.agg #[.int .i64 0,.int .i64 0],.int .i64 5]) (by simp[results,Tryz.results21,go_sem,q0,q1]) rfl (HQ.out _ HBE.out)
 ·have HU:=Hd (jS3 V.heap.size lb P lv cap _ W2 HB2.out (by omega) hk)
  have hk2:((E4 (qB1 P lv o) (P+1):Int)==0)=false:=by rw[beq_eq_false_iff_ne];omega
  have hzl:=HW2.out.size
  have HL2:=Hd (J5 HR2X.out)
  generalize(E4 (qB1 P lv o) (P+1):Int)=KK at*
  clear HR1
  go_upto_region 7 with(fail)
  go_wp2_with(go_at_call 62;refine HU.out.mono ?_;rintro e W3 ⟨lo,hi,rfl,hh,hb3⟩;have HH3:=Hd hh;have HW3:=Hd (HW2.out.trans (hb3.mono hzl));have HR3X:=Hd ((hb3.block _ HL2.out).trans HR2X.out);clear hh hb3;have HQ:=Hd (fun W=>HR2.out W lo hi HH3.out);(obtain⟨f0,f1⟩:=fr2 HR3X.out;have r0:W3.cell? ⟨w.heap.size+1,0,none⟩=some (.int .i64 0):=Q0 _ _ 0 _ _ _ HR3X.out;have r1:W3.cell? ⟨w.heap.size+1,1,none⟩=some (.int .i64 0):=Q0 _ _ 1 _ _ _ HR3X.out;have hrow:=Q4 _ _ 1 _ _ (.int .i64 (hi:Int)) (Q4 W3 _ 0 _ _ (.int .i64 (lo:Int)) HR3X.out);have q0:((W3.setCell ⟨w.heap.size+1,0,none⟩ (.int .i64 (lo:Int))).setCell ⟨w.heap.size+1,1,none⟩ (.int .i64 (hi:Int))).cell? ⟨w.heap.size+1,0,none⟩=some (.int .i64 (lo:Int)):=Q0 _ _ 0 _ _ _ hrow;have q1:((W3.setCell ⟨w.heap.size+1,0,none⟩ (.int .i64 (lo:Int))).setCell ⟨w.heap.size+1,1,none⟩ (.int .i64 (hi:Int))).cell? ⟨w.heap.size+1,1,none⟩=some (.int .i64 (hi:Int)):=Q0 _ _ 1 _ _ _ hrow;have HBE:=Hd ((HW3.out.setCell (p:=⟨w.heap.size+1,0,none⟩) (by dsimp only;omega) (.int .i64 (lo:Int))).setCell (p:=⟨w.heap.size+1,1,none⟩) (by dsimp only;omega) (.int .i64 (hi:Int)));clear hrow))
  generalize World.setCell (World.setCell W3 _ _) _ _=Z at*
  refine Z2 (v:= .tuple #[.agg #[.int .i64 (lo:Int),.int .i64 (hi:Int)],.int .i64 0]) (by simp[results,Tryz.results21,go_sem,q0,q1]) rfl (HQ.out _ HBE.out)
end
section
open Go Go.RowKit Go.Shelf
def vK:VO:=⟨3,1,2,10⟩
def rK:RY:=⟨0,5,0,3,0,2⟩
def gK(i:Nat):Int:=if i=0 then 5 else if i=1 then 12 else 15
def dK(i:Nat):Int:=if i=5 then 3 else 2
theorem kR8:IsM vK rK 4:=⟨fun j hj=>by
 match j,hj with
 |0,_=>decide
 |1,_=>decide
 |2,_=>decide
 |3,_=>decide
 |4,_=>decide,by decide⟩
theorem kM2:opS dK (prN vK rK gK 5)=77:=by kernel_rfl
theorem zL2(ga da:Option Addr)(gc dc:Nat)(w:World)(hG:D0 w.heap.size w ga 3 gK)(hD:D0 w.heap.size w da 6 dK):
  Calls Tryz.prog 20 #[.agg #[.int .i64 3,.int .i64 1,.int .i64 2,.int .i64 10],.slice ga 3 gc,.slice da 6 dc,.agg #[.int .i64 0,.int .i64 5,.int .i64 0,.int .i64 3,.int .i64 0,.int .i64 2]] w fun e w'=>e= .returned (.tuple #[.int .i64 77,.int .i64 0])∧Below w.heap.size w w':=by
 refine Calls.mono (R:=fun e w'=>∃m,IsM vK rK m∧e= .returned (.tuple #[.int .i64 (opS dK (prN vK rK gK (m+1))),.int .i64 0])∧Below w.heap.size w w') (xF8 vK rK ga 3 gc gK da 6 dc dK w (by decide) hG hD (by kernel_rfl) (by decide) (by kernel_rfl)) ?_
 rintro e w' ⟨m,hm,rfl,hb⟩
 obtain rfl:=kL4 hm kR8
 exact⟨by rw[kM2],hb⟩
def oK:List Bool:=[true,false,true,true]
theorem kS2:(qB1 4 5 oK 0).out=true∧(qB1 4 5 oK 1).out=false∧(qB1 4 5 oK 3).out=false∧(qB1 4 5 oK 4).out=true:=⟨by kernel_rfl,by kernel_rfl,by kernel_rfl,by kernel_rfl⟩
theorem jZ8(a:Option Addr)(cp:Nat)(w:World)(ho:R2 w a oK):
  Calls Tryz.prog 21 #[.slice a 4 cp,.int .i64 4,.int .i64 5] w fun e w'=>e= .returned (.tuple #[.agg #[.int .i64 1,.int .i64 3],.int .i64 0])∧Below w.heap.size w w':=by
 refine Calls.mono (R:=zY4 4 5 oK w) (kX6 4 5 cp a oK w ho (by decide) (by decide) (by decide)) ?_
 rintro e w' ⟨⟨h0,_⟩|⟨lo,hi,hh,rfl⟩,hb⟩
 ·exact absurd h0 (by rw[show E4 (qB1 4 5 oK) (4+1)=3 by kernel_rfl];decide)
 ·obtain⟨o0,o1,o3,o4⟩:=kS2
  have l1:lo≠0:=fun e=>by have:=hh.low;rw[e,o0] at this;cases this
  have l2:¬1<lo:=fun e=>by have:=hh.below 1 e;rw[o1] at this;cases this
  have h1:hi≠4:=fun e=>by have:=hh.high;rw[e,o4] at this;cases this
  have h2:¬hi<3:=fun e=>by have:=hh.above 3 e (by omega);rw[o3] at this;cases this
  have h3:=hh.le
  obtain rfl:lo=1:=by omega
  obtain rfl:hi=3:=by omega
  exact⟨rfl,hb⟩
def qH1:Array Value:= #[.int .i64 0,.int .i64 0,.int .i64 10,.int .i64 100,.int .i64 20,.int .i64 30,.int .i64 200,.int .i64 30,.int .i64 60]
theorem kS9{W:World}{b:Nat}(h:W.heap[b]?=some (.cells qH1 63)):S5 W.heap.size W (some ⟨b,0,none⟩) 3 tK:=by
 have hb:=(J5 h)
 refine .inr ⟨b,0,rfl,hb,fun i hi=> ?_⟩
 match i,hi with
 |0,_=>exact⟨Q0 _ _ 0 _ _ _ h,Q0 _ _ 1 _ _ _ h,Q0 _ _ 2 _ _ _ h⟩
 |1,_=>exact⟨Q0 _ _ 3 _ _ _ h,Q0 _ _ 4 _ _ _ h,Q0 _ _ 5 _ _ _ h⟩
 |2,_=>exact⟨Q0 _ _ 6 _ _ _ h,Q0 _ _ 7 _ _ _ h,Q0 _ _ 8 _ _ _ h⟩
theorem kV2{W:World}{b:Nat}(h:W.heap[b]?=some (.cells #[.int .i64 5,.int .i64 12,.int .i64 15] 3)):D0 W.heap.size W (some ⟨b,0,none⟩) 3 gK:=by
 have hb:=(J5 h)
 refine .inr ⟨b,0,rfl,hb,fun i hi=> ?_⟩
 match i,hi with
 |0,_=>exact Q0 _ _ 0 _ _ _ h
 |1,_=>exact Q0 _ _ 1 _ _ _ h
 |2,_=>exact Q0 _ _ 2 _ _ _ h
theorem kV3{W:World}{b:Nat}(h:W.heap[b]?=some (.cells #[.int .i64 2,.int .i64 2,.int .i64 2,.int .i64 2,.int .i64 2,.int .i64 3] 3)):D0 W.heap.size W (some ⟨b,0,none⟩) 6 dK:=by
 have hb:=(J5 h)
 refine .inr ⟨b,0,rfl,hb,fun i hi=> ?_⟩
 match i,hi with
 |0,_=>exact Q0 _ _ 0 _ _ _ h
 |1,_=>exact Q0 _ _ 1 _ _ _ h
 |2,_=>exact Q0 _ _ 2 _ _ _ h
 |3,_=>exact Q0 _ _ 3 _ _ _ h
 |4,_=>exact Q0 _ _ 4 _ _ _ h
 |5,_=>exact Q0 _ _ 5 _ _ _ h
theorem kJ5{W:World}{b:Nat}(h:W.heap[b]?=some (.cells #[.bool true,.bool false,.bool true,.bool true] 4)):R2 W (some ⟨b,0,none⟩) oK:=by
 refine .inr ⟨b,_,_,rfl,h,fun i hi=> ?_⟩
 match i,hi with
 |0,_=>rfl
 |1,_=>rfl
 |2,_=>rfl
 |3,_=>rfl
theorem xG7(w:World):Calls Tryz.prog 8 #[] w fun e w'=>e= .returned (.bool true)∧Below w.heap.size w w':=by
 have HG0:=Hd (Q3 w (.cells qH1 63))
 have HB0:=Hd (J3 w (.cells qH1 63))
 have HAT:=Hd (jD8 (some ⟨w.heap.size,0,none⟩) 3 (w.alloc (.cells qH1 63)).heap.size (w.alloc (.cells qH1 63)) (Q1 _) (kS9 HG0.out) (by decide))
 have HBG:=Hd (fun V (hb:Below (w.alloc (.cells qH1 63)).heap.size (w.alloc (.cells qH1 63)) V)=>HB0.out.trans (hb.mono HB0.out.size))
 unfold spV at HAT
 unfold qH1 at*
 clear HG0 HB0
 go_enter Tryz.func8,Tryz.ntmps8
 go_upto_region 2 with(go_at_call 19;refine HAT.out.mono ?_;rintro e W1 ⟨rfl,hb1⟩;have HB1:=Hd (HBG.out W1 hb1);clear hb1 HAT HBG)
 have hb2:Below W1.heap.size W1 ((W1.alloc (.cells #[.int .i64 40,.int .i64 1] 69)).alloc (.cells #[.int .i64 90,.int .i64 1] 69)):=((Q2 _ W1).alloc (Q1 _) _).alloc (by simp) _
 have e1:((W1.alloc (.cells #[.int .i64 40,.int .i64 1] 69)).alloc (.cells #[.int .i64 90,.int .i64 1] 69)).heap[W1.heap.size]?=some (.cells #[.int .i64 40,.int .i64 1] 69):=(Q9 _ _ _ (by simp)).trans (Q3 W1 _)
 have e2:=Q3 (W1.alloc (.cells #[.int .i64 40,.int .i64 1] 69)) (.cells #[.int .i64 90,.int .i64 1] 69)
 rw[show(W1.alloc (.cells #[.int .i64 40,.int .i64 1] 69)).heap.size=W1.heap.size+1 from by simp] at e2
 have HP2:=Hd e1
 have HQ2:=Hd e2
 have HB2:=Hd (HB1.out.trans (hb2.mono HB1.out.size))
 clear hb2 e1 e2 HB1
 generalize World.alloc (World.alloc W1 _) _=W2 at*
 generalize W1.heap.size=x at*
 obtain⟨h1,h2,h3⟩:Below W2.heap.size W2 ((W2.alloc (.cells #[.int .i64 5,.int .i64 12,.int .i64 15] 3)).alloc (.cells #[.int .i64 2,.int .i64 2,.int .i64 2,.int .i64 2,.int .i64 2,.int .i64 3] 3))∧((W2.alloc (.cells #[.int .i64 5,.int .i64 12,.int .i64 15] 3)).alloc (.cells #[.int .i64 2,.int .i64 2,.int .i64 2,.int .i64 2,.int .i64 2,.int .i64 3] 3)).heap[W2.heap.size]?=some (.cells #[.int .i64 5,.int .i64 12,.int .i64 15] 3)∧((W2.alloc (.cells #[.int .i64 5,.int .i64 12,.int .i64 15] 3)).alloc (.cells #[.int .i64 2,.int .i64 2,.int .i64 2,.int .i64 2,.int .i64 2,.int .i64 3] 3)).heap[W2.heap.size+1]?=some (.cells #[.int .i64 2,.int .i64 2,.int .i64 2,.int .i64 2,.int .i64 2,.int .i64 3] 3):=by
  refine⟨((Q2 _ W2).alloc (Q1 _) _).alloc (by simp) _,(Q9 _ _ _ (by simp)).trans (Q3 W2 _),?_⟩
  have:=Q3 (W2.alloc (.cells #[.int .i64 5,.int .i64 12,.int .i64 15] 3)) (.cells #[.int .i64 2,.int .i64 2,.int .i64 2,.int .i64 2,.int .i64 2,.int .i64 3] 3)
  rwa [show(W2.alloc (.cells #[.int .i64 5,.int .i64 12,.int .i64 15] 3)).heap.size=W2.heap.size+1 from by simp] at this
 have HOP:=Hd (zL2 (some ⟨W2.heap.size,0,none⟩) (some ⟨W2.heap.size+1,0,none⟩) 3 6 _ (kV2 h2) (kV3 h3))
 have HBO:=Hd (fun V (hb:Below ((W2.alloc (.cells #[.int .i64 5,.int .i64 12,.int .i64 15] 3)).alloc (.cells #[.int .i64 2,.int .i64 2,.int .i64 2,.int .i64 2,.int .i64 2,.int .i64 3] 3)).heap.size ((W2.alloc (.cells #[.int .i64 5,.int .i64 12,.int .i64 15] 3)).alloc (.cells #[.int .i64 2,.int .i64 2,.int .i64 2,.int .i64 2,.int .i64 2,.int .i64 3] 3)) V)=>h1.trans (hb.mono h1.size))
 clear h1 h2 h3
 go_upto_region 3 with(go_at_call 20;refine HOP.out.mono ?_;rintro e W3 ⟨rfl,hb3⟩;have hb3':=HBO.out W3 hb3;have HP3:=Hd (J0 HP2.out hb3');have HQ3:=Hd (J0 HQ2.out hb3');have HB3:=Hd (HB2.out.trans (hb3'.mono HB2.out.size));clear hb3 hb3' HOP HBO HP2 HQ2 HB2)
 have hb4:=J3 W3 (.cells #[.bool true,.bool false,.bool true,.bool true] 4)
 have HST:=Hd (jZ8 (some ⟨W3.heap.size,0,none⟩) 4 _ (kJ5 (Q3 W3 (.cells #[.bool true,.bool false,.bool true,.bool true] 4))))
 have HBS:=Hd (fun V (hb:Below (W3.alloc (.cells #[.bool true,.bool false,.bool true,.bool true] 4)).heap.size (W3.alloc (.cells #[.bool true,.bool false,.bool true,.bool true] 4)) V)=>hb4.trans (hb.mono hb4.size))
 clear hb4
 go_upto_region 4 with(go_at_call 21;refine HST.out.mono ?_;rintro e W4 ⟨rfl,hb5⟩;have hb5':=HBS.out W4 hb5;have HP4:=Hd (J0 HP3.out hb5');have HQ4:=Hd (J0 HQ3.out hb5');have HB4:=Hd (HB3.out.trans (hb5'.mono HB3.out.size));clear hb5 hb5' HST HBS HP3 HQ3 HB3)
 have hb6:=J3 W4 (.cells #[.int .i64 1,.int .i64 3] 47)
 have HS5:=Hd (Q3 W4 (.cells #[.int .i64 1,.int .i64 3] 47))
 have HP5:=Hd (J0 HP4.out hb6)
 have HQ5:=Hd (J0 HQ4.out hb6)
 have HB5:=Hd (HB4.out.trans (hb6.mono HB4.out.size))
 clear hb6 HP4 HQ4 HB4
 generalize World.alloc W4 _=W5 at*
 generalize W4.heap.size=y at*
 have HF1:=Hd (fun W=>show Calls Tryz.prog 22 #[.int .i64 40,.int .i64 1] W fun e w'=>e= .returned (.agg #[.int .i64 40,.int .i64 1])∧Below W.heap.size W w' from zO7 40 1 W (by decide) (by decide))
 have HF2:=Hd (fun W=>show Calls Tryz.prog 22 #[.int .i64 90,.int .i64 1] W fun e w'=>e= .returned (.agg #[.int .i64 90,.int .i64 1])∧Below W.heap.size W w' from zO7 90 1 W (by decide) (by decide))
 obtain⟨p0,p1⟩:=M7 HP5.out
 obtain⟨q0,q1⟩:=M7 HQ5.out
 obtain⟨s0,s1⟩:=M7 HS5.out
 have lx:=(J5 HP5.out)
 have lx2:=(J5 HQ5.out)
 have ly:=(J5 HS5.out)
 (refine M0 (W5.heap.size) 29 (by kernel_rfl) (by kernel_rfl) ?_;simp only[List.take_succ_cons,List.take_zero,X7,List.drop_zero];(repeat(first|go_big_quiet_step((go_at_call 22;first|(with_reducible exact Calls.calm_of (Q1 _) (HF1.out _))|(with_reducible exact Calls.calm_of (Q1 _) (HF2.out _))))|quiet_step((go_at_call 22;first|(with_reducible exact Calls.calm_of (Q1 _) (HF1.out _))|(with_reducible exact Calls.calm_of (Q1 _) (HF2.out _)))))))
 refine X4 ?_
 intro _ hw'
 obtain⟨xq,hw''⟩:=hw'
 subst hw''
 have hq:=xq.below
 have HB6:=Hd (HB5.out.trans (hq.mono HB5.out.size))
 clear hq
 generalize K9.val xq=V2 at*
 go_wp2
 go_ret
 exact⟨rfl,HB6.out⟩
end
section
open Go Go.RowKit
theorem qV1.pos{W:World}(h:qV1 W):0<W.heap.size:=World.block_lt_of_cell? W _ h.1
theorem zJ6(a:Option Addr)(n c:Nat)(ps:Nat→PR)(need miss view:Int)(p:PG)(ta:Option Addr)(m tc:Nat)(ts:Nat→TI)(w:World)(hP:Y2 w.heap.size w a n ps)(hp:p.mem w.heap.size w)(hT:qT5 w.heap.size w ta m ts)(hnv:qV1 w):
  Calls Tryz.prog 3 #[L3 a n c,.agg #[.int .i64 need,.int .i64 miss],.int .i64 view,p.val,.slice ta m tc] w fun e w'=>e= .returned (.bool true)∧Below w.heap.size w w':=
 zG0 a n c ps need miss view p ta m tc ts w.heap.size w (Q1 _) hP hp hT hnv hnv.pos xG7
end
end Go.Proofs.YtmncaipgefbalaaGreatDoor
