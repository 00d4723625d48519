/- Part of the proof of the claim. -/
import Derived.Test.YtmncaipgefbalaaGreatDoorQag
set_option maxRecDepth 100000
set_option maxHeartbeats 8000000
set_option linter.unusedVariables false
set_option linter.unusedSimpArgs false
namespace Go.Proofs.YtmncaipgefbalaaGreatDoor
section
open Go.RowKit Go.Shelf
attribute [local go_sem] Oper.semAt_some
def C9(N:Nat)(p:PR):Nat→List (Fin N)
 |0=>[]
 |k+1=>if h:k<N then(if Y1 p k=true then C9 N p k else C9 N p k++[⟨k,h⟩]) else C9 N p k
theorem qB7{N:Nat}{p:PR}{k:Nat}(h:k<N)(hd:Y1 p k=true):C9 N p (k+1)=C9 N p k:=by rw[C9,dif_pos h,if_pos hd]
theorem qM4{N:Nat}{p:PR}{k:Nat}(h:k<N)(hd:¬Y1 p k=true):C9 N p (k+1)=C9 N p k++[⟨k,h⟩]:=by rw[C9,dif_pos h,if_neg hd]
theorem qT9(N:Nat)(p:PR):∀k,(C9 N p k).length≤k
 |0=>by simp[C9]
 |k+1=>by
  have:=qT9 N p k
  rw[C9];split
  ·split
   ·omega
   ·simp;omega
  ·omega
def zJ8(p:PR):Int:=if p.kind=2 then p.pitch/2 else 0
def C6(p:PR)(c:Nat):Int:=p.first+(c:Int)*p.pitch-zJ8 p
abbrev jP5{N:Nat}(p:PR)(c:Fin N):Array Value:= #[.int .i64 ((c.val:Nat):Int),.agg #[.int .i64 (C6 p c.val),.int .i64 (C6 p c.val+p.pitch-1)]]
def qB4(n₀ Bs:Nat)(W W':World):Prop:=Below n₀ W W'∧∀j,W'.cell? ⟨Bs,j,none⟩=W.cell? ⟨Bs,j,none⟩
theorem qB4.trans{n₀ Bs:Nat}{A B C:World}(h:qB4 n₀ Bs A B)(k:qB4 n₀ Bs B C):qB4 n₀ Bs A C:=⟨h.1.trans k.1,fun j=>(k.2 j).trans (h.2 j)⟩
theorem jC2(p:PR)(c:Nat):C6 p (c+1)=C6 p c+p.pitch:=by
 unfold C6
 have:((c+1:Nat):Int)*p.pitch=(c:Int)*p.pitch+p.pitch:=by rw[Int.natCast_add,Int.add_mul];simp
 omega
theorem kN1(n:Nat)(hn:1≤n)(l Bs n₀ N:Nat)(p:PR)(hN:p.strips=(N:Int))(ix:Int)(hS:S8 p)(hR:zY1 p.en p.es)(hen:p.en≤100)(J Jx:List (Fin N)→World→Prop)
  (hY:∀pre x W,J pre W→pre.length<N→YieldAt Fence.wide (n-1) Tryz.prog l (jP5 p x) W fun e W'=>
   (e= .returned (.bool true)∧J (pre++[x]) W'∧qB4 n₀ Bs W W')∨(e= .returned (.bool false)∧Jx (pre++[x]) W'))
  (W:World) (hn₀:n₀≤W.heap.size) (hBs:∀j,W.cell? ⟨Bs,j,none⟩=(#[.int .i64 p.kind,.int .i64 p.view,.int .i64 p.z,.int .i64 p.first,.int .i64 p.pitch,.int .i64 p.strips,.int .i64 p.spill,.int .i64 p.olo,.int .i64 p.ohi,.int .i64 p.clo,.int .i64 p.chi,.int .i64 p.jitter,.int .i64 p.least,.slice p.da p.dn p.dc,.slice p.ea p.en p.ec,.int .i64 ix]:Array Value)[j]?)
  (hm:p.mem n₀ W) (h0:J [] W):
  CallsIn Fence.wide n Tryz.prog 201 #[.func (.yield l) #[] #[],.pointer (some ⟨Bs,0,none⟩)] W fun e W'=>(∃v,e= .returned v)∧
   ((∃ys,ys=C9 N p N∧J ys W')∨(∃pre,(∃k,k≤N∧pre=C9 N p k)∧Jx pre W')):=by
 have HM:=Hd hm
 have HR:=Hd hR
 obtain⟨hst1,hst2⟩:=hS.strips
 obtain⟨g1,g2⟩:=hS.first
 obtain⟨b1,b2⟩:=hS.pitch
 simp only[hN] at hst1 hst2 hBs
 have HY:=Hd hY
 have HL:=Hd (qT9 N p)
 have hT:∀c,C6 p c=p.first+(c:Int)*p.pitch-zJ8 p:=fun _=>rfl
 have HP:=Hd (fun(c:Nat) W' (h:n₀≤W'.heap.size) (hm':p.mem n₀ W')=>kJ4 p c W' n₀ h hm' hR hen)
 have HU:=Hd (fun W'=> @PR.mem.below p n₀ W W' hm)
 clear hY hm hS hR
 by_cases hk:p.kind=2
 ·have hh:zJ8 p=p.pitch/2:=by rw[zJ8,if_pos hk]
  rw[hh] at hT
  refine callsIn_of_wp Tryz.func201 rfl trivial ?_ rfl
  simp only[Tryz.ntmps201,List.size_toArray,List.length_cons,List.length_nil,Nat.reduceAdd,Nat.reduceSub,Array.replicate_succ,Array.replicate_zero,List.push_toArray,List.append_toArray,List.nil_append,List.cons_append]
  gi_wp2
  gi_loopw [19] (fun t wr=>∃c:Nat,c≤N∧t= .int .i64 c∧J (C9 N p c) wr∧qB4 n₀ Bs W wr) (fun t _=>N-(intOf t).toNat)
  case atStart=>exact⟨0,Nat.zero_le _,rfl,h0,Q2 _ _,fun _=>rfl⟩
  case round=>
   obtain⟨c,hc,rfl,hJ,hnx⟩:=hrel
   have hcell:=fun j=>(hnx.2 j).trans (hBs j)
   have hsz:n₀≤wr.heap.size:=Q5 hn₀ hnx.1.size
   by_cases hlt:c<N
   ·have hlt':(c:Int)<(N:Int):=by omega
    obtain⟨m1,m2⟩:=T0 (x:=(c:Int)) (q:=p.pitch) (by omega) (by omega) b1 b2
    have hbin:=HP.out c wr hsz (HU.out wr hnx.1)
    by_cases hd:Y1 p c=true
    ·have HA1:=Hd (show C9 N p (c+1)=C9 N p c from qB7 hlt hd)
     rw[hd] at hbin
     gi_wp2_with(refine⟨trivial,(callsIn_wide.2 hbin).mono ?_⟩;rintro e w' ⟨i,rfl,rfl⟩)
     go_roundw
     case rel=>exact⟨c+1,by omega,by go_num,by rw[HA1.out];exact hJ,hnx⟩
     case measure=>simp[intOf];omega
    ·have HA1:=Hd (show C9 N p (c+1)=C9 N p c++[⟨c,hlt⟩] from qM4 hlt hd)
     rw[show Y1 p c=false by simpa using hd] at hbin
     obtain⟨fn,tmps,assign,body,hy,hRr⟩:=HY.out _ ⟨c,hlt⟩ wr hJ (by have:=HL.out c;omega)
     unfold jP5 at hy
     dsimp only at hy
     rw[hT] at hy
     (try simp only[Int.sub_zero] at hy)
     gi_wp2_with(refine⟨trivial,(callsIn_wide.2 hbin).mono ?_⟩;rintro e w' ⟨i,rfl,rfl⟩)
     refine hRr.mono ?_
     rintro e W3 (⟨rfl,hJ3,hk3⟩|⟨rfl,hJx3⟩)
     ·gi_wp2
      go_roundw
      case rel=>exact⟨c+1,by omega,by go_num,by rw[HA1.out];exact hJ3,hnx.trans hk3⟩
      case measure=>simp[intOf];omega
     ·gi_wp2
      refine Z2 (results_none rfl _ _ _) rfl ?_
      exact⟨⟨_,rfl⟩,.inr ⟨_,⟨c+1,by omega,by rw[HA1.out]⟩,hJx3⟩⟩
   ·obtain rfl:c=N:=by omega
    gi_wp2
    go_end0
    exact⟨⟨_,rfl⟩,.inl ⟨_,rfl,hJ⟩⟩
 ·have hh:zJ8 p=0:=by rw[zJ8,if_neg hk]
  have hk':(p.kind==2)=false:=by simp[hk]
  rw[hh] at hT
  refine callsIn_of_wp Tryz.func201 rfl trivial ?_ rfl
  simp only[Tryz.ntmps201,List.size_toArray,List.length_cons,List.length_nil,Nat.reduceAdd,Nat.reduceSub,Array.replicate_succ,Array.replicate_zero,List.push_toArray,List.append_toArray,List.nil_append,List.cons_append]
  gi_wp2
  gi_loopw [19] (fun t wr=>∃c:Nat,c≤N∧t= .int .i64 c∧J (C9 N p c) wr∧qB4 n₀ Bs W wr) (fun t _=>N-(intOf t).toNat)
  case atStart=>exact⟨0,Nat.zero_le _,rfl,h0,Q2 _ _,fun _=>rfl⟩
  case round=>
   obtain⟨c,hc,rfl,hJ,hnx⟩:=hrel
   have hcell:=fun j=>(hnx.2 j).trans (hBs j)
   have hsz:n₀≤wr.heap.size:=Q5 hn₀ hnx.1.size
   by_cases hlt:c<N
   ·have hlt':(c:Int)<(N:Int):=by omega
    obtain⟨m1,m2⟩:=T0 (x:=(c:Int)) (q:=p.pitch) (by omega) (by omega) b1 b2
    have hbin:=HP.out c wr hsz (HU.out wr hnx.1)
    by_cases hd:Y1 p c=true
    ·have HA1:=Hd (show C9 N p (c+1)=C9 N p c from qB7 hlt hd)
     rw[hd] at hbin
     gi_wp2_with(refine⟨trivial,(callsIn_wide.2 hbin).mono ?_⟩;rintro e w' ⟨i,rfl,rfl⟩)
     go_roundw
     case rel=>exact⟨c+1,by omega,by go_num,by rw[HA1.out];exact hJ,hnx⟩
     case measure=>simp[intOf];omega
    ·have HA1:=Hd (show C9 N p (c+1)=C9 N p c++[⟨c,hlt⟩] from qM4 hlt hd)
     rw[show Y1 p c=false by simpa using hd] at hbin
     obtain⟨fn,tmps,assign,body,hy,hRr⟩:=HY.out _ ⟨c,hlt⟩ wr hJ (by have:=HL.out c;omega)
     unfold jP5 at hy
     dsimp only at hy
     rw[hT] at hy
     (try simp only[Int.sub_zero] at hy)
     gi_wp2_with(refine⟨trivial,(callsIn_wide.2 hbin).mono ?_⟩;rintro e w' ⟨i,rfl,rfl⟩)
     refine hRr.mono ?_
     rintro e W3 (⟨rfl,hJ3,hk3⟩|⟨rfl,hJx3⟩)
     ·gi_wp2
      go_roundw
      case rel=>exact⟨c+1,by omega,by go_num,by rw[HA1.out];exact hJ3,hnx.trans hk3⟩
      case measure=>simp[intOf];omega
     ·gi_wp2
      refine Z2 (results_none rfl _ _ _) rfl ?_
      exact⟨⟨_,rfl⟩,.inr ⟨_,⟨c+1,by omega,by rw[HA1.out]⟩,hJx3⟩⟩
   ·obtain rfl:c=N:=by omega
    gi_wp2
    go_end0
    exact⟨⟨_,rfl⟩,.inl ⟨_,rfl,hJ⟩⟩
theorem kC9(p:PR)(ix:Int)(w:World):
  Calls Tryz.prog 192 #[p.placed ix] w fun e w'=>e= .returned (.func (.func 201) #[] #[.pointer (some ⟨w.heap.size,0,none⟩)])∧w.alloc (.cells #[.int .i64 p.kind,.int .i64 p.view,.int .i64 p.z,.int .i64 p.first,.int .i64 p.pitch,.int .i64 p.strips,.int .i64 p.spill,.int .i64 p.olo,.int .i64 p.ohi,.int .i64 p.clo,.int .i64 p.chi,.int .i64 p.jitter,.int .i64 p.least,.slice p.da p.dn p.dc,.slice p.ea p.en p.ec,.int .i64 ix] 102)=w':=by
 go_enter Tryz.func192,Tryz.ntmps192
 go_wp2
 go_ret
 exact⟨rfl,rfl⟩
theorem jC3(n:Nat)(hn:1≤n)(Bs n₀ N:Nat)(p:PR)(ix:Int)(hN:p.strips=(N:Int))(hS:S8 p)(hR:zY1 p.en p.es)(hen:p.en≤100)(w:World)(hBs:Bs<w.heap.size)(hn₀:n₀≤w.heap.size)
  (hc:∀j,w.cell? ⟨Bs,j,none⟩=(#[.int .i64 p.kind,.int .i64 p.view,.int .i64 p.z,.int .i64 p.first,.int .i64 p.pitch,.int .i64 p.strips,.int .i64 p.spill,.int .i64 p.olo,.int .i64 p.ohi,.int .i64 p.clo,.int .i64 p.chi,.int .i64 p.jitter,.int .i64 p.least,.slice p.da p.dn p.dc,.slice p.ea p.en p.ec,.int .i64 ix]:Array Value)[j]?) (hm:p.mem n₀ w):
  SeqStopsK Fence.wide n Tryz.prog 201 #[.pointer (some ⟨Bs,0,none⟩)] (jP5 (N:=N) p) (qB4 n₀ Bs) (fun ys=>ys=C9 N p N) (fun pre=>∃k,k≤N∧pre=C9 N p k) N w:=fun l J Jx W hW _ _ hY h0=>by
 exact kN1 n hn l Bs n₀ N p hN ix hS hR hen J Jx hY W (Q5 hn₀ hW.size) (fun j=>(hW.cell (p:=⟨Bs,j,none⟩) hBs).trans (hc j)) (hm.below (hW.mono hn₀)) h0
end
section
open Go.RowKit
theorem xY1(p:PR)(i lo hi:Int)(w:World)(h1: -1000000000≤lo∧lo≤1000000000)(h2: -1000000000≤hi∧hi≤1000000000)(h3: -1000000≤p.olo∧p.olo≤1000000)(h4: -1000000≤p.ohi∧p.ohi≤1000000):
  Calls Tryz.prog 75 #[p.placed i,.int .i64 lo,.int .i64 hi] w fun e w'=>e= .returned (.agg #[.int .i64 p.z,.int .i64 (lo+p.olo),.int .i64 (hi+p.ohi)])∧Below w.heap.size w w':=by
 go_enter Tryz.func75,Tryz.ntmps75
 go_wp2
 refine Z2 (v:= .agg #[.int .i64 p.z,.int .i64 (lo+p.olo),.int .i64 (hi+p.ohi)]) (by simp[results,Tryz.results75,go_sem]) rfl ⟨rfl,?_⟩
 exact((Q2 _ _).alloc (Q1 _) _).alloc (by simp) _
theorem jK2{w:World}{o:Obj}{i:Nat}(h:i<w.heap.size):(w.alloc o).heap[i]?=w.heap[i]? :=Q9 w o i h
theorem G3{w:World}{o:Obj}{i:Nat}(h:i=w.heap.size):(w.alloc o).heap[i]?=some o:=by subst h;exact Q3 w o
theorem qN1(w:World)(a b:Obj):((w.alloc a).alloc b).heap[w.heap.size]?=some a:=by
 rw[jK2 (by simp),G3 rfl]
theorem qO5(w:World)(a b:Obj):((w.alloc a).alloc b).heap[w.heap.size+1]?=some b:=G3 (by simp)
abbrev QS(b:Nat)(A:Array Value)(w w':World):Prop:=(∀j,w'.cell? ⟨b,j,none⟩=A[j]?)∧b+2≤w'.heap.size∧Below b w w'
theorem E0{b:Nat}{A:Array Value}{w W wy:World}(h:QS b A w W)(hb:Below W.heap.size W wy):QS b A w wy:=
 ⟨fun j=>(hb.cell (p:=⟨b,j,none⟩) (by show b<_;have:=h.2.1;omega)).trans (h.1 j),by have:=h.2.1;have:=hb.size;omega,h.2.2.trans (hb.mono (by have:=h.2.1;omega))⟩
theorem kX1{b:Nat}{A:Array Value}{w W:World}(h:QS b A w W):QS b A w W.drew:=⟨h.1,h.2.1,h.2.2.drew⟩
theorem kP7{W wy:World}(h:Below W.heap.size W wy):∀b,b<W.heap.size→b<wy.heap.size:=fun b hb=>Z4 hb h.size
theorem xF9{X wy:World}{o:Obj}(h:Below (X.alloc o).heap.size (X.alloc o) wy):X.heap.size<wy.heap.size:=by have:=h.size;simp at this;omega
theorem kF4{X wy:World}{o o':Obj}(h:Below ((X.alloc o).alloc o').heap.size ((X.alloc o).alloc o') wy):X.heap.size<wy.heap.size:=by have:=h.size;simp at this;omega
theorem kF3{b:Nat}{A:Array Value}{w W:World}{v:Value}(h:QS b A w W)(hv:A[2]?=some v):W.cell? ⟨b,2,none⟩=some v∧b<W.heap.size∧Below b w W:=⟨(h.1 2).trans hv,by have:=h.2.1;omega,h.2.2⟩
theorem jH1{b:Nat}{A:Array Value}{w W:World}(h:QS b A w W)(o:Obj):QS b A w (W.alloc o):=
 E0 h ((Q2 _ _).alloc (Q1 _) _)
theorem jH2{b x j:Nat}{A:Array Value}{w W:World}{v:Value}(h:QS b A w W)(hx:b<x):QS b A w (W.setCell ⟨x,j,none⟩ v):=by
 obtain⟨h1,h2,h3⟩:=h
 exact⟨fun i=>by rw[L6 (by omega)];exact h1 i,by simpa using h2,h3.setCell (p:=⟨_,_,_⟩) (by simp;omega) _⟩
theorem kD8{b:Nat}{A:Array Value}{w W:World}(h:QS b A w W):b<W.heap.size:=by have:=h.2.1;omega
theorem zR1(p:PR)(ix:Int)(h:HV)(w:World)(B:Nat)(hBw:B≤w.heap.size)(hm:p.mem B w)(hPr:K6 p=true)(hH:C7 p h=true):
  Calls Tryz.prog 38 #[p.placed ix,h.val] w (fun e w'=>jF4 w p h e w'∧∀b off n c,e= .returned (.slice (some ⟨b,off,none⟩) n c)→w.heap.size≤b):=by
 have hS:=G0 hPr
 have hpre:=xY9 hH
 have HT:Hid (p.kind=2→E6 p.pitch p.dn p.ds=true∧0≤h.drift∧h.drift≤1000000):=Hd (fun e=>⟨zM7 hPr e,xN7 hH e⟩)
 clear hH hPr
 obtain⟨hpl,channel,many,drift,charge,time⟩:=h
 dsimp only at hpre
 obtain⟨hst1,hst2⟩:=hS.strips
 obtain⟨g1,g2⟩:=hS.first
 obtain⟨b1,b2⟩:=hS.pitch
 obtain⟨s1,s2⟩:=hS.spill
 obtain⟨o1,o2,o3⟩:=hS.off
 obtain⟨⟨q1,q2⟩,⟨q3,q4⟩,_,_⟩:=hpre
 obtain⟨m1,m2⟩:=T0 (x:=channel+many-1) (q:=p.pitch) (by omega) (by omega) b1 b2
 obtain⟨m3,m4⟩:=T0 (x:=channel+1) (q:=p.pitch) (by omega) (by omega) b1 b2
 obtain⟨m5,m6⟩:=T0 (x:=channel) (q:=p.pitch) (by omega) (by omega) b1 b2
 have HS:=Hd hS
 have HM:=Hd hm
 clear hS hm
 obtain⟨kind,view,z,first,pitch,strips,spill,olo,ohi,clo,chi,jitter,least,da,dn,dc,ea,en,ec,ds,es⟩:=p
 dsimp only at*
 go_enter Tryz.func38,Tryz.ntmps38
 go_upto_region 1 with(fail)
 go_cut [15] from 12 to 14 (fun s15 wx=>s15= .bool (kind !=2)∧(∀j,wx.cell? ⟨w.heap.size,j,none⟩=(#[.int .i64 kind,.int .i64 view,.int .i64 z,.int .i64 first,.int .i64 pitch,.int .i64 strips,.int .i64 spill,.int .i64 olo,.int .i64 ohi,.int .i64 clo,.int .i64 chi,.int .i64 jitter,.int .i64 least,.slice da dn dc,.slice ea en ec,.int .i64 ix]:Array Value)[j]?)∧(∀j,wx.cell? ⟨w.heap.size+1,j,none⟩=(#[.int .i64 hpl,.int .i64 channel,.int .i64 many,.int .i64 drift,.int .i64 charge,.int .i64 time]:Array Value)[j]?)∧w.heap.size+2≤wx.heap.size∧Below w.heap.size w wx)
 case first=>
  go_wp2_with fail
  go_meet
  refine⟨rfl,fun j=> ?_,fun j=> ?_,?_,?_⟩
  ·exact Q0 _ _ _ _ _ _ (qN1 _ _ _)
  ·exact Q0 _ _ _ _ _ _ (qO5 _ _ _)
  ·simp
  ·exact((Q2 _ _).alloc (Q1 _) _).alloc (by simp) _
 obtain⟨rfl,hp,hh,hz,hbx⟩:=hcut
 have hz1:w.heap.size<wc.heap.size:=by omega
 have hz2:w.heap.size+1<wc.heap.size:=by omega
 by_cases hk2:kind=2
 case neg=>
  have e1:(kind !=2)=true:=by simp[hk2]
  rw[e1]
  have HK:=Hd hk2
  clear hk2 e1
  have a1:IntKind.i64.wrap (channel+many)=channel+many:=Z1 _ (by omega)
  have a2:IntKind.i64.wrap (channel+many-1)=channel+many-1:=Z1 _ (by omega)
  have a3:IntKind.i64.wrap ((channel+many-1)*pitch)=(channel+many-1)*pitch:=Z1 _ (by omega)
  have a4:IntKind.i64.wrap (first+(channel+many-1)*pitch)=first+(channel+many-1)*pitch:=Z1 _ (by omega)
  have a5:IntKind.i64.wrap (first+(channel+many-1)*pitch-spill)=first+(channel+many-1)*pitch-spill:=Z1 _ (by omega)
  have a6:IntKind.i64.wrap (channel+1)=channel+1:=Z1 _ (by omega)
  have a7:IntKind.i64.wrap ((channel+1)*pitch)=(channel+1)*pitch:=Z1 _ (by omega)
  have a8:IntKind.i64.wrap (first+(channel+1)*pitch)=first+(channel+1)*pitch:=Z1 _ (by omega)
  have a9:IntKind.i64.wrap (first+(channel+1)*pitch+spill)=first+(channel+1)*pitch+spill:=Z1 _ (by omega)
  go_wp2_with fail
  go_quiet (fail)
  clear a1 a2 a3 a4 a5 a6 a7 a8 a9
  by_cases hg:first+(channel+1)*pitch+spill<first+(channel+many-1)*pitch-spill
  ·go_wp2
   go_ret
   have e0:C2 ⟨kind,view,z,first,pitch,strips,spill,olo,ohi,clo,chi,jitter,least,da,dn,dc,ea,en,ec,ds,es⟩ ⟨hpl,channel,many,drift,charge,time⟩=0:=xN4 HK.out hg
   exact⟨⟨none,0,by rw[e0];rfl,fun _=>⟨rfl,rfl⟩,.inl e0,below_drewN hbx _⟩,fun b off n c h=>(by cases h)⟩
  ·go_wp2_with(go_at_call 75;refine(xY1 ⟨kind,view,z,first,pitch,strips,spill,olo,ohi,clo,chi,jitter,least,da,dn,dc,ea,en,ec,ds,es⟩ ix _ _ _ ⟨by omega,by omega⟩ ⟨by omega,by omega⟩ ⟨by show _≤olo;omega,by show olo≤_;omega⟩ ⟨by show _≤ohi;omega,by show ohi≤_;omega⟩).mono ?_;rintro e w2 ⟨rfl,hb2⟩;have hB2:Below w.heap.size w w2:=(below_drewN hbx _).trans (hb2.mono (by simp;omega)))
   go_ret
   have e0:C2 ⟨kind,view,z,first,pitch,strips,spill,olo,ohi,clo,chi,jitter,least,da,dn,dc,ea,en,ec,ds,es⟩ ⟨hpl,channel,many,drift,charge,time⟩=1:=xY0 HK.out (by show ¬first+(channel+1)*pitch+spill<first+(channel+many-1)*pitch-spill;omega)
   refine⟨?_,fun b off n c h=>(by injection h with h;injection h with h;injection h with h;injection h with h h2;have:=hB2.size;omega)⟩
   refine⟨some ⟨w2.heap.size,0,none⟩,1,by rw[e0];rfl,fun h=>by omega,?_,hB2.alloc hB2.size _⟩
   rw[e0]
   refine .inr ⟨w2.heap.size,0,rfl,by simp,fun i hi=> ?_⟩
   obtain rfl:i=0:=by omega
   rw[qV9 HK.out]
   simp[gA,gB]
 obtain⟨HTb,d1,d2⟩:=HT.out hk2
 obtain⟨r,hr⟩:∃r,r=qZ2 ⟨kind,view,z,first,pitch,strips,spill,olo,ohi,clo,chi,jitter,least,da,dn,dc,ea,en,ec,ds,es⟩ drift dn:=⟨_,rfl⟩
 obtain⟨f,hf⟩:∃f,f=qK0 ⟨kind,view,z,first,pitch,strips,spill,olo,ohi,clo,chi,jitter,least,da,dn,dc,ea,en,ec,ds,es⟩ drift dn:=⟨_,rfl⟩
 have r1:0≤r∧r≤50000:=by rw[hr];exact qA3 (p:=⟨kind,view,z,first,pitch,strips,spill,olo,ohi,clo,chi,jitter,least,da,dn,dc,ea,en,ec,ds,es⟩) HTb b2 b1 dn (Q1 _)
 have f1:0≤f∧f≤50000:=by rw[hf];exact qA2 (p:=⟨kind,view,z,first,pitch,strips,spill,olo,ohi,clo,chi,jitter,least,da,dn,dc,ea,en,ec,ds,es⟩) HTb b2 b1 dn (Q1 _)
 obtain⟨r1,r2⟩:=r1
 obtain⟨f1,f2⟩:=f1
 have HR:=Hd hr
 have HFf:=Hd hf
 have e1:(kind !=2)=false:=by simp[hk2]
 rw[e1]
 have HK:=Hd hk2
 clear hk2 hr hf HTb m1 m2 m3 m4 e1
 go_upto_region 8 with(go_at_call 76;refine(jG2 ⟨kind,view,z,first,pitch,strips,spill,olo,ohi,clo,chi,jitter,least,da,dn,dc,ea,en,ec,ds,es⟩ ix drift _ B (by omega) (HM.out.below (hbx.mono hBw)) HS.out ⟨d1,d2⟩).mono ?_;rintro e w2 ⟨rfl,hb2⟩;rw[←HR.out,←HFf.out];have hp2:=fun j=>(hb2.cell (p:=⟨w.heap.size,j,none⟩) (by show w.heap.size<_;omega)).trans (hp j);have hB2:Below w.heap.size w w2:=hbx.trans (hb2.mono (by omega));have hz3:w.heap.size+2≤w2.heap.size:=(by have:=hb2.size;omega);have hz4:w.heap.size<w2.heap.size:=(by omega);clear hh hp hb2)
 have a1:IntKind.i64.wrap (first+channel*pitch-f)=first+channel*pitch-f:=Z1 _ (by omega)
 have a2:IntKind.i64.wrap (first+channel*pitch-r)=first+channel*pitch-r:=Z1 _ (by omega)
 have a3:IntKind.i64.wrap (first+channel*pitch+r)=first+channel*pitch+r:=Z1 _ (by omega)
 have a4:IntKind.i64.wrap (first+channel*pitch+f)=first+channel*pitch+f:=Z1 _ (by omega)
 go_cut [10,11] from 74 to 89 (fun s10 s11 wx=>∃x y,s10= .pointer (some ⟨x,0,none⟩)∧s11= .pointer (some ⟨y,0,none⟩)∧(wx.cell? ⟨x,0,none⟩=some (.int .i64 z)∧wx.cell? ⟨x,1,none⟩=some (.int .i64 (first+channel*pitch-f+olo))∧wx.cell? ⟨x,2,none⟩=some (.int .i64 (first+channel*pitch-r+ohi)))∧(wx.cell? ⟨y,0,none⟩=some (.int .i64 z)∧wx.cell? ⟨y,1,none⟩=some (.int .i64 (first+channel*pitch+r+olo))∧wx.cell? ⟨y,2,none⟩=some (.int .i64 (first+channel*pitch+f+ohi)))∧wx.cell? ⟨w.heap.size,2,none⟩=some (.int .i64 z)∧w.heap.size<wx.heap.size∧Below w.heap.size w wx)
 case first=>
  have hS0:QS w.heap.size _ w w2:=⟨hp2,hz3,hB2⟩
  clear hp2 hz3 hB2
  go_region_held3 (fun w'=>(∀j,w'.cell? ⟨w.heap.size,j,none⟩=(#[.int .i64 kind,.int .i64 view,.int .i64 z,.int .i64 first,.int .i64 pitch,.int .i64 strips,.int .i64 spill,.int .i64 olo,.int .i64 ohi,.int .i64 clo,.int .i64 chi,.int .i64 jitter,.int .i64 least,.slice da dn dc,.slice ea en ec,.int .i64 ix]:Array Value)[j]?)∧w.heap.size+2≤w'.heap.size∧Below w.heap.size w w') (first|(repeat(first|(with_reducible assumption)|(with_reducible refine kX1 ?_)|(with_reducible refine jH1 ?_ _)|(with_reducible refine jH2 ?_ (kD8 (by with_reducible assumption)))|(with_reducible refine jH2 ?_ (Nat.lt_succ_of_lt (kD8 (by with_reducible assumption))))))) (first|(go_at_call 75;refine(xY1 ⟨kind,view,z,first,pitch,strips,spill,olo,ohi,clo,chi,jitter,least,da,dn,dc,ea,en,ec,ds,es⟩ ix _ _ _ ⟨by omega,by omega⟩ ⟨by omega,by omega⟩ ⟨by show _≤olo;omega,by show olo≤_;omega⟩ ⟨by show _≤ohi;omega,by show ohi≤_;omega⟩).mono ?_;rintro e wy ⟨rfl,hby⟩;have hsy:=E0 (by with_reducible assumption) hby;obtain⟨hcy,hfy⟩:=J9 hby;have hly:=kP7 hby;(try have hk1:=xF9 hby);(try have hk2:=kF4 hby);(try have hq1:w2.heap.size<wy.heap.size:=(hly _ (by first|assumption|omega|(simp;done)|(simp;omega))));(try have hq2:w2.heap.size+1<wy.heap.size:=(hly _ (by first|assumption|omega|(simp;done)|(simp;omega))));clear hby hly))
  all_goals(go_wp2_with fail)
  all_goals go_meet
  all_goals(refine⟨_,_,rfl,rfl,⟨?_,?_,?_⟩,⟨?_,?_,?_⟩,kF3 (by with_reducible assumption) rfl⟩)
  all_goals(try go_simp)
  all_goals(refine World.cell?_setCell_same' _ _ _ ?_;go_simp)
 clear a1 a2 a3 a4 hp2 hB2 hz3 hz4 hbx hz hz1 hz2
 obtain⟨x,y,rfl,rfl,⟨x0,x1,x2⟩,⟨y0,y1,y2⟩,hzc,hzs,hB2⟩:=hcut
 by_cases ho:first+channel*pitch+r+olo≤first+channel*pitch-r+ohi
 ·have e2:zC4 ⟨kind,view,z,first,pitch,strips,spill,olo,ohi,clo,chi,jitter,least,da,dn,dc,ea,en,ec,ds,es⟩ ⟨hpl,channel,many,drift,charge,time⟩=true:=jU7 HR.out ho
  have HE2:=Hd e2
  have e0:C2 ⟨kind,view,z,first,pitch,strips,spill,olo,ohi,clo,chi,jitter,least,da,dn,dc,ea,en,ec,ds,es⟩ ⟨hpl,channel,many,drift,charge,time⟩=1:=jJ6 HK.out e2
  clear e2
  have HE0:=Hd e0
  clear e0
  go_wp2
  go_ret
  refine⟨?_,fun b off n c h=>(by injection h with h;injection h with h;injection h with h;injection h with h h2;have:=hB2.size;omega)⟩
  refine⟨some ⟨wc.heap.size,0,none⟩,1,by rw[HE0.out];rfl,(fun h=>by rw[HE0.out] at h;cases h),?_,hB2.alloc (by omega) _⟩
  rw[HE0.out]
  refine .inr ⟨wc.heap.size,0,rfl,by simp,fun i hi=> ?_⟩
  obtain rfl:i=0:=by omega
  rw[jJ5 HFf.out HK.out HE2.out]
  exact⟨(Q0 _ _ _ _ _ _ (G3 (by simp))).trans (by simp[gW]),(Q0 _ _ _ _ _ _ (G3 (by simp))).trans (by simp[gW]),(Q0 _ _ _ _ _ _ (G3 (by simp))).trans (by simp[gW])⟩
 ·have e2:¬zC4 ⟨kind,view,z,first,pitch,strips,spill,olo,ohi,clo,chi,jitter,least,da,dn,dc,ea,en,ec,ds,es⟩ ⟨hpl,channel,many,drift,charge,time⟩=true:=kY6 HR.out ho
  have HE2:=Hd e2
  have e0:C2 ⟨kind,view,z,first,pitch,strips,spill,olo,ohi,clo,chi,jitter,least,da,dn,dc,ea,en,ec,ds,es⟩ ⟨hpl,channel,many,drift,charge,time⟩=2:=jJ7 HK.out e2
  clear e2
  have HE0:=Hd e0
  clear e0
  go_wp2
  go_ret
  refine⟨?_,fun b off n c h=>(by injection h with h;injection h with h;injection h with h;injection h with h h2;have:=hB2.size;omega)⟩
  refine⟨some ⟨wc.heap.size,0,none⟩,2,by rw[HE0.out];rfl,(fun h=>by rw[HE0.out] at h;cases h),?_,hB2.alloc (by omega) _⟩
  rw[HE0.out]
  refine .inr ⟨wc.heap.size,0,rfl,by simp,fun i hi=> ?_⟩
  by_cases hi0:i=0
  ·subst hi0
   rw[xN3 HR.out HFf.out HK.out HE2.out]
   exact⟨(Q0 _ _ _ _ _ _ (G3 (by simp))).trans (by simp[gW]),(Q0 _ _ _ _ _ _ (G3 (by simp))).trans (by simp[gW]),(Q0 _ _ _ _ _ _ (G3 (by simp))).trans (by simp[gW])⟩
  ·obtain rfl:i=1:=by omega
   rw[xV9 HR.out HFf.out HK.out HE2.out]
   exact⟨(Q0 _ _ _ _ _ _ (G3 (by simp))).trans (by simp[gW]),(Q0 _ _ _ _ _ _ (G3 (by simp))).trans (by simp[gW]),(Q0 _ _ _ _ _ _ (G3 (by simp))).trans (by simp[gW])⟩
theorem xU4(p:PR)(i:Int)(w:World)(hn:p.dn=0):
  Calls Tryz.prog 104 #[p.placed i] w fun e w'=>e= .returned (.bool (E6 p.pitch p.dn p.ds))∧Below w.heap.size w w':=by
 obtain⟨kind,view,z,first,pitch,strips,spill,olo,ohi,clo,chi,jitter,least,da,dn,dc,ea,en,ec,ds,es⟩:=p
 dsimp only at hn ⊢
 subst hn
 go_enter Tryz.func104,Tryz.ntmps104
 go_wp2
 refine wp_loop_rounds 1 ?_
 rw[rounds_succ]
 go_wp2_with(go_at_call 71;refine(K5 _ _ _ _).mono ?_;rintro e w' ⟨rfl,rfl⟩)
 go_ret
 exact⟨J2 (qT1 (k:=0) rfl (fun j h=>by omega)).symm,(Q2 _ _).alloc (Q1 _) _⟩
theorem zT9(p:PR)(i:Int)(w:World)(B:Nat)(hBw:B≤w.heap.size)(hd:R8 B w p.da p.dn p.ds)(hn:p.dn≤maxLen)(hp:2≤p.pitch)(hp2:p.pitch≤100000):
  Calls Tryz.prog 104 #[p.placed i] w fun e w'=>e= .returned (.bool (E6 p.pitch p.dn p.ds))∧Below w.heap.size w w':=by
 rcases hd with hd|⟨b,off,hda,hbs,hcell⟩
 ·exact xU4 p i w hd
 unfold maxLen at hn
 obtain⟨kind,view,z,first,pitch,strips,spill,olo,ohi,clo,chi,jitter,least,da,dn,dc,ea,en,ec,ds,es⟩:=p
 dsimp only at hda hcell hn hp hp2 ⊢
 subst hda
 have HC:=Hd hcell
 clear hcell
 go_enter Tryz.func104,Tryz.ntmps104
 go_wp2
 go_loopw [9,3,4] (fun t _ _ wr=>∃k:Nat,k≤dn∧t= .int .i64 k∧(∀j,j<k→I4 pitch ds j=true)∧Below (w.heap.size+1) (w.alloc (.cells #[.int .i64 kind,.int .i64 view,.int .i64 z,.int .i64 first,.int .i64 pitch,.int .i64 strips,.int .i64 spill,.int .i64 olo,.int .i64 ohi,.int .i64 clo,.int .i64 chi,.int .i64 jitter,.int .i64 least,.slice (some ⟨b,off,none⟩) dn dc,.slice ea en ec,.int .i64 i] 102)) wr) (fun t _ _ _=>dn-(intOf t).toNat)
 case atStart=>exact⟨0,Nat.zero_le _,rfl,fun j h=>by omega,Q2 _ _⟩
 case round=>
  obtain⟨k,hk,rfl,hall,hb⟩:=hrel
  have HALL:=Hd hall
  clear hall
  obtain⟨hc,hf⟩:=J9 hb
  have hz:w.heap.size<wr.heap.size:=by have:=hb.size;simp at this;omega
  have hB0:Below w.heap.size w wr:=((Q2 _ _).alloc (Q1 _) _).trans (hb.mono (by omega))
  by_cases hlt:k<dn
  ·obtain⟨c0,c1,c2⟩:=HC.out k hlt
   have hbz:b<wr.heap.size:=by omega
   have hbz0:b<w.heap.size:=by omega
   have hbz1:b<w.heap.size+1:=by omega
   by_cases hok:I4 pitch ds k=true
   ·have hok':=hok
    simp only[I4,xQ5,Q8,Z8] at hok'
    obtain⟨⟨o1,o2,o3⟩,o4⟩:=hok'
    have HOK:=Hd hok
    clear hok
    by_cases hk0:k=0
    ·have hk1:decide (0<k)=false:=by simp;omega
     have HK:=Hd hk0
     clear o4 hk0
     go_wp2_with(go_at_call 71;refine(K5 _ _ _ _).mono ?_;rintro e w' ⟨rfl,rfl⟩)
     go_quiet (fail)
     go_wp2
     go_roundw
     case rel=>exact⟨k+1,by omega,by go_num,fun j hj=>by(by_cases e:j=k;subst e;exact HOK.out;exact HALL.out j (by omega)),below_drewN (hb.alloc (by omega) _) _⟩
     case measure=>simp[intOf];omega
    ·obtain⟨d0,d1,d2⟩:=HC.out (k-1) (by omega)
     have o5:zQ6 (ds (k-1)) (ds k)=true:=by simpa [hk0] using o4
     simp only[zQ6,Q8,Z8] at o5
     obtain⟨u1,u2,u3⟩:=o5
     have e1':decide ((ds k).time≤(ds (k-1)).time)=false:=Q7 (by omega)
     have e2':decide ((ds k).lo<(ds (k-1)).lo)=false:=Q7 (by omega)
     have e3':decide ((ds k).hi<(ds (k-1)).hi)=false:=Q7 (by omega)
     have hi4:k-1<dn:=by omega
     have hk1:decide (0<k)=true:=by simp;omega
     have hi1:(0:Int)≤(k:Int)-1:=by omega
     have hi2:((k:Int)-1).toNat=k-1:=by omega
     have hi3:IntKind.i64.wrap ((k:Int)-1)=(k:Int)-1:=Z1 _ (by omega)
     clear o4 hk0 u1 u2 u3
     go_wp2_with(go_at_call 71;refine(K5 _ _ _ _).mono ?_;rintro e w' ⟨rfl,rfl⟩)
     go_quiet (fail)
     go_wp2
     clear hi1 hi2 hi3
     go_roundw
     case rel=>exact⟨k+1,by omega,by go_num,fun j hj=>by(by_cases e:j=k;subst e;exact HOK.out;exact HALL.out j (by omega)),below_drewN (hb.alloc (by omega) _) _⟩
     case measure=>simp[intOf];omega
   ·have HF:=Hd (qI2 hlt hok).symm
    by_cases hk0:k=0
    ·have hk1:decide (0<k)=false:=by simp;omega
     have HK:=Hd hk0
     clear hk0
     rw[qK3] at hok
     have HOK:=Hd hok
     clear hok
     go_wp2_with(go_at_call 71;refine(K5 _ _ _ _).mono ?_;rintro e w' ⟨rfl,rfl⟩)
     ·go_ret
      have h1:J1 (ds k).time 0 1000000=true:=by assumption
      have h2:J1 (ds k).lo 0 (ds k).hi=true:=by assumption
      exact⟨J2 HF.out,by first|exact hB0|exact hB0.alloc (by omega) _|exact below_drewN (hB0.alloc (by omega) _) _|exact below_drewN hB0 _⟩
     ·exfalso
      have h1:J1 (ds k).time 0 1000000=true:=by assumption
      have h2:J1 (ds k).lo 0 (ds k).hi=true:=by assumption
      have h3:(ds k).hi≤pitch/2:=by assumption
      go_light
      simp only[J8] at h1 h2
      exact HOK.out ⟨h1,h2,h3,.inl HK.out⟩
     all_goals(go_ret;exact⟨J2 HF.out,by first|exact hB0|exact hB0.alloc (by omega) _|exact below_drewN (hB0.alloc (by omega) _) _|exact below_drewN hB0 _⟩)
    ·obtain⟨d0,d1,d2⟩:=HC.out (k-1) (by omega)
     have hi4:k-1<dn:=by omega
     have hk1:decide (0<k)=true:=by simp;omega
     have hi1:(0:Int)≤(k:Int)-1:=by omega
     have hi2:((k:Int)-1).toNat=k-1:=by omega
     have hi3:IntKind.i64.wrap ((k:Int)-1)=(k:Int)-1:=Z1 _ (by omega)
     rw[qK3] at hok
     have HOK:=Hd hok
     clear hok
     go_wp2_with(go_at_call 71;refine(K5 _ _ _ _).mono ?_;rintro e w' ⟨rfl,rfl⟩)
     ·go_ret
      have h1:J1 (ds k).time 0 1000000=true:=by assumption
      have h2:J1 (ds k).lo 0 (ds k).hi=true:=by assumption
      exact⟨J2 HF.out,by first|exact hB0|exact hB0.alloc (by omega) _|exact below_drewN (hB0.alloc (by omega) _) _|exact below_drewN hB0 _⟩
     ·have h1:J1 (ds k).time 0 1000000=true:=by assumption
      have h2:J1 (ds k).lo 0 (ds k).hi=true:=by assumption
      have h3:(ds k).hi≤pitch/2:=by assumption
      by_cases e1:(ds k).time≤(ds (k-1)).time
      ·have e1':decide ((ds k).time≤(ds (k-1)).time)=true:=Z0 e1
       clear e1
       go_quiet (fail)
       go_wp2
       go_ret
       exact⟨J2 HF.out,by first|exact hB0|exact hB0.alloc (by omega) _|exact below_drewN (hB0.alloc (by omega) _) _|exact below_drewN hB0 _⟩
      ·have e1':decide ((ds k).time≤(ds (k-1)).time)=false:=Q7 e1
       by_cases e2:(ds k).lo<(ds (k-1)).lo
       ·have e2':decide ((ds k).lo<(ds (k-1)).lo)=true:=Z0 e2
        clear e1 e2
        go_quiet (fail)
        go_wp2
        go_ret
        exact⟨J2 HF.out,by first|exact hB0|exact hB0.alloc (by omega) _|exact below_drewN (hB0.alloc (by omega) _) _|exact below_drewN hB0 _⟩
       ·have e2':decide ((ds k).lo<(ds (k-1)).lo)=false:=Q7 e2
        by_cases e3:(ds k).hi<(ds (k-1)).hi
        ·have e3':decide ((ds k).hi<(ds (k-1)).hi)=true:=Z0 e3
         clear e1 e2 e3
         go_quiet (fail)
         go_wp2
         go_ret
         exact⟨J2 HF.out,by first|exact hB0|exact hB0.alloc (by omega) _|exact below_drewN (hB0.alloc (by omega) _) _|exact below_drewN hB0 _⟩
        ·exfalso
         go_light
         simp only[J8] at h1 h2
         have:=HOK.out
         omega
     all_goals(go_ret;exact⟨J2 HF.out,by first|exact hB0|exact hB0.alloc (by omega) _|exact below_drewN (hB0.alloc (by omega) _) _|exact below_drewN hB0 _⟩)
  ·go_wp2_with(go_at_call 71;refine(K5 _ _ _ _).mono ?_;rintro e w' ⟨rfl,rfl⟩)
   go_ret
   exact⟨J2 (qT1 (by omega) HALL.out).symm,hB0⟩
end
end Go.Proofs.YtmncaipgefbalaaGreatDoor
