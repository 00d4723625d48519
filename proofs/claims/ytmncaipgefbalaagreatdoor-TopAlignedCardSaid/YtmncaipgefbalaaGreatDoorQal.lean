/- Part of the proof of the claim. -/
import Derived.Test.YtmncaipgefbalaaGreatDoorQak
set_option maxRecDepth 100000
set_option maxHeartbeats 8000000
set_option linter.unusedVariables false
set_option linter.unusedSimpArgs false
namespace Go.Proofs.YtmncaipgefbalaaGreatDoor
section
open Go.RowKit
theorem jO2(p:PR)(c:Nat)(w:World)(hS:S8 p)(hc:(c:Int)<p.strips):
  Calls Tryz.prog 73 #[p.plane,.int .i64 c] w fun e w'=>e= .returned (.tuple #[.int .i64 (C6 p c),.int .i64 (C6 p c+p.pitch-1)])∧Below w.heap.size w w':=by
 obtain⟨hst1,hst2⟩:=hS.strips
 obtain⟨g1,g2⟩:=hS.first
 obtain⟨b1,b2⟩:=hS.pitch
 obtain⟨m1,m2⟩:=T0 (x:=(c:Int)) (q:=p.pitch) (by omega) (by omega) b1 b2
 have hT:C6 p c=p.first+(c:Int)*p.pitch-zJ8 p:=rfl
 clear hS
 by_cases hk:p.kind=2
 ·have hk':(p.kind==2)=true:=by simp[hk]
  have hh:zJ8 p=p.pitch/2:=by rw[zJ8,if_pos hk]
  rw[hT,hh]
  clear hT hh hk
  obtain⟨kind,view,z,first,pitch,strips,spill,olo,ohi,clo,chi,jitter,least,da,dn,dc,ea,en,ec,ds,es⟩:=p
  dsimp only at*
  go_enter Tryz.func73,Tryz.ntmps73
  go_wp2
  go_quiet (fail)
  go_wp2
  go_ret2
  exact⟨rfl,below_drewN ((Q2 _ _).alloc (Q1 _) _) _⟩
 ·have hk':(p.kind==2)=false:=by simp[hk]
  have hh:zJ8 p=0:=by rw[zJ8,if_neg hk]
  rw[hT,hh,Int.sub_zero]
  clear hT hh hk
  obtain⟨kind,view,z,first,pitch,strips,spill,olo,ohi,clo,chi,jitter,least,da,dn,dc,ea,en,ec,ds,es⟩:=p
  dsimp only at*
  go_enter Tryz.func73,Tryz.ntmps73
  go_wp2
  go_quiet (fail)
  go_wp2
  go_ret2
  exact⟨rfl,below_drewN ((Q2 _ _).alloc (Q1 _) _) _⟩
def I7(p:PR)(lo hi:Int):Bool:=qR1 (C6 p) p.pitch (fun c=>Y1 p c) (lo-p.ohi) (hi-p.olo) (decide (C6 p 0≤lo-p.ohi)&&decide (hi-p.olo≤C6 p (p.strips.toNat-1)+p.pitch-1)) p.strips.toNat
theorem xT0{p:PR}{lo hi:Int}(hS:S8 p)(h:lo≤hi):O7 p lo hi=I7 p lo hi:=by
 obtain⟨hst1,hst2⟩:=hS.strips
 obtain⟨b1,b2⟩:=hS.pitch
 obtain⟨o1,o2,o3⟩:=hS.off
 exact kY4 (by omega) (jC2 p) (by omega) (by omega)
theorem xD9(p:PR)(lo hi:Int)(w:World)(B:Nat)(hBw:B≤w.heap.size)(hm:p.mem B w)(hS:S8 p)(h1: -1000000≤lo∧lo≤1000000)(h2: -1000000≤hi∧hi≤1000000):
  Calls Tryz.prog 34 #[p.plane,.agg #[.int .i64 lo,.int .i64 hi]] w fun e w'=>e= .returned (.tuple #[.bool (I7 p lo hi),.bool (qN7 p lo hi)])∧Below w.heap.size w w':=by
 obtain⟨hst1,hst2⟩:=hS.strips
 obtain⟨g1,g2⟩:=hS.first
 obtain⟨b1,b2⟩:=hS.pitch
 obtain⟨s1,s2⟩:=hS.spill
 obtain⟨o1,o2,o3⟩:=hS.off
 obtain⟨l1,l2⟩:=h1
 obtain⟨l3,l4⟩:=h2
 obtain⟨N,hN⟩:=Int.eq_ofNat_of_zero_le (show 0≤p.strips by omega)
 have hTb:=fun(c:Nat) (hc:c<N)=>zJ0 hS (c:=c) (by omega)
 have TE0:=fun(c:Nat) (w':World) (hc:c<N)=>jO2 p c w' hS (by omega)
 have DE0:=fun(c:Nat) (w':World) (hB:B≤w'.heap.size) (hm':p.mem B w')=>qL4 p c w' B hB hm'
 have hC0:qU4 (C6 p) p.pitch p.spill (fun c=>Y1 p c) (lo-p.ohi) (hi-p.olo) 0=false:=rfl
 have hCs:∀c,qU4 (C6 p) p.pitch p.spill (fun c=>Y1 p c) (lo-p.ohi) (hi-p.olo) (c+1)=if Y1 p c=true then qU4 (C6 p) p.pitch p.spill (fun c=>Y1 p c) (lo-p.ohi) (hi-p.olo) c else qU4 (C6 p) p.pitch p.spill (fun c=>Y1 p c) (lo-p.ohi) (hi-p.olo) c||(decide (C6 p c-p.spill≤hi-p.olo)&&decide (lo-p.ohi≤C6 p c+p.pitch-1+p.spill)):=fun _=>rfl
 obtain⟨m0,hm0⟩:∃m0,m0=(decide (C6 p 0≤lo-p.ohi)&&decide (hi-p.olo≤C6 p (N-1)+p.pitch-1)):=⟨_,rfl⟩
 have hM0:qR1 (C6 p) p.pitch (fun c=>Y1 p c) (lo-p.ohi) (hi-p.olo) m0 0=m0:=rfl
 have hMs:∀c,qR1 (C6 p) p.pitch (fun c=>Y1 p c) (lo-p.ohi) (hi-p.olo) m0 (c+1)=if Y1 p c=true∧C6 p c≤hi-p.olo∧lo-p.ohi≤C6 p c+p.pitch-1 then false else qR1 (C6 p) p.pitch (fun c=>Y1 p c) (lo-p.ohi) (hi-p.olo) m0 c:=fun _=>rfl
 rw[I7,qN7,hN,Int.toNat_natCast,←hm0]
 generalize qR1 (C6 p) p.pitch (fun c=>Y1 p c) (lo-p.ohi) (hi-p.olo) m0=MG at*
 generalize qU4 (C6 p) p.pitch p.spill (fun c=>Y1 p c) (lo-p.ohi) (hi-p.olo)=CG at*
 generalize C6 p=TF at*
 generalize Y1 p=DI at*
 have HM:=Hd hm
 have TE:=Hd TE0
 have DE:=Hd DE0
 have HC0:=Hd hC0
 have HCs:=Hd hCs
 have HM0:=Hd hM0
 have HMs:=Hd hMs
 have HTb:=Hd hTb
 have Hm0:=Hd hm0
 clear hm hS TE0 DE0 hC0 hCs hM0 hMs hm0 hTb
 obtain⟨kind,view,z,first,pitch,strips,spill,olo,ohi,clo,chi,jitter,least,da,dn,dc,ea,en,ec,ds,es⟩:=p
 dsimp only at*
 subst hN
 have TA:=Hd (fun w'=>TE.out 0 w' (by omega))
 have TB:=Hd (show ∀w',Calls Tryz.prog 73 #[PR.plane ⟨kind,view,z,first,pitch,(N:Int),spill,olo,ohi,clo,chi,jitter,least,da,dn,dc,ea,en,ec,ds,es⟩,.int .i64 ((N:Int)-1)] w' (fun e w''=>e= .returned (.tuple #[.int .i64 (TF (N-1)),.int .i64 (TF (N-1)+pitch-1)])∧Below w'.heap.size w' w'') from fun w'=>by have:=TE.out (N-1) w' (by omega);rwa [show((N-1:Nat):Int)=(N:Int)-1 by omega] at this)
 go_enter Tryz.func34,Tryz.ntmps34
 go_upto_region 1 with(fail)
 go_cut [6,7] from 17 to 28 (fun s6 s7 wx=>s6= .int .i64 (lo-ohi)∧s7= .int .i64 (hi-olo)∧QS w.heap.size (#[.int .i64 kind,.int .i64 view,.int .i64 z,.int .i64 first,.int .i64 pitch,.int .i64 (N:Int),.int .i64 spill,.int .i64 olo,.int .i64 ohi,.int .i64 clo,.int .i64 chi,.int .i64 jitter,.int .i64 least,.slice da dn dc,.slice ea en ec]:Array Value) w wx)
 case first=>
  have a1:IntKind.i64.wrap (lo-ohi)=lo-ohi:=Z1 _ (by omega)
  have a2:IntKind.i64.wrap (hi-olo)=hi-olo:=Z1 _ (by omega)
  go_quiet (fail)
  go_wp2_with fail
  go_meet
  exact⟨rfl,rfl,fun j=>by rw[World.cell?_drewN];exact Q0 _ _ _ _ _ _ (qN1 _ _ _),by simp,below_drewN (((Q2 _ _).alloc (Q1 _) _).alloc (by simp) _) _⟩
 obtain⟨rfl,rfl,hp,hz,hB⟩:=hcut
 go_upto_region 3 with(go_at_call 73;refine(TA.out _).mono ?_;rintro e wy ⟨rfl,hby⟩;have hsy:=E0 ⟨hp,hz,hB⟩ hby;clear hp hz hB hby;obtain⟨hp,hz,hB⟩:=hsy)
 go_upto_region 4 with(go_at_call 73;refine(TB.out _).mono ?_;rintro e wy ⟨rfl,hby⟩;have hsy:=E0 ⟨hp,hz,hB⟩ hby;clear hp hz hB hby;obtain⟨hp,hz,hB⟩:=hsy)
 go_cut [12,13] from 42 to 49 (fun s12 s13 wx=>s12= .bool m0∧s13= .bool false∧QS w.heap.size (#[.int .i64 kind,.int .i64 view,.int .i64 z,.int .i64 first,.int .i64 pitch,.int .i64 (N:Int),.int .i64 spill,.int .i64 olo,.int .i64 ohi,.int .i64 clo,.int .i64 chi,.int .i64 jitter,.int .i64 least,.slice da dn dc,.slice ea en ec]:Array Value) w wx)
 case first=>
  by_cases q1:TF 0≤lo-ohi
  ·have HM1:=Hd (show m0=decide (hi-olo≤TF (N-1)+pitch-1) by rw[Hm0.out];simp[q1])
   go_wp2_with fail
   go_meet
   exact⟨by rw[HM1.out],rfl,hp,hz,hB⟩
  ·have HM1:=Hd (show m0=false by rw[Hm0.out];simp[q1])
   go_wp2_with fail
   go_meet
   exact⟨by rw[HM1.out],rfl,hp,hz,hB⟩
 clear hp hz hB
 obtain⟨rfl,rfl,hp,hz,hB⟩:=hcut
 go_wp2
 go_loopw [14,12,13] (fun t s12 s13 wr=>∃c:Nat,c≤N∧t= .int .i64 c∧s12= .bool (MG c)∧s13= .bool (CG c)∧QS w.heap.size (#[.int .i64 kind,.int .i64 view,.int .i64 z,.int .i64 first,.int .i64 pitch,.int .i64 (N:Int),.int .i64 spill,.int .i64 olo,.int .i64 ohi,.int .i64 clo,.int .i64 chi,.int .i64 jitter,.int .i64 least,.slice da dn dc,.slice ea en ec]:Array Value) w wr) (fun t _ _ _=>N-(intOf t).toNat)
 case atStart=>exact⟨0,Nat.zero_le _,rfl,by rw[HM0.out],by rw[HC0.out],hp,hz,hB⟩
 case round=>
  clear hp hz hB
  obtain⟨c,hc,rfl,rfl,rfl,hp,hz,hB⟩:=hrel
  by_cases hlt:c<N
  ·have hms:=HMs.out c
   have hcs:=HCs.out c
   obtain⟨q1,q2⟩:=HTb.out c hlt
   have TC:=Hd (fun w'=>TE.out c w' hlt)
   have TD:=Hd (fun w' hB' hm'=>DE.out c w' hB' hm')
   generalize TF c=T at*
   generalize MG c=MV at*
   generalize CG c=CV at*
   generalize DI c=D at*
   have HMS:=Hd hms
   have HCS:=Hd hcs
   clear hms hcs
   cases D
   ·by_cases hc1:T-spill≤hi-olo
    ·by_cases hc2:lo-ohi≤T+pitch-1+spill
     ·go_wp2_with(first|(go_at_call 73;refine(TC.out _).mono ?_;rintro e wy ⟨rfl,hby⟩;have hsy:=E0 ⟨hp,hz,hB⟩ hby;clear hp hz hB hby;obtain⟨hp,hz,hB⟩:=hsy)|(go_at_call 72;refine(TD.out _ (by omega) (HM.out.below (hB.mono hBw))).mono ?_;rintro e wy ⟨rfl,hby⟩;have hsy:=E0 ⟨hp,hz,hB⟩ hby;clear hp hz hB hby;obtain⟨hp,hz,hB⟩:=hsy));go_roundw
      case rel=>exact⟨c+1,by omega,by go_num,by rw[HMS.out];simp,by rw[HCS.out];simp[hc1,hc2],hp,hz,hB⟩
      case measure=>simp[intOf];omega
     ·go_wp2_with(first|(go_at_call 73;refine(TC.out _).mono ?_;rintro e wy ⟨rfl,hby⟩;have hsy:=E0 ⟨hp,hz,hB⟩ hby;clear hp hz hB hby;obtain⟨hp,hz,hB⟩:=hsy)|(go_at_call 72;refine(TD.out _ (by omega) (HM.out.below (hB.mono hBw))).mono ?_;rintro e wy ⟨rfl,hby⟩;have hsy:=E0 ⟨hp,hz,hB⟩ hby;clear hp hz hB hby;obtain⟨hp,hz,hB⟩:=hsy));go_roundw
      case rel=>exact⟨c+1,by omega,by go_num,by rw[HMS.out];simp,by rw[HCS.out,Q7 (show ¬(lo-ohi≤T+pitch-1+spill) by omega)];simp,hp,hz,hB⟩
      case measure=>simp[intOf];omega
    ·go_wp2_with(first|(go_at_call 73;refine(TC.out _).mono ?_;rintro e wy ⟨rfl,hby⟩;have hsy:=E0 ⟨hp,hz,hB⟩ hby;clear hp hz hB hby;obtain⟨hp,hz,hB⟩:=hsy)|(go_at_call 72;refine(TD.out _ (by omega) (HM.out.below (hB.mono hBw))).mono ?_;rintro e wy ⟨rfl,hby⟩;have hsy:=E0 ⟨hp,hz,hB⟩ hby;clear hp hz hB hby;obtain⟨hp,hz,hB⟩:=hsy));go_roundw
     case rel=>exact⟨c+1,by omega,by go_num,by rw[HMS.out];simp,by rw[HCS.out,Q7 (show ¬(T-spill≤hi-olo) by omega)];simp,hp,hz,hB⟩
     case measure=>simp[intOf];omega
   ·by_cases hc1:T≤hi-olo
    ·by_cases hc2:lo-ohi≤T+pitch-1
     ·go_wp2_with(first|(go_at_call 73;refine(TC.out _).mono ?_;rintro e wy ⟨rfl,hby⟩;have hsy:=E0 ⟨hp,hz,hB⟩ hby;clear hp hz hB hby;obtain⟨hp,hz,hB⟩:=hsy)|(go_at_call 72;refine(TD.out _ (by omega) (HM.out.below (hB.mono hBw))).mono ?_;rintro e wy ⟨rfl,hby⟩;have hsy:=E0 ⟨hp,hz,hB⟩ hby;clear hp hz hB hby;obtain⟨hp,hz,hB⟩:=hsy));go_roundw
      case rel=>exact⟨c+1,by omega,by go_num,by rw[HMS.out];simp[hc1,hc2],by rw[HCS.out];simp,hp,hz,hB⟩
      case measure=>simp[intOf];omega
     ·go_wp2_with(first|(go_at_call 73;refine(TC.out _).mono ?_;rintro e wy ⟨rfl,hby⟩;have hsy:=E0 ⟨hp,hz,hB⟩ hby;clear hp hz hB hby;obtain⟨hp,hz,hB⟩:=hsy)|(go_at_call 72;refine(TD.out _ (by omega) (HM.out.below (hB.mono hBw))).mono ?_;rintro e wy ⟨rfl,hby⟩;have hsy:=E0 ⟨hp,hz,hB⟩ hby;clear hp hz hB hby;obtain⟨hp,hz,hB⟩:=hsy));go_roundw
      case rel=>exact⟨c+1,by omega,by go_num,by rw[HMS.out];simp[hc1,hc2],by rw[HCS.out];simp,hp,hz,hB⟩
      case measure=>simp[intOf];omega
    ·go_wp2_with(first|(go_at_call 73;refine(TC.out _).mono ?_;rintro e wy ⟨rfl,hby⟩;have hsy:=E0 ⟨hp,hz,hB⟩ hby;clear hp hz hB hby;obtain⟨hp,hz,hB⟩:=hsy)|(go_at_call 72;refine(TD.out _ (by omega) (HM.out.below (hB.mono hBw))).mono ?_;rintro e wy ⟨rfl,hby⟩;have hsy:=E0 ⟨hp,hz,hB⟩ hby;clear hp hz hB hby;obtain⟨hp,hz,hB⟩:=hsy));go_roundw
     case rel=>exact⟨c+1,by omega,by go_num,by rw[HMS.out];simp[hc1],by rw[HCS.out];simp,hp,hz,hB⟩
     case measure=>simp[intOf];omega
  ·obtain rfl:c=N:=by omega
   go_wp2
   go_ret2
   exact⟨rfl,hB⟩
def F8(f:Nat→List Value):Nat→List Value
 |0=>[]
 |n+1=>F8 f n++f n
theorem F0{k:Nat}{f:Nat→List Value}(hf:∀i,(f i).length=k):∀n,(F8 f n).length=n*k
 |0=>by simp[F8]
 |n+1=>by rw[F8,Z6,F0 hf n,hf,Nat.add_mul,Nat.one_mul]
theorem qM8{k:Nat}{f:Nat→List Value}(hf:∀i,(f i).length=k):∀n i r,i<n→r<k→(F8 f n)[i*k+r]?=(f i)[r]?
 |0,i,r,hi,_=>by omega
 |n+1,i,r,hi,hr=>by
  rw[F8]
  by_cases e:i=n
  ·subst e
   rw[List.getElem?_append_right (by rw[F0 hf];omega),F0 hf]
   congr 1;omega
  ·have h1:i*k+r<n*k:=by
    have:(i+1)*k≤n*k:=Nat.mul_le_mul_right k (by omega)
    rw[Nat.add_mul] at this;omega
   rw[List.getElem?_append_left (by rw[F0 hf];exact h1)]
   exact qM8 hf n i r (by omega) hr
theorem xV2{k:Nat}{f:Nat→List Value}(hk:0<k)(hf:∀i,(f i).length=k){n j:Nat}{u:Value}(h:(F8 f n)[j]?=some u):j/k<n∧(f (j/k))[j%k]?=some u:=by
 have hl:j<n*k:=by
  have:=(List.getElem?_eq_some_iff.1 h).1
  rwa [F0 hf] at this
 have h1:j/k<n:=(Nat.div_lt_iff_lt_mul hk).2 hl
 have h2:j/k*k+j%k=j:=by rw[Nat.mul_comm];exact Nat.div_add_mod j k
 refine⟨h1,?_⟩
 have:=qM8 hf n (j/k) (j%k) h1 (Nat.mod_lt _ hk)
 rw[h2] at this
 rw[←this];exact h
theorem zZ9{f g:Nat→List Value}:∀n,(∀i,i<n→f i=g i)→F8 f n=F8 g n
 |0,_=>rfl
 |n+1,h=>by rw[F8,F8,zZ9 n (fun i hi=>h i (by omega)),h n (by omega)]
theorem qO2{f:Nat→List Value}{u:Value}:∀n,u∈F8 f n→∃i,i<n∧u∈f i
 |0,h=>by simp[F8] at h
 |n+1,h=>by
  rw[F8,List.mem_append] at h
  rcases h with h|h
  ·obtain⟨i,hi,hu⟩:=qO2 n h;exact⟨i,by omega,hu⟩
  ·exact⟨n,by omega,h⟩
theorem qO8{w:World}{base:Nat}{e:TypeId}{k:Nat}{a:Option Addr}{n m c:Nat}{f:Nat→List Value}(hf:∀i,(f i).length=k)(h:w.ownsRow base e k (.slice a m c) n (F8 f n)):
  m=n∧(n=0∨∃b,a=some ⟨b,0,none⟩∧base≤b∧b<w.heap.size∧∀i,i<n→∀r,r<k→w.cell? ⟨b,0+i*k+r,none⟩=(f i)[r]?):=by
 rcases h.2 with⟨hv,hn⟩|⟨g,cap,cur,hv,hb,hg,hnc,hcm,hcs,htake⟩
 ·injection hv with h1 h2 h3
  exact⟨by omega,.inl hn⟩
 ·injection hv with h1 h2 h3
  refine⟨h2,.inr ⟨g,h1,hb,(J5 hg),fun i hi r hr=> ?_⟩⟩
  rw[Nat.zero_add,Q0 w g _ cur e (0,0) hg,←qM8 hf n i r hi hr,←htake]
  have h1:i*k+r<n*k:=by
   have:(i+1)*k≤n*k:=Nat.mul_le_mul_right k (by omega)
   rw[Nat.add_mul] at this;omega
  rw[List.getElem?_take_of_lt h1]
  simp
def PR.cells(p:PR):List Value:=[.int .i64 p.kind,.int .i64 p.view,.int .i64 p.z,.int .i64 p.first,.int .i64 p.pitch,.int .i64 p.strips,.int .i64 p.spill,.int .i64 p.olo,.int .i64 p.ohi,.int .i64 p.clo,.int .i64 p.chi,.int .i64 p.jitter,.int .i64 p.least,.slice p.da p.dn p.dc,.slice p.ea p.en p.ec]
def DV.cells(d:DV):List Value:=[.int .i64 d.time,.int .i64 d.lo,.int .i64 d.hi]
def qJ0(ds:Nat→DV):Nat→List Value:=F8 fun i=>(ds i).cells
def B5(es:Nat→Int):Nat→List Value:=F8 fun i=>[.int .i64 (es i)]
def qD0(qs:Nat→PR):Nat→List Value:=F8 fun i=>(qs i).cells
theorem qR8(ds:Nat→DV):∀i,(((fun i=>(ds i).cells):Nat→List Value) i).length=3:=fun _=>rfl
theorem qS4(es:Nat→Int):∀i,(((fun i=>[.int .i64 (es i)]):Nat→List Value) i).length=1:=fun _=>rfl
theorem xS2(qs:Nat→PR):∀i,(((fun i=>(qs i).cells):Nat→List Value) i).length=15:=fun _=>rfl
theorem zD0{w:World}{base:Nat}{e:TypeId}{a:Option Addr}{n m c:Nat}{ds:Nat→DV}(h:w.ownsRow base e 3 (.slice a m c) n (qJ0 ds n)):m=n∧R8 w.heap.size w a n ds:=by
 obtain⟨hm,hc⟩:=qO8 (qR8 ds) h
 refine⟨hm,?_⟩
 rcases hc with h0|⟨b,ha,_,hb,hc⟩
 ·exact .inl h0
 ·exact .inr ⟨b,0,ha,hb,fun i hi=>⟨hc i hi 0 (by omega),hc i hi 1 (by omega),hc i hi 2 (by omega)⟩⟩
theorem zD1{w:World}{base:Nat}{e:TypeId}{a:Option Addr}{n m c:Nat}{es:Nat→Int}(h:w.ownsRow base e 1 (.slice a m c) n (B5 es n)):m=n∧D0 w.heap.size w a n es:=by
 obtain⟨hm,hc⟩:=qO8 (qS4 es) h
 refine⟨hm,?_⟩
 rcases hc with h0|⟨b,ha,_,hb,hc⟩
 ·exact .inl h0
 ·exact .inr ⟨b,0,ha,hb,fun i hi=>by have:=hc i hi 0 (by omega);rw[Nat.mul_one] at this;exact this⟩
theorem zD2{w:World}{base:Nat}{e:TypeId}{a:Option Addr}{n m c:Nat}{qs:Nat→PR}(h:w.ownsRow base e 15 (.slice a m c) n (qD0 qs n))(hn:n≤maxLen)(hm:∀i,i<n→(qs i).mem w.heap.size w):m=n∧Y2 w.heap.size w a n qs:=by
 obtain⟨hmn,hc⟩:=qO8 (xS2 qs) h
 refine⟨hmn,hn,?_⟩
 rcases hc with h0|⟨b,ha,_,hb,hc⟩
 ·exact .inl h0
 ·exact .inr ⟨b,0,ha,hb,fun i hi=>⟨⟨hc i hi 0 (by omega),hc i hi 1 (by omega),hc i hi 2 (by omega),hc i hi 3 (by omega),hc i hi 4 (by omega),hc i hi 5 (by omega),hc i hi 6 (by omega),hc i hi 7 (by omega),hc i hi 8 (by omega),hc i hi 9 (by omega),hc i hi 10 (by omega),hc i hi 11 (by omega),hc i hi 12 (by omega),hc i hi 13 (by omega),hc i hi 14 (by omega)⟩,hm i hi⟩⟩
theorem zW7{B:Nat}{w:World}{b off n:Nat}{ds:Nat→DV}(hc:∀i,i<n→w.cell? ⟨b,off+i*3,none⟩=some (.int .i64 (ds i).time)∧w.cell? ⟨b,off+i*3+1,none⟩=some (.int .i64 (ds i).lo)∧w.cell? ⟨b,off+i*3+2,none⟩=some (.int .i64 (ds i).hi)):
  ∀j u,(qJ0 ds n)[j]?=some u→w.cell? ((⟨b,off,none⟩:Addr).add j)=some u:=by
 intro j u h
 obtain⟨h1,h2⟩:=xV2 (k:=3) (by omega) (qR8 ds) h
 obtain⟨c0,c1,c2⟩:=hc (j/3) h1
 rw[qT8]
 have hj:off+j=off+j/3*3+j%3:=by omega
 have hr:j%3=0∨j%3=1∨j%3=2:=by omega
 rw[hj]
 rcases hr with e|e|e<;>rw[e] at h2 ⊢ <;>simp[DV.cells] at h2<;>subst h2
 ·exact c0
 ·exact c1
 ·exact c2
theorem xP8{w:World}{b off n:Nat}{es:Nat→Int}(hc:∀i,i<n→w.cell? ⟨b,off+i,none⟩=some (.int .i64 (es i))):
  ∀j u,(B5 es n)[j]?=some u→w.cell? ((⟨b,off,none⟩:Addr).add j)=some u:=by
 intro j u h
 obtain⟨h1,h2⟩:=xV2 (k:=1) (by omega) (qS4 es) h
 rw[Nat.div_one] at h1 h2
 rw[Nat.mod_one] at h2
 simp at h2
 subst h2
 rw[qT8]
 exact hc j h1
theorem xM3{ds:Nat→DV}{n:Nat}:∀u∈qJ0 ds n,u.oneCell'=true:=by
 intro u hu
 obtain⟨i,_,h⟩:=qO2 n hu
 simp[DV.cells] at h
 rcases h with rfl|rfl|rfl<;>rfl
theorem xN9{es:Nat→Int}{n:Nat}:∀u∈B5 es n,u.oneCell'=true:=by
 intro u hu
 obtain⟨i,_,h⟩:=qO2 n hu
 simp at h
 subst h;rfl
def HV.at(h:HV)(w:World)(b o:Nat):Prop:=w.cell? ⟨b,o,none⟩=some (.int .i64 h.plane)∧w.cell? ⟨b,o+1,none⟩=some (.int .i64 h.channel)∧w.cell? ⟨b,o+2,none⟩=some (.int .i64 h.many)∧w.cell? ⟨b,o+3,none⟩=some (.int .i64 h.drift)∧w.cell? ⟨b,o+4,none⟩=some (.int .i64 h.charge)∧w.cell? ⟨b,o+5,none⟩=some (.int .i64 h.time)
def qK7(B:Nat)(w:World)(a:Option Addr)(n:Nat)(hs:Nat→HV):Prop:=
 n≤maxLen∧(n=0∨∃b off,a=some ⟨b,off,none⟩∧b<B∧∀i,i<n→(hs i).at w b (off+i*6))
theorem HV.at.below{h:HV}{w w':World}{B b o:Nat}(hh:h.at w b o)(hb:Below B w w')(hB:b<B):h.at w' b o:=by
 obtain⟨h0,h1,h2,h3,h4,h5⟩:=hh
 have c:=(J9 hb).1
 exact⟨(c _ _ hB).trans h0,(c _ _ hB).trans h1,(c _ _ hB).trans h2,(c _ _ hB).trans h3,(c _ _ hB).trans h4,(c _ _ hB).trans h5⟩
theorem qK7.below{B:Nat}{w w':World}{a:Option Addr}{n:Nat}{hs:Nat→HV}(h:qK7 B w a n hs)(hb:Below B w w'):qK7 B w' a n hs:=by
 refine⟨h.1,?_⟩
 rcases h.2 with h|⟨b,off,ha,hB,hc⟩
 ·exact .inl h
 ·exact .inr ⟨b,off,ha,hB,fun i hi=>(hc i hi).below hb hB⟩
theorem qK7.up{B B':Nat}{w:World}{a:Option Addr}{n:Nat}{hs:Nat→HV}(h:qK7 B w a n hs)(hb:B≤B'):qK7 B' w a n hs:=by
 refine⟨h.1,?_⟩
 rcases h.2 with h|⟨b,off,ha,hB,hc⟩
 ·exact .inl h
 ·exact .inr ⟨b,off,ha,by omega,hc⟩
theorem qK7.get{B:Nat}{w:World}{a:Option Addr}{n:Nat}{hs:Nat→HV}(h:qK7 B w a n hs){i:Nat}(hi:i<n):∃b off,a=some ⟨b,off,none⟩∧b<B∧(hs i).at w b (off+i*6):=by
 rcases h.2 with h|⟨b,off,ha,hB,hc⟩
 ·omega
 ·exact⟨b,off,ha,hB,hc i hi⟩
def HV.cells(h:HV):List Value:=[.int .i64 h.plane,.int .i64 h.channel,.int .i64 h.many,.int .i64 h.drift,.int .i64 h.charge,.int .i64 h.time]
def hC:List HV→List Value
 |[]=>[]
 |h::t=>h.cells++hC t
theorem qO3:∀(a b:List HV),hC (a++b)=hC a++hC b
 |[],b=>rfl
 |h::t,b=>by rw[List.cons_append,hC,hC,qO3 t b,List.append_assoc]
theorem jR9(h:HV):hC [h]=h.cells:=by simp[hC]
theorem jR8:∀(l:List HV),(hC l).length=l.length*6
 |[]=>rfl
 |h::t=>by rw[hC,Z6,jR8 t];simp[HV.cells];omega
theorem jR7:∀(l:List HV) (i r:Nat) (z:HV),i<l.length→r<6→(hC l)[i*6+r]?=(l.getD i z).cells[r]?
 |[],i,r,z,hi,_=>by simp at hi
 |h::t,0,r,z,hi,hr=>by
  rw[hC,List.getElem?_append_left (by simp[HV.cells];omega)]
  simp
 |h::t,i+1,r,z,hi,hr=>by
  have e:(i+1)*6+r=i*6+r+6:=by omega
  rw[hC,List.getElem?_append_right (by simp[HV.cells];omega),e]
  have:i*6+r+6-h.cells.length=i*6+r:=by simp[HV.cells]
  rw[this,jR7 t i r z (by simpa using hi) hr]
  simp
def hv0:HV:=⟨0,0,0,0,0,0⟩
theorem xC6{w:World}{base:Nat}{e:TypeId}{a:Option Addr}{m c n:Nat}{L:List HV}(h:w.ownsRow base e 6 (.slice a m c) n (hC L))(hn:n≤maxLen):m=n∧n=L.length∧qK7 w.heap.size w a n (fun i=>L.getD i hv0):=by
 have hl:n=L.length:=by have:=h.1;rw[jR8] at this;omega
 rcases h.2 with⟨hv,h0⟩|⟨g,cap,cur,hv,hb,hg,hnc,hcm,hcs,htake⟩
 ·injection hv with h1 h2 h3
  exact⟨by omega,hl,hn,.inl h0⟩
 ·injection hv with h1 h2 h3
  refine⟨h2,hl,hn,.inr ⟨g,0,h1,(J5 hg),fun i hi=> ?_⟩⟩
  have key:∀r,r<6→w.cell? ⟨g,0+i*6+r,none⟩=(L.getD i hv0).cells[r]? :=fun r hr=>by
   rw[Nat.zero_add,Q0 w g _ cur e (0,0) hg,←jR7 L i r hv0 (by omega) hr,←htake,List.getElem?_take_of_lt (by omega)]
   simp
  exact⟨key 0 (by omega),key 1 (by omega),key 2 (by omega),key 3 (by omega),key 4 (by omega),key 5 (by omega)⟩
theorem xG5:(Tryz.prog.info? 61).map (fun i=>(i.zero,i.size,i.bytes))=some (some (.agg #[.int .i64 0,.int .i64 0,.int .i64 0,.int .i64 0,.int .i64 0,.int .i64 0]),6,48):=by kernel_rfl
theorem jS4{h:HV}:∀u∈h.cells,u.oneCell'=true:=by
 intro u hu
 simp[HV.cells] at hu
 rcases hu with rfl|rfl|rfl|rfl|rfl|rfl<;>rfl
end
section
open Go Go.RowKit
def rPl(p:PG)(x:PR):Int:=p.start+p.slope*x.z
def qG8(p:PG)(view:Int)(x:PR):Bool:=(x.view !=view)||(decide (rPl p x< -1000000)||decide (1000000<rPl p x))
def rY(p:PG)(x:PR)(i:Nat):Int:=rPl p x-p.os i-x.first
def qR2(p:PG)(x:PR)(i:Nat):Int:=if x.kind=3 then 0 else p.time+p.ks i
def qA1(p:PG)(x:PR)(i:Nat):Int:=if 0≤rY p x i then rY p x i/x.pitch else-1
def G8(p:PG)(x:PR)(i:Nat):HV:=⟨(i:Int),qA1 p x i,1,0,x.least,qR2 p x i⟩
def qG9(p:PG)(x:PR)(i:Nat):Bool:=p.ss i&&C7 x (G8 p x i)
def qJ9(p:PG)(x:PR):Bool:=I7 x (rPl p x) (rPl p x)
def O6(p:PG)(view:Int)(ps:Nat→PR):Nat→List HV×Nat
 |0=>([],0)
 |i+1=>let r:=O6 p view ps i
  if qG8 p view (ps i)=true then r else if qG9 p (ps i) i=true then(r.1++[G8 p (ps i) i],r.2) else if qJ9 p (ps i)=true then(r.1,r.2+1) else r
theorem zE2(p:PG)(view:Int)(ps:Nat→PR):∀i,(O6 p view ps i).1.length+(O6 p view ps i).2≤i
 |0=>by simp[O6]
 |i+1=>by
  have h:=zE2 p view ps i
  unfold O6
  dsimp only
  split
  ·omega
  ·split
   ·simp;omega
   ·split
    ·dsimp only;omega
    ·omega
end
section
def G9:Nat→(Nat→Bool)→Nat
 |0,_=>0
 |n+1,p=>if p 0=true then 0 else G9 n (fun i=>p (i+1))+1
theorem xN2:∀(n:Nat) (p:Nat→Bool),G9 n p≤n
 |0,_=>Q1 _
 |n+1,p=>by
  unfold G9
  split
  ·omega
  ·have:=xN2 n (fun i=>p (i+1))
   omega
theorem xA8:∀{n:Nat} {p:Nat→Bool} {j:Nat},j<G9 n p→p j=false
 |0,_,_,h=>by simp[G9] at h
 |n+1,p,j,h=>by
  unfold G9 at h
  split at h
  ·omega
  ·rename_i h0
   cases j with
   |zero=>simpa using h0
   |succ j=>exact xA8 (n:=n) (p:=fun i=>p (i+1)) (by omega)
theorem xN1:∀{n:Nat} {p:Nat→Bool},G9 n p<n→p (G9 n p)=true
 |0,_,h=>by simp[G9] at h
 |n+1,p,h=>by
  unfold G9 at h ⊢
  split
  ·assumption
  ·rename_i h0
   rw[if_neg h0] at h
   exact xN1 (n:=n) (p:=fun i=>p (i+1)) (by omega)
structure RW where
 key:Int
 lo:Int
 hi:Int
structure jL1(n:Nat)(t:Nat→RW):Prop where
 pos:1≤n
 key:∀i,i<n→1≤(t i).key∧(t i).key≤1000000
 span:∀i,i<n→0≤(t i).lo∧(t i).lo≤(t i).hi∧(t i).hi≤1000000
 up:∀i,i+1<n→(t i).key<(t (i+1)).key∧(t i).lo≤(t (i+1)).lo∧(t i).hi≤(t (i+1)).hi
structure jE0(P:Int)(m:Nat)(l:Nat→RW):Prop where
 pos:1≤m
 one:(l 0).key=1
 span:∀i,i<m→0≤(l i).lo∧(l i).lo≤(l i).hi∧(l i).hi≤P
 down:∀i,i+1<m→(l i).key<(l (i+1)).key∧(l (i+1)).lo≤(l i).lo∧(l (i+1)).hi≤(l i).hi
theorem jE0.keys{P:Int}{m:Nat}{l:Nat→RW}(h:jE0 P m l){i:Nat}:∀{d:Nat},i+d<m→(l i).key+d≤(l (i+d)).key
 |0,_=>by simp
 |d+1,hd=>by
  have h1:=h.keys (i:=i) (d:=d) (by omega)
  have h2:=(h.down (i+d) (by omega)).1
  have e:i+(d+1)=i+d+1:=by omega
  rw[e]
  omega
theorem jL1.keys{n:Nat}{t:Nat→RW}(h:jL1 n t){i:Nat}:∀{d:Nat},i+d<n→(t i).key+d≤(t (i+d)).key
 |0,_=>by simp
 |d+1,hd=>by
  have h1:=h.keys (i:=i) (d:=d) (by omega)
  have h2:=(h.up (i+d) (by omega)).1
  have e:i+(d+1)=i+d+1:=by omega
  rw[e]
  omega
section
variable {n m:Nat}{t l:Nat→RW}{P:Int}
end
end
section
open Go.RowKit
def S5(B:Nat)(w:World)(a:Option Addr)(n:Nat)(t:Nat→RW):Prop:=
 n=0∨∃b off,a=some ⟨b,off,none⟩∧b<B∧∀i,i<n→w.cell? ⟨b,off+i*3,none⟩=some (.int .i64 (t i).key)∧w.cell? ⟨b,off+i*3+1,none⟩=some (.int .i64 (t i).lo)∧w.cell? ⟨b,off+i*3+2,none⟩=some (.int .i64 (t i).hi)
theorem S5.below{B:Nat}{w w':World}{a:Option Addr}{n:Nat}{t:Nat→RW}(h:S5 B w a n t)(hb:Below B w w'):S5 B w' a n t:=by
 rcases h with h|⟨b,off,ha,hB,hc⟩
 ·exact .inl h
 ·have c:=(J9 hb).1
  exact .inr ⟨b,off,ha,hB,fun i hi=>⟨(c _ _ hB).trans (hc i hi).1,(c _ _ hB).trans (hc i hi).2.1,(c _ _ hB).trans (hc i hi).2.2⟩⟩
theorem S5.up{B B':Nat}{w:World}{a:Option Addr}{n:Nat}{t:Nat→RW}(h:S5 B w a n t)(hb:B≤B'):S5 B' w a n t:=by
 rcases h with h|⟨b,off,ha,hB,hc⟩
 ·exact .inl h
 ·exact .inr ⟨b,off,ha,by omega,hc⟩
theorem S5.get{B:Nat}{w:World}{a:Option Addr}{n:Nat}{t:Nat→RW}(h:S5 B w a n t){i:Nat}(hi:i<n):∃b off,a=some ⟨b,off,none⟩∧b<B∧w.cell? ⟨b,off+i*3,none⟩=some (.int .i64 (t i).key)∧w.cell? ⟨b,off+i*3+1,none⟩=some (.int .i64 (t i).lo)∧w.cell? ⟨b,off+i*3+2,none⟩=some (.int .i64 (t i).hi):=by
 rcases h with h|⟨b,off,ha,hB,hc⟩
 ·omega
 ·exact⟨b,off,ha,hB,hc i hi⟩
def RW.agg(r:RW):Value:= .agg #[.int .i64 r.key,.int .i64 r.lo,.int .i64 r.hi]
def spV(lo hi:Int):Value:= .agg #[.int .i64 lo,.int .i64 hi]
theorem qW0:∀{n:Nat} {p:Nat→Bool} {i:Nat},i<n→(∀j,j<i→p j=false)→p i=true→G9 n p=i:=by
 intro n p i hi hn h
 have h1:=xN2 n p
 rcases Nat.lt_trichotomy (G9 n p) i with h2|h2|h2
 ·have h3:=xN1 (n:=n) (p:=p) (by omega)
  rw[hn _ h2] at h3
  cases h3
 ·exact h2
 ·have h3:=xA8 h2
  rw[h] at h3
  cases h3
theorem T6{n:Nat}{p:Nat→Bool}(hn:∀j,j<n→p j=false):G9 n p=n:=by
 have h1:=xN2 n p
 rcases Nat.lt_or_ge (G9 n p) n with h2|h2
 ·have h3:=xN1 h2
  rw[hn _ h2] at h3
  cases h3
 ·omega
structure Ob(w W:World)(o:Obj)(lo hi:Int):Prop where
 arg:W.heap[w.heap.size]?=some o
 res:W.heap[w.heap.size+1]?=some (.cells #[.int .i64 0,.int .i64 0] 47)
 out:W.heap[w.heap.size+1+1]?=some (.cells #[.int .i64 lo,.int .i64 hi] 47)
 below:Below w.heap.size w W
theorem Ob.lt{w W:World}{o:Obj}{lo hi:Int}(h:Ob w W o lo hi):w.heap.size+3≤W.heap.size:=by
 have:=(J5 h.out)
 omega
theorem Ob.set{w W:World}{o:Obj}{lo hi:Int}(h:Ob w W o lo hi)(j:Nat)(v:Int)(hj:j<2):Ob w (W.setCell ⟨w.heap.size+1+1,j,none⟩ (.int .i64 v)) o (if j=0 then v else lo) (if j=1 then v else hi):=by
 refine⟨(Q6 W ⟨w.heap.size+1+1,j,none⟩ _ _ (by dsimp only;omega)).trans h.arg,(Q6 W ⟨w.heap.size+1+1,j,none⟩ _ _ (by dsimp only;omega)).trans h.res,?_,h.below.setCell (by dsimp only;omega) _⟩
 have:=Q4 W _ j _ _ (.int .i64 v) h.out
 rw[this]
 rcases Nat.lt_or_ge 0 j with h1|h1
 ·obtain rfl:j=1:=by omega
  rfl
 ·obtain rfl:j=0:=by omega
  rfl
structure SK where
 P:Int
 ba:Option Addr
 bn:Nat
 bc:Nat
 be0:Int
 be1:Int
 al0:Int
 al1:Int
 la:Nat→Option Addr
 ln:Nat→Nat
 lc:Nat→Nat
 l:Nat→Nat→RW
def SK.cells(s:SK):Array Value:= #[.int .i64 s.P,.slice s.ba s.bn s.bc,.int .i64 s.be0,.int .i64 s.be1,.int .i64 s.al0,.int .i64 s.al1]
structure SK.mem(s:SK)(B:Nat)(W:World):Prop where
 bins:s.bn=0∨∃b off,s.ba=some ⟨b,off,none⟩∧b<B∧∀i,i<s.bn→W.cell? ⟨b,off+i,none⟩=some (.slice (s.la i) (s.ln i) (s.lc i))
 rows:∀i,i<s.bn→S5 B W (s.la i) (s.ln i) (s.l i)
theorem SK.mem.below{s:SK}{B:Nat}{w w':World}(h:s.mem B w)(hb:Below B w w'):s.mem B w':=by
 refine⟨?_,fun i hi=>(h.rows i hi).below hb⟩
 rcases h.bins with h|⟨b,off,ha,hB,hc⟩
 ·exact .inl h
 ·exact .inr ⟨b,off,ha,hB,fun i hi=>((J9 hb).1 _ _ hB).trans (hc i hi)⟩
structure SK.ok(s:SK):Prop where
 parts:2≤s.P∧s.P≤1000000
 bins:1≤s.bn∧s.bn≤20
 beta: -100≤s.be0∧s.be0≤s.be1∧s.be1≤100
 alpha: -100≤s.al0∧s.al0≤s.al1∧s.al1≤100
 rows:∀i,i<s.bn→s.ln i≤40∧jE0 s.P (s.ln i) (s.l i)∧∀j,j<s.ln i→1≤(s.l i j).key∧(s.l i j).key≤1000000
theorem G2{a b c:Int}(h1:b≤a)(h2:a≤c):J1 a b c=true:=by unfold J1;rw[Z0 h1,Z0 h2];rfl
end
section
open Go Go.RowKit Go.Shelf
attribute [local go_sem] Oper.semAt_some
structure WX where
 p0:Int
 p1:Int
 x0:Int
 x1:Int
def WX.cells(x:WX):Array Value:= #[.int .i64 x.p0,.int .i64 x.p1,.int .i64 x.x0,.int .i64 x.x1]
structure WX.ok(x:WX):Prop where
 p: -1000≤x.p0∧x.p0≤x.p1∧x.p1≤1000
 x: -1000≤x.x0∧x.x0≤x.x1∧x.x1≤1000
def pk2(i:Nat)(a b:Int):Int:=if i=0 then a else b
theorem ix2(a b:Int){i:Nat}(hi:i<2):∀W:World,(Instr.index 268 (.agg #[.int .i64 a,.int .i64 b]) (.int .i64 (i:Int))).run Tryz.prog W= .ok (.int .i64 (pk2 i a b)) W:=by
 match i,hi with
 |0,_=>intro W;kernel_rfl
 |1,_=>intro W;kernel_rfl
theorem zS6{i:Nat}{a b lo hi:Int}(h:lo≤a∧a≤b∧b≤hi):lo≤pk2 i a b∧pk2 i a b≤hi:=by
 unfold pk2
 split<;>omega
theorem zB3{x y K M:Int}(hK:0≤K)(hx: -K≤x∧x≤K)(hy: -M≤y∧y≤M): -(K*M)≤x*y∧x*y≤K*M:=by
 have hM:0≤M:=by omega
 have e:(x*y).natAbs≤(K*M).natAbs:=by
  rw[Int.natAbs_mul,Int.natAbs_mul]
  exact X8 (by omega) (by omega)
 have:0≤K*M:=Int.mul_nonneg hK hM
 omega
theorem qG5(W:World)(o1 o2 o3:Obj):Below W.heap.size W (((W.alloc o1).alloc o2).alloc o3)∧(((W.alloc o1).alloc o2).alloc o3).heap[W.heap.size]?=some o1∧(((W.alloc o1).alloc o2).alloc o3).heap[W.heap.size+1]?=some o2∧(((W.alloc o1).alloc o2).alloc o3).heap[W.heap.size+1+1]?=some o3:=by
 refine⟨(((Q2 _ W).alloc (Q1 _) o1).alloc (by simp) o2).alloc (by simp;omega) o3,?_,?_,?_⟩
 ·rw[Q9 _ _ _ (by simp;omega),Q9 _ _ _ (by simp)]
  exact Q3 W o1
 ·rw[Q9 _ _ _ (by simp)]
  have:=Q3 (W.alloc o1) o2
  rwa [show(W.alloc o1).heap.size=W.heap.size+1 from by simp] at this
 ·have:=Q3 ((W.alloc o1).alloc o2) o3
  rwa [show((W.alloc o1).alloc o2).heap.size=W.heap.size+1+1 from by simp] at this
end
end Go.Proofs.YtmncaipgefbalaaGreatDoor
