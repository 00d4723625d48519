/- Part of the proof of the claim. -/
import Derived.Test.YtmncaipgefbalaaGreatDoorQab
import Derived.RangeFuncNested
import Derived.RangeFuncBound
import Derived.Shelf.RegionOpen
import Derived.OwnWalkIn
import Derived.LoopNIn
import Derived.LoopIn
set_option maxRecDepth 100000
set_option maxHeartbeats 8000000
set_option linter.unusedVariables false
set_option linter.unusedSimpArgs false
namespace Go.Proofs.YtmncaipgefbalaaGreatDoor
section
open Go Go.RowKit
theorem jG0(a:Option Addr)(N m c:Nat)(ts:Nat→TI)(w:World)(B:Nat)(hBw:B≤w.heap.size)(hT:qT5 B w a m ts)(hN:N≤1000)(hm:m≤12):
  Calls Tryz.prog 9 #[jY2 N a m c] w fun e w'=>e= .returned (.bool (qG7 N m ts))∧Below w.heap.size w w':=by
 have HT:=Hd hT
 have HY:=Hd (fun i W=>jG1 (ts i) N W hN)
 have hm1:decide (200<(m:Int))=false:=Q7 (by omega)
 have hm2:decide ((m:Int)≤200)=true:=Z0 (by omega)
 have HV:=Hd ((Q2 _ w).alloc (Q1 _) (.cells #[.int .i64 (N:Int),.slice a m c] 38))
 have hx:=Q3 w (.cells #[.int .i64 (N:Int),.slice a m c] 38)
 have HX:=Hd hx
 clear hT hx
 have HNB:=Hd (show qG7 N m ts=(M1 m (fun i=>A1 N (ts i))&&(J1 N 1 40&&decide ((m:Int)≤200))) from rfl)
 cases h1:J1 (N:Int) 1 40 with
 |false=>
  have HF:=Hd (show qG7 N m ts=false by rw[HNB.out,h1];simp)
  have H1:=Hd h1
  rw[HF.out]
  clear h1 hm2
  go_enter Tryz.func9,Tryz.ntmps9
  go_upto_region 1 with(fail)
  generalize World.alloc w _=V at*
  obtain⟨k0,k1⟩:=M7 HX.out
  simp only[P2] at k0 k1
  go_wp2_with(go_at_call 23;refine(D6 _ _ _ _).mono ?_;rintro e w' ⟨rfl,rfl⟩;rw[H1.out])
  go_ret
  exact⟨rfl,HV.out⟩
 |true=>
  have HE:=Hd (show qG7 N m ts=M1 m (fun i=>A1 N (ts i)) by rw[HNB.out,h1,hm2];simp)
  have H1:=Hd h1
  clear h1 hm2 HNB
  rw[HE.out]
  have HFA:=Hd (fun k (hk:k<m) (h:A1 N (ts k)=false)=>Y7 (f:=fun i=>A1 N (ts i)) hk h)
  have HTR:=Hd (fun(h:∀j,j<m→A1 N (ts j)=true)=>Y3 (f:=fun i=>A1 N (ts i)) h)
  generalize M1 m (fun i=>A1 N (ts i))=RES at*
  go_enter Tryz.func9,Tryz.ntmps9
  go_upto_region 1 with(fail)
  generalize World.alloc w _=V at*
  obtain⟨k0,k1⟩:=M7 HX.out
  simp only[P2] at k0 k1
  go_wp2_with(go_at_call 23;refine(D6 _ _ _ _).mono ?_;rintro e w' ⟨rfl,rfl⟩;rw[H1.out])
  clear k0 k1
  go_loopw [3] (fun x wr=>∃i:Nat,i≤m∧x= .int .i64 (i:Int)∧Hid (∀j,j<i→A1 N (ts j)=true)∧Hid (Below w.heap.size w wr)∧Hid (wr.heap[w.heap.size]?=some (.cells #[.int .i64 (N:Int),.slice a m c] 38))) (fun x _=>m-(intOf x).toNat)
  case atStart=>exact⟨0,Nat.zero_le _,rfl,Hd (fun j h=>absurd h (Nat.not_lt_zero j)),HV,HX⟩
  case round=>
   clear HV HX
   obtain⟨i,hi,rfl,HALL,HB,HX⟩:=hrel
   have hwl:w.heap.size<wr.heap.size:=J5 HX.out
   obtain⟨k0,k1⟩:=M7 HX.out
   simp only[P2] at k0 k1
   by_cases hlt:i<m
   ·have hlt':(i:Int)<(m:Int):=by omega
    obtain⟨b,off,rfl,hbB,c0,c1,c2,c3⟩:=(HT.out.below (HB.out.mono hBw)).get hlt
    have hbl:b<wr.heap.size:=by omega
    have hYi:=HY.out i
    have HFAi:=Hd (HFA.out i hlt)
    have HSU:=Hd (fun(h:A1 N (ts i)=true) j (hj:j<i+1)=>show A1 N (ts j)=true from by
     by_cases e:j=i
     ·subst e;exact h
     ·exact HALL.out j (by omega))
    generalize A1 N (ts i)=tb at*
    generalize ts i=ti at*
    obtain⟨f,t,lo,hi'⟩:=ti
    dsimp only at*
    have HYi:=Hd hYi
    clear HY hYi
    go_upto_region 6 with(fail)
    (refine J4 (wr.heap.size) (by kernel_rfl) (by kernel_rfl) ?_;(repeat(first|go_big_quiet_step((go_at_call 24;with_reducible exact Calls.calm_of (Q1 _) (HYi.out _)))|quiet_step((go_at_call 24;with_reducible exact Calls.calm_of (Q1 _) (HYi.out _)))));refine X4 (wqn ?_);intro xq)
    have hq:=xq.below
    have HB2:=Hd (HB.out.trans (hq.mono HB.out.size))
    have HX2:=Hd (Y0 HX.out hq)
    clear hq c0 c1 c2 c3 k0 k1
    generalize K9.val xq=V2 at*
    cases tb
    ·have hF:=HFAi.out rfl
     have HF:=Hd hF
     clear hF
     go_wp2
     go_ret
     exact⟨J2 HF.out.symm,HB2.out⟩
    ·go_wp2
     go_roundw
     case rel=>exact⟨i+1,by omega,by go_num,Hd (HSU.out rfl),HB2,HX2⟩
     case measure=>simp[intOf];omega
   ·obtain rfl:i=m:=by omega
    have hlt':¬(i:Int)<(i:Int):=by omega
    have HR:=Hd (HTR.out HALL.out)
    go_wp2
    go_ret
    exact⟨J2 HR.out.symm,HB.out⟩
theorem D0.at'{B:Nat}{w:World}{a:Option Addr}{n:Nat}{xs:Nat→Int}(h:D0 B w a n xs){i:Nat}(hi:i<n):∃b off,a=some ⟨b,off,none⟩∧b<B∧w.cell? ⟨b,off+i,none⟩=some (.int .i64 (xs i)):=by
 rcases h with h|⟨b,off,ha,hB,hc⟩
 ·omega
 ·exact⟨b,off,ha,hB,hc i hi⟩
theorem zO6(a:Option Addr)(n m c:Nat)(va:Option Addr)(vc:Nat)(vs:Nat→Int)(w:World)(B:Nat)(hBw:B≤w.heap.size)(hV:D0 B w va n vs)(hn:1≤n∧n≤1000)(h0:vs 0=0)(hb:∀i,i<n→-1000000≤vs i∧vs i≤1000000):
  Calls Tryz.prog 25 #[jY2 n a m c,.slice va n vc] w fun e w'=>e= .returned (.bool true)∧Below w.heap.size w w':=by
 obtain⟨b,off,rfl,hbB,c0⟩:=hV.at' (i:=0) (by omega)
 rw[h0] at c0
 have HVS:=Hd hV
 have HBD:=Hd (fun i (hi:i<n)=>J6 (a:=vs i) (b:= -1000000000000) (c:=1000000000000) (by have:=hb i hi;omega) (by have:=hb i hi;omega))
 have HV:=Hd ((Q2 _ w).alloc (Q1 _) (.cells #[.int .i64 (n:Int),.slice a m c] 38))
 have hn0:0<n:=hn.1
 have hbw:b<w.heap.size:=by omega
 have hc:=(J9 HV.out).1 b (off+0) hbw
 clear hV hb h0
 go_enter Tryz.func25,Tryz.ntmps25
 go_upto_region 1 with(fail)
 have hx:=Q3 w (.cells #[.int .i64 (n:Int),.slice a m c] 38)
 generalize World.alloc w _=V at*
 obtain⟨k0,k1⟩:=M7 hx
 simp only[P2] at k0 k1
 rw[←hc] at c0
 rw[Nat.add_zero] at c0
 clear hx hc
 go_wp2
 clear k0 k1 c0
 go_loopw [5] (fun x wr=>∃i:Nat,i≤n∧x= .int .i64 (i:Int)∧Hid (Below w.heap.size w wr)) (fun x _=>n-(intOf x).toNat)
 case atStart=>exact⟨0,Nat.zero_le _,rfl,HV⟩
 case round=>
  clear HV
  obtain⟨i,hi,rfl,HB⟩:=hrel
  by_cases hlt:i<n
  ·have hlt':(i:Int)<(n:Int):=by omega
   obtain⟨b',off',hbo,_,ci⟩:=(HVS.out.below (HB.out.mono hBw)).at' hlt
   obtain⟨rfl,rfl⟩:b=b'∧off=off':=by
    have h:=Option.some.inj hbo
    injection h with h1 h2
    exact⟨h1,h2⟩
   have HBi:=Hd (HBD.out i hlt)
   clear hbo
   go_wp2_with(go_at_call 23;refine(D6 _ _ _ _).mono ?_;rintro e w' ⟨rfl,rfl⟩;rw[HBi.out])
   go_roundw
   case rel=>exact⟨i+1,by omega,by go_num,HB⟩
   case measure=>simp[intOf];omega
  ·obtain rfl:i=n:=by omega
   have hlt':¬(i:Int)<(i:Int):=by omega
   go_wp2
   go_ret
   exact⟨rfl,HB.out⟩
theorem xD4(t:TI)(n:Nat)(va:Option Addr)(vc:Nat)(vs:Nat→Int)(w:World)(B:Nat)(hBw:B≤w.heap.size)(hV:D0 B w va n vs)(hn:n≤1000)(ht:A1 n t=true)(hb:∀i,i<n→-1000000≤vs i∧vs i≤1000000):
  Calls Tryz.prog 26 #[.agg #[.int .i64 t.frm,.int .i64 t.tow,.int .i64 t.lo,.int .i64 t.hi],.slice va n vc] w fun e w'=>e= .returned (.bool (qY1 t vs))∧Below w.heap.size w w':=by
 obtain⟨h1,h2,h3,h4,h5,h6⟩:=qN8.1 ht
 obtain⟨f,t,lo,hi⟩:=t
 unfold qY1
 dsimp only at*
 obtain⟨f,rfl⟩:∃k:Nat,f=k:=⟨f.toNat,by omega⟩
 obtain⟨t,rfl⟩:∃k:Nat,t=k:=⟨t.toNat,by omega⟩
 simp only[Int.toNat_natCast]
 have hfn:f<n:=by omega
 have htn:t<n:=by omega
 have HV:=Hd ((Q2 _ w).alloc (Q1 _) (.cells #[.int .i64 (f:Int),.int .i64 (t:Int),.int .i64 lo,.int .i64 hi] 83))
 obtain⟨b,off,rfl,hbB,cf⟩:=(hV.below (HV.out.mono hBw)).at' hfn
 obtain⟨b',off',hbo,_,ct⟩:=(hV.below (HV.out.mono hBw)).at' htn
 obtain⟨rfl,rfl⟩:b=b'∧off=off':=by
  have h:=Option.some.inj hbo
  injection h with h1 h2
  exact⟨h1,h2⟩
 have bf:=hb f hfn
 have bt:=hb t htn
 obtain⟨vf,evf⟩:∃v,vs f=v:=⟨_,rfl⟩
 obtain⟨vt,evt⟩:∃v,vs t=v:=⟨_,rfl⟩
 simp only[evf] at cf bf ⊢
 simp only[evt] at ct bt ⊢
 have hf':(f:Int)<(n:Int):=by omega
 have ht':(t:Int)<(n:Int):=by omega
 have hw:IntKind.i64.wrap (vt-vf)=vt-vf:=Z1 _ (by omega)
 have hbl:=HV.out.size
 clear hV hb ht h1 h2 h3 h4 h5 h6 hbo evf evt
 have key:∀(p q r s:Bool),(lo== -1000000000000)=p→decide (lo≤vt-vf)=q→(hi==1000000000000)=r→decide (vt-vf≤hi)=s→Calls Tryz.prog 26 #[.agg #[.int .i64 (f:Int),.int .i64 (t:Int),.int .i64 lo,.int .i64 hi],.slice (some ⟨b,off,none⟩) n vc] w fun e w'=>e= .returned (.bool ((p||q)&&(r||s)))∧Below w.heap.size w w':=by
  intro p q r s e1 e2 e3 e4
  have e2':decide (vt-vf≥lo)=q:=e2
  cases p<;>cases q<;>cases r<;>cases s<;>(
   simp only[Bool.or_false,Bool.or_true,Bool.and_false,Bool.and_true,Bool.false_or,Bool.true_or,Bool.false_and,Bool.true_and]
   go_enter Tryz.func26,Tryz.ntmps26
   go_upto_region 1 with(fail)
   have hx:=Q3 w (.cells #[.int .i64 (f:Int),.int .i64 (t:Int),.int .i64 lo,.int .i64 hi] 83)
   generalize World.alloc w _=V at*
   obtain⟨k0,k1,k2,k3⟩:=cr4 hx
   simp only[P2] at k0 k1 k2 k3
   have hxl:=J5 hx
   have hbV:b<V.heap.size:=by omega
   (refine J4 (V.heap.size) (by kernel_rfl) (by kernel_rfl) ?_;(repeat(first|go_big_quiet_step(fail)|quiet_step(fail)));refine X4 (wqn ?_);intro xq)
   have hq:=xq.below
   have HB2:=Hd (HV.out.trans (hq.mono HV.out.size))
   have hx2:=Y0 hx hq
   clear k0 k1 k2 k3 hx hq cf ct
   generalize K9.val xq=V2 at*
   obtain⟨k0,k1,k2,k3⟩:=cr4 hx2
   simp only[P2] at k0 k1 k2 k3
   go_wp2
   go_ret
   exact⟨rfl,HB2.out⟩)
 exact key _ _ _ _ rfl rfl rfl rfl
end
section
open Go.RowKit
structure GV where
 z:Int
 lo:Int
 hi:Int
def qK9(B:Nat)(w:World)(a:Option Addr)(n:Nat)(gs:Nat→GV):Prop:=
 n=0∨∃b off,a=some ⟨b,off,none⟩∧b<B∧∀i,i<n→w.cell? ⟨b,off+i*3,none⟩=some (.int .i64 (gs i).z)∧w.cell? ⟨b,off+i*3+1,none⟩=some (.int .i64 (gs i).lo)∧w.cell? ⟨b,off+i*3+2,none⟩=some (.int .i64 (gs i).hi)
theorem qK9.below{B:Nat}{w w':World}{a:Option Addr}{n:Nat}{gs:Nat→GV}(h:qK9 B w a n gs)(hb:Below B w w'):qK9 B w' a n gs:=by
 rcases h with h|⟨b,off,ha,hB,hc⟩
 ·exact .inl h
 ·have c:=(J9 hb).1
  exact .inr ⟨b,off,ha,hB,fun i hi=>⟨(c _ _ hB).trans (hc i hi).1,(c _ _ hB).trans (hc i hi).2.1,(c _ _ hB).trans (hc i hi).2.2⟩⟩
theorem qK9.up{B B':Nat}{w:World}{a:Option Addr}{n:Nat}{gs:Nat→GV}(h:qK9 B w a n gs)(hb:B≤B'):qK9 B' w a n gs:=by
 rcases h with h|⟨b,off,ha,hB,hc⟩
 ·exact .inl h
 ·exact .inr ⟨b,off,ha,by omega,hc⟩
def qZ2(p:PR)(drift:Int):Nat→Int
 |0=>0
 |k+1=>if(p.ds k).time≤drift-p.jitter then(p.ds k).lo else qZ2 p drift k
def qK0(p:PR)(drift:Int):Nat→Int
 |0=>p.pitch/2
 |m+1=>if drift+p.jitter≤(p.ds (p.dn-1-m)).time then(p.ds (p.dn-1-m)).hi else qK0 p drift m
def gA(p:PR)(h:HV):Int:=p.first+(h.channel+h.many-1)*p.pitch-p.spill
def gB(p:PR)(h:HV):Int:=p.first+(h.channel+1)*p.pitch+p.spill
def gW(p:PR)(h:HV):Int:=p.first+h.channel*p.pitch
def gR(p:PR)(h:HV):Int:=qZ2 p h.drift p.dn
def gF(p:PR)(h:HV):Int:=qK0 p h.drift p.dn
def zC4(p:PR)(h:HV):Bool:=decide (gW p h+gR p h+p.olo≤gW p h-gR p h+p.ohi)
def C2(p:PR)(h:HV):Nat:=if p.kind=2 then(if zC4 p h=true then 1 else 2) else(if gB p h<gA p h then 0 else 1)
def Y5(p:PR)(h:HV)(i:Nat):GV:=
 if p.kind=2 then(if zC4 p h=true then⟨p.z,gW p h-gF p h+p.olo,gW p h+gF p h+p.ohi⟩ else if i=0 then⟨p.z,gW p h-gF p h+p.olo,gW p h-gR p h+p.ohi⟩ else⟨p.z,gW p h+gR p h+p.olo,gW p h+gF p h+p.ohi⟩)
 else⟨p.z,gA p h+p.olo,gB p h+p.ohi⟩
def jF4(w:World)(p:PR)(h:HV)(e:Ending)(w':World):Prop:=
 ∃a c,e= .returned (.slice a (C2 p h) c)∧(C2 p h=0→a=none∧c=0)∧qK9 w'.heap.size w' a (C2 p h) (Y5 p h)∧Below w.heap.size w w'
theorem T0{x q:Int}(h1:0≤x)(h2:x≤2001)(h3:2≤q)(h4:q≤100000):0≤x*q∧x*q≤200100000:=by
 refine⟨Int.mul_nonneg h1 (by omega),?_⟩
 have:=Int.mul_le_mul (a:=x) (b:=q) (c:=2001) (d:=100000) h2 h4 (by omega) (by omega)
 omega
theorem qA3{p:PR}{drift:Int}(h:E6 p.pitch p.dn p.ds=true)(hp:p.pitch≤100000)(hp2:2≤p.pitch):∀k,k≤p.dn→0≤qZ2 p drift k∧qZ2 p drift k≤50000
 |0,_=>by simp[qZ2]
 |k+1,hk=>by
  have hs:I4 p.pitch p.ds k=true:=by
   simp only[E6,Q8,Y9] at h
   exact h.1 k hk
  rw[qK3] at hs
  have ih:=qA3 h hp hp2 (drift:=drift) k (by omega)
  rw[qZ2]
  split<;>omega
theorem qA2{p:PR}{drift:Int}(h:E6 p.pitch p.dn p.ds=true)(hp:p.pitch≤100000)(hp2:2≤p.pitch):∀k,k≤p.dn→0≤qK0 p drift k∧qK0 p drift k≤50000
 |0,_=>by simp only[qK0];omega
 |k+1,hk=>by
  have hs:I4 p.pitch p.ds (p.dn-1-k)=true:=by
   simp only[E6,Q8,Y9] at h
   exact h.1 _ (by omega)
  rw[qK3] at hs
  have ih:=qA2 h hp hp2 (drift:=drift) k (by omega)
  rw[qK0]
  split<;>omega
theorem zM7{p:PR}(h:K6 p=true)(hk:p.kind=2):E6 p.pitch p.dn p.ds=true:=by
 simp only[K6,Q8] at h
 have:=h.2.2.1
 simpa [U8,hk] using this
theorem xN7{p:PR}{h:HV}(hh:C7 p h=true)(hk:p.kind=2):0≤h.drift∧h.drift≤1000000:=by
 simp only[C7,Q8] at hh
 have:=hh.2.2
 simp only[F9,hk,if_true,Q8] at this
 exact J8.1 this.2
theorem xN4{p:PR}{h:HV}(hk:¬p.kind=2)(hg:gB p h<gA p h):C2 p h=0:=by rw[C2,if_neg hk,if_pos hg]
theorem xY0{p:PR}{h:HV}(hk:¬p.kind=2)(hg:¬gB p h<gA p h):C2 p h=1:=by rw[C2,if_neg hk,if_neg hg]
theorem jU7{p:PR}{h:HV}{r:Int}(hr:r=qZ2 p h.drift p.dn)(ho:gW p h+r+p.olo≤gW p h-r+p.ohi):zC4 p h=true:=by rw[hr] at ho;exact Z0 ho
theorem kY6{p:PR}{h:HV}{r:Int}(hr:r=qZ2 p h.drift p.dn)(ho:¬gW p h+r+p.olo≤gW p h-r+p.ohi):¬zC4 p h=true:=by rw[hr] at ho;intro e;exact ho (of_decide_eq_true e)
theorem jJ6{p:PR}{h:HV}(hk:p.kind=2)(ho:zC4 p h=true):C2 p h=1:=by rw[C2,if_pos hk,if_pos ho]
theorem jJ7{p:PR}{h:HV}(hk:p.kind=2)(ho:¬zC4 p h=true):C2 p h=2:=by rw[C2,if_pos hk,if_neg ho]
theorem qV9{p:PR}{h:HV}{i:Nat}(hk:¬p.kind=2):Y5 p h i=⟨p.z,gA p h+p.olo,gB p h+p.ohi⟩:=by rw[Y5,if_neg hk]
theorem jJ5{p:PR}{h:HV}{i:Nat}{f:Int}(hf:f=qK0 p h.drift p.dn)(hk:p.kind=2)(ho:zC4 p h=true):Y5 p h i=⟨p.z,gW p h-f+p.olo,gW p h+f+p.ohi⟩:=by rw[Y5,if_pos hk,if_pos ho,hf];rfl
theorem xN3{p:PR}{h:HV}{f r:Int}(hr:r=qZ2 p h.drift p.dn)(hf:f=qK0 p h.drift p.dn)(hk:p.kind=2)(ho:¬zC4 p h=true):Y5 p h 0=⟨p.z,gW p h-f+p.olo,gW p h-r+p.ohi⟩:=by rw[Y5,if_pos hk,if_neg ho,if_pos rfl,hf,hr];rfl
theorem xV9{p:PR}{h:HV}{f r:Int}(hr:r=qZ2 p h.drift p.dn)(hf:f=qK0 p h.drift p.dn)(hk:p.kind=2)(ho:¬zC4 p h=true):Y5 p h 1=⟨p.z,gW p h+r+p.olo,gW p h+f+p.ohi⟩:=by rw[Y5,if_pos hk,if_neg ho,if_neg (by decide),hf,hr];rfl
theorem xY9{p:PR}{h:HV}(hh:C7 p h=true):(0≤h.channel∧h.channel≤p.strips-1)∧(1≤h.many∧h.many≤p.strips-h.channel)∧(p.least≤h.charge∧h.charge≤1000000)∧(-1000000000≤h.time∧h.time≤1000000000):=by
 simp only[C7,Q8] at hh
 exact qS2.1 hh.1
end
section
open Go.RowKit Go.Shelf
attribute [local go_sem] Oper.semAt_some
def qE5{α:Type}(f:Nat→α)(k:Nat):List α:=(List.range k).map f
theorem zQ9{α:Type}(f:Nat→α)(k:Nat):qE5 f (k+1)=qE5 f k++[f k]:=by simp[qE5,List.range_succ]
theorem xF1{α:Type}(f:Nat→α)(k:Nat):(qE5 f k).length=k:=by simp[qE5]
def I9(n₀ Bs:Nat)(W W':World):Prop:=Below n₀ W W'∧W'.cell? ⟨Bs,0,none⟩=W.cell? ⟨Bs,0,none⟩
theorem I9.trans{n₀ Bs:Nat}{A B C:World}(h:I9 n₀ Bs A B)(k:I9 n₀ Bs B C):I9 n₀ Bs A C:=⟨h.1.trans k.1,k.2.trans h.2⟩
def qC0(n:Nat)(ds:Nat→DV)(j:Nat):Nat×DV:=(n-1-j,ds (n-1-j))
abbrev jP4(x:Nat×DV):Array Value:= #[.int .i64 (x.1:Int),.agg #[.int .i64 x.2.time,.int .i64 x.2.lo,.int .i64 x.2.hi]]
theorem jM4(n:Nat)(hn:1≤n)(l Bs n₀ b off len cap:Nat)(ds:Nat→DV)(hlen:len≤9223372036854775807)(hb:b<n₀)(J Jx:List (Nat×DV)→World→Prop)
  (hY:∀pre x W,J pre W→pre.length<len→YieldAt Fence.wide (n-1) Tryz.prog l (jP4 x) W fun e W'=>
   (e= .returned (.bool true)∧J (pre++[x]) W'∧I9 n₀ Bs W W')∨(e= .returned (.bool false)∧Jx (pre++[x]) W'))
  (W:World) (hBs:W.cell? ⟨Bs,0,none⟩=some (.slice (some ⟨b,off,none⟩) len cap))
  (hc:∀i,i<len→W.cell? ⟨b,off+i*3,none⟩=some (.int .i64 (ds i).time)∧W.cell? ⟨b,off+i*3+1,none⟩=some (.int .i64 (ds i).lo)∧W.cell? ⟨b,off+i*3+2,none⟩=some (.int .i64 (ds i).hi)) (h0:J [] W):
  CallsIn Fence.wide n Tryz.prog 144 #[.func (.yield l) #[] #[],.pointer (some ⟨Bs,0,none⟩)] W fun e W'=>(∃v,e= .returned v)∧
   ((∃ys,ys=qE5 (qC0 len ds) len∧J ys W')∨(∃pre,(∃k,k≤len∧pre=qE5 (qC0 len ds) k)∧Jx pre W')):=by
 refine callsIn_of_wp Tryz.func144 rfl trivial ?_ rfl
 simp only[Tryz.ntmps144,List.size_toArray,List.length_cons,List.length_nil,Nat.reduceAdd,Nat.reduceSub,Array.replicate_succ,Array.replicate_zero,List.push_toArray,List.append_toArray,List.nil_append,List.cons_append]
 gi_wp2
 gi_loopw [3] (fun t wr=>∃j m:Nat,j+m=len∧t= .int .i64 ((j:Int)-1)∧J (qE5 (qC0 len ds) m) wr∧I9 n₀ Bs W wr) (fun t _=>(intOf t+1).toNat)
 case atStart=>exact⟨len,0,rfl,rfl,h0,Q2 _ _,rfl⟩
 case round=>
  obtain⟨j,m,hjm,rfl,hJs,hnx⟩:=hrel
  have HJ:=Hd hjm
  by_cases hlt:0<j
  ·obtain⟨c0,c1,c2⟩:=hc (j-1) (by omega)
   have k0:=(hnx.1.cell (p:=⟨b,off+(j-1)*3,none⟩) hb).trans c0
   have k1:=(hnx.1.cell (p:=⟨b,off+(j-1)*3+1,none⟩) hb).trans c1
   have k2:=(hnx.1.cell (p:=⟨b,off+(j-1)*3+2,none⟩) hb).trans c2
   have kb:=hnx.2.trans hBs
   have hi4:j-1<len:=by omega
   have hi1:(1:Int)≤(j:Int):=by omega
   have hbk:qC0 len ds m=(j-1,ds (j-1)):=by unfold qC0;rw[show len-1-m=j-1 by omega]
   have HBK:=Hd hbk
   obtain⟨fn,tmps,assign,body,hy,hR⟩:=hY _ (j-1,ds (j-1)) wr hJs (by rw[xF1];omega)
   unfold jP4 at hy
   dsimp only at hy
   rw[show(((j-1:Nat):Int))=(j:Int)-1 by omega] at hy
   clear hY hc c0 c1 c2 hbk hjm
   gi_wp2
   refine hR.mono ?_
   rintro e W3 (⟨rfl,hJ3,hk3⟩|⟨rfl,hJx3⟩)
   ·gi_wp2
    go_roundw
    case rel=>exact⟨j-1,m+1,by have:=HJ.out;omega,congrArg (Value.int .i64) (by omega),by rw[zQ9,HBK.out];exact hJ3,hnx.trans hk3⟩
    case measure=>simp[intOf];omega
   ·gi_wp2
    refine Z2 (results_none rfl _ _ _) rfl ?_
    exact⟨⟨_,rfl⟩,.inr ⟨_,⟨m+1,by have:=HJ.out;omega,by rw[zQ9,HBK.out]⟩,hJx3⟩⟩
  ·obtain rfl:j=0:=by omega
   obtain rfl:m=len:=by omega
   gi_wp2
   go_end0
   exact⟨⟨_,rfl⟩,.inl ⟨_,rfl,hJs⟩⟩
theorem jM3(n:Nat)(l Bs cap:Nat)(a:Option Addr)(J:List (Nat×DV)→World→Prop)(W:World)(hBs:W.cell? ⟨Bs,0,none⟩=some (.slice a 0 cap))(h0:J [] W):
  CallsIn Fence.wide n Tryz.prog 144 #[.func (.yield l) #[] #[],.pointer (some ⟨Bs,0,none⟩)] W fun e W'=>(∃v,e= .returned v)∧J [] W':=by
 refine callsIn_of_wp Tryz.func144 rfl trivial ?_ rfl
 simp only[Tryz.ntmps144,List.size_toArray,List.length_cons,List.length_nil,Nat.reduceAdd,Nat.reduceSub,Array.replicate_succ,Array.replicate_zero,List.push_toArray,List.append_toArray,List.nil_append,List.cons_append]
 gi_wp2
 gi_loopw [3] (fun t wr=>t= .int .i64 (-1)∧J [] wr) (fun _ _=>0)
 case atStart=>exact⟨rfl,h0⟩
 case round=>
  obtain⟨rfl,hJs⟩:=hrel
  gi_wp2
  go_end0
  exact⟨⟨_,rfl⟩,hJs⟩
theorem jM5(a:Option Addr)(len cap:Nat)(w:World):
  Calls Tryz.prog 107 #[.slice a len cap] w fun e w'=>e= .returned (.func (.func 144) #[] #[.pointer (some ⟨w.heap.size,0,none⟩)])∧w.alloc (.cells #[.slice a len cap] 48)=w':=by
 go_enter Tryz.func107,Tryz.ntmps107
 go_wp2
 go_ret
 exact⟨rfl,rfl⟩
theorem xL0(n:Nat)(hn:1≤n)(Bs n₀:Nat)(a:Option Addr)(len cap:Nat)(ds:Nat→DV)(hlen:len≤9223372036854775807)(w:World)(hBs:Bs<w.heap.size)(hn₀:n₀≤w.heap.size)
  (hc:w.cell? ⟨Bs,0,none⟩=some (.slice a len cap)) (hD:R8 n₀ w a len ds):
  SeqStopsK Fence.wide n Tryz.prog 144 #[.pointer (some ⟨Bs,0,none⟩)] jP4 (I9 n₀ Bs) (fun ys=>ys=qE5 (qC0 len ds) len) (fun pre=>∃k,k≤len∧pre=qE5 (qC0 len ds) k) len w:=fun l J Jx W hW _ _ hY h0=>by
 have hc':=(hW.cell (p:=⟨Bs,0,none⟩) hBs).trans hc
 rcases hD.below (hW.mono hn₀) with rfl|⟨b,off,rfl,hb,hcs⟩
 ·exact(jM3 n l Bs cap a J W hc' h0).mono fun e W' ⟨he,hj⟩=>⟨he,.inl ⟨_,rfl,hj⟩⟩
 ·exact jM4 n hn l Bs n₀ b off len cap ds hlen hb J Jx hY W hc' hcs h0
end
section
open Go.RowKit
theorem qR3(b:Nat):∀(vs:List Value) (o:Nat) (w:World),w.drew.setCells b o vs=(w.setCells b o vs).drew
 |[],_,_=>rfl
 |v::r,o,w=>by rw[World.setCells,World.setCells,World.setCell_drew,qR3 b r]
attribute [go_sem] qR3
theorem C3{P:Program}{fn:Func}{p u:Tmp}{ty:TypeId}{d:TypeDesc}(h:fn.results= #[.cell p ty,.tmp u])(tmps:Array Value)(w:World)(g:Nat)(cs:List Value)(hp:tmps.getD p undef= .pointer (some ⟨g,0,none⟩))(hr:w.rangeAt g 0 cs)
  (hu:P.underlying ty=some d) (hd:d.isRow=true) (hi:(P.info? ty).map (·.size)=some cs.length):(results fn tmps).run P w= .ok (.tuple #[.agg cs.toArray,tmps.getD u undef]) w:=by
 rw[results_cell_tmp h,hp]
 simp[asAddr,run_loadVar_mid w g 0 ty cs d hr hu hd hi]
theorem xQ2{P:Program}{fn:Func}{p:Tmp}{ty:TypeId}{d:TypeDesc}(h:fn.results= #[.cell p ty])(tmps:Array Value)(w:World)(g:Nat)(cs:List Value)(hp:tmps.getD p undef= .pointer (some ⟨g,0,none⟩))(hr:w.rangeAt g 0 cs)
  (hu:P.underlying ty=some d) (hd:d.isRow=true) (hi:(P.info? ty).map (·.size)=some cs.length):(results fn tmps).run P w= .ok (.agg cs.toArray) w:=by
 have hp':tmps[p]?.getD undef= .pointer (some ⟨g,0,none⟩):=by simpa using hp
 simp[results,h,hp',asAddr,run_loadVar_mid w g 0 ty cs d hr hu hd hi]
theorem kG6{w:World}{g:Nat}{c0 c1 c2 c3 c4 c5 c6 c7 c8 c9 c10 c11 c12 c13 c14 c15:Value}(h:w.cell? ⟨g,0,none⟩=some c0∧w.cell? ⟨g,1,none⟩=some c1∧w.cell? ⟨g,2,none⟩=some c2∧w.cell? ⟨g,3,none⟩=some c3∧w.cell? ⟨g,4,none⟩=some c4∧w.cell? ⟨g,5,none⟩=some c5∧w.cell? ⟨g,6,none⟩=some c6∧w.cell? ⟨g,7,none⟩=some c7∧w.cell? ⟨g,8,none⟩=some c8∧w.cell? ⟨g,9,none⟩=some c9∧w.cell? ⟨g,10,none⟩=some c10∧w.cell? ⟨g,11,none⟩=some c11∧w.cell? ⟨g,12,none⟩=some c12∧w.cell? ⟨g,13,none⟩=some c13∧w.cell? ⟨g,14,none⟩=some c14∧w.cell? ⟨g,15,none⟩=some c15):w.rangeAt g 0 [c0,c1,c2,c3,c4,c5,c6,c7,c8,c9,c10,c11,c12,c13,c14,c15]:=by
 obtain⟨h0,h1,h2,h3,h4,h5,h6,h7,h8,h9,h10,h11,h12,h13,h14,h15⟩:=h
 intro j v hv
 rw[Nat.zero_add]
 match j,hv with|0,hv=>(simp at hv;subst hv;exact h0)|1,hv=>(simp at hv;subst hv;exact h1)|2,hv=>(simp at hv;subst hv;exact h2)|3,hv=>(simp at hv;subst hv;exact h3)|4,hv=>(simp at hv;subst hv;exact h4)|5,hv=>(simp at hv;subst hv;exact h5)|6,hv=>(simp at hv;subst hv;exact h6)|7,hv=>(simp at hv;subst hv;exact h7)|8,hv=>(simp at hv;subst hv;exact h8)|9,hv=>(simp at hv;subst hv;exact h9)|10,hv=>(simp at hv;subst hv;exact h10)|11,hv=>(simp at hv;subst hv;exact h11)|12,hv=>(simp at hv;subst hv;exact h12)|13,hv=>(simp at hv;subst hv;exact h13)|14,hv=>(simp at hv;subst hv;exact h14)|15,hv=>(simp at hv;subst hv;exact h15)|k+16,hv=>simp at hv
end
section
open Go.RowKit Go.Shelf
attribute [local go_sem] Oper.semAt_some
theorem L1{W:World}{o:Obj}{b j:Nat}(h:b<W.heap.size):(W.alloc o).cell? ⟨b,j,none⟩=W.cell? ⟨b,j,none⟩:=X5 (Q9 W o b h)
theorem qZ5{W:World}{o:Obj}{b j:Nat}(h:b<W.heap.size):(W.alloc o).frozen? ⟨b,j,none⟩=W.frozen? ⟨b,j,none⟩:=World.frozen?_of_block (Q9 W o b h)
theorem L6{W:World}{v:Value}{b b' i j:Nat}(h:b'≠b):(W.setCell ⟨b,j,none⟩ v).cell? ⟨b',i,none⟩=W.cell? ⟨b',i,none⟩:=X5 (Below.heap_setCell W ⟨b,j,none⟩ v b' h)
theorem zS7{W:World}{o:Obj}{l b j:Nat}(h:b≠l):(W.putObj l o).cell? ⟨b,j,none⟩=W.cell? ⟨b,j,none⟩:=X5 (by simp[World.putObj];rw[Array.getElem?_setIfInBounds_ne (by omega)])
def jK4(t h:Int):List (Nat×DV)→Int:=List.foldl (fun s x=>if t≤x.2.time then x.2.hi else s) h
theorem qO7(t h:Int)(pre:List (Nat×DV))(x:Nat×DV):jK4 t h (pre++[x])=if t≤x.2.time then x.2.hi else jK4 t h pre:=by simp[jK4]
theorem jG2(p:PR)(ix drift:Int)(w:World)(B:Nat)(hBw:B≤w.heap.size)(hm:p.mem B w)(hS:S8 p)(hd:0≤drift∧drift≤1000000):
  Calls Tryz.prog 76 #[p.placed ix,.int .i64 drift] w fun e w'=>e= .returned (.tuple #[.int .i64 (qZ2 p drift p.dn),.int .i64 (qK0 p drift p.dn)])∧Below w.heap.size w w':=by
 obtain⟨hdn,hen,hD,hI⟩:=hm
 obtain⟨d1,d2⟩:=hd
 obtain⟨j1,j2⟩:=hS.jitter
 obtain⟨b1,b2⟩:=hS.pitch
 have HD:=Hd hD
 have hL:∀k,qZ2 p drift (k+1)=if(p.ds k).time≤drift-p.jitter then(p.ds k).lo else qZ2 p drift k:=fun _=>rfl
 have hL0:qZ2 p drift 0=0:=rfl
 have hH:∀m,qK0 p drift (m+1)=if drift+p.jitter≤(p.ds (p.dn-1-m)).time then(p.ds (p.dn-1-m)).hi else qK0 p drift m:=fun _=>rfl
 have hH0:qK0 p drift 0=p.pitch/2:=rfl
 generalize qZ2 p drift=RL at*
 generalize qK0 p drift=RH at*
 have HL:=Hd hL
 have HL0:=Hd hL0
 have HH:=Hd hH
 have HH0:=Hd hH0
 clear hD hI hen hS hL hL0 hH hH0
 unfold maxLen at hdn
 obtain⟨kind,view,z,first,pitch,strips,spill,olo,ohi,clo,chi,jitter,least,da,dn,dc,ea,en,ec,ds,es⟩:=p
 dsimp only at*
 refine(callsIn_wide (n:=6)).1 ?_
 refine callsIn_of_wp_marks Tryz.func76 rfl trivial ?_ rfl
 simp only[Tryz.ntmps76,List.size_toArray,List.length_cons,List.length_nil,Nat.reduceAdd,Nat.reduceSub,Array.replicate_succ,Array.replicate_zero,List.push_toArray,List.append_toArray,List.nil_append,List.cons_append]
 refine wpIn_wide.2 ?_
 go_wp2
 go_region
 go_wp2
 go_loopw [20,6,9] (fun t lo _ wr=>∃k:Nat,k≤dn∧t= .int .i64 k∧lo= .int .i64 (RL k)∧wr.cell? ⟨w.heap.size,11,none⟩=some (.int .i64 jitter)∧wr.cell? ⟨w.heap.size,13,none⟩=some (.slice da dn dc)∧wr.cell? ⟨w.heap.size+1,0,none⟩=some (.int .i64 drift)∧wr.cell? ⟨w.heap.size+2,0,none⟩=some (.int .i64 (pitch/2))∧wr.frozen? ⟨w.heap.size+2,0,none⟩=false∧w.heap.size+3≤wr.heap.size∧Below w.heap.size w wr) (fun t _ _ _=>dn-(intOf t).toNat)
 case atStart=>exact⟨0,Nat.zero_le _,rfl,by rw[HL0.out],by go_simp,by go_simp,by go_simp,by go_simp,by go_simp,by simp,Below.drew ((((Q2 _ _).alloc (Q1 _) _).alloc (by simp) _).alloc (by simp;omega) _)⟩
 case round=>
  obtain⟨k,hk,rfl,rfl,v0,v1,v2,v3,v4,hz,hbx⟩:=hrel
  by_cases hlt:k<dn
  ·rcases HD.out with hd|⟨b,off,rfl,hbs,hcell⟩
   ·omega
   obtain⟨c0,c1,c2⟩:=hcell k hlt
   have k0:=(hbx.cell (p:=⟨b,off+k*3,none⟩) (by show b<_;omega)).trans c0
   have k1:=(hbx.cell (p:=⟨b,off+k*3+1,none⟩) (by show b<_;omega)).trans c1
   have k2:=(hbx.cell (p:=⟨b,off+k*3+2,none⟩) (by show b<_;omega)).trans c2
   have hz1:w.heap.size<wr.heap.size:=by omega
   have hz2:w.heap.size+1<wr.heap.size:=by omega
   have hz3:w.heap.size+2<wr.heap.size:=by omega
   clear hcell c0 c1 c2
   by_cases ht:(ds k).time≤drift-jitter
   ·have HR:=Hd (show RL (k+1)=(ds k).lo by rw[HL.out,if_pos ht])
    go_wp2
    go_roundw
    case rel=>exact⟨k+1,by omega,by go_num,by rw[HR.out],by go_simp,by go_simp,by go_simp,by go_simp,by go_simp,by simp;omega,hbx.alloc (by omega) _⟩
    case measure=>simp[intOf];omega
   ·have HR:=Hd (show RL (k+1)=RL k by rw[HL.out,if_neg ht])
    go_wp2
    go_roundw
    case rel=>exact⟨k+1,by omega,by go_num,by rw[HR.out],by go_simp,by go_simp,by go_simp,by go_simp,by go_simp,by simp;omega,hbx.alloc (by omega) _⟩
    case measure=>simp[intOf];omega
  ·obtain rfl:k=dn:=by omega
   clear hlt
   go_wp2_with(go_at_call 107;refine(jM5 _ _ _ _).mono ?_;rintro e w' ⟨rfl,rfl⟩)
   refine(wpIn_wide (n:=6)).1 ?_
   refine wpIn_rangeFunc_ownH (α:=Nat×DV) (F:=Fence.wide) (n:=6) rfl (by decide) (gf:=144) (lb:= #[.pointer (some ⟨wr.heap.size,0,none⟩)]) rfl trivial (enters_of Tryz.func144 (by kernel_rfl) rfl)
    (xL0 (6-1) (by decide) wr.heap.size w.heap.size da k dc ds (by omega) (wr.alloc (.cells #[.slice da k dc] 48)) (by simp) (by simp;omega) (by simp) ((HD.out.up hBw).below (hbx.alloc (by omega) _))) I9.trans ?hKb (Q2 _ _) (fun _=>rfl)
    (fun pre W=>(W.cell? ⟨w.heap.size,11,none⟩=some (.int .i64 jitter)∧W.cell? ⟨w.heap.size+1,0,none⟩=some (.int .i64 drift)∧W.cell? ⟨w.heap.size+2,0,none⟩=some (.int .i64 (jK4 (drift+jitter) (pitch/2) pre))∧W.frozen? ⟨w.heap.size+2,0,none⟩=false∧wr.heap.size<W.heap.size)∧Below w.heap.size w W)
    (fun _ _ _=>False)
    (OwnFrom.and (Own.from (fun s A B row hs hg hr=>⟨cell_kept hs.1 hg hr,cell_kept hs.2.1 hg hr,cell_kept hs.2.2.1 hg hr,(frozen_kept hs.2.2.1 hg hr).trans hs.2.2.2.1,Z4 hs.2.2.2.2 hg.size⟩) _) (ownFrom_below (Q1 _) (by simp;omega)))
    (fun _ _ _ _ _ hs _ _=>hs)
    ?h0 (fun x a' W=>∃Bx,(w.heap.size+3≤Bx∧W.cell? ⟨Bx,0,none⟩=some (.int .i64 x.2.time)∧W.cell? ⟨Bx,1,none⟩=some (.int .i64 x.2.lo)∧W.cell? ⟨Bx,2,none⟩=some (.int .i64 x.2.hi))∧a'={tmps:= #[PR.placed ⟨kind,view,z,first,pitch,strips,spill,olo,ohi,clo,chi,jitter,least,da,k,dc,ea,en,ec,ds,es⟩ ix,.int .i64 drift,.pointer (some ⟨w.heap.size,0,none⟩),.pointer (some ⟨w.heap.size+1,0,none⟩),.int .i64 0,.int .i64 0,.int .i64 (RL k),.pointer (some ⟨w.heap.size+1+1,0,none⟩),undef,u9,undef,.pointer (some ⟨Bx,0,none⟩),.pointer (some ⟨w.heap.size,0,none⟩),.pointer (some ⟨w.heap.size,4,none⟩),.int .i64 pitch,.int .i64 (pitch/2),.pointer (some ⟨w.heap.size,0,none⟩),.pointer (some ⟨w.heap.size,13,none⟩),.slice da k dc,.int .i64 k,.int .i64 k,.bool false,u22,u23,u24,u25,u26,u27,u28,u29,u30,u31,u32,u33,u34,u35,.pointer (some ⟨w.heap.size,0,none⟩),.pointer (some ⟨w.heap.size,13,none⟩),.slice da k dc,.func (.func 144) #[] #[.pointer (some ⟨wr.heap.size,0,none⟩)],.int .i64 x.1,.agg #[.int .i64 x.2.time,.int .i64 x.2.lo,.int .i64 x.2.hi],undef,undef,undef,undef,undef,undef,undef,undef,undef,undef,undef,undef,undef],defers:=[]})
    (fun x a'=>Own.from (fun s A B row hs hg hr=>by obtain⟨Bx,⟨h1,h2,h3,h4⟩,he⟩:=hs;exact⟨Bx,⟨h1,cell_kept h2 hg hr,cell_kept h3 hg hr,cell_kept h4 hg hr⟩,he⟩) _) ?assign ?body ?done ?stop
   case hKb=>
    intro W l o o' hl ho h1 h2
    have hne:wr.heap.size≠l:=by simp at hl;omega
    exact⟨belowK_b (w:=w) (Q1 _) W l o o' (by simp at hl;omega) ho h1 h2,zS7 hne⟩
   case h0=>exact⟨⟨(L1 (by omega)).trans v0,(L1 (by omega)).trans v2,(L1 (by omega)).trans v3,(qZ5 (by omega)).trans v4,by simp⟩,hbx.alloc (by omega) _⟩
   case assign=>
    rintro l pre x W K ⟨⟨i1,i2,i3,i4,i5⟩,hB⟩ hK
    gi_wp2
    exact hK _ _ ((KeepsOthers.alloc _ _).from _) ⟨(Q2 _ W).alloc hB.size _,L1 i5⟩
     ⟨⟨(L1 (by omega)).trans i1,(L1 (by omega)).trans i2,(L1 (by omega)).trans i3,(qZ5 (by omega)).trans i4,by simp;omega⟩,hB.alloc hB.size _⟩
     ⟨W.heap.size,⟨by omega,by simp,by simp,by simp⟩,rfl⟩
   case body=>
    rintro l pre x a' W hl hloop ⟨⟨i1,i2,i3,i4,i5⟩,hB⟩ ⟨Bx,⟨x1,x2,x3,x4⟩,rfl⟩ hlt
    gi_wp2
    ·have ht:drift+jitter≤x.2.time:=by assumption
     exact⟨(KeepsOthers.setCell _ _ _).from _,⟨(Q2 w.heap.size W).setCell (p:=⟨_,_,_⟩) (by simp;omega) _,L6 (by omega)⟩,⟨(L6 (by omega)).trans i1,(L6 (by omega)).trans i2,by rw[qO7,if_pos ht];exact World.cell?_setCell_same' _ _ _ (by rw[i3];rfl),by rw[World.frozen?_setCell];exact i4,by simpa [World.setCell] using i5⟩,hB.setCell (p:=⟨_,_,_⟩) (by simp;omega) _⟩
    ·have ht:¬drift+jitter≤x.2.time:=by omega
     exact⟨KeepsFrom.refl _ _,⟨Q2 _ _,rfl⟩,⟨i1,i2,by rw[qO7,if_neg ht];exact i3,i4,i5⟩,hB⟩
   case done=>
    rintro D ys W hD rfl ⟨⟨i1,i2,i3,i4,i5⟩,hB⟩ hK
    have hv:jK4 (drift+jitter) (pitch/2) (qE5 (qC0 k ds) k)=RH k:=by
     have:∀m,jK4 (drift+jitter) (pitch/2) (qE5 (qC0 k ds) m)=RH m:=by
      intro m
      induction m with
      |zero=>rw[HH0.out];rfl
      |succ m ih=>rw[zQ9,qO7,ih,HH.out];rfl
     exact this k
    rw[hv] at i3
    clear hv
    go_wp2
    go_quiet (fail)
    go_wp2
    have hK':(W.drewN nq).heap[D]?=some (.deferred (some [])):=hK
    refine⟨by simp,.inl ⟨_,_,rfl,run_takeDeferred hK',?_⟩⟩
    exact⟨_,results_tmp2 rfl _ _ _,rfl,(below_drewN hB nq).trans (belowK_b (w:=w) (Q1 _) (W.drewN nq) D _ _ (by simp at hD;omega) hK' rfl rfl)⟩
   case stop=>
    rintro D c pre W _ _ h _
    exact h.elim
end
section
open Go Go.RowKit
def zV2(B:Nat)(w:World)(a:Option Addr)(n:Nat)(xs:Nat→Bool):Prop:=
 n=0∨∃b off,a=some ⟨b,off,none⟩∧b<B∧∀i,i<n→w.cell? ⟨b,off+i,none⟩=some (.bool (xs i))
theorem zV2.below{B:Nat}{w w':World}{a:Option Addr}{n:Nat}{xs:Nat→Bool}(h:zV2 B w a n xs)(hb:Below B w w'):zV2 B w' a n xs:=by
 rcases h with h|⟨b,off,ha,hB,hc⟩
 ·exact .inl h
 ·exact .inr ⟨b,off,ha,hB,fun i hi=>(hb.cell (p:=⟨b,off+i,none⟩) hB).trans (hc i hi)⟩
theorem zV2.get{B:Nat}{w:World}{a:Option Addr}{n:Nat}{xs:Nat→Bool}(h:zV2 B w a n xs){i:Nat}(hi:i<n):∃b off,a=some ⟨b,off,none⟩∧b<B∧w.cell? ⟨b,off+i,none⟩=some (.bool (xs i)):=by
 rcases h with h|⟨b,off,ha,hB,hc⟩
 ·omega
 ·exact⟨b,off,ha,hB,hc i hi⟩
structure PG where
 start:Int
 slope:Int
 time:Int
 oa:Option Addr
 on:Nat
 oc:Nat
 ka:Option Addr
 kn:Nat
 kc:Nat
 sa:Option Addr
 sn:Nat
 sc:Nat
 os:Nat→Int
 ks:Nat→Int
 ss:Nat→Bool
abbrev PG.val(p:PG):Value:= .agg #[.int .i64 p.start,.int .i64 p.slope,.int .i64 p.time,.slice p.oa p.on p.oc,.slice p.ka p.kn p.kc,.slice p.sa p.sn p.sc]
abbrev PG.box(p:PG):Obj:= .cells #[.int .i64 p.start,.int .i64 p.slope,.int .i64 p.time,.slice p.oa p.on p.oc,.slice p.ka p.kn p.kc,.slice p.sa p.sn p.sc] 31
structure PG.mem(p:PG)(B:Nat)(w:World):Prop where
 os:D0 B w p.oa p.on p.os
 ks:D0 B w p.ka p.kn p.ks
 ss:zV2 B w p.sa p.sn p.ss
theorem PG.mem.below{p:PG}{B:Nat}{w w':World}(h:p.mem B w)(hb:Below B w w'):p.mem B w':=⟨h.os.below hb,h.ks.below hb,h.ss.below hb⟩
structure jZ7(x:PR)(o k time:Int):Prop where
 kind:x.kind≠2
 off:x.olo≤o∧o≤x.ohi
 clk:x.clo≤k∧k≤x.chi
 film:x.kind=3→x.clo≤time∧time≤x.chi
structure qF6(n:Nat)(ps:Nat→PR)(p:PG):Prop where
 on:p.on=n
 kn:p.kn=n
 sn:p.sn=n
 start: -100000≤p.start∧p.start≤100000
 slope: -5≤p.slope∧p.slope≤5
 time: -100000000≤p.time∧p.time≤100000000
 pl:∀i,i<n→jZ7 (ps i) (p.os i) (p.ks i) p.time
def kP5(n:Nat)(ps:Nat→PR)(w:World)(e:Ending)(w':World):Prop:=∃b,e= .returned (.bool b)∧(b=true→n≤8∧∀i,i<n→(ps i).dn≤60∧(ps i).en≤110)∧Below w.heap.size w w'
def xW2(n:Nat)(ps:Nat→PR)(p:PG)(w:World)(e:Ending)(w':World):Prop:=∃b,e= .returned (.bool b)∧(b=true→qF6 n ps p)∧Below w.heap.size w w'
theorem xJ4(a:Option Addr)(n c:Nat)(ps:Nat→PR)(w:World)(B:Nat)(hBw:B≤w.heap.size)(hP:Y2 B w a n ps):
  Calls Tryz.prog 4 #[L3 a n c] w (kP5 n ps w):=by
 have hn:=hP.1
 unfold maxLen at hn
 have HP:=Hd hP
 have HV:=Hd ((Q2 _ w).alloc (Q1 _) (.cells #[.slice a n c] 24))
 have hx:=Q3 w (.cells #[.slice a n c] 24)
 have HX:=Hd hx
 clear hP hx
 go_enter Tryz.func4,Tryz.ntmps4
 go_upto_region 1 with(fail)
 generalize World.alloc w _=V at*
 go_wp2
 go_loopw [3] (fun x wr=>∃i:Nat,i≤n∧x= .int .i64 (i:Int)∧Hid (∀j,j<i→(ps j).dn≤60∧(ps j).en≤110)∧Hid (Below w.heap.size w wr)∧Hid (wr.heap[w.heap.size]?=some (.cells #[.slice a n c] 24))) (fun x _=>n-(intOf x).toNat)
 case atStart=>exact⟨0,Nat.zero_le _,rfl,Hd (fun j h=>absurd h (Nat.not_lt_zero j)),HV,HX⟩
 case round=>
  clear HV HX
  obtain⟨i,hi,rfl,HALL,HB,HX⟩:=hrel
  have hwl:w.heap.size<wr.heap.size:=J5 HX.out
  have k0:=Q0 _ _ 0 _ _ _ HX.out
  by_cases hlt:i<n
  ·have hlt':(i:Int)<(n:Int):=by omega
   obtain⟨b,off,rfl,hbB,⟨_,_,_,_,_,_,_,_,_,_,_,_,_,c13,c14⟩,hm⟩:=(HP.out.below (HB.out.mono hBw)).get hlt
   have hdm:(ps i).dn≤9223372036854775807∧(ps i).en≤9223372036854775807:=⟨hm.1,hm.2.1⟩
   have HSU:=Hd (fun(h:(ps i).dn≤60∧(ps i).en≤110) j (hj:j<i+1)=>show(ps j).dn≤60∧(ps j).en≤110 from by
    by_cases e:j=i
    ·subst e;exact h
    ·exact HALL.out j (by omega))
   generalize ps i=x at*
   clear hm
   by_cases h1:x.dn≤60
   ·have h1':¬(60:Int)<(x.dn:Int):=by omega
    by_cases h2:x.en≤110
    ·have h2':¬(110:Int)<(x.en:Int):=by omega
     go_wp2
     go_roundw
     case rel=>exact⟨i+1,by omega,by go_num,Hd (HSU.out ⟨h1,h2⟩),HB,HX⟩
     case measure=>simp[intOf];omega
    ·have h2':(110:Int)<(x.en:Int):=by omega
     go_wp2
     go_ret
     exact⟨false,rfl,fun h=>(by cases h),HB.out⟩
   ·have h1':(60:Int)<(x.dn:Int):=by omega
    go_wp2
    go_ret
    exact⟨false,rfl,fun h=>(by cases h),HB.out⟩
  ·obtain rfl:i=n:=by omega
   have hlt':¬(i:Int)<(i:Int):=by omega
   go_wp2
   go_ret
   exact⟨_,rfl,fun h=>⟨by have:=of_decide_eq_true h;omega,HALL.out⟩,HB.out⟩
theorem xS3(a:Option Addr)(n c:Nat)(ps:Nat→PR)(p:PG)(w:World)(B:Nat)(hBw:B≤w.heap.size)(hP:Y2 B w a n ps)(hp:p.mem B w)(hC:K7 n ps=true):
  Calls Tryz.prog 7 #[L3 a n c,p.val] w (xW2 n ps p w):=by
 have hn16:=(P1 hC).2
 have HC:=Hd hC
 have HP:=Hd hP
 have HM:=Hd hp
 have HV:=Hd (((Q2 _ w).alloc (Q1 _) (.cells #[.slice a n c] 24)).alloc (by simp) p.box)
 have hx:=(Q9 (w.alloc (.cells #[.slice a n c] 24)) p.box w.heap.size (by simp)).trans (Q3 w _)
 have hy:=Q3 (w.alloc (.cells #[.slice a n c] 24)) p.box
 rw[show(w.alloc (.cells #[.slice a n c] 24)).heap.size=w.heap.size+1 from by simp] at hy
 have HX:=Hd hx
 have HY:=Hd hy
 have HF:=Hd (fun W' (h:Below w.heap.size w W')=>show xW2 n ps p w (.returned (.bool false)) W' from⟨false,rfl,fun h=>(by cases h),h⟩)
 have HT:=Hd (fun W' (h:Below w.heap.size w W') (h2:qF6 n ps p)=>show xW2 n ps p w (.returned (.bool true)) W' from⟨true,rfl,fun _=>h2,h⟩)
 have HPK:=Hd (fun(h1:p.on=n) (h2:p.kn=n) (h3:p.sn=n) (h4: -100000≤p.start) (h5:p.start≤100000) (h6: -5≤p.slope) (h7:p.slope≤5) (h8: -100000000≤p.time) (h9:p.time≤100000000) (hA:∀i,i<n→jZ7 (ps i) (p.os i) (p.ks i) p.time)=>show qF6 n ps p from⟨h1,h2,h3,⟨h4,h5⟩,⟨h6,h7⟩,⟨h8,h9⟩,hA⟩)
 generalize xW2 n ps p w=RES at*
 obtain⟨st,sl,tm,oa,on,oc,ka,kn,kc,sa,sn,sc,os,ks,ss⟩:=p
 dsimp only at*
 clear hP hp hC hx hy
 by_cases h0:on=n
 case neg=>
  have q0:((on:Int) !=(n:Int))=true:=by simp;omega
  clear h0
  go_enter Tryz.func7,Tryz.ntmps7
  go_upto_region 1 with(fail)
  generalize World.alloc (World.alloc w _) _=V at*
  obtain⟨y0,y1,y2,y3,y4,y5⟩:=cr6 HY.out
  have k0:=Q0 _ _ 0 _ _ _ HX.out
  simp only[P2] at y0 y1 y2 y3 y4 y5
  go_wp2
  exact HF.out _ HV.out
 have q0:((on:Int) !=(n:Int))=false:=by simp;omega
 have H0:=Hd h0
 clear h0
 by_cases h1:kn=n
 case neg=>
  have q1:((kn:Int) !=(n:Int))=true:=by simp;omega
  clear h1
  go_enter Tryz.func7,Tryz.ntmps7
  go_upto_region 1 with(fail)
  generalize World.alloc (World.alloc w _) _=V at*
  obtain⟨y0,y1,y2,y3,y4,y5⟩:=cr6 HY.out
  have k0:=Q0 _ _ 0 _ _ _ HX.out
  simp only[P2] at y0 y1 y2 y3 y4 y5
  go_wp2
  exact HF.out _ HV.out
 have q1:((kn:Int) !=(n:Int))=false:=by simp;omega
 have H1:=Hd h1
 clear h1
 by_cases h2:sn=n
 case neg=>
  have q2:((sn:Int) !=(n:Int))=true:=by simp;omega
  clear h2
  go_enter Tryz.func7,Tryz.ntmps7
  go_upto_region 1 with(fail)
  generalize World.alloc (World.alloc w _) _=V at*
  obtain⟨y0,y1,y2,y3,y4,y5⟩:=cr6 HY.out
  have k0:=Q0 _ _ 0 _ _ _ HX.out
  simp only[P2] at y0 y1 y2 y3 y4 y5
  go_wp2
  exact HF.out _ HV.out
 have q2:((sn:Int) !=(n:Int))=false:=by simp;omega
 have H2:=Hd h2
 clear h2
 by_cases h3: -100000≤st
 case neg=>
  have q3:decide (st< -100000)=true:=by simp;omega
  clear h3
  go_enter Tryz.func7,Tryz.ntmps7
  go_upto_region 1 with(fail)
  generalize World.alloc (World.alloc w _) _=V at*
  obtain⟨y0,y1,y2,y3,y4,y5⟩:=cr6 HY.out
  have k0:=Q0 _ _ 0 _ _ _ HX.out
  simp only[P2] at y0 y1 y2 y3 y4 y5
  go_wp2
  exact HF.out _ HV.out
 have q3:decide (st< -100000)=false:=by simp;omega
 have H3:=Hd h3
 clear h3
 by_cases h4:st≤100000
 case neg=>
  have q4:decide (100000<st)=true:=by simp;omega
  clear h4
  go_enter Tryz.func7,Tryz.ntmps7
  go_upto_region 1 with(fail)
  generalize World.alloc (World.alloc w _) _=V at*
  obtain⟨y0,y1,y2,y3,y4,y5⟩:=cr6 HY.out
  have k0:=Q0 _ _ 0 _ _ _ HX.out
  simp only[P2] at y0 y1 y2 y3 y4 y5
  go_wp2
  exact HF.out _ HV.out
 have q4:decide (100000<st)=false:=by simp;omega
 have H4:=Hd h4
 clear h4
 by_cases h5: -5≤sl
 case neg=>
  have q5:decide (sl< -5)=true:=by simp;omega
  clear h5
  go_enter Tryz.func7,Tryz.ntmps7
  go_upto_region 1 with(fail)
  generalize World.alloc (World.alloc w _) _=V at*
  obtain⟨y0,y1,y2,y3,y4,y5⟩:=cr6 HY.out
  have k0:=Q0 _ _ 0 _ _ _ HX.out
  simp only[P2] at y0 y1 y2 y3 y4 y5
  go_wp2
  exact HF.out _ HV.out
 have q5:decide (sl< -5)=false:=by simp;omega
 have H5:=Hd h5
 clear h5
 by_cases h6:sl≤5
 case neg=>
  have q6:decide (5<sl)=true:=by simp;omega
  clear h6
  go_enter Tryz.func7,Tryz.ntmps7
  go_upto_region 1 with(fail)
  generalize World.alloc (World.alloc w _) _=V at*
  obtain⟨y0,y1,y2,y3,y4,y5⟩:=cr6 HY.out
  have k0:=Q0 _ _ 0 _ _ _ HX.out
  simp only[P2] at y0 y1 y2 y3 y4 y5
  go_wp2
  exact HF.out _ HV.out
 have q6:decide (5<sl)=false:=by simp;omega
 have H6:=Hd h6
 clear h6
 by_cases h7: -100000000≤tm
 case neg=>
  have q7:decide (tm< -100000000)=true:=by simp;omega
  clear h7
  go_enter Tryz.func7,Tryz.ntmps7
  go_upto_region 1 with(fail)
  generalize World.alloc (World.alloc w _) _=V at*
  obtain⟨y0,y1,y2,y3,y4,y5⟩:=cr6 HY.out
  have k0:=Q0 _ _ 0 _ _ _ HX.out
  simp only[P2] at y0 y1 y2 y3 y4 y5
  go_wp2
  exact HF.out _ HV.out
 have q7:decide (tm< -100000000)=false:=by simp;omega
 have H7:=Hd h7
 clear h7
 by_cases h8:tm≤100000000
 case neg=>
  have q8:decide (100000000<tm)=true:=by simp;omega
  clear h8
  go_enter Tryz.func7,Tryz.ntmps7
  go_upto_region 1 with(fail)
  generalize World.alloc (World.alloc w _) _=V at*
  obtain⟨y0,y1,y2,y3,y4,y5⟩:=cr6 HY.out
  have k0:=Q0 _ _ 0 _ _ _ HX.out
  simp only[P2] at y0 y1 y2 y3 y4 y5
  go_wp2
  exact HF.out _ HV.out
 have q8:decide (100000000<tm)=false:=by simp;omega
 have H8:=Hd h8
 clear h8
 have HPK2:=Hd (fun hA=>HPK.out H0.out H1.out H2.out H3.out H4.out H5.out H6.out H7.out H8.out hA)
 clear HPK
 go_enter Tryz.func7,Tryz.ntmps7
 go_upto_region 1 with(fail)
 generalize World.alloc (World.alloc w _) _=V at*
 obtain⟨y0,y1,y2,y3,y4,y5⟩:=cr6 HY.out
 have k0:=Q0 _ _ 0 _ _ _ HX.out
 simp only[P2] at y0 y1 y2 y3 y4 y5
 go_wp2
 go_loopw [5] (fun x wr=>∃i:Nat,i≤n∧x= .int .i64 (i:Int)∧Hid (∀j,j<i→jZ7 (ps j) (os j) (ks j) tm)∧Hid (Below w.heap.size w wr)∧Hid (wr.heap[w.heap.size]?=some (.cells #[.slice a n c] 24))∧Hid (wr.heap[w.heap.size+1]?=some (.cells #[.int .i64 st,.int .i64 sl,.int .i64 tm,.slice oa on oc,.slice ka kn kc,.slice sa sn sc] 31))) (fun x _=>n-(intOf x).toNat)
 case atStart=>exact⟨0,Nat.zero_le _,rfl,Hd (fun j h=>absurd h (Nat.not_lt_zero j)),HV,HX,HY⟩
 case round=>
  clear HV HX HY y0 y1 y2 y3 y4 y5 k0 q0 q1 q2 q3 q4 q5 q6 q7 q8
  obtain⟨i,hi,rfl,HALL,HB,HX,HY⟩:=hrel
  have k0:=Q0 _ _ 0 _ _ _ HX.out
  have hwl:=J5 HX.out
  have hyl:=J5 HY.out
  by_cases hlt:i<n
  ·have hlt':(i:Int)<(n:Int):=by omega
   obtain⟨b,off,rfl,hbB,⟨c0,c1,c2,c3,c4,c5,c6,c7,c8,c9,c10,c11,c12,c13,c14⟩,hm⟩:=(HP.out.below (HB.out.mono hBw)).get hlt
   have hbl:b<wr.heap.size:=by omega
   have HSU:=Hd (fun(h:jZ7 (ps i) (os i) (ks i) tm) j (hj:j<i+1)=>show jZ7 (ps j) (os j) (ks j) tm from by
    by_cases e:j=i
    ·subst e;exact h
    ·exact HALL.out j (by omega))
   generalize ps i=x at*
   clear hm
   go_upto_region 7 with(fail)
   have hb1:=(Q2 _ wr).alloc (Q1 _) (.cells #[.int .i64 x.kind,.int .i64 x.view,.int .i64 x.z,.int .i64 x.first,.int .i64 x.pitch,.int .i64 x.strips,.int .i64 x.spill,.int .i64 x.olo,.int .i64 x.ohi,.int .i64 x.clo,.int .i64 x.chi,.int .i64 x.jitter,.int .i64 x.least,.slice x.da x.dn x.dc,.slice x.ea x.en x.ec] 50)
   have hz:=Q3 wr (.cells #[.int .i64 x.kind,.int .i64 x.view,.int .i64 x.z,.int .i64 x.first,.int .i64 x.pitch,.int .i64 x.strips,.int .i64 x.spill,.int .i64 x.olo,.int .i64 x.ohi,.int .i64 x.clo,.int .i64 x.chi,.int .i64 x.jitter,.int .i64 x.least,.slice x.da x.dn x.dc,.slice x.ea x.en x.ec] 50)
   have HB1:=Hd (HB.out.trans (hb1.mono HB.out.size))
   have HX1:=Hd (Y0 HX.out hb1)
   have HY1:=Hd (Y0 HY.out hb1)
   clear hb1 c0 c1 c2 c3 c4 c5 c6 c7 c8 c9 c10 c11 c12 c13 c14 k0
   generalize World.alloc wr _=V1 at*
   generalize wr.heap.size=xb at*
   have HZ:=Hd hz
   have z0:=Q0 _ _ 0 _ _ _ hz
   have z7:=Q0 _ _ 7 _ _ _ hz
   have z8:=Q0 _ _ 8 _ _ _ hz
   have z9:=Q0 _ _ 9 _ _ _ hz
   have z10:=Q0 _ _ 10 _ _ _ hz
   have hzl:=J5 hz
   have hyl1:=J5 HY1.out
   obtain⟨y0,y1,y2,y3,y4,y5⟩:=cr6 HY1.out
   simp only[P2] at y0 y1 y2 y3 y4 y5
   obtain⟨ob,oo,rfl,hoB,co⟩:=(HM.out.os.below (HB1.out.mono hBw)).at' (i:=i) (by have:=H0.out;dsimp only;omega)
   obtain⟨kb,ko,rfl,hkB,ck⟩:=(HM.out.ks.below (HB1.out.mono hBw)).at' (i:=i) (by have:=H1.out;dsimp only;omega)
   dsimp only at co ck
   have hobl:ob<V1.heap.size:=by have:=HB1.out.size;omega
   have hkbl:kb<V1.heap.size:=by have:=HB1.out.size;omega
   have hio:(i:Int)<(on:Int):=by have:=H0.out;omega
   have hik:(i:Int)<(kn:Int):=by have:=H1.out;omega
   generalize os i=oi at*
   generalize ks i=ki at*
   clear hz hlt hwl hyl
   by_cases g0:x.kind=2
   ·have r0:(x.kind==2)=true:=by simpa using g0
    clear g0
    (refine J4 (V1.heap.size) (by kernel_rfl) (by kernel_rfl) ?_;(repeat(first|go_big_quiet_step(fail)|quiet_step(fail)));refine X4 (wqn ?_);intro xq)
    have hq:=xq.below
    have HB2:=Hd (HB1.out.trans (hq.mono HB1.out.size))
    clear hq
    generalize K9.val xq=V2 at*
    go_wp2
    exact HF.out _ HB2.out
   ·have r0:(x.kind==2)=false:=by simpa using g0
    by_cases g1:x.olo≤oi
    case neg=>
     have r1:decide (oi<x.olo)=true:=Z0 (by omega)
     (refine J4 (V1.heap.size) (by kernel_rfl) (by kernel_rfl) ?_;(repeat(first|go_big_quiet_step(fail)|quiet_step(fail)));refine X4 (wqn ?_);intro xq)
     have hq:=xq.below
     have HB2:=Hd (HB1.out.trans (hq.mono HB1.out.size))
     clear hq
     generalize K9.val xq=V2 at*
     go_wp2
     exact HF.out _ HB2.out
    have r1:decide (oi<x.olo)=false:=Q7 (by omega)
    by_cases g2:oi≤x.ohi
    case neg=>
     have r2:decide (x.ohi<oi)=true:=Z0 (by omega)
     (refine J4 (V1.heap.size) (by kernel_rfl) (by kernel_rfl) ?_;(repeat(first|go_big_quiet_step(fail)|quiet_step(fail)));refine X4 (wqn ?_);intro xq)
     have hq:=xq.below
     have HB2:=Hd (HB1.out.trans (hq.mono HB1.out.size))
     clear hq
     generalize K9.val xq=V2 at*
     go_wp2
     exact HF.out _ HB2.out
    have r2:decide (x.ohi<oi)=false:=Q7 (by omega)
    by_cases g3:x.clo≤ki
    case neg=>
     have r3:decide (ki<x.clo)=true:=Z0 (by omega)
     (refine J4 (V1.heap.size) (by kernel_rfl) (by kernel_rfl) ?_;(repeat(first|go_big_quiet_step(fail)|quiet_step(fail)));refine X4 (wqn ?_);intro xq)
     have hq:=xq.below
     have HB2:=Hd (HB1.out.trans (hq.mono HB1.out.size))
     clear hq
     generalize K9.val xq=V2 at*
     go_wp2
     exact HF.out _ HB2.out
    have r3:decide (ki<x.clo)=false:=Q7 (by omega)
    by_cases g4:ki≤x.chi
    case neg=>
     have r4:decide (x.chi<ki)=true:=Z0 (by omega)
     (refine J4 (V1.heap.size) (by kernel_rfl) (by kernel_rfl) ?_;(repeat(first|go_big_quiet_step(fail)|quiet_step(fail)));refine X4 (wqn ?_);intro xq)
     have hq:=xq.below
     have HB2:=Hd (HB1.out.trans (hq.mono HB1.out.size))
     clear hq
     generalize K9.val xq=V2 at*
     go_wp2
     exact HF.out _ HB2.out
    have r4:decide (x.chi<ki)=false:=Q7 (by omega)
    have HG:=Hd (fun hf=>show jZ7 x oi ki tm from⟨g0,⟨g1,g2⟩,⟨g3,g4⟩,hf⟩)
    clear g0 g1 g2 g3 g4
    (refine J4 (V1.heap.size) (by kernel_rfl) (by kernel_rfl) ?_;(repeat(first|go_big_quiet_step(fail)|quiet_step(fail)));refine X4 (wqn ?_);intro xq)
    have hq:=xq.below
    have HB2:=Hd (HB1.out.trans (hq.mono HB1.out.size))
    have HX2:=Hd (Y0 HX1.out hq)
    have HY2:=Hd (Y0 HY1.out hq)
    have hz2:=Y0 HZ.out hq
    clear hq z0 z7 z8 z9 z10 y0 y1 y2 y3 y4 y5 co ck r0 r1 r2 r3 r4
    generalize K9.val xq=V2 at*
    have z0:=Q0 _ _ 0 _ _ _ hz2
    have z9:=Q0 _ _ 9 _ _ _ hz2
    have z10:=Q0 _ _ 10 _ _ _ hz2
    have y2:=Q0 _ _ 2 _ _ _ HY2.out
    clear hz2
    by_cases g5:x.kind=3
    ·have r5:(x.kind==3)=true:=by simpa using g5
     by_cases g6:x.clo≤tm
     case neg=>
      have r6:decide (tm<x.clo)=true:=Z0 (by omega)
      clear g5
      go_wp2
      exact HF.out _ HB2.out
     have r6:decide (tm<x.clo)=false:=Q7 (by omega)
     by_cases g7:tm≤x.chi
     case neg=>
      have r7:decide (x.chi<tm)=true:=Z0 (by omega)
      clear g5
      go_wp2
      exact HF.out _ HB2.out
     have r7:decide (x.chi<tm)=false:=Q7 (by omega)
     have HG2:=Hd (HG.out (fun _=>⟨g6,g7⟩))
     clear g5
     go_wp2
     go_roundw
     case rel=>exact⟨i+1,by omega,by go_num,Hd (HSU.out HG2.out),HB2,HX2,HY2⟩
     case measure=>simp[intOf];omega
    ·have r5:(x.kind==3)=false:=by simpa using g5
     have HG2:=Hd (HG.out (fun h=>absurd h g5))
     clear g5
     go_wp2
     go_roundw
     case rel=>exact⟨i+1,by omega,by go_num,Hd (HSU.out HG2.out),HB2,HX2,HY2⟩
     case measure=>simp[intOf];omega
  ·obtain rfl:i=n:=by omega
   have hlt':¬(i:Int)<(i:Int):=by omega
   have HOK:=Hd (HPK2.out HALL.out)
   go_wp2
   exact HT.out _ HB.out HOK.out
end
end Go.Proofs.YtmncaipgefbalaaGreatDoor
