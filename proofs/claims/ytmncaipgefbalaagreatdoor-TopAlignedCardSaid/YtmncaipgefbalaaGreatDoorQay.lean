/- Part of the proof of the claim. -/
import Derived.Test.YtmncaipgefbalaaGreatDoorQax
import Derived.Test.YtmncaipgefbalaaGreatDoorQav
set_option maxRecDepth 100000
set_option maxHeartbeats 8000000
set_option linter.unusedVariables false
set_option linter.unusedSimpArgs false
namespace Go.Proofs.YtmncaipgefbalaaGreatDoor
section
open Go.RowKit
theorem xL5{n k:Nat}{ps:Nat→PR}(hk:k<n)(h:¬C8 ps k=true):false=K7 n ps:=by
 rw[K7,Y7 hk (by simpa using h),Bool.false_and]
theorem xJ6{n k:Nat}{ps:Nat→PR}(h1:J1 n 1 16=true)(hk:k=n)(h:∀j,j<k→C8 ps j=true):true=K7 n ps:=by
 subst hk;rw[K7,Y3 h,h1];rfl
theorem qW9{ps:Nat→PR}{k:Nat}:C8 ps k=true↔K6 (ps k)=true∧(k=0∨(ps (k-1)).z<(ps k).z):=by simp[C8]
theorem xQ0(a:Option Addr)(n c:Nat)(ps:Nat→PR)(w:World)(B:Nat)(hBw:B≤w.heap.size)(hP:Y2 B w a n ps):
  Calls Tryz.prog 5 #[L3 a n c] w fun e w'=>e= .returned (.bool (K7 n ps))∧Below w.heap.size w w':=by
 obtain⟨hn,hP⟩:=hP
 unfold maxLen at hn
 have HP:=Hd hP
 clear hP
 by_cases hN:J1 n 1 16=true
 case neg=>
  have hN':J1 n 1 16=false:=by simpa using hN
  have HF:=Hd (show false=K7 n ps by rw[K7,hN',Bool.and_false])
  clear hN
  go_enter Tryz.func5,Tryz.ntmps5
  go_wp2_with(go_at_call 17;refine(L4 _ _ _ _).mono ?_;rintro e w' ⟨rfl,rfl⟩)
  go_ret
  exact⟨J2 HF.out,(Q2 _ _).alloc (Q1 _) _⟩
 have HE:=Hd (fun(k:Nat) hk h=> @xJ6 n k ps hN hk h)
 go_enter Tryz.func5,Tryz.ntmps5
 go_wp2_with(go_at_call 17;refine(L4 _ _ _ _).mono ?_;rintro e w' ⟨rfl,rfl⟩)
 go_loopw [3] (fun t wr=>∃k:Nat,k≤n∧t= .int .i64 k∧(∀j,j<k→C8 ps j=true)∧Below (w.heap.size+1) (w.alloc (.cells #[.slice a n c] 24)) wr) (fun t _=>n-(intOf t).toNat)
 case atStart=>exact⟨0,Nat.zero_le _,rfl,fun j h=>by omega,Q2 _ _⟩
 case round=>
  obtain⟨k,hk,rfl,hall,hb⟩:=hrel
  have HALL:=Hd hall
  clear hall
  obtain⟨hc,hf⟩:=J9 hb
  have hz:w.heap.size<wr.heap.size:=by have:=hb.size;simp at this;omega
  have hB0:Below w.heap.size w wr:=((Q2 _ _).alloc (Q1 _) _).trans (hb.mono (by omega))
  by_cases hlt:k<n
  ·rcases HP.out with hd|⟨b,off,rfl,hbs,hcell⟩
   ·omega
   obtain⟨⟨c0,c1,c2,c3,c4,c5,c6,c7,c8,c9,c10,c11,c12,c13,c14⟩,hm⟩:=hcell k hlt
   have hbz:b<wr.heap.size:=by omega
   have hbz0:b<w.heap.size:=by omega
   have hbz1:b<w.heap.size+1:=by omega
   have hm1:(ps k).mem B wr:=hm.below (hB0.mono hBw)
   generalize hq:ps k=q at*
   have HQ:=Hd hq
   clear hq hm
   have hBW:B≤wr.heap.size:=by omega
   by_cases hok:C8 ps k=true
   ·have HOK:=Hd hok
    rw[qW9,HQ.out] at hok
    obtain⟨o1,o2⟩:=hok
    by_cases hk0:k=0
    ·have hk1:decide (0<k)=false:=by simp;omega
     clear hk0 o2 hcell
     go_wp2_with fail
     (refine J4 (wr.heap.size) (by kernel_rfl) (by kernel_rfl) ?_;(repeat(first|go_big_quiet_step((go_at_call 18;refine Calls.calm_of (Q1 _) (D7 q _ B (by have:=Below.size (K9.below (by assumption));omega) ?_);exact PR.mem.below hm1 (Below.mono (K9.below _) (by omega))))|quiet_step((go_at_call 18;refine Calls.calm_of (Q1 _) (D7 q _ B (by have:=Below.size (K9.below (by assumption));omega) ?_);exact PR.mem.below hm1 (Below.mono (K9.below _) (by omega))))));refine X4 (wqn ?_);intro xq)
     have hX:Below wr.heap.size wr xq.val:=xq.below
     go_wp2
     go_roundw
     case rel=>exact⟨k+1,by omega,by go_num,fun j hj=>by(by_cases e:j=k;subst e;exact HOK.out;exact HALL.out j (by omega)),hb.trans (hX.mono (by omega))⟩
     case measure=>simp[intOf];omega
    ·have hk1:decide (0<k)=true:=by simp;omega
     obtain⟨⟨_,_,d2,_,_,_,_,_,_,_,_,_,_,_,_⟩,_⟩:=hcell (k-1) (by omega)
     have hz3:decide (q.z≤(ps (k-1)).z)=false:=by simp;omega
     have hi4:k-1<n:=by omega
     have hi1:(0:Int)≤(k:Int)-1:=by omega
     have hi2:((k:Int)-1).toNat=k-1:=by omega
     have hi3:IntKind.i64.wrap ((k:Int)-1)=(k:Int)-1:=Z1 _ (by omega)
     clear hk0 o2 hcell
     go_wp2_with fail
     (refine J4 (wr.heap.size) (by kernel_rfl) (by kernel_rfl) ?_;(repeat(first|go_big_quiet_step((go_at_call 18;refine Calls.calm_of (Q1 _) (D7 q _ B (by have:=Below.size (K9.below (by assumption));omega) ?_);exact PR.mem.below hm1 (Below.mono (K9.below _) (by omega))))|quiet_step((go_at_call 18;refine Calls.calm_of (Q1 _) (D7 q _ B (by have:=Below.size (K9.below (by assumption));omega) ?_);exact PR.mem.below hm1 (Below.mono (K9.below _) (by omega))))));refine X4 (wqn ?_);intro xq)
     clear hi1 hi2 hi3
     have hX:Below wr.heap.size wr xq.val:=xq.below
     go_wp2
     go_roundw
     case rel=>exact⟨k+1,by omega,by go_num,fun j hj=>by(by_cases e:j=k;subst e;exact HOK.out;exact HALL.out j (by omega)),hb.trans (hX.mono (by omega))⟩
     case measure=>simp[intOf];omega
   ·have HF:=Hd (xL5 hlt hok)
    rw[qW9,HQ.out] at hok
    by_cases o1:K6 q=true
    ·have hk0:¬k=0:=fun e=>hok ⟨o1,.inl e⟩
     have hk1:decide (0<k)=true:=by simp;omega
     obtain⟨⟨_,_,d2,_,_,_,_,_,_,_,_,_,_,_,_⟩,_⟩:=hcell (k-1) (by omega)
     have hz3:decide (q.z≤(ps (k-1)).z)=true:=by have:¬(ps (k-1)).z<q.z:=fun e=>hok ⟨o1,.inr e⟩;simp;omega
     have hi4:k-1<n:=by omega
     have hi1:(0:Int)≤(k:Int)-1:=by omega
     have hi2:((k:Int)-1).toNat=k-1:=by omega
     have hi3:IntKind.i64.wrap ((k:Int)-1)=(k:Int)-1:=Z1 _ (by omega)
     clear hk0 hok hcell
     go_wp2_with fail
     (refine J4 (wr.heap.size) (by kernel_rfl) (by kernel_rfl) ?_;(repeat(first|go_big_quiet_step((go_at_call 18;refine Calls.calm_of (Q1 _) (D7 q _ B (by have:=Below.size (K9.below (by assumption));omega) ?_);exact PR.mem.below hm1 (Below.mono (K9.below _) (by omega))))|quiet_step((go_at_call 18;refine Calls.calm_of (Q1 _) (D7 q _ B (by have:=Below.size (K9.below (by assumption));omega) ?_);exact PR.mem.below hm1 (Below.mono (K9.below _) (by omega))))));refine X4 (wqn ?_);intro xq)
     clear hi1 hi2 hi3
     have hX:Below wr.heap.size wr xq.val:=xq.below
     go_wp2
     go_ret
     exact⟨J2 HF.out,hB0.trans (hX.mono (by omega))⟩
    ·have o2:K6 q=false:=by simpa using o1
     clear hok hcell o1
     go_wp2_with fail
     (refine J4 (wr.heap.size) (by kernel_rfl) (by kernel_rfl) ?_;(repeat(first|go_big_quiet_step((go_at_call 18;refine Calls.calm_of (Q1 _) (D7 q _ B (by have:=Below.size (K9.below (by assumption));omega) ?_);exact PR.mem.below hm1 (Below.mono (K9.below _) (by omega))))|quiet_step((go_at_call 18;refine Calls.calm_of (Q1 _) (D7 q _ B (by have:=Below.size (K9.below (by assumption));omega) ?_);exact PR.mem.below hm1 (Below.mono (K9.below _) (by omega))))));refine X4 (wqn ?_);intro xq)
     have hX:Below wr.heap.size wr xq.val:=xq.below
     go_wp2
     go_ret
     exact⟨J2 HF.out,hB0.trans (hX.mono (by omega))⟩
  ·go_wp2
   go_ret
   exact⟨J2 (HE.out k (by omega) HALL.out),hB0⟩
abbrev LF(a:Option Addr)(n c:Nat)(w wx:World):Prop:=wx.cell? ⟨w.heap.size,0,none⟩=some (.slice a n c)∧w.heap.size+1≤wx.heap.size∧w.heap.size<wx.heap.size∧Below w.heap.size w wx
theorem qB5{a:Option Addr}{n c:Nat}{w W wy:World}(hL:LF a n c w W)(hb:Below W.heap.size W wy):LF a n c w wy:=by
 obtain⟨l0,l1,l2,l3⟩:=hL
 have hs:=hb.size
 exact⟨((J9 hb).1 _ _ l2).trans l0,by omega,by omega,l3.trans (hb.mono (by omega))⟩
theorem xX0{a:Option Addr}{n c:Nat}{w:World}{t:TypeId}:LF a n c w (w.alloc (.cells #[.slice a n c] t)):=
 ⟨Q0 _ _ _ _ _ _ (G3 rfl),by simp,by simp,(Q2 _ _).alloc (Q1 _) _⟩
theorem jA9{W wy:World}{x:Nat}{A:Array Value}(hx:x<W.heap.size)(h:∀j,W.cell? ⟨x,j,none⟩=A[j]?)(hb:Below W.heap.size W wy):x<wy.heap.size∧∀j,wy.cell? ⟨x,j,none⟩=A[j]? :=
 ⟨Z4 hx hb.size,fun j=>((J9 hb).1 _ _ hx).trans (h j)⟩
def kQ7:PR:=⟨0,0,0,0,0,0,0,0,0,0,0,0,0,none,0,0,none,0,0,fun _=>⟨0,0,0⟩,fun _=>0⟩
theorem jU4(a:Option Addr)(n c:Nat)(ps:Nat→PR)(h:HV)(w:World)(B:Nat)(hBw:B≤w.heap.size)(hP:Y2 B w a n ps)(hC:K7 n ps=true):
  Calls Tryz.prog 37 #[L3 a n c,h.val] w fun e w'=>∃p:PR,∃i:Int,e= .returned (.tuple #[p.placed i,.bool (ofB n ps h)])∧Below w.heap.size w w':=by
 by_cases ho:0≤h.plane∧h.plane≤(n:Int)-1
 ·obtain⟨k,hk⟩:=Int.eq_ofNat_of_zero_le ho.1
  rw[zC3 (show k<n by omega) hk]
  exact(zS4 a n c ps h w B hBw hP hC k (by omega) hk).mono fun e w' ⟨he,hb⟩=>⟨ps k,k,he,hb⟩
 ·rw[xO1 ho]
  exact(jU5 a n c h w (P1 hC).2 ho).mono fun e w' ⟨he,hb⟩=>⟨kQ7,0,he,hb⟩
def qW2(n:Nat)(ps:Nat→PR)(m:Nat)(hs:Nat→HV):Bool:=K7 n ps&&M1 m (fun i=>ofB n ps (hs i))
def qU0(n:Nat)(ps:Nat→PR)(m:Nat)(hs:Nat→HV):Int:=if 2000<m then 3 else qC1 (qW2 n ps m hs)
theorem jY8(a:Option Addr)(n c:Nat)(ps:Nat→PR)(ha:Option Addr)(m d:Nat)(hs:Nat→HV)(w:World)(B:Nat)(hBw:B≤w.heap.size)(hP:Y2 B w a n ps)(hH:qK7 B w ha m hs):
  Calls Tryz.prog 198 #[L3 a n c,.slice ha m d] w fun e w'=>e= .returned (.int .i64 (qU0 n ps m hs))∧Below w.heap.size w w':=by
 have hm:m≤9223372036854775807:=hH.1
 have HP:=Hd hP
 have HH:=Hd hH
 clear hP hH
 by_cases hl:2000<m
 ·have HE:=Hd (show qU0 n ps m hs=3 by rw[qU0,if_pos hl])
  have hl':(2000:Int)<(m:Int):=by omega
  go_enter Tryz.func198,Tryz.ntmps198
  go_wp2
  go_ret
  exact⟨qY3 HE.out.symm,(Q2 _ _).alloc (Q1 _) _⟩
 ·have HE:=Hd (show qU0 n ps m hs=qC1 (qW2 n ps m hs) by rw[qU0,if_neg hl])
  have hl':¬(2000:Int)<(m:Int):=by omega
  cases hC:K7 n ps
  ·have HE2:=Hd (show qU0 n ps m hs=2 by rw[HE.out,qW2,hC];rfl)
   go_enter Tryz.func198,Tryz.ntmps198
   go_wp2_with(go_at_call 30;refine(N8 a n c ps _ B (by simp;omega) (HP.out.below ((Q2 B w).alloc hBw _))).mono ?_;rintro e wy ⟨rfl,hby⟩;rw[hC];obtain⟨l0,l1,l2,l3⟩:=qB5 xX0 hby;clear hby)
   go_ret
   exact⟨qY3 HE2.out.symm,l3⟩
  ·have HC:=Hd hC
   have HE2:=Hd (fun i (hi:i<m) (hv:ofB n ps (hs i)=false)=>show qU0 n ps m hs=2 by rw[HE.out,qW2,hC,Y7 hi hv];rfl)
   have HE3:=Hd (fun(hv:∀i,i<m→ofB n ps (hs i)=true)=>show qU0 n ps m hs=0 by rw[HE.out,qW2,hC,Y3 hv];rfl)
   clear HE
   go_enter Tryz.func198,Tryz.ntmps198
   go_wp2_with(go_at_call 30;refine(N8 a n c ps _ B (by simp;omega) (HP.out.below ((Q2 B w).alloc hBw _))).mono ?_;rintro e wy ⟨rfl,hby⟩;rw[hC];obtain⟨l0,l1,l2,l3⟩:=qB5 xX0 hby;clear hby)
   go_loopw [17] (fun t wr=>∃i:Nat,i≤m∧t= .int .i64 i∧Hid (∀j,j<i→ofB n ps (hs j)=true)∧LF a n c w wr) (fun t _=>m-(intOf t).toNat)
   case atStart=>exact⟨0,Nat.zero_le _,rfl,Hd (fun j h=>by omega),l0,l1,l2,l3⟩
   case round=>
    clear l0 l1 l2 l3
    obtain⟨i,hi,rfl,HALL,l0,l1,l2,l3⟩:=hrel
    by_cases hlt:i<m
    ·obtain⟨b,off,rfl,hbB,y0,y1,y2,y3,y4,y5⟩:=((HH.out.below (l3.mono hBw)).get hlt)
     have hbz:b<wr.heap.size:=by omega
     have hiv:=HE2.out i hlt
     have HIV:=Hd hiv
     clear hiv
     generalize hv:ofB n ps (hs i)=V at*
     have HV:=Hd hv
     clear hv
     generalize hhs:hs i=h at y0 y1 y2 y3 y4 y5 HV
     have HHS:=Hd hhs
     clear hhs
     cases V
     ·go_wp2_with(go_at_call 37;refine(jU4 a n c ps h _ B (by simp;omega) (HP.out.below ((l3.alloc (by omega) _).mono hBw)) HC.out).mono ?_;rintro e wy ⟨p,ix,rfl,hby⟩;rw[HV.out];have hL:=qB5 (qB5 ⟨l0,l1,l2,l3⟩ ((Q2 _ _).alloc (Q1 _) _)) hby;clear l0 l1 l2 l3 hby;obtain⟨l0,l1,l2,l3⟩:=hL)
      go_ret
      exact⟨qY3 (HIV.out (by trivial)).symm,l3.alloc (by omega) _⟩
     ·go_wp2_with(go_at_call 37;refine(jU4 a n c ps h _ B (by simp;omega) (HP.out.below ((l3.alloc (by omega) _).mono hBw)) HC.out).mono ?_;rintro e wy ⟨p,ix,rfl,hby⟩;rw[HV.out];have hL:=qB5 (qB5 ⟨l0,l1,l2,l3⟩ ((Q2 _ _).alloc (Q1 _) _)) hby;clear l0 l1 l2 l3 hby;obtain⟨l0,l1,l2,l3⟩:=hL)
      go_roundw
      case rel=>exact⟨i+1,by omega,by go_num,Hd (fun j hj=>by(by_cases e:j=i;subst e;rw[HHS.out];exact HV.out;exact HALL.out j (by omega))),qB5 ⟨l0,l1,l2,l3⟩ ((Q2 _ _).alloc (Q1 _) _)⟩
      case measure=>simp[intOf];omega
    ·obtain rfl:i=m:=by omega
     go_wp2
     go_ret
     exact⟨qY3 (HE3.out HALL.out).symm,l3⟩
abbrev CS(a:Option Addr)(n c:Nat)(w wx:World):Prop:=wx.cell? ⟨w.heap.size,0,none⟩=some (.slice a n c)∧wx.cell? ⟨w.heap.size+1,0,none⟩=some (.int .i64 0)∧wx.cell? ⟨w.heap.size+1,1,none⟩=some (.int .i64 0)∧wx.frozen? ⟨w.heap.size+1,0,none⟩=false∧wx.frozen? ⟨w.heap.size+1,1,none⟩=false∧w.heap.size+2≤wx.heap.size∧w.heap.size<wx.heap.size∧w.heap.size+1<wx.heap.size∧Below w.heap.size w wx
theorem qB3{a:Option Addr}{n c:Nat}{w W wy:World}(hL:CS a n c w W)(hb:Below W.heap.size W wy):CS a n c w wy:=by
 obtain⟨l0,l1,l2,l3,l4,l5,l6,l7,l8⟩:=hL
 obtain⟨hc,hf⟩:=J9 hb
 have hs:=hb.size
 exact⟨(hc _ _ l6).trans l0,(hc _ _ l7).trans l1,(hc _ _ l7).trans l2,(hf _ _ l7).trans l3,(hf _ _ l7).trans l4,by omega,by omega,by omega,l8.trans (hb.mono (by omega))⟩
theorem jE2{a:Option Addr}{n c x:Nat}{w W:World}{vs:List Value}{o:Nat}(hL:CS a n c w W)(hx:w.heap.size+2≤x):CS a n c w (W.setCells x o vs):=by
 obtain⟨l0,l1,l2,l3,l4,l5,l6,l7,l8⟩:=hL
 have hb:Below w.heap.size w (W.setCells x o vs):=Y4 (by omega) _ _ _ l8
 have hb2:Below (w.heap.size+2) W (W.setCells x o vs):=Y4 (by omega) _ _ _ (Q2 _ _)
 obtain⟨hc,hf⟩:=J9 hb2
 have hs:=hb2.size
 exact⟨(hc _ _ (by omega)).trans l0,(hc _ _ (by omega)).trans l1,(hc _ _ (by omega)).trans l2,(hf _ _ (by omega)).trans l3,(hf _ _ (by omega)).trans l4,by omega,by omega,by omega,hb⟩
theorem jE3{a:Option Addr}{n c:Nat}{w:World}{t t':TypeId}:CS a n c w ((w.alloc (.cells #[.slice a n c] t)).alloc (.cells #[.int .i64 0,.int .i64 0] t')):=by
 have h0:=fun j=>Q0 ((w.alloc (.cells #[.slice a n c] t)).alloc (.cells #[.int .i64 0,.int .i64 0] t')) w.heap.size j _ _ _ (qN1 _ _ _)
 have h1:=fun j=>Q0 ((w.alloc (.cells #[.slice a n c] t)).alloc (.cells #[.int .i64 0,.int .i64 0] t')) (w.heap.size+1) j _ _ _ (qO5 _ _ _)
 exact⟨h0 0,h1 0,h1 1,by go_simp,by go_simp,by simp,by simp;omega,by simp,((Q2 _ _).alloc (Q1 _) _).alloc (by simp) _⟩
abbrev HA6(b o:Nat)(h:HV)(wx:World):Prop:=wx.cell? ⟨b,o,none⟩=some (.int .i64 h.plane)∧wx.cell? ⟨b,o+1,none⟩=some (.int .i64 h.channel)∧wx.cell? ⟨b,o+2,none⟩=some (.int .i64 h.many)∧wx.cell? ⟨b,o+3,none⟩=some (.int .i64 h.drift)∧wx.cell? ⟨b,o+4,none⟩=some (.int .i64 h.charge)∧wx.cell? ⟨b,o+5,none⟩=some (.int .i64 h.time)
abbrev S6(a:Option Addr)(n c b o:Nat)(h:HV)(w wx:World):Prop:=CS a n c w wx∧HA6 b o h wx∧b<w.heap.size
theorem zU6{a:Option Addr}{n c b o:Nat}{h:HV}{w W wy:World}(hL:S6 a n c b o h w W)(hb:Below W.heap.size W wy):S6 a n c b o h w wy:=by
 obtain⟨h1,h2,h3⟩:=hL
 refine⟨qB3 h1 hb,?_,h3⟩
 have:b<W.heap.size:=by have:=h1.2.2.2.2.2.1;omega
 exact HV.at.below (h:=h) h2 hb this
theorem xH0{a:Option Addr}{n c b o x:Nat}{h:HV}{w W:World}{vs:List Value}{oo:Nat}(hL:S6 a n c b o h w W)(hx:w.heap.size+2≤x):S6 a n c b o h w (W.setCells x oo vs):=by
 obtain⟨h1,h2,h3⟩:=hL
 refine⟨jE2 h1 hx,?_,h3⟩
 have hb2:Below (w.heap.size+2) W (W.setCells x oo vs):=Y4 (by omega) _ _ _ (Q2 _ _)
 exact HV.at.below (h:=h) h2 hb2 (by omega)
theorem xW6{a:Option Addr}{n c b o:Nat}{h:HV}{w W:World}(hL:S6 a n c b o h w W):S6 a n c b o h w W.drew:=⟨⟨hL.1.1,hL.1.2.1,hL.1.2.2.1,hL.1.2.2.2.1,hL.1.2.2.2.2.1,hL.1.2.2.2.2.2.1,hL.1.2.2.2.2.2.2.1,hL.1.2.2.2.2.2.2.2.1,hL.1.2.2.2.2.2.2.2.2.drew⟩,hL.2⟩
theorem zY2{a:Option Addr}{n c b o:Nat}{h:HV}{w W:World}(hL:S6 a n c b o h w W)(ob:Obj):S6 a n c b o h w (W.alloc ob):=zU6 hL ((Q2 _ _).alloc (Q1 _) _)
theorem zP4{a:Option Addr}{n c b o:Nat}{h:HV}{w W:World}(hL:S6 a n c b o h w W):w.heap.size+2≤W.heap.size:=hL.1.2.2.2.2.2.1
theorem jH5{a:Option Addr}{n c b o:Nat}{h:HV}{w W:World}(hL:S6 a n c b o h w W):Below w.heap.size w W:=hL.1.2.2.2.2.2.2.2.2
theorem xW3{X wy:World}{o:Obj}(h:Below (X.alloc o).drew.heap.size (X.alloc o).drew wy):X.heap.size<wy.heap.size:=by have:=h.size;simp at this;omega
def cL(tl:Nat→Int):Nat→Int
 |0=>tl 0
 |i+1=>if cL tl i<tl (i+1) then tl (i+1) else cL tl i
def cH(th:Nat→Int):Nat→Int
 |0=>th 0
 |i+1=>if th (i+1)<cH th i then th (i+1) else cH th i
def qD9(ps:Nat→PR)(hs:Nat→HV)(i:Nat):Int:=qT0 (ps (hs i).plane.toNat) (hs i)
def qD8(ps:Nat→PR)(hs:Nat→HV)(i:Nat):Int:=qS9 (ps (hs i).plane.toNat) (hs i)
abbrev S7(a:Option Addr)(n c b o:Nat)(h:HV)(w:World)(x7:Nat)(A:Array Value)(wx:World):Prop:=S6 a n c b o h w wx∧x7<wx.heap.size∧∀j,j<16→wx.cell? ⟨x7,j,none⟩=A[j]?
theorem xW7{a:Option Addr}{n c b o:Nat}{h:HV}{w W wy:World}{x7:Nat}{A:Array Value}(hL:S7 a n c b o h w x7 A W)(hb:Below W.heap.size W wy):S7 a n c b o h w x7 A wy:=
 ⟨zU6 hL.1 hb,Z4 hL.2.1 hb.size,fun j hj=>((J9 hb).1 _ _ hL.2.1).trans (hL.2.2 j hj)⟩
theorem jH6{a:Option Addr}{n c b o:Nat}{h:HV}{w W:World}{x7:Nat}{A:Array Value}(hL:S7 a n c b o h w x7 A W)(ob:Obj):S7 a n c b o h w x7 A (W.alloc ob):=xW7 hL ((Q2 _ _).alloc (Q1 _) _)
theorem kX2{a:Option Addr}{n c b o:Nat}{h:HV}{w W:World}{x7:Nat}{A:Array Value}(hL:S7 a n c b o h w x7 A W):S7 a n c b o h w x7 A W.drew:=⟨xW6 hL.1,hL.2.1,hL.2.2⟩
theorem kF5{a:Option Addr}{n c b o x j:Nat}{h:HV}{w W:World}{v:Value}{x7:Nat}{A:Array Value}(hL:S7 a n c b o h w x7 A W)(hx:w.heap.size+2≤x)(hx2:x7≠x):S7 a n c b o h w x7 A (W.setCell ⟨x,j,none⟩ v):=
 ⟨xH0 (vs:=[v]) (oo:=j) hL.1 hx,by simpa [World.setCell] using hL.2.1,fun i hi=>(L6 hx2).trans (hL.2.2 i hi)⟩
theorem kP8{a:Option Addr}{n c b o:Nat}{h:HV}{w W:World}{x7:Nat}{A:Array Value}(hL:S7 a n c b o h w x7 A W):CS a n c w W:=hL.1.1
theorem zN1(b:Nat)(vs:List Value)(o:Nat)(W:World):W.heap.size≤(W.setCells b o vs).heap.size:=(Y4 (B:=0) (a:=W) (Nat.zero_le b) vs o W (Q2 _ _)).size
theorem kC1{X W:World}{zs:Array Value}{t:TypeId}{vs:List Value}(hc:∀b o,b<(X.alloc (.cells zs t)).drew.heap.size→W.cell? ⟨b,o,none⟩=(X.alloc (.cells zs t)).drew.cell? ⟨b,o,none⟩)(hl:vs.length=zs.size):∀j,j<vs.length→(W.setCells X.heap.size 0 vs).cell? ⟨X.heap.size,j,none⟩=vs.toArray[j]? :=by
 intro j hj
 have:=World.cell?_setCells_in X.heap.size vs 0 W (fun i hi=>by
  rw[Nat.zero_add,hc _ _ (by simp)]
  have e:(X.alloc (.cells zs t)).drew.cell? ⟨X.heap.size,i,none⟩=zs[i]? :=Q0 (X.alloc (.cells zs t)) _ _ _ _ _ (G3 rfl)
  rw[e,Array.getElem?_eq_getElem (by omega)];rfl) j hj
 rw[Nat.zero_add] at this
 rw[this]
 simp[hj]
theorem jI5{X W:World}{zs A:Array Value}{t:TypeId}{vs:List Value}{k:Nat}(hc:∀b o,b<(X.alloc (.cells zs t)).drew.heap.size→W.cell? ⟨b,o,none⟩=(X.alloc (.cells zs t)).drew.cell? ⟨b,o,none⟩)(hl:vs.length=zs.size)(hk:vs.length=k)(hA:vs.toArray=A):∀j,j<k→(W.setCells X.heap.size 0 vs).cell? ⟨X.heap.size,j,none⟩=A[j]? :=by
 subst hk;subst hA
 exact kC1 hc hl
abbrev X9(w:World)(x9:Nat)(u v:Int)(wx:World):Prop:=w.heap.size+2≤x9∧x9<wx.heap.size∧wx.cell? ⟨x9,0,none⟩=some (.int .i64 u)∧wx.cell? ⟨x9,1,none⟩=some (.int .i64 v)∧wx.frozen? ⟨x9,0,none⟩=false∧wx.frozen? ⟨x9,1,none⟩=false
theorem qT7{w W wy:World}{x9:Nat}{u v:Int}(h:X9 w x9 u v W)(hb:Below W.heap.size W wy):X9 w x9 u v wy:=
 ⟨h.1,Z4 h.2.1 hb.size,((J9 hb).1 _ _ h.2.1).trans h.2.2.1,((J9 hb).1 _ _ h.2.1).trans h.2.2.2.1,((J9 hb).2 _ _ h.2.1).trans h.2.2.2.2.1,((J9 hb).2 _ _ h.2.1).trans h.2.2.2.2.2⟩
theorem kF8{w W:World}{x9:Nat}{u v u' v':Int}(h:X9 w x9 u v W):X9 w x9 u' v' ((W.setCell ⟨x9,0,none⟩ (.int .i64 u')).setCell ⟨x9,1,none⟩ (.int .i64 v')).drew:=by
 obtain⟨q0,q1,q2,q3,q4,q5⟩:=h
 have e1:(W.setCell ⟨x9,0,none⟩ (.int .i64 u')).cell? ⟨x9,1,none⟩=some (.int .i64 v):=by go_simp
 refine⟨q0,by simpa [World.setCell] using q1,?_,?_,?_,?_⟩
 ·show((W.setCell ⟨x9,0,none⟩ (.int .i64 u')).setCell ⟨x9,1,none⟩ (.int .i64 v')).cell? ⟨x9,0,none⟩=_
  have e2:(W.setCell ⟨x9,0,none⟩ (.int .i64 u')).cell? ⟨x9,0,none⟩=some (.int .i64 u'):=World.cell?_setCell_same' _ _ _ (by rw[q2];rfl)
  go_simp
 ·exact World.cell?_setCell_same' _ _ _ (by rw[e1];rfl)
 ·show((W.setCell ⟨x9,0,none⟩ (.int .i64 u')).setCell ⟨x9,1,none⟩ (.int .i64 v')).frozen? ⟨x9,0,none⟩=_
  rw[World.frozen?_setCell,World.frozen?_setCell];exact q4
 ·show((W.setCell ⟨x9,0,none⟩ (.int .i64 u')).setCell ⟨x9,1,none⟩ (.int .i64 v')).frozen? ⟨x9,1,none⟩=_
  rw[World.frozen?_setCell,World.frozen?_setCell];exact q5
theorem kZ3{a:Option Addr}{n c:Nat}{w W:World}(hL:CS a n c w W):CS a n c w W.drew:=⟨hL.1,hL.2.1,hL.2.2.1,hL.2.2.2.1,hL.2.2.2.2.1,hL.2.2.2.2.2.1,hL.2.2.2.2.2.2.1,hL.2.2.2.2.2.2.2.1,hL.2.2.2.2.2.2.2.2.drew⟩
theorem kZ4{a:Option Addr}{n c x:Nat}{w W:World}{u v:Value}(hL:CS a n c w W)(hx:w.heap.size+2≤x):CS a n c w ((W.setCell ⟨x,0,none⟩ u).setCell ⟨x,1,none⟩ v).drew:=kZ3 (jE2 (vs:=[u,v]) (o:=0) hL hx)
theorem jZ0(a:Option Addr)(n c:Nat)(ps:Nat→PR)(ha:Option Addr)(m d:Nat)(hs:Nat→HV)(w:World)(B:Nat)(hBw:B≤w.heap.size)(hP:Y2 B w a n ps)(hH:qK7 B w ha m hs)(hE:qU0 n ps m hs=0)(hm0:0<m)(hmd:m≤d)(hd:d≤maxLen):
  Calls Tryz.prog 190 #[L3 a n c,.slice ha m d] w fun e w'=>e= .returned (if cH (qD8 ps hs) (m-1)<cL (qD9 ps hs) (m-1) then .tuple #[.agg #[.int .i64 0,.int .i64 0],.int .i64 5] else .tuple #[.agg #[.int .i64 (cL (qD9 ps hs) (m-1)),.int .i64 (cH (qD8 ps hs) (m-1))],.int .i64 0])∧Below w.heap.size w w':=by
 have hm:m≤2000:=by
  by_cases h:2000<m
  ·rw[qU0,if_pos h] at hE;cases hE
  ·omega
 have hB1:qW2 n ps m hs=true:=by
  cases h:qW2 n ps m hs
  ·rw[qU0,if_neg (by omega),h] at hE;cases hE
  ·rfl
 simp only[qW2,Q8,Y9] at hB1
 obtain⟨hC,hall⟩:=hB1
 have hk:∀i,i<m→∃k,k<n∧(hs i).plane=(k:Int)∧C7 (ps k) (hs i)=true:=fun i hi=>kY5 (hall i hi)
 have HP:=Hd hP
 have HH:=Hd hH
 have HC:=Hd hC
 have HK:=Hd hk
 have HE:=Hd (jY8 a n c ps ha m d hs)
 obtain⟨b,off,rfl,hbB,hat⟩:=hH.get hm0
 have HAT:=Hd hat
 clear hP hH hall hk hat
 have hm1:((m:Int)==0)=false:=by simp;omega
 have HLz:=Hd (show cL (qD9 ps hs) 0=qD9 ps hs 0 from rfl)
 have HRz:=Hd (show cH (qD8 ps hs) 0=qD8 ps hs 0 from rfl)
 have HLs:=Hd (fun i=>show cL (qD9 ps hs) (i+1)=if cL (qD9 ps hs) i<qD9 ps hs (i+1) then qD9 ps hs (i+1) else cL (qD9 ps hs) i from rfl)
 have HRs:=Hd (fun i=>show cH (qD8 ps hs) (i+1)=if qD8 ps hs (i+1)<cH (qD8 ps hs) i then qD8 ps hs (i+1) else cH (qD8 ps hs) i from rfl)
 generalize cL (qD9 ps hs)=CL at*
 generalize cH (qD8 ps hs)=CR at*
 go_enter Tryz.func190,Tryz.ntmps190
 generalize hga:(some ⟨b,off,none⟩:Option Addr)=ha at*
 have HA:=Hd hga
 clear hga
 go_upto_region 6 with(go_at_call 198;refine(HE.out _ B (by simp;omega) (HP.out.below (((Q2 B w).alloc hBw _).alloc (by simp;omega) _)) (HH.out.below (((Q2 B w).alloc hBw _).alloc (by simp;omega) _))).mono ?_;rintro e wy ⟨rfl,hby⟩;rw[hE];have hL:=qB3 jE3 hby;clear hby)
 obtain rfl:=HA.out
 obtain⟨k,hkn,hkp,hkh⟩:=HK.out 0 hm0
 have HKP:=Hd hkp
 have HKH:=Hd hkh
 have hS0:S6 a n c b off (hs 0) w wy:=⟨hL,(HAT.out.below (hL.2.2.2.2.2.2.2.2) (by omega)),by omega⟩
 clear hkp hkh hL
 generalize hh0:hs 0=h at*
 have HH0:=Hd hh0
 clear hh0
 go_cut [7,8] from 26 to 33 (fun s7 s8 wx=>∃x7,s7= .pointer (some ⟨x7,0,none⟩)∧s8= .bool true∧(w.heap.size+2≤x7∧x7<wx.heap.size∧∀j,j<16→wx.cell? ⟨x7,j,none⟩=(#[.int .i64 (ps k).kind,.int .i64 (ps k).view,.int .i64 (ps k).z,.int .i64 (ps k).first,.int .i64 (ps k).pitch,.int .i64 (ps k).strips,.int .i64 (ps k).spill,.int .i64 (ps k).olo,.int .i64 (ps k).ohi,.int .i64 (ps k).clo,.int .i64 (ps k).chi,.int .i64 (ps k).jitter,.int .i64 (ps k).least,.slice (ps k).da (ps k).dn (ps k).dc,.slice (ps k).ea (ps k).en (ps k).ec,.int .i64 k]:Array Value)[j]?)∧S6 a n c b off h w wx)
 case first=>
  have hsz0:=zP4 hS0
  go_region_held3 (fun w'=>(w'.cell? ⟨w.heap.size,0,none⟩=some (.slice a n c)∧w'.cell? ⟨w.heap.size+1,0,none⟩=some (.int .i64 0)∧w'.cell? ⟨w.heap.size+1,1,none⟩=some (.int .i64 0)∧w'.frozen? ⟨w.heap.size+1,0,none⟩=false∧w'.frozen? ⟨w.heap.size+1,1,none⟩=false∧w.heap.size+2≤w'.heap.size∧w.heap.size<w'.heap.size∧w.heap.size+1<w'.heap.size∧Below w.heap.size w w')∧(w'.cell? ⟨b,off,none⟩=some (.int .i64 h.plane)∧w'.cell? ⟨b,off+1,none⟩=some (.int .i64 h.channel)∧w'.cell? ⟨b,off+2,none⟩=some (.int .i64 h.many)∧w'.cell? ⟨b,off+3,none⟩=some (.int .i64 h.drift)∧w'.cell? ⟨b,off+4,none⟩=some (.int .i64 h.charge)∧w'.cell? ⟨b,off+5,none⟩=some (.int .i64 h.time))∧b<w.heap.size) (first|(repeat(first|(with_reducible assumption)|(with_reducible refine xW6 ?_)|(with_reducible refine zY2 ?_ _)|(with_reducible refine xH0 ?_ (zP4 (by with_reducible assumption)))))) (first|(go_at_call 37;refine(zS4 a n c ps h _ B (by have hq:=zP4 (by with_reducible assumption);omega) (HP.out.below ((jH5 (by with_reducible assumption)).mono hBw)) HC.out k hkn HKP.out).mono ?_;rintro e wz ⟨rfl,hbz⟩;rw[HKH.out];have hsy:=zU6 (by with_reducible assumption) hbz;obtain⟨hcy,hfy⟩:=J9 hbz;(try have hk1:=xF9 hbz);(try have hk2:=xW3 hbz);clear hbz))
  all_goals(go_wp2_with fail)
  all_goals go_meet
  ·refine⟨wz.heap.size,rfl,rfl,⟨zP4 hsy,by simp,fun j hj=> ?_⟩,?_⟩
   ·exact Q0 _ _ _ _ _ _ (G3 rfl)
   ·with_reducible exact zY2 hsy _
  ·refine⟨wy.heap.size,rfl,rfl,⟨hsz0,?_,?_⟩,?_⟩
   ·with_reducible exact Z4 hk2 (zN1 _ _ _ _)
   ·exact jI5 hcy rfl rfl rfl
   ·with_reducible exact xH0 hsy hsz0
 clear hS0
 obtain⟨x7,rfl,rfl,⟨h71,h72,h73⟩,hS6⟩:=hcut
 obtain⟨tl,htl⟩:∃t,t=qT0 (ps k) h:=⟨_,rfl⟩
 obtain⟨th,hth⟩:∃t,t=qS9 (ps k) h:=⟨_,rfl⟩
 have HTL:=Hd htl
 have HTH:=Hd hth
 have HSh:=Hd (G0 (M3 HC.out hkn))
 have HTm:=Hd (zR7 HKH.out).2.2.2
 clear htl hth
 go_upto_region 7 with(fail)
 go_cut [9] from 34 to 38 (fun s9 wx=>∃x9,s9= .pointer (some ⟨x9,0,none⟩)∧(w.heap.size+2≤x9∧x9<wx.heap.size∧wx.cell? ⟨x9,0,none⟩=some (.int .i64 tl)∧wx.cell? ⟨x9,1,none⟩=some (.int .i64 th)∧wx.frozen? ⟨x9,0,none⟩=false∧wx.frozen? ⟨x9,1,none⟩=false)∧CS a n c w wx)
 case first=>
  have hS0:S7 a n c b off h w x7 (#[.int .i64 (ps k).kind,.int .i64 (ps k).view,.int .i64 (ps k).z,.int .i64 (ps k).first,.int .i64 (ps k).pitch,.int .i64 (ps k).strips,.int .i64 (ps k).spill,.int .i64 (ps k).olo,.int .i64 (ps k).ohi,.int .i64 (ps k).clo,.int .i64 (ps k).chi,.int .i64 (ps k).jitter,.int .i64 (ps k).least,.slice (ps k).da (ps k).dn (ps k).dc,.slice (ps k).ea (ps k).en (ps k).ec,.int .i64 k]:Array Value) wc:=⟨hS6,h72,h73⟩
  have hsz0:=zP4 hS6
  have h7n:x7≠wc.heap.size:=Nat.ne_of_lt h72
  clear hS6 h72 h73
  go_region_held3 (fun w'=>((w'.cell? ⟨w.heap.size,0,none⟩=some (.slice a n c)∧w'.cell? ⟨w.heap.size+1,0,none⟩=some (.int .i64 0)∧w'.cell? ⟨w.heap.size+1,1,none⟩=some (.int .i64 0)∧w'.frozen? ⟨w.heap.size+1,0,none⟩=false∧w'.frozen? ⟨w.heap.size+1,1,none⟩=false∧w.heap.size+2≤w'.heap.size∧w.heap.size<w'.heap.size∧w.heap.size+1<w'.heap.size∧Below w.heap.size w w')∧(w'.cell? ⟨b,off,none⟩=some (.int .i64 h.plane)∧w'.cell? ⟨b,off+1,none⟩=some (.int .i64 h.channel)∧w'.cell? ⟨b,off+2,none⟩=some (.int .i64 h.many)∧w'.cell? ⟨b,off+3,none⟩=some (.int .i64 h.drift)∧w'.cell? ⟨b,off+4,none⟩=some (.int .i64 h.charge)∧w'.cell? ⟨b,off+5,none⟩=some (.int .i64 h.time))∧b<w.heap.size)∧x7<w'.heap.size∧∀j,j<16→w'.cell? ⟨x7,j,none⟩=(#[.int .i64 (ps k).kind,.int .i64 (ps k).view,.int .i64 (ps k).z,.int .i64 (ps k).first,.int .i64 (ps k).pitch,.int .i64 (ps k).strips,.int .i64 (ps k).spill,.int .i64 (ps k).olo,.int .i64 (ps k).ohi,.int .i64 (ps k).clo,.int .i64 (ps k).chi,.int .i64 (ps k).jitter,.int .i64 (ps k).least,.slice (ps k).da (ps k).dn (ps k).dc,.slice (ps k).ea (ps k).en (ps k).ec,.int .i64 k]:Array Value)[j]?) (first|(repeat(first|(with_reducible assumption)|(with_reducible refine kX2 ?_)|(with_reducible refine jH6 ?_ _)|(with_reducible refine kF5 ?_ hsz0 h7n)))) (first|(go_at_call 199;refine(zT7 (ps k) k h _ HSh.out HTm.out).mono ?_;rintro e wz ⟨rfl,hbz⟩;rw[←HTL.out,←HTH.out];have hsy:=xW7 (by with_reducible assumption) hbz;obtain⟨hcy,hfy⟩:=J9 hbz;(try have hk1:=xF9 hbz);(try have hk2:=xW3 hbz);clear hbz))
  all_goals(go_wp2_with fail)
  all_goals go_meet
  ·exact⟨wz.heap.size,rfl,⟨zP4 hsy.1,by simp,by go_simp,by go_simp,by go_simp,by go_simp⟩,(zY2 hsy.1 _).1⟩
  ·refine⟨wc.heap.size,rfl,⟨hsz0,by simpa [World.setCell] using hk2,?_,?_,?_,?_⟩,by with_reducible exact kP8 (by with_reducible assumption)⟩
   all_goals(try go_simp)
   all_goals(refine World.cell?_setCell_same' _ _ _ ?_;go_simp)
 clear hS6 h71 h72 h73
 obtain⟨x9,rfl,hx9,hL⟩:=hcut
 have HX9:=Hd hx9
 have HL:=Hd hL
 clear hx9 hL
 have hm2:(1:Int)≤(m:Int):=by omega
 have hmd2:(m:Int)≤(d:Int):=by omega
 unfold maxLen at hd
 go_upto_region 8 with(fail)
 go_cut [40,41,42] from 39 to 39 (fun s40 s41 s42 wx=>∃sa sc,s40= .slice sa (m-1) sc∧(0<m-1→sa=some ⟨b,off+6,none⟩)∧s41= .int .i64 ((m-1:Nat):Int)∧s42= .int .i64 0∧wx=wc)
 case first=>
  by_cases hd1:d=1
  ·obtain rfl:m=1:=by omega
   subst hd1
   go_wp2_with fail
   go_meet
   exact⟨_,_,rfl,(fun h=>by omega),rfl,rfl,by trivial⟩
  ·have hd2:¬(d:Int)-1=0:=by omega
   have hd3:¬d-1=0:=by omega
   go_wp2_with fail
   go_meet
   exact⟨_,_,rfl,(fun h=>by first|rfl|simp),rfl,rfl,by trivial⟩
 obtain⟨sa,sc,rfl,hsa,rfl,rfl,rfl⟩:=hcut
 have HSA:=Hd hsa
 clear hsa
 have hkk:(hs 0).plane.toNat=k:=by rw[HH0.out,HKP.out];simp
 have HL0:=Hd (show CL 0=tl by rw[HLz.out,qD9,hkk,HH0.out,HTL.out])
 have HR0:=Hd (show CR 0=th by rw[HRz.out,qD8,hkk,HH0.out,HTH.out])
 clear hkk
 go_wp2
 go_loopw [42] (fun t wr=>∃i:Nat,i≤m-1∧t= .int .i64 i∧X9 w x9 (CL i) (CR i) wr∧CS a n c w wr) (fun t _=>(m-1)-(intOf t).toNat)
 case atStart=>exact⟨0,Nat.zero_le _,rfl,by rw[HL0.out,HR0.out];exact HX9.out,HL.out⟩
 case round=>
  clear HX9 HL
  obtain⟨i,hi,rfl,hx9,hL⟩:=hrel
  by_cases hlt:i<m-1
  ·obtain⟨k2,hk2n,hkp2,hkh2⟩:=HK.out (i+1) (by omega)
   have hsa:=HSA.out (by omega)
   subst hsa
   obtain⟨b',off',heq,hb'B,hat2⟩:=(HH.out.below (hL.2.2.2.2.2.2.2.2.mono hBw)).get (show i+1<m by omega)
   obtain⟨rfl,rfl⟩:b=b'∧off=off':=by simpa using heq
   have hls:=HLs.out i
   have hrs:=HRs.out i
   have htl2:qD9 ps hs (i+1)=qT0 (ps k2) (hs (i+1)):=by rw[qD9,hkp2,Int.toNat_natCast]
   have hth2:qD8 ps hs (i+1)=qS9 (ps k2) (hs (i+1)):=by rw[qD8,hkp2,Int.toNat_natCast]
   generalize qD9 ps hs (i+1)=t2 at*
   generalize qD8 ps hs (i+1)=r2 at*
   generalize hgg:hs (i+1)=g at*
   have HTL2:=Hd htl2
   have HTH2:=Hd hth2
   have HKP2:=Hd hkp2
   have HKH2:=Hd hkh2
   have HSh2:=Hd (G0 (M3 HC.out hk2n))
   have HTm2:=Hd (zR7 hkh2).2.2.2
   have HLS:=Hd hls
   have HRS:=Hd hrs
   obtain⟨y0,y1,y2,y3,y4,y5⟩:=hat2
   have hoff:off+(i+1)*6=off+6+i*6:=by omega
   rw[hoff] at y0 y1 y2 y3 y4 y5
   clear hgg htl2 hth2 hkp2 hkh2 hls hrs hoff heq
   have hbz:b<wr.heap.size:=by have:=hL.2.2.2.2.2.1;omega
   generalize CL i=V at*
   generalize CR i=R at*
   have hLb:=hL.2.2.2.2.2.2.2.2
   have hLs:=hL.2.2.2.2.2.1
   go_upto_region 12 with(go_at_call 37;refine(zS4 a n c ps g _ B (by simp;omega) (HP.out.below ((hLb.alloc (by omega) _).mono hBw)) HC.out k2 hk2n HKP2.out).mono ?_;rintro e wz ⟨rfl,hbz2⟩;rw[HKH2.out];have hLz:=qB3 (qB3 hL ((Q2 _ _).alloc (Q1 _) _)) hbz2;have hxz:=qT7 (qT7 hx9 ((Q2 _ _).alloc (Q1 _) _)) hbz2;have hrow:=jA9 (x:=wr.heap.size) (A:= #[.int .i64 g.plane,.int .i64 g.channel,.int .i64 g.many,.int .i64 g.drift,.int .i64 g.charge,.int .i64 g.time]) (by simp) (fun j=>Q0 _ _ _ _ _ _ (G3 rfl)) hbz2;obtain⟨hrz,hrow⟩:=hrow;clear hbz2 hL hx9)
   go_cut [14] from 52 to 54 (fun s14 wx=>∃x14,s14= .pointer (some ⟨x14,0,none⟩)∧(x9≠x14∧x14<wx.heap.size∧wx.cell? ⟨x14,0,none⟩=some (.int .i64 t2)∧wx.cell? ⟨x14,1,none⟩=some (.int .i64 r2))∧X9 w x9 V R wx∧CS a n c w wx)
   case first=>
    go_wp2_with(go_at_call 199;refine(zT7 (ps k2) k2 g _ HSh2.out HTm2.out).mono ?_;rintro e wt ⟨rfl,hbt⟩;rw[←HTL2.out,←HTH2.out];have hLt:=qB3 (qB3 hLz ((Q2 _ _).alloc (Q1 _) _)) hbt;have hxt:=qT7 (qT7 hxz ((Q2 _ _).alloc (Q1 _) _)) hbt;clear hbt hLz hxz hrow hrz)
    go_meet
    refine⟨wt.heap.size,rfl,⟨Nat.ne_of_lt hxt.2.1,by simp,by go_simp,by go_simp⟩,?_,?_⟩
    ·with_reducible exact qT7 hxt ((Q2 _ _).alloc (Q1 _) _)
    ·with_reducible exact qB3 hLt ((Q2 _ _).alloc (Q1 _) _)
   clear hLz hxz hrow hrz hLb hLs hbz y0 y1 y2 y3 y4 y5
   obtain⟨x14,rfl,⟨hne,h14,z0,z1⟩,⟨q0,q1,q2,q3,q4,q5⟩,hL⟩:=hcut
   have HL2:=Hd hL
   clear hL
   go_upto_region 13 with(fail)
   go_region
   go_wp2
   go_roundw
   case rel=>
    refine⟨i+1,by omega,by go_num,?_,?_⟩
    ·rw[HLS.out,HRS.out]
     (try rw[show max V t2=if V<t2 then t2 else V by(split<;>omega),show min R r2=if r2<R then r2 else R by(split<;>omega)])
     exact kF8 ⟨q0,q1,q2,q3,q4,q5⟩
    ·exact kZ4 HL2.out q0
   case measure=>simp[intOf];omega
  ·obtain rfl:i=m-1:=by omega
   clear HLs HRs HL0 HR0
   obtain⟨q0,q1,q2,q3,q4,q5⟩:=hx9
   obtain⟨l0,l1,l2,l3,l4,l5,l6,l7,l8⟩:=hL
   by_cases hgt:CR (m-1)<CL (m-1)
   ·go_wp2
    refine Z2 (v:= .tuple #[.agg #[.int .i64 0,.int .i64 0],.int .i64 5]) ?_ rfl ⟨by first|rfl|rw[if_pos hgt],?_⟩
    ·simp[results,Tryz.results190,go_sem,l1,l2]
    ·exact(l8.setCell (p:=⟨_,_,_⟩) (by simp) _).setCell (p:=⟨_,_,_⟩) (by simp) _
   ·go_wp2
    refine Z2 (v:= .tuple #[.agg #[.int .i64 (CL (m-1)),.int .i64 (CR (m-1))],.int .i64 0]) ?_ rfl ⟨by first|rfl|rw[if_neg hgt],?_⟩
    ·simp[results,Tryz.results190,go_sem,l1,l2]
    ·exact(l8.setCell (p:=⟨_,_,_⟩) (by simp) _).setCell (p:=⟨_,_,_⟩) (by simp) _
end
end Go.Proofs.YtmncaipgefbalaaGreatDoor
