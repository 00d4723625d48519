/- Part of the proof of the claim. -/
import Derived.Test.YtmncaipgefbalaaGreatDoorQai
set_option maxRecDepth 100000
set_option maxHeartbeats 8000000
set_option linter.unusedVariables false
set_option linter.unusedSimpArgs false
namespace Go.Proofs.YtmncaipgefbalaaGreatDoor
section
open Go.RowKit
theorem jX7{n k:Nat}{ps:Nat→PR}(hk:k<n)(h:¬C8 ps k=true):false=K7 n ps:=by
 rw[K7,Y7 hk (by simpa using h),Bool.false_and]
theorem xL4{n k:Nat}{ps:Nat→PR}(hk:k=n)(h:∀j,j<k→C8 ps j=true):J1 n 1 16=K7 n ps:=by
 subst hk;rw[K7,Y3 h,Bool.true_and]
theorem qL1{ps:Nat→PR}{k:Nat}:C8 ps k=true↔K6 (ps k)=true∧(k=0∨(ps (k-1)).z<(ps k).z):=by simp[C8]
theorem N8(a:Option Addr)(n c:Nat)(ps:Nat→PR)(w:World)(B:Nat)(hBw:B≤w.heap.size)(hP:Y2 B w a n ps):
  Calls Tryz.prog 30 #[L3 a n c] w fun e w'=>e= .returned (.bool (K7 n ps))∧Below w.heap.size w w':=by
 obtain⟨hn,hP⟩:=hP
 unfold maxLen at hn
 have HP:=Hd hP
 clear hP
 go_enter Tryz.func30,Tryz.ntmps30
 go_wp2
 go_loopw [9,3,4,5] (fun t _ _ _ wr=>∃k:Nat,k≤n∧t= .int .i64 k∧(∀j,j<k→C8 ps j=true)∧Below (w.heap.size+1) (w.alloc (.cells #[.slice a n c] 24)) wr) (fun t _ _ _ _=>n-(intOf t).toNat)
 case atStart=>exact⟨0,Nat.zero_le _,rfl,fun j h=>by omega,Q2 _ _⟩
 case round=>
  obtain⟨k,hk,rfl,hall,hb⟩:=hrel
  have HALL:=Hd hall
  clear hall
  obtain⟨hc,hf⟩:=J9 hb
  have hz:w.heap.size<wr.heap.size:=by have:=hb.size;simp at this;omega
  have hB0:Below w.heap.size w wr:=((Q2 _ _).alloc (Q1 _) _).trans (hb.mono (by omega))
  by_cases hlt:k<n
  ·rcases HP.out with hd|⟨b,off,rfl,hbs,hcell⟩
   ·omega
   obtain⟨⟨c0,c1,c2,c3,c4,c5,c6,c7,c8,c9,c10,c11,c12,c13,c14⟩,hm⟩:=hcell k hlt
   have hbz:b<wr.heap.size:=by omega
   have hbz0:b<w.heap.size:=by omega
   have hbz1:b<w.heap.size+1:=by omega
   have hm1:(ps k).mem B wr:=hm.below (hB0.mono hBw)
   generalize hq:ps k=q at*
   have HQ:=Hd hq
   clear hq hm
   have hBW:B≤wr.heap.size:=by omega
   have hw2:w.heap.size<wr.heap.size+2:=by omega
   have hb2:b<wr.heap.size+2:=by omega
   by_cases hok:C8 ps k=true
   ·have HOK:=Hd hok
    rw[qL1,HQ.out] at hok
    obtain⟨o1,o2⟩:=hok
    by_cases hk0:k=0
    ·have hk1:decide (0<k)=false:=by simp;omega
     clear hk0 o2 hcell
     go_upto_region 5 with(fail)
     (refine J4 (wr.heap.size+2) (by kernel_rfl) (by kernel_rfl) ?_;(repeat(first|go_big_quiet_step((go_at_call 70;refine Calls.calm_of (by simp) (P9 q k _ B (by have:=Below.size (K9.below (by assumption));simp at this;omega) ?_);refine PR.mem.below hm1 (Below.trans ?_ (Below.mono (K9.below _) (by omega)));exact((Q2 _ _).alloc (by omega) _).alloc (by simp;omega) _))|quiet_step((go_at_call 70;refine Calls.calm_of (by simp) (P9 q k _ B (by have:=Below.size (K9.below (by assumption));simp at this;omega) ?_);refine PR.mem.below hm1 (Below.trans ?_ (Below.mono (K9.below _) (by omega)));exact((Q2 _ _).alloc (by omega) _).alloc (by simp;omega) _))));refine X4 (wqn ?_);intro xq)
     have hX:Below (wr.heap.size) wr xq.val:=(((Q2 _ _).alloc (Q1 _) _).alloc (by simp) _).trans (xq.below.mono (by omega))
     go_wp2
     go_roundw
     case rel=>exact⟨k+1,by omega,by go_num,fun j hj=>by(by_cases e:j=k;subst e;exact HOK.out;exact HALL.out j (by omega)),hb.trans (hX.mono (by omega))⟩
     case measure=>simp[intOf];omega
    ·have hk1:decide (0<k)=true:=by simp;omega
     obtain⟨⟨_,_,d2,_,_,_,_,_,_,_,_,_,_,_,_⟩,_⟩:=hcell (k-1) (by omega)
     have hz2:(ps (k-1)).z<q.z:=by omega
     have hz3:decide (q.z≤(ps (k-1)).z)=false:=by simp;omega
     have hi4:k-1<n:=by omega
     have hi1:(0:Int)≤(k:Int)-1:=by omega
     have hi2:((k:Int)-1).toNat=k-1:=by omega
     have hi3:IntKind.i64.wrap ((k:Int)-1)=(k:Int)-1:=Z1 _ (by omega)
     clear hk0 o2 hcell
     go_upto_region 5 with(fail)
     (refine J4 (wr.heap.size+2) (by kernel_rfl) (by kernel_rfl) ?_;(repeat(first|go_big_quiet_step((go_at_call 70;refine Calls.calm_of (by simp) (P9 q k _ B (by have:=Below.size (K9.below (by assumption));simp at this;omega) ?_);refine PR.mem.below hm1 (Below.trans ?_ (Below.mono (K9.below _) (by omega)));exact((Q2 _ _).alloc (by omega) _).alloc (by simp;omega) _))|quiet_step((go_at_call 70;refine Calls.calm_of (by simp) (P9 q k _ B (by have:=Below.size (K9.below (by assumption));simp at this;omega) ?_);refine PR.mem.below hm1 (Below.trans ?_ (Below.mono (K9.below _) (by omega)));exact((Q2 _ _).alloc (by omega) _).alloc (by simp;omega) _))));refine X4 (wqn ?_);intro xq)
     clear hi1 hi2 hi3
     have hX:Below (wr.heap.size) wr xq.val:=(((Q2 _ _).alloc (Q1 _) _).alloc (by simp) _).trans (xq.below.mono (by omega))
     go_wp2
     go_roundw
     case rel=>exact⟨k+1,by omega,by go_num,fun j hj=>by(by_cases e:j=k;subst e;exact HOK.out;exact HALL.out j (by omega)),hb.trans (hX.mono (by omega))⟩
     case measure=>simp[intOf];omega
   ·have HF:=Hd (jX7 hlt hok)
    rw[qL1,HQ.out] at hok
    by_cases o1:K6 q=true
    ·have hk0:¬k=0:=fun e=>hok ⟨o1,.inl e⟩
     have hk1:decide (0<k)=true:=by simp;omega
     obtain⟨⟨_,_,d2,_,_,_,_,_,_,_,_,_,_,_,_⟩,_⟩:=hcell (k-1) (by omega)
     have hz3:decide (q.z≤(ps (k-1)).z)=true:=by have:¬(ps (k-1)).z<q.z:=fun e=>hok ⟨o1,.inr e⟩;simp;omega
     have hi4:k-1<n:=by omega
     have hi1:(0:Int)≤(k:Int)-1:=by omega
     have hi2:((k:Int)-1).toNat=k-1:=by omega
     have hi3:IntKind.i64.wrap ((k:Int)-1)=(k:Int)-1:=Z1 _ (by omega)
     clear hk0 hok hcell
     go_upto_region 5 with(fail)
     (refine J4 (wr.heap.size+2) (by kernel_rfl) (by kernel_rfl) ?_;(repeat(first|go_big_quiet_step((go_at_call 70;refine Calls.calm_of (by simp) (P9 q k _ B (by have:=Below.size (K9.below (by assumption));simp at this;omega) ?_);refine PR.mem.below hm1 (Below.trans ?_ (Below.mono (K9.below _) (by omega)));exact((Q2 _ _).alloc (by omega) _).alloc (by simp;omega) _))|quiet_step((go_at_call 70;refine Calls.calm_of (by simp) (P9 q k _ B (by have:=Below.size (K9.below (by assumption));simp at this;omega) ?_);refine PR.mem.below hm1 (Below.trans ?_ (Below.mono (K9.below _) (by omega)));exact((Q2 _ _).alloc (by omega) _).alloc (by simp;omega) _))));refine X4 (wqn ?_);intro xq)
     clear hi1 hi2 hi3
     have hX:Below (wr.heap.size) wr xq.val:=(((Q2 _ _).alloc (Q1 _) _).alloc (by simp) _).trans (xq.below.mono (by omega))
     go_wp2
     go_ret
     exact⟨J2 HF.out,hB0.trans (hX.mono (by omega))⟩
    ·have o2:K6 q=false:=by simpa using o1
     clear hok hcell o1
     go_upto_region 5 with(fail)
     (refine J4 (wr.heap.size+2) (by kernel_rfl) (by kernel_rfl) ?_;(repeat(first|go_big_quiet_step((go_at_call 70;refine Calls.calm_of (by simp) (P9 q k _ B (by have:=Below.size (K9.below (by assumption));simp at this;omega) ?_);refine PR.mem.below hm1 (Below.trans ?_ (Below.mono (K9.below _) (by omega)));exact((Q2 _ _).alloc (by omega) _).alloc (by simp;omega) _))|quiet_step((go_at_call 70;refine Calls.calm_of (by simp) (P9 q k _ B (by have:=Below.size (K9.below (by assumption));simp at this;omega) ?_);refine PR.mem.below hm1 (Below.trans ?_ (Below.mono (K9.below _) (by omega)));exact((Q2 _ _).alloc (by omega) _).alloc (by simp;omega) _))));refine X4 (wqn ?_);intro xq)
     have hX:Below (wr.heap.size) wr xq.val:=(((Q2 _ _).alloc (Q1 _) _).alloc (by simp) _).trans (xq.below.mono (by omega))
     go_wp2
     go_ret
     exact⟨J2 HF.out,hB0.trans (hX.mono (by omega))⟩
  ·go_wp2_with(go_at_call 71;refine(K5 _ _ _ _).mono ?_;rintro e w' ⟨rfl,rfl⟩)
   go_ret
   exact⟨J2 (xL4 (by omega) HALL.out),hB0⟩
end
end Go.Proofs.YtmncaipgefbalaaGreatDoor
