/- Part of the proof of the claim. -/
import Derived.Test.YtmncaipgefbalaaGreatDoorQaw
set_option maxRecDepth 100000
set_option maxHeartbeats 8000000
set_option linter.unusedVariables false
set_option linter.unusedSimpArgs false
namespace Go.Proofs.YtmncaipgefbalaaGreatDoor
section
open Go.RowKit
theorem zN0(p:PR)(w:World)(B:Nat)(hBw:B≤w.heap.size)(hm:p.mem B w)(hK:1≤p.kind∧p.kind≤3)(hP:N4 p=true):
  Calls Tryz.prog 18 #[p.plane] w fun e w'=>e= .returned (.bool (K6 p))∧Below w.heap.size w w':=by
 have HE:=fun(j:Nat) h3 h4 hk h=> @zI9 p j hK hP h3 h4 hk h
 have HX:=fun(j:Nat) hk h=> @zM3 p j hk h
 have HKD:= @zM5 p
 have HMN:= @zO1 p
 obtain⟨k1,k2⟩:=hK
 have hS:=E8.1 hP
 obtain⟨v1,v2⟩:=hS.view
 obtain⟨b1,b2⟩:=hS.pitch
 obtain⟨b3,b4⟩:=hS.strips
 obtain⟨m1,m2⟩:=qL2 b3 b4 b1 b2
 have t1:=J6 hS.z.1 hS.z.2
 have t2:=J6 hS.first.1 hS.first.2
 have t3:=J6 b1 b2
 have t4:=J6 b3 b4
 have t5:=J6 hS.spill.1 hS.spill.2
 have f1:=hS.first
 have f2:=hS.spill
 have f3:=hS.off
 have f4:=hS.clock
 have f5:=hS.low
 have f6:=hS.high
 have t6:J1 p.olo (-1000000) 1000000=true:=J6 (by omega) (by omega)
 have t7:J1 p.ohi (-1000000) 1000000=true:=J6 (by omega) (by omega)
 have t8:J1 p.clo (-1000000000) 1000000000=true:=J6 (by omega) (by omega)
 have t9:J1 p.chi (-1000000000) 1000000000=true:=J6 (by omega) (by omega)
 have t10:=J6 hS.jitter.1 hS.jitter.2
 have t11:=J6 hS.least.1 hS.least.2
 have w1:J1 (p.first-p.pitch-p.spill+p.olo) (-1000000) 1000000=true:=J6 (by omega) (by omega)
 have w2:J1 (p.first+(p.strips+1)*p.pitch+p.spill+p.ohi) (-1000000) 1000000=true:=J6 (by omega) (by omega)
 have n1:p.olo≤p.ohi:=f3.2.1
 have n2:p.clo≤p.chi:=f4.2.1
 obtain⟨g1,g2⟩:=f1
 obtain⟨g3,g4⟩:=f2
 obtain⟨g5,g6,g7⟩:=f3
 clear f4 f5 f6 hS hP
 obtain⟨hdn,hen,hD,hI⟩:=hm
 have HD:=Hd hD
 have HI:=Hd hI
 clear hD hI
 have HE1:=Hd HE
 have HX1:=Hd HX
 have HKD1:=Hd HKD
 have HMN1:=Hd HMN
 clear HE HX HKD HMN
 have hkB:U8 p=if p.kind=2 then E6 p.pitch p.dn p.ds else(p.dn:Int)==0:=rfl
 have HKB:=Hd hkB
 clear hkB
 obtain⟨kind,view,z,first,pitch,strips,spill,olo,ohi,clo,chi,jitter,least,da,dn,dc,ea,en,ec,ds,es⟩:=p
 dsimp only at*
 have hv:view=1∨view=2:=by omega
 have hcases:(view !=1)=false∨((view !=1)=true∧(view !=2)=false):=by rcases hv with e|e<;>simp[e]
 clear hv
 obtain⟨kb,hkb⟩:∃kb:Bool,kb=U8 ⟨kind,view,z,first,pitch,strips,spill,olo,ohi,clo,chi,jitter,least,da,dn,dc,ea,en,ec,ds,es⟩:=⟨_,rfl⟩
 have HKb:=Hd hkb
 rw[←hkb] at HKB
 clear hkb
 have hdn':=hdn
 unfold maxLen at hen hdn'
 go_enter Tryz.func18,Tryz.ntmps18
 go_upto_region 1 with(fail)
 go_cut [51] from 4 to 50 (fun s51 wx=>s51= .bool false∧wx=w.alloc (.cells #[.int .i64 kind,.int .i64 view,.int .i64 z,.int .i64 first,.int .i64 pitch,.int .i64 strips,.int .i64 spill,.int .i64 olo,.int .i64 ohi,.int .i64 clo,.int .i64 chi,.int .i64 jitter,.int .i64 least,.slice da dn dc,.slice ea en ec] 50))
 case first=>
  rcases hcases with e1|⟨e1,e2⟩
  all_goals(go_wp2_with(first|(go_at_call 17;refine(L4 _ _ _ _).mono ?_;rintro e w' ⟨rfl,rfl⟩)|(go_at_call 44;refine(I2 _ _).mono ?_;rintro e w' ⟨rfl,rfl⟩));go_meet;exact⟨congrArg Value.bool (by simp;omega),rfl⟩)
 obtain⟨rfl,rfl⟩:=hcut
 clear hcases t1 t2 t3 t4 t5 k1 k2
 go_upto_region 7 with(first|(go_at_call 17;refine(L4 _ _ _ _).mono ?_;rintro e w' ⟨rfl,rfl⟩)|(go_at_call 44;refine(I2 _ _).mono ?_;rintro e w' ⟨rfl,rfl⟩))
 go_cut [169] from 52 to 168 (fun s169 wx=>s169= .bool (!(kb&&decide ((en:Int)≤100)))∧Below (w.heap.size+1) (w.alloc (.cells #[.int .i64 kind,.int .i64 view,.int .i64 z,.int .i64 first,.int .i64 pitch,.int .i64 strips,.int .i64 spill,.int .i64 olo,.int .i64 ohi,.int .i64 clo,.int .i64 chi,.int .i64 jitter,.int .i64 least,.slice da dn dc,.slice ea en ec] 50)) wx)
 case first=>
  clear t6 t7 t8 t9 t10 t11 w1 w2 n1 n2 g1 g2 g3 g4 g5 g6 g7 m1 m2 v1 v2
  by_cases hk2:kind=2
  ·have hk3:(kind==2)=true:=by simp[hk2]
   have hk4:(kind !=2)=false:=by simp[hk2]
   have hkbv:E6 pitch dn ds=kb:=by have:=HKB.out;rw[if_pos hk2] at this;exact this.symm
   have HKV:=Hd hkbv
   clear hk2 hkbv
   cases kb
   ·go_wp2_with(go_at_call 45;refine(zQ8 pitch da dn dc ds _ B (by simp;omega) (HD.out.below ((Q2 B w).alloc hBw _)) hdn b1 b2).mono ?_;rintro e wy ⟨rfl,hb⟩;rw[HKV.out];have hX:=hb.mono (B':=w.heap.size+1) (by simp);obtain⟨hc,hf⟩:=J9 hX;clear hb)
    go_meet
    exact⟨rfl,hX⟩
   ·by_cases h100:(en:Int)≤100
    ·have h101:¬(100:Int)<en:=by omega
     have h102:decide ((en:Int)≤100)=true:=by simp;omega
     go_wp2_with(go_at_call 45;refine(zQ8 pitch da dn dc ds _ B (by simp;omega) (HD.out.below ((Q2 B w).alloc hBw _)) hdn b1 b2).mono ?_;rintro e wy ⟨rfl,hb⟩;rw[HKV.out];have hX:=hb.mono (B':=w.heap.size+1) (by simp);obtain⟨hc,hf⟩:=J9 hX;clear hb)
     go_meet
     exact⟨congrArg Value.bool (by first|(simp;done)|(simp;omega)|(cases h:decide ((en:Int)≤100)<;>simp at h ⊢ <;>omega)),hX⟩
    ·have h101:(100:Int)<en:=by omega
     go_wp2_with(go_at_call 45;refine(zQ8 pitch da dn dc ds _ B (by simp;omega) (HD.out.below ((Q2 B w).alloc hBw _)) hdn b1 b2).mono ?_;rintro e wy ⟨rfl,hb⟩;rw[HKV.out];have hX:=hb.mono (B':=w.heap.size+1) (by simp);obtain⟨hc,hf⟩:=J9 hX;clear hb)
     go_meet
     exact⟨congrArg Value.bool (by first|(simp;done)|(simp;omega)|(cases h:decide ((en:Int)≤100)<;>simp at h ⊢ <;>omega)),hX⟩
  ·have hk3:(kind==2)=false:=by simp[hk2]
   have hk4:(kind !=2)=true:=by simp[hk2]
   have hkbv:((dn:Int)==0)=kb:=by have:=HKB.out;rw[if_neg hk2] at this;exact this.symm
   have HKV:=Hd hkbv
   clear hk2
   cases kb
   ·have hd0:(0:Int)<dn:=by simp at hkbv;omega
    clear hkbv
    go_wp2
    go_meet
    exact⟨rfl,Q2 _ _⟩
   ·have hd0:decide (0<dn)=false:=by simp at hkbv;simp;omega
    clear hkbv
    go_wp2
    go_meet
    exact⟨congrArg Value.bool (by first|(simp;done)|(simp;omega)|(cases h:decide ((en:Int)≤100)<;>simp at h ⊢ <;>omega)),Q2 _ _⟩
 obtain⟨rfl,hX⟩:=hcut
 clear t6 t7 t8 t9 t10 t11 w1 w2 n1 n2 g1 g2 g3 g4 g5 g6 g7 m1 m2 v1 v2 HKB HD
 have hB0:Below w.heap.size w wc:=((Q2 _ _).alloc (Q1 _) _).trans (hX.mono (by omega))
 by_cases hkt:kb=true
 case neg=>
  have HF:=Hd (HKD1.out (by rw[←HKb.out];exact hkt))
  have e1:(!(kb&&decide ((en:Int)≤100)))=true:=by simp[hkt]
  rw[e1]
  go_wp2
  go_ret
  exact⟨J2 HF.out,hB0⟩
 by_cases h100:(en:Int)≤100
 case neg=>
  have HF:=Hd (HMN1.out (by omega))
  have e1:(!(kb&&decide ((en:Int)≤100)))=true:=by simp[h100]
  rw[e1]
  go_wp2
  go_ret
  exact⟨J2 HF.out,hB0⟩
 have e1:(!(kb&&decide ((en:Int)≤100)))=false:=by simp[h100,hkt]
 rw[e1]
 have HKT:=Hd hkt
 clear hkt e1 hB0
 go_wp2
 go_loopw [3] (fun t wr=>∃k:Nat,k≤en∧t= .int .i64 k∧(∀j,j<k→S9 strips es j=true)∧Below (w.heap.size+1) (w.alloc (.cells #[.int .i64 kind,.int .i64 view,.int .i64 z,.int .i64 first,.int .i64 pitch,.int .i64 strips,.int .i64 spill,.int .i64 olo,.int .i64 ohi,.int .i64 clo,.int .i64 chi,.int .i64 jitter,.int .i64 least,.slice da dn dc,.slice ea en ec] 50)) wr) (fun t _=>en-(intOf t).toNat)
 case atStart=>exact⟨0,Nat.zero_le _,rfl,fun j h=>by omega,hX⟩
 case round=>
  clear hX
  obtain⟨k,hk,rfl,hall,hb⟩:=hrel
  have HALL:=Hd hall
  clear hall
  obtain⟨hc,hf⟩:=J9 hb
  have hz2:w.heap.size<wr.heap.size:=by have:=hb.size;simp at this;omega
  have hB0:Below w.heap.size w wr:=((Q2 _ _).alloc (Q1 _) _).trans (hb.mono (by omega))
  by_cases hlt:k<en
  ·rcases HI.out with hd|⟨b,off,rfl,hbs,hcell⟩
   ·omega
   have c0:=hcell k hlt
   have hbz:b<wr.heap.size:=by omega
   have hbz0:b<w.heap.size:=by omega
   have hbz1:b<w.heap.size+1:=by omega
   have hi5:IntKind.i64.wrap (strips-1)=strips-1:=Z1 _ (by omega)
   by_cases hok:S9 strips es k=true
   ·have HOK:=Hd hok
    rw[E9] at hok
    obtain⟨⟨o1,o2⟩,o3⟩:=hok
    have o4:J1 (es k) 0 (strips-1)=true:=J6 o1 o2
    by_cases hk0:k=0
    ·have hk1:decide (0<k)=false:=by simp;omega
     clear o3 hk0 hcell
     go_wp2_with fail
     go_quiet ((go_at_call 17;exact Calls.quiet_same (L4 _ _ _ _)))
     go_wp2
     clear hi5
     go_roundw
     case rel=>exact⟨k+1,by omega,by go_num,fun j hj=>by(by_cases e:j=k;subst e;exact HOK.out;exact HALL.out j (by omega)),below_drewN hb _⟩
     case measure=>simp[intOf];omega
    ·have hk1:decide (0<k)=true:=by simp;omega
     have o5:es (k-1)<es k:=by omega
     have o6:decide (es k≤es (k-1))=false:=by simp;omega
     have c1:=hcell (k-1) (by omega)
     have hi4:k-1<en:=by omega
     have hi1:(0:Int)≤(k:Int)-1:=by omega
     have hi2:((k:Int)-1).toNat=k-1:=by omega
     have hi3:IntKind.i64.wrap ((k:Int)-1)=(k:Int)-1:=Z1 _ (by omega)
     clear o3 hk0 hcell
     go_wp2_with fail
     go_quiet ((go_at_call 17;exact Calls.quiet_same (L4 _ _ _ _)))
     go_wp2
     clear hi1 hi2 hi3 hi5
     go_roundw
     case rel=>exact⟨k+1,by omega,by go_num,fun j hj=>by(by_cases e:j=k;subst e;exact HOK.out;exact HALL.out j (by omega)),below_drewN hb _⟩
     case measure=>simp[intOf];omega
   ·have HF:=Hd (HX1.out k hlt hok)
    rw[E9] at hok
    by_cases o4:J1 (es k) 0 (strips-1)=true
    ·have hk1:decide (0<k)=true:=by simp;rw[J8] at o4;omega
     have hk2:0<k:=by simpa using hk1
     have o5:decide (es k≤es (k-1))=true:=by rw[J8] at o4;simp;omega
     have c1:=hcell (k-1) (by omega)
     have hi4:k-1<en:=by omega
     have hi1:(0:Int)≤(k:Int)-1:=by omega
     have hi2:((k:Int)-1).toNat=k-1:=by omega
     have hi3:IntKind.i64.wrap ((k:Int)-1)=(k:Int)-1:=Z1 _ (by omega)
     clear hok hcell
     go_wp2_with fail
     go_quiet ((go_at_call 17;exact Calls.quiet_same (L4 _ _ _ _)))
     go_wp2
     go_ret
     exact⟨J2 HF.out,below_drewN hB0 _⟩
    ·have o5:J1 (es k) 0 (strips-1)=false:=by simpa using o4
     clear hok hcell o4
     go_wp2_with fail
     go_quiet ((go_at_call 17;exact Calls.quiet_same (L4 _ _ _ _)))
     go_wp2
     go_ret
     exact⟨J2 HF.out,below_drewN hB0 _⟩
  ·go_wp2
   go_ret
   exact⟨J2 (HE1.out k (by rw[←HKb.out];exact HKT.out) (by assumption) (by omega) HALL.out),hB0⟩
theorem D7(p:PR)(w:World)(B:Nat)(hBw:B≤w.heap.size)(hm:p.mem B w):
  Calls Tryz.prog 18 #[p.plane] w fun e w'=>e= .returned (.bool (K6 p))∧Below w.heap.size w w':=by
 by_cases h:(1≤p.kind∧p.kind≤3)∧D3 p=true
 ·by_cases h2:N4 p=true
  ·exact zN0 p w B hBw hm h.1 h2
  ·exact zE3 p w h.1 h.2 h2
 ·exact zO9 p w h
end
end Go.Proofs.YtmncaipgefbalaaGreatDoor
