/- Part of the proof of the claim. -/
import Derived.Test.YtmncaipgefbalaaGreatDoorQag
set_option maxRecDepth 100000
set_option maxHeartbeats 8000000
set_option linter.unusedVariables false
set_option linter.unusedSimpArgs false
namespace Go.Proofs.YtmncaipgefbalaaGreatDoor
section
open Go.RowKit
theorem xD2{p:PR}(h:¬((1≤p.kind∧p.kind≤3)∧D3 p=true)):false=K6 p:=by
 by_cases h1:J1 p.kind 1 3=true
 ·have:D3 p=false:=by
   cases hh:D3 p
   ·rfl
   ·exact absurd ⟨J8.1 h1,hh⟩ h
  simp[K6,N4,this]
 ·simp[K6,h1]
theorem zD6{p:PR}(h:¬N4 p=true):false=K6 p:=by simp[K6,h]
theorem zM5{p:PR}(h:¬U8 p=true):false=K6 p:=by simp[K6,h]
theorem zO1{p:PR}(h:100<(p.en:Int)):false=K6 p:=by
 have:¬((p.en:Int)≤100):=by omega
 simp[K6,qF9,this]
theorem zM3{p:PR}{k:Nat}(hk:k<p.en)(h:¬S9 p.strips p.es k=true):false=K6 p:=by
 simp[K6,qF9,Y7 hk (by simpa using h)]
theorem zI9{p:PR}{k:Nat}(h1:1≤p.kind∧p.kind≤3)(h2:N4 p=true)(h3:U8 p=true)(h4:(p.en:Int)≤100)(hk:k=p.en)(h:∀j,j<k→S9 p.strips p.es j=true):true=K6 p:=by
 subst hk;simp[K6,qF9,Y3 h,J6 h1.1 h1.2,h2,h3,h4]
theorem zO9(p:PR)(w:World)(h:¬((1≤p.kind∧p.kind≤3)∧D3 p=true)):
  Calls Tryz.prog 18 #[p.plane] w fun e w'=>e= .returned (.bool (K6 p))∧Below w.heap.size w w':=by
 have HF:=Hd (xD2 h)
 rw[I8] at h
 have HH:=Hd h
 clear h
 go_enter Tryz.func18,Tryz.ntmps18
 go_upto_region 7 with(first|(go_at_call 17;refine(L4 _ _ _ _).mono ?_;rintro e w' ⟨rfl,rfl⟩)|(go_at_call 44;refine(I2 _ _).mono ?_;rintro e w' ⟨rfl,rfl⟩))
 all_goals first|(go_ret;exact⟨J2 HF.out,(Q2 _ _).alloc (Q1 _) _⟩)|skip
 all_goals(exfalso;go_light;apply HH.out;clear HH HF;simp only[Bool.not_eq_false',Bool.not_eq_eq_eq_not,Bool.not_true,Bool.not_false,J8] at*;omega)
theorem zE3(p:PR)(w:World)(hK:1≤p.kind∧p.kind≤3)(hP:D3 p=true)(h:¬N4 p=true):
  Calls Tryz.prog 18 #[p.plane] w fun e w'=>e= .returned (.bool (K6 p))∧Below w.heap.size w w':=by
 have HF:=Hd (zD6 h)
 obtain⟨k1,k2⟩:=hK
 obtain⟨⟨v1,v2⟩,⟨z1,z2⟩,⟨f1,f2⟩,⟨b1,b2⟩,⟨b3,b4⟩,⟨s1,s2⟩,⟨q1,q2,q3⟩,⟨r1,r2,r3⟩,⟨j1,j2⟩,⟨l1,l2⟩⟩:=I8.1 hP
 obtain⟨m1,m2⟩:=qL2 b3 b4 b1 b2
 have hw:J1 (p.first-p.pitch-p.spill+p.olo) (-1000000) 1000000=false∨J1 (p.first+(p.strips+1)*p.pitch+p.spill+p.ohi) (-1000000) 1000000=false:=by
  simp only[N4,hP,Bool.true_and,Q8,Z8] at h
  by_cases e:J1 (p.first-p.pitch-p.spill+p.olo) (-1000000) 1000000=true
  ·right;apply N9;rw[J8] at e;omega
  ·left;simpa using e
 have t1:=J6 z1 z2
 have t2:=J6 f1 f2
 have t3:=J6 b1 b2
 have t4:=J6 b3 b4
 have t5:=J6 s1 s2
 have t6:J1 p.olo (-1000000) 1000000=true:=J6 (by omega) (by omega)
 have t7:J1 p.ohi (-1000000) 1000000=true:=J6 (by omega) (by omega)
 have t8:J1 p.clo (-1000000000) 1000000000=true:=J6 (by omega) (by omega)
 have t9:J1 p.chi (-1000000000) 1000000000=true:=J6 (by omega) (by omega)
 have t10:=J6 j1 j2
 have t11:=J6 l1 l2
 have hv:(p.view !=1&&p.view !=2)=false:=by simp;omega
 clear hP h
 by_cases hw1:J1 (p.first-p.pitch-p.spill+p.olo) (-1000000) 1000000=true
 ·have hw2:J1 (p.first+(p.strips+1)*p.pitch+p.spill+p.ohi) (-1000000) 1000000=false:=by simpa [hw1] using hw
  clear hw
  by_cases e:p.view=1
  ·have e1:(p.view !=1)=false:=by simp[e]
   clear e
   go_enter Tryz.func18,Tryz.ntmps18
   go_wp2_with(first|(go_at_call 17;refine(L4 _ _ _ _).mono ?_;rintro e w' ⟨rfl,rfl⟩)|(go_at_call 44;refine(I2 _ _).mono ?_;rintro e w' ⟨rfl,rfl⟩))
   go_ret;exact⟨J2 HF.out,(Q2 _ _).alloc (Q1 _) _⟩
  ·have e1:(p.view !=1)=true:=by simp[e]
   have e2:(p.view !=2)=false:=by simp;omega
   clear e
   go_enter Tryz.func18,Tryz.ntmps18
   go_wp2_with(first|(go_at_call 17;refine(L4 _ _ _ _).mono ?_;rintro e w' ⟨rfl,rfl⟩)|(go_at_call 44;refine(I2 _ _).mono ?_;rintro e w' ⟨rfl,rfl⟩))
   go_ret;exact⟨J2 HF.out,(Q2 _ _).alloc (Q1 _) _⟩
 ·have hw2:J1 (p.first-p.pitch-p.spill+p.olo) (-1000000) 1000000=false:=by simpa using hw1
  clear hw hw1
  by_cases e:p.view=1
  ·have e1:(p.view !=1)=false:=by simp[e]
   clear e
   go_enter Tryz.func18,Tryz.ntmps18
   go_wp2_with(first|(go_at_call 17;refine(L4 _ _ _ _).mono ?_;rintro e w' ⟨rfl,rfl⟩)|(go_at_call 44;refine(I2 _ _).mono ?_;rintro e w' ⟨rfl,rfl⟩))
   go_ret;exact⟨J2 HF.out,(Q2 _ _).alloc (Q1 _) _⟩
  ·have e1:(p.view !=1)=true:=by simp[e]
   have e2:(p.view !=2)=false:=by simp;omega
   clear e
   go_enter Tryz.func18,Tryz.ntmps18
   go_wp2_with(first|(go_at_call 17;refine(L4 _ _ _ _).mono ?_;rintro e w' ⟨rfl,rfl⟩)|(go_at_call 44;refine(I2 _ _).mono ?_;rintro e w' ⟨rfl,rfl⟩))
   go_ret;exact⟨J2 HF.out,(Q2 _ _).alloc (Q1 _) _⟩
end
end Go.Proofs.YtmncaipgefbalaaGreatDoor
