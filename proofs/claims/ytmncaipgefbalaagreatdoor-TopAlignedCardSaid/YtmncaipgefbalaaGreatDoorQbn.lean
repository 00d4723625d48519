/- Part of the proof of the claim. -/
import Derived.Test.YtmncaipgefbalaaGreatDoorQbm
set_option maxRecDepth 100000
set_option maxHeartbeats 8000000
set_option linter.unusedVariables false
set_option linter.unusedSimpArgs false
namespace Go.Proofs.YtmncaipgefbalaaGreatDoor
section
open Go.RowKit
structure jD9(W:World)(b o:Nat)(P s h k c:Nat):Prop where
 parts:W.cell? ⟨b,o,none⟩=some (.int .i64 (P:Int))
 slots:W.cell? ⟨b,o+1,none⟩=some (.int .i64 (s:Int))
 hits:W.cell? ⟨b,o+2,none⟩=some (.int .i64 (h:Int))
 rate:W.cell? ⟨b,o+3,none⟩=some (.int .i64 (k:Int))
 capital:W.cell? ⟨b,o+4,none⟩=some (.int .i64 (c:Int))
structure zN8(P s h k c:Nat):Prop where
 parts:2≤P∧P≤1000
 slots:s≤4000
 hits:h≤s
 rate:k≤P
 capital:c≤1000000000000
theorem qX2{a b A B:Int}(ha:0≤a∧a≤A)(hb:0≤b∧b≤B):0≤a*b∧a*b≤A*B:=⟨Int.mul_nonneg ha.1 hb.1,Int.mul_le_mul ha.2 hb.2 hb.1 (Int.le_trans ha.1 ha.2)⟩
abbrev N6:Nat:=1000000000000
theorem jT5(x y:Int):(if x<y then x else y)=min y x:=by
 rw[Int.min_def];split<;>split<;>omega
theorem jT4(x:Int)(y:Nat)(h:x=(y:Int)):(if x<1000000000000 then x else 1000000000000)=((min N6 y:Nat):Int):=by
 subst h
 unfold N6
 split<;>omega
theorem kK8(b o P s h k c:Nat)(w:World)(hB:jD9 w b o P s h k c)(hO:zN8 P s h k c):
  Calls Tryz.prog 169 #[.pointer (some ⟨b,o,none⟩)] w fun e w'=>e= .returned (.int .i64 (A7 N6 P k c s h:Int))∧Below w.heap.size w w':=by
 obtain⟨c0,c1,c2,c3,c4⟩:=hB
 obtain⟨⟨hP1,hP2⟩,hs,hh,hk,hc⟩:=hO
 by_cases hk0:k=0
 ·subst hk0
  have HE:=Hd (show(A7 N6 P 0 c s h:Int)=1000000000000 from rfl)
  generalize A7 N6 P 0 c s h=R at*
  go_enter Tryz.func169,Tryz.ntmps169
  go_wp2
  go_ret
  exact⟨by rw[HE.out];rfl,Q2 _ _⟩
 ·by_cases hkP:k=P
  ·subst hkP
   have HE:=Hd (show A7 N6 k k c s h=c from by unfold A7;rw[if_neg hk0,if_pos rfl])
   generalize A7 N6 k k c s h=R at*
   have hk1:((k:Int)==0)=false:=by rw[beq_eq_false_iff_ne];omega
   clear hk0
   go_enter Tryz.func169,Tryz.ntmps169
   go_wp2
   go_ret
   exact⟨by rw[HE.out];rfl,Q2 _ _⟩
  ·have hk1:((k:Int)==0)=false:=by rw[beq_eq_false_iff_ne];omega
   have hk2:((k:Int)==(P:Int))=false:=by rw[beq_eq_false_iff_ne];omega
   have b1:=qX2 (a:=(c:Int)) (b:=(h:Int)+1) (A:=1000000000000) (B:=4001) ⟨by omega,by omega⟩ ⟨by omega,by omega⟩
   have b2:=qX2 (a:=(c:Int)*((h:Int)+1)) (b:=(P:Int)) (B:=1000) b1 ⟨by omega,by omega⟩
   have b3:=qX2 (a:=(s:Int)+2) (b:=(k:Int)) (A:=4002) (B:=1000) ⟨by omega,by omega⟩ ⟨by omega,by omega⟩
   have b4:((s:Int)+2)*(k:Int)≠0:=by
    have:0<((s:Int)+2)*(k:Int):=Int.mul_pos (by omega) (by omega)
    omega
   have HE:=Hd (show(if(c:Int)*((h:Int)+1)*(P:Int)/(((s:Int)+2)*(k:Int))<1000000000000 then(c:Int)*((h:Int)+1)*(P:Int)/(((s:Int)+2)*(k:Int)) else 1000000000000)=(A7 N6 P k c s h:Int) from by
    unfold A7
    rw[if_neg hk0,if_neg hkP]
    exact jT4 _ _ (by
     rw[show(c:Int)*((h:Int)+1)*(P:Int)=((c*(h+1)*P:Nat):Int) by simp,show((s:Int)+2)*(k:Int)=(((s+2)*k:Nat):Int) by simp]
     rfl))
   generalize A7 N6 P k c s h=R at*
   clear hk0 hkP
   go_enter Tryz.func169,Tryz.ntmps169
   go_upto_region 6 with(fail)
   go_region
   first|rw[HE.out]|rw[←jT5,HE.out]
   go_wp2
   go_ret
   exact⟨rfl,(Q2 _ _).drew⟩
theorem jT6(b o P s h k c:Nat)(w:World)(hB:jD9 w b o P s h k c)(hO:zN8 P s h k c):
  Calls Tryz.prog 168 #[.pointer (some ⟨b,o,none⟩)] w fun e w'=>e= .returned (.int .i64 (A8 N6 P k c s h:Int))∧Below w.heap.size w w':=by
 obtain⟨c0,c1,c2,c3,c4⟩:=hB
 obtain⟨⟨hP1,hP2⟩,hs,hh,hk,hc⟩:=hO
 by_cases hk0:k=0
 ·subst hk0
  have HE:=Hd (show A8 N6 P 0 c s h=c from rfl)
  generalize A8 N6 P 0 c s h=R at*
  go_enter Tryz.func168,Tryz.ntmps168
  go_wp2
  go_ret
  exact⟨by rw[HE.out];rfl,Q2 _ _⟩
 ·by_cases hkP:k=P
  ·subst hkP
   have HE:=Hd (show(A8 N6 k k c s h:Int)=1000000000000 from by unfold A8;rw[if_neg hk0,if_pos rfl];rfl)
   generalize A8 N6 k k c s h=R at*
   have hk1:((k:Int)==0)=false:=by rw[beq_eq_false_iff_ne];omega
   clear hk0
   go_enter Tryz.func168,Tryz.ntmps168
   go_wp2
   go_ret
   exact⟨by rw[HE.out];rfl,Q2 _ _⟩
  ·have hk1:((k:Int)==0)=false:=by rw[beq_eq_false_iff_ne];omega
   have hk2:((k:Int)==(P:Int))=false:=by rw[beq_eq_false_iff_ne];omega
   have b1:=qX2 (a:=(c:Int)) (b:=(s:Int)-(h:Int)+1) (A:=1000000000000) (B:=4001) ⟨by omega,by omega⟩ ⟨by omega,by omega⟩
   have b2:=qX2 (a:=(c:Int)*((s:Int)-(h:Int)+1)) (b:=(P:Int)) (B:=1000) b1 ⟨by omega,by omega⟩
   have b3:=qX2 (a:=(s:Int)+2) (b:=(P:Int)-(k:Int)) (A:=4002) (B:=1000) ⟨by omega,by omega⟩ ⟨by omega,by omega⟩
   have b4:((s:Int)+2)*((P:Int)-(k:Int))≠0:=by
    have:0<((s:Int)+2)*((P:Int)-(k:Int)):=Int.mul_pos (by omega) (by omega)
    omega
   have HE:=Hd (show(if(c:Int)*((s:Int)-(h:Int)+1)*(P:Int)/(((s:Int)+2)*((P:Int)-(k:Int)))<1000000000000 then(c:Int)*((s:Int)-(h:Int)+1)*(P:Int)/(((s:Int)+2)*((P:Int)-(k:Int))) else 1000000000000)=(A8 N6 P k c s h:Int) from by
    unfold A8
    rw[if_neg hk0,if_neg hkP]
    exact jT4 _ _ (by
     rw[show(c:Int)*((s:Int)-(h:Int)+1)*(P:Int)=((c*(s-h+1)*P:Nat):Int) by simp[Int.ofNat_sub hh],show((s:Int)+2)*((P:Int)-(k:Int))=(((s+2)*(P-k):Nat):Int) by simp[Int.ofNat_sub hk]]
     rfl))
   generalize A8 N6 P k c s h=R at*
   clear hk0 hkP
   go_enter Tryz.func168,Tryz.ntmps168
   go_upto_region 6 with(fail)
   go_region
   first|rw[HE.out]|rw[←jT5,HE.out]
   go_wp2
   go_ret
   exact⟨rfl,(Q2 _ _).drew⟩
end
end Go.Proofs.YtmncaipgefbalaaGreatDoor
