/- Part of the proof of the claim. -/
import Derived.Test.YtmncaipgefbalaaGreatDoorQal
set_option maxRecDepth 100000
set_option maxHeartbeats 8000000
set_option linter.unusedVariables false
set_option linter.unusedSimpArgs false
namespace Go.Proofs.YtmncaipgefbalaaGreatDoor
section
open Go.RowKit
theorem Y4{B:Nat}{a:World}{b:Nat}(hB:B≤b):∀(vs:List Value) (o:Nat) (w:World),Below B a w→Below B a (w.setCells b o vs)
 |[],_,_,h=>h
 |v::r,o,w,h=>Y4 hB r (o+1) _ (h.setCell (p:=⟨b,o,none⟩) hB v)
theorem C5{w:World}{b:Nat}{zs:Array Value}{vs:List Value}(hc:∀j,w.cell? ⟨b,j,none⟩=zs[j]?)(hf:∀j,w.frozen? ⟨b,j,none⟩=false)(hz:zs.size=vs.length):(w.setCells b 0 vs).rangeAt b 0 vs:=
 World.rangeAt_setCells_same w b 0 vs (fun j hj=>⟨by rw[Nat.zero_add,hc,Array.getElem?_eq_getElem (by omega)];rfl,hf _⟩)
abbrev xU8:Value:= .agg #[.int .i64 0,.int .i64 0,.int .i64 0,.int .i64 0,.int .i64 0,.int .i64 0,.int .i64 0,.int .i64 0,.int .i64 0,.int .i64 0,.int .i64 0,.int .i64 0,.int .i64 0,.slice none 0 0,.slice none 0 0,.int .i64 0]
theorem qZ0{w:World}{b b' j o:Nat}{vs:List Value}(h:b'≠b):(w.setCells b o vs).cell? ⟨b',j,none⟩=w.cell? ⟨b',j,none⟩:=
 World.cell?_setCells_out b vs o w ⟨b',j,none⟩ (fun e=>absurd e h)
theorem qO6{w:World}{o:Obj}{i:Nat}(h:i=w.heap.size):(w.alloc o).heap[i]?=some o:=by subst h;exact Q3 w o
theorem qQ6{w:World}{o:Obj}{i:Nat}(h:i<w.heap.size):(w.alloc o).heap[i]?=w.heap[i]? :=Q9 w o i h
theorem xY7(w:World)(a b c d:Obj):((((w.alloc a).alloc b).alloc c).alloc d).heap[w.heap.size+1]?=some b:=by
 rw[qQ6 (by simp),qQ6 (by simp),qO6 (by simp)]
theorem qW1(w:World)(a b c d:Obj):((((w.alloc a).alloc b).alloc c).alloc d).heap[w.heap.size+2]?=some c:=by
 rw[qQ6 (by simp),qO6 (by simp)]
theorem xY8(w:World)(a b c d:Obj):((((w.alloc a).alloc b).alloc c).alloc d).heap[w.heap.size+3]?=some d:=qO6 (by simp)
theorem jU5(a:Option Addr)(n c:Nat)(h:HV)(w:World)(hn:n≤16)(ho:¬(0≤h.plane∧h.plane≤(n:Int)-1)):
  Calls Tryz.prog 37 #[L3 a n c,h.val] w fun e w'=>e= .returned (.tuple #[xU8,.bool false])∧Below w.heap.size w w':=by
 have h1:=N9 ho
 clear ho
 go_enter Tryz.func37,Tryz.ntmps37
 go_wp2_with(go_at_call 71;refine(K5 _ _ _ _).mono ?_;rintro e w' ⟨rfl,rfl⟩)
 refine Z2 (C3 rfl _ _ (w.heap.size+2) [.int .i64 0,.int .i64 0,.int .i64 0,.int .i64 0,.int .i64 0,.int .i64 0,.int .i64 0,.int .i64 0,.int .i64 0,.int .i64 0,.int .i64 0,.int .i64 0,.int .i64 0,.slice none 0 0,.slice none 0 0,.int .i64 0] rfl ?hr Tryz.underlying102 rfl B7) rfl ⟨rfl,?_⟩
 case hr=>(refine kG6 ?_;go_simp)
 exact(((Q2 _ _).alloc (Q1 _) _).alloc (by simp) _).alloc (by simp;omega) _
theorem xR8(a:Option Addr)(n c:Nat)(ps:Nat→PR)(h:HV)(w:World)(B:Nat)(hBw:B≤w.heap.size)(hP:Y2 B w a n ps)(hC:K7 n ps=true)(k:Nat)(hk:k<n)(hh:h.plane=k)(hpre0:F1 (ps k) h=true):
  Calls Tryz.prog 37 #[L3 a n c,h.val] w fun e w'=>e= .returned (.tuple #[(ps k).placed k,.bool (C7 (ps k) h)])∧Below w.heap.size w w':=by
 obtain⟨b,off,rfl,hbB,⟨c0,c1,c2,c3,c4,c5,c6,c7,c8,c9,c10,c11,c12,c13,c14⟩,hm⟩:=hP.get hk
 have hN:=P1 hC
 have hS:=G0 (M3 hC hk)
 clear hP hC
 obtain⟨_,channel,many,drift,charge,time⟩:=h
 dsimp only at hh
 subst hh
 generalize ps k=p at*
 obtain⟨hst1,hst2⟩:=hS.strips
 obtain⟨hl1,hl2⟩:=hS.least
 clear hS
 have h1:J1 (k:Int) 0 ((n:Int)-1)=true:=J6 (by omega) (by omega)
 have hbz:b<w.heap.size:=by omega
 have lt1:b<w.heap.size+1:=by omega
 have lt2:b<w.heap.size+1+1:=by omega
 have lt3:b<w.heap.size+1+1+1:=by omega
 obtain⟨hdn,hen,hD,hI⟩:=hm
 have HF1:=Hd (fun hh=>(@xG1 p ⟨k,channel,many,drift,charge,time⟩ hh).symm)
 have hF2:=fun j hj hh=>(@zR6 p ⟨k,channel,many,drift,charge,time⟩ j hj hh).symm
 have hF3:=fun j h1 hk hh=>(@xG0 p ⟨k,channel,many,drift,charge,time⟩ j h1 hk hh).symm
 have hND:∀j,P6 p ⟨k,channel,many,drift,charge,time⟩ j= !J1 (p.es j) channel (channel+many-1):=fun _=>rfl
 generalize P6 p ⟨k,channel,many,drift,charge,time⟩=ND at hF2 hF3 hND
 have HF2:=Hd hF2
 have HF3:=Hd hF3
 have HND:=Hd hND
 clear hF2 hF3 hND
 have HI:=Hd hI
 clear hD hI hdn
 unfold maxLen at hen
 obtain⟨kind,view,z,first,pitch,strips,spill,olo,ohi,clo,chi,jitter,least,da,dn,dc,ea,en,ec,ds,es⟩:=p
 dsimp only at*
 have hpre:J1 channel 0 (strips-1)=true∧J1 many 1 (strips-channel)=true∧J1 charge least 1000000=true∧J1 time (-1000000000) 1000000000=true:=by simpa [F1] using hpre0
 clear hpre0
 obtain⟨p1,p2,p3,p4⟩:=hpre
 have HPRE:=Hd (show F1 ⟨kind,view,z,first,pitch,strips,spill,olo,ohi,clo,chi,jitter,least,da,dn,dc,ea,en,ec,ds,es⟩ ⟨k,channel,many,drift,charge,time⟩=true by simp[F1,p1,p2,p3,p4])
 obtain⟨q1,q2⟩:=J8.1 p1
 obtain⟨q3,q4⟩:=J8.1 p2
 go_enter Tryz.func37,Tryz.ntmps37
 go_upto_region 3 with((go_at_call 71;refine(K5 _ _ _ _).mono ?_;rintro e w' ⟨rfl,rfl⟩))
 go_cut [6] from 9 to 26 (fun s6 wx=>s6= .pointer (some ⟨w.heap.size+3,0,none⟩)∧(∀j,wx.cell? ⟨w.heap.size+1,j,none⟩=(#[.int .i64 k,.int .i64 channel,.int .i64 many,.int .i64 drift,.int .i64 charge,.int .i64 time]:Array Value)[j]?)∧(∀j,wx.cell? ⟨w.heap.size+3,j,none⟩=(#[.int .i64 kind,.int .i64 view,.int .i64 z,.int .i64 first,.int .i64 pitch,.int .i64 strips,.int .i64 spill,.int .i64 olo,.int .i64 ohi,.int .i64 clo,.int .i64 chi,.int .i64 jitter,.int .i64 least,.slice da dn dc,.slice ea en ec,.int .i64 k]:Array Value)[j]?)∧(∀j,wx.cell? ⟨w.heap.size+2,j,none⟩=(#[.int .i64 0,.int .i64 0,.int .i64 0,.int .i64 0,.int .i64 0,.int .i64 0,.int .i64 0,.int .i64 0,.int .i64 0,.int .i64 0,.int .i64 0,.int .i64 0,.int .i64 0,.slice none 0 0,.slice none 0 0,.int .i64 0]:Array Value)[j]?)∧(∀j,wx.frozen? ⟨w.heap.size+2,j,none⟩=false)∧Below w.heap.size w wx)
 case first=>
  go_region
  go_wp2_with fail
  go_meet
  clear c0 c1 c2 c3 c4 c5 c6 c7 c8 c9 c10 c11 c12 c13 c14
  refine⟨rfl,fun j=> ?_,fun j=> ?_,fun j=> ?_,fun j=> ?_,?_⟩
  ·rw[World.cell?_drew];exact Q0 _ _ _ _ _ _ (xY7 _ _ _ _ _)
  ·rw[World.cell?_drew];exact Q0 _ _ _ _ _ _ (xY8 _ _ _ _ _)
  ·rw[World.cell?_drew];exact Q0 _ _ _ _ _ _ (qW1 _ _ _ _ _)
  ·rw[World.frozen?_drew];exact Z3 _ _ _ _ _ (qW1 _ _ _ _ _)
  ·first|exact Below.drew (((((Q2 _ _).alloc (Q1 _) _).alloc (by simp) _).alloc (by simp;omega) _).alloc (by simp;omega) _)|exact Below.drew (Below.drew (((((Q2 _ _).alloc (Q1 _) _).alloc (by simp) _).alloc (by simp;omega) _).alloc (by simp;omega) _))
 obtain⟨rfl,hh,hp,hr,hrf,hbx⟩:=hcut
 clear c0 c1 c2 c3 c4 c5 c6 c7 c8 c9 c10 c11 c12 c13 c14 lt1 lt2 lt3
 go_wp2_with(go_at_call 71;refine(K5 _ _ _ _).mono ?_;rintro e w' ⟨rfl,rfl⟩)
 go_loop [67,8] (fun t _=>∃j:Nat,j≤en∧t= .int .i64 j∧∀i,i<j→ND i=true) (fun t _=>en-(intOf t).toNat)
 case atStart=>exact⟨0,Nat.zero_le _,rfl,fun j h=>by omega⟩
 case round=>
  obtain⟨j,hj,rfl,hall⟩:=hrel
  have HALL:=Hd hall
  clear hall
  by_cases hlt:j<en
  ·rcases HI.out with hd|⟨b2,off2,rfl,hbs2,hcell2⟩
   ·omega
   have e0:=(hbx.cell (p:=⟨b2,off2+j,none⟩) (by show b2<_;omega)).trans (hcell2 j hlt)
   clear hcell2
   by_cases hd:J1 (es j) channel (channel+many-1)=true
   ·have HF:=Hd (HF2.out j hlt (by rw[HND.out];simp[hd]))
    go_wp2_with(go_at_call 71;refine(K5 _ _ _ _).mono ?_;rintro e w' ⟨rfl,rfl⟩)
    (refine Z2 (C3 rfl _ _ (w.heap.size+2) [.int .i64 kind,.int .i64 view,.int .i64 z,.int .i64 first,.int .i64 pitch,.int .i64 strips,.int .i64 spill,.int .i64 olo,.int .i64 ohi,.int .i64 clo,.int .i64 chi,.int .i64 jitter,.int .i64 least,.slice da dn dc,.slice (some ⟨b2,off2,none⟩) en ec,.int .i64 k] rfl ?_ Tryz.underlying102 rfl B7) rfl ⟨?_,?_⟩;(·(try simp only[World.rangeAt_drew]);exact C5 hr hrf rfl);(·rw[←HF.out];rfl);(·repeat(first|(with_reducible exact hbx)|(with_reducible apply Below.drew)|(with_reducible refine Y4 (by omega) _ _ _ ?_))))
   ·have hd':J1 (es j) channel (channel+many-1)=false:=by simpa using hd
    have HN:=Hd (show ND j=true by rw[HND.out];simp[hd'])
    clear hd
    go_wp2_with(go_at_call 71;refine(K5 _ _ _ _).mono ?_;rintro e w' ⟨rfl,rfl⟩)
    go_round
    case rel=>exact⟨j+1,by omega,by go_num,fun i hi=>by(by_cases e:i=j;subst e;exact HN.out;exact HALL.out i (by omega))⟩
    case measure=>simp[intOf];omega
  ·have HE:=Hd (HF3.out j HPRE.out (by omega) HALL.out)
   by_cases hk2:kind=2
   ·have hk3:(kind==2)=true:=by simp[hk2]
    have HK:=Hd hk2
    clear hk2
    by_cases hm1:many=1
    ·have hm2:(many==1)=true:=by simp[hm1]
     have HM:=Hd hm1
     clear hm1
     go_wp2
     go_region_held3 (fun w'=>(∀j,w'.cell? ⟨w.heap.size+1,j,none⟩=(#[.int .i64 k,.int .i64 channel,.int .i64 many,.int .i64 drift,.int .i64 charge,.int .i64 time]:Array Value)[j]?)∧(∀j,w'.cell? ⟨w.heap.size+3,j,none⟩=(#[.int .i64 kind,.int .i64 view,.int .i64 z,.int .i64 first,.int .i64 pitch,.int .i64 strips,.int .i64 spill,.int .i64 olo,.int .i64 ohi,.int .i64 clo,.int .i64 chi,.int .i64 jitter,.int .i64 least,.slice da dn dc,.slice ea en ec,.int .i64 k]:Array Value)[j]?)) ((refine⟨fun j=> ?_,fun j=> ?_⟩<;>simp[hh,hp,qZ0])) (first|(go_at_call 71;refine(K5 _ _ _ _).mono ?_;rintro e w' ⟨rfl,rfl⟩))
     all_goals go_wp2
     all_goals(refine Z2 (C3 rfl _ _ (w.heap.size+2) [.int .i64 kind,.int .i64 view,.int .i64 z,.int .i64 first,.int .i64 pitch,.int .i64 strips,.int .i64 spill,.int .i64 olo,.int .i64 ohi,.int .i64 clo,.int .i64 chi,.int .i64 jitter,.int .i64 least,.slice da dn dc,.slice (ea) en ec,.int .i64 k] rfl ?_ Tryz.underlying102 rfl B7) rfl ⟨?_,?_⟩;(·(try simp only[World.rangeAt_drew]);exact C5 hr hrf rfl);(·rw[←HE.out];simp[F9,HM.out,HK.out]);(·repeat(first|(with_reducible exact hbx)|(with_reducible apply Below.drew)|(with_reducible refine Y4 (by omega) _ _ _ ?_))))
    ·have hm2:(many==1)=false:=by simp[hm1]
     have HM:=Hd hm1
     clear hm1
     go_wp2
     go_region
     all_goals go_wp2
     all_goals(refine Z2 (C3 rfl _ _ (w.heap.size+2) [.int .i64 kind,.int .i64 view,.int .i64 z,.int .i64 first,.int .i64 pitch,.int .i64 strips,.int .i64 spill,.int .i64 olo,.int .i64 ohi,.int .i64 clo,.int .i64 chi,.int .i64 jitter,.int .i64 least,.slice da dn dc,.slice (ea) en ec,.int .i64 k] rfl ?_ Tryz.underlying102 rfl B7) rfl ⟨?_,?_⟩;(·(try simp only[World.rangeAt_drew]);exact C5 hr hrf rfl);(·rw[←HE.out];simp[F9,HM.out,HK.out]);(·repeat(first|(with_reducible exact hbx)|(with_reducible apply Below.drew)|(with_reducible refine Y4 (by omega) _ _ _ ?_))))
   ·have hk3:(kind==2)=false:=by simp[hk2]
    have HK:=Hd hk2
    clear hk2
    by_cases hd1:drift=0
    ·have hd2:(drift==0)=true:=by simp[hd1]
     have HD1:=Hd hd1
     clear hd1
     by_cases hk4:kind=3
     ·have hk5:(kind !=3)=false:=by simp[hk4]
      have HK4:=Hd hk4
      clear hk4
      go_wp2
      go_region_held3 (fun w'=>(∀j,w'.cell? ⟨w.heap.size+1,j,none⟩=(#[.int .i64 k,.int .i64 channel,.int .i64 many,.int .i64 drift,.int .i64 charge,.int .i64 time]:Array Value)[j]?)∧(∀j,w'.cell? ⟨w.heap.size+3,j,none⟩=(#[.int .i64 kind,.int .i64 view,.int .i64 z,.int .i64 first,.int .i64 pitch,.int .i64 strips,.int .i64 spill,.int .i64 olo,.int .i64 ohi,.int .i64 clo,.int .i64 chi,.int .i64 jitter,.int .i64 least,.slice da dn dc,.slice ea en ec,.int .i64 k]:Array Value)[j]?)) ((refine⟨fun j=> ?_,fun j=> ?_⟩<;>simp[hh,hp,qZ0])) (fail)
      all_goals go_wp2
      all_goals(refine Z2 (C3 rfl _ _ (w.heap.size+2) [.int .i64 kind,.int .i64 view,.int .i64 z,.int .i64 first,.int .i64 pitch,.int .i64 strips,.int .i64 spill,.int .i64 olo,.int .i64 ohi,.int .i64 clo,.int .i64 chi,.int .i64 jitter,.int .i64 least,.slice da dn dc,.slice (ea) en ec,.int .i64 k] rfl ?_ Tryz.underlying102 rfl B7) rfl ⟨?_,?_⟩;(·(try simp only[World.rangeAt_drew]);exact C5 hr hrf rfl);(·rw[←HE.out];simp[F9,HD1.out,HK4.out]);(·repeat(first|(with_reducible exact hbx)|(with_reducible apply Below.drew)|(with_reducible refine Y4 (by omega) _ _ _ ?_))))
     ·have hk5:(kind !=3)=true:=by simp[hk4]
      have HK4:=Hd hk4
      clear hk4
      go_wp2
      go_region
      all_goals go_wp2
      all_goals(refine Z2 (C3 rfl _ _ (w.heap.size+2) [.int .i64 kind,.int .i64 view,.int .i64 z,.int .i64 first,.int .i64 pitch,.int .i64 strips,.int .i64 spill,.int .i64 olo,.int .i64 ohi,.int .i64 clo,.int .i64 chi,.int .i64 jitter,.int .i64 least,.slice da dn dc,.slice (ea) en ec,.int .i64 k] rfl ?_ Tryz.underlying102 rfl B7) rfl ⟨?_,?_⟩;(·(try simp only[World.rangeAt_drew]);exact C5 hr hrf rfl);(·rw[←HE.out];simp[F9,HD1.out,HK4.out,HK.out]);(·repeat(first|(with_reducible exact hbx)|(with_reducible apply Below.drew)|(with_reducible refine Y4 (by omega) _ _ _ ?_))))
    ·have hd2:(drift==0)=false:=by simp[hd1]
     have HD1:=Hd hd1
     clear hd1
     go_wp2
     go_region
     all_goals go_wp2
     all_goals(refine Z2 (C3 rfl _ _ (w.heap.size+2) [.int .i64 kind,.int .i64 view,.int .i64 z,.int .i64 first,.int .i64 pitch,.int .i64 strips,.int .i64 spill,.int .i64 olo,.int .i64 ohi,.int .i64 clo,.int .i64 chi,.int .i64 jitter,.int .i64 least,.slice da dn dc,.slice (ea) en ec,.int .i64 k] rfl ?_ Tryz.underlying102 rfl B7) rfl ⟨?_,?_⟩;(·(try simp only[World.rangeAt_drew]);exact C5 hr hrf rfl);(·rw[←HE.out];simp[F9,HD1.out,HK.out]);(·repeat(first|(with_reducible exact hbx)|(with_reducible apply Below.drew)|(with_reducible refine Y4 (by omega) _ _ _ ?_))))
theorem jY4(a:Option Addr)(n c:Nat)(ps:Nat→PR)(h:HV)(w:World)(B:Nat)(hBw:B≤w.heap.size)(hP:Y2 B w a n ps)(hC:K7 n ps=true)(k:Nat)(hk:k<n)(hh:h.plane=k)(hpre0:¬F1 (ps k) h=true):
  Calls Tryz.prog 37 #[L3 a n c,h.val] w fun e w'=>e= .returned (.tuple #[(ps k).placed k,.bool (C7 (ps k) h)])∧Below w.heap.size w w':=by
 obtain⟨b,off,rfl,hbB,⟨c0,c1,c2,c3,c4,c5,c6,c7,c8,c9,c10,c11,c12,c13,c14⟩,hm⟩:=hP.get hk
 have hN:=P1 hC
 have hS:=G0 (M3 hC hk)
 clear hP hC
 obtain⟨_,channel,many,drift,charge,time⟩:=h
 dsimp only at hh
 subst hh
 generalize ps k=p at*
 obtain⟨hst1,hst2⟩:=hS.strips
 obtain⟨hl1,hl2⟩:=hS.least
 clear hS
 have h1:J1 (k:Int) 0 ((n:Int)-1)=true:=J6 (by omega) (by omega)
 have hbz:b<w.heap.size:=by omega
 have lt1:b<w.heap.size+1:=by omega
 have lt2:b<w.heap.size+1+1:=by omega
 have lt3:b<w.heap.size+1+1+1:=by omega
 obtain⟨hdn,hen,hD,hI⟩:=hm
 have HF1:=Hd (fun hh=>(@xG1 p ⟨k,channel,many,drift,charge,time⟩ hh).symm)
 have hF2:=fun j hj hh=>(@zR6 p ⟨k,channel,many,drift,charge,time⟩ j hj hh).symm
 have hF3:=fun j h1 hk hh=>(@xG0 p ⟨k,channel,many,drift,charge,time⟩ j h1 hk hh).symm
 have hND:∀j,P6 p ⟨k,channel,many,drift,charge,time⟩ j= !J1 (p.es j) channel (channel+many-1):=fun _=>rfl
 generalize P6 p ⟨k,channel,many,drift,charge,time⟩=ND at hF2 hF3 hND
 have HF2:=Hd hF2
 have HF3:=Hd hF3
 have HND:=Hd hND
 clear hF2 hF3 hND
 have HI:=Hd hI
 clear hD hI hdn
 unfold maxLen at hen
 obtain⟨kind,view,z,first,pitch,strips,spill,olo,ohi,clo,chi,jitter,least,da,dn,dc,ea,en,ec,ds,es⟩:=p
 dsimp only at*
 have hpre:¬(J1 channel 0 (strips-1)=true∧J1 many 1 (strips-channel)=true∧J1 charge least 1000000=true∧J1 time (-1000000000) 1000000000=true):=by simpa [F1] using hpre0
 clear hpre0
 have HF:=Hd (HF1.out (by simpa [F1] using hpre))
 have HPRE:=Hd hpre
 clear hpre
 go_enter Tryz.func37,Tryz.ntmps37
 go_upto_region 3 with((go_at_call 71;refine(K5 _ _ _ _).mono ?_;rintro e w' ⟨rfl,rfl⟩))
 go_cut [6] from 9 to 26 (fun s6 wx=>s6= .pointer (some ⟨w.heap.size+3,0,none⟩)∧(∀j,wx.cell? ⟨w.heap.size+1,j,none⟩=(#[.int .i64 k,.int .i64 channel,.int .i64 many,.int .i64 drift,.int .i64 charge,.int .i64 time]:Array Value)[j]?)∧(∀j,wx.cell? ⟨w.heap.size+3,j,none⟩=(#[.int .i64 kind,.int .i64 view,.int .i64 z,.int .i64 first,.int .i64 pitch,.int .i64 strips,.int .i64 spill,.int .i64 olo,.int .i64 ohi,.int .i64 clo,.int .i64 chi,.int .i64 jitter,.int .i64 least,.slice da dn dc,.slice ea en ec,.int .i64 k]:Array Value)[j]?)∧(∀j,wx.cell? ⟨w.heap.size+2,j,none⟩=(#[.int .i64 0,.int .i64 0,.int .i64 0,.int .i64 0,.int .i64 0,.int .i64 0,.int .i64 0,.int .i64 0,.int .i64 0,.int .i64 0,.int .i64 0,.int .i64 0,.int .i64 0,.slice none 0 0,.slice none 0 0,.int .i64 0]:Array Value)[j]?)∧(∀j,wx.frozen? ⟨w.heap.size+2,j,none⟩=false)∧Below w.heap.size w wx)
 case first=>
  go_region
  go_wp2_with fail
  go_meet
  clear c0 c1 c2 c3 c4 c5 c6 c7 c8 c9 c10 c11 c12 c13 c14
  refine⟨rfl,fun j=> ?_,fun j=> ?_,fun j=> ?_,fun j=> ?_,?_⟩
  ·rw[World.cell?_drew];exact Q0 _ _ _ _ _ _ (xY7 _ _ _ _ _)
  ·rw[World.cell?_drew];exact Q0 _ _ _ _ _ _ (xY8 _ _ _ _ _)
  ·rw[World.cell?_drew];exact Q0 _ _ _ _ _ _ (qW1 _ _ _ _ _)
  ·rw[World.frozen?_drew];exact Z3 _ _ _ _ _ (qW1 _ _ _ _ _)
  ·first|exact Below.drew (((((Q2 _ _).alloc (Q1 _) _).alloc (by simp) _).alloc (by simp;omega) _).alloc (by simp;omega) _)|exact Below.drew (Below.drew (((((Q2 _ _).alloc (Q1 _) _).alloc (by simp) _).alloc (by simp;omega) _).alloc (by simp;omega) _))
 obtain⟨rfl,hh,hp,hr,hrf,hbx⟩:=hcut
 clear c0 c1 c2 c3 c4 c5 c6 c7 c8 c9 c10 c11 c12 c13 c14 lt1 lt2 lt3
 by_cases p1:J1 channel 0 (strips-1)=true
 ·obtain⟨q1,q2⟩:=J8.1 p1
  go_upto_region 6 with((go_at_call 71;refine(K5 _ _ _ _).mono ?_;rintro e w' ⟨rfl,rfl⟩))
  all_goals first|(refine Z2 (C3 rfl _ _ (w.heap.size+2) [.int .i64 kind,.int .i64 view,.int .i64 z,.int .i64 first,.int .i64 pitch,.int .i64 strips,.int .i64 spill,.int .i64 olo,.int .i64 ohi,.int .i64 clo,.int .i64 chi,.int .i64 jitter,.int .i64 least,.slice da dn dc,.slice (ea) en ec,.int .i64 k] rfl ?_ Tryz.underlying102 rfl B7) rfl ⟨?_,?_⟩;(·(try simp only[World.rangeAt_drew]);exact C5 hr hrf rfl);(·rw[←HF.out];rfl);(·repeat(first|(with_reducible exact hbx)|(with_reducible apply Below.drew)|(with_reducible refine Y4 (by omega) _ _ _ ?_))))|(exfalso;go_light;apply HPRE.out;clear HPRE HF HF1 HF2 HF3 HND HI hh hp hr hrf hbx;simp_all)
 ·have p2:J1 channel 0 (strips-1)=false:=by simpa using p1
  clear p1
  go_wp2_with(go_at_call 71;refine(K5 _ _ _ _).mono ?_;rintro e w' ⟨rfl,rfl⟩)
  (refine Z2 (C3 rfl _ _ (w.heap.size+2) [.int .i64 kind,.int .i64 view,.int .i64 z,.int .i64 first,.int .i64 pitch,.int .i64 strips,.int .i64 spill,.int .i64 olo,.int .i64 ohi,.int .i64 clo,.int .i64 chi,.int .i64 jitter,.int .i64 least,.slice da dn dc,.slice (ea) en ec,.int .i64 k] rfl ?_ Tryz.underlying102 rfl B7) rfl ⟨?_,?_⟩;(·(try simp only[World.rangeAt_drew]);exact C5 hr hrf rfl);(·rw[←HF.out];rfl);(·repeat(first|(with_reducible exact hbx)|(with_reducible apply Below.drew)|(with_reducible refine Y4 (by omega) _ _ _ ?_))))
theorem zS4(a:Option Addr)(n c:Nat)(ps:Nat→PR)(h:HV)(w:World)(B:Nat)(hBw:B≤w.heap.size)(hP:Y2 B w a n ps)(hC:K7 n ps=true)(k:Nat)(hk:k<n)(hh:h.plane=k):
  Calls Tryz.prog 37 #[L3 a n c,h.val] w fun e w'=>e= .returned (.tuple #[(ps k).placed k,.bool (C7 (ps k) h)])∧Below w.heap.size w w':=by
 by_cases hpre:F1 (ps k) h=true
 ·exact xR8 a n c ps h w B hBw hP hC k hk hh hpre
 ·exact jY4 a n c ps h w B hBw hP hC k hk hh hpre
theorem xO1{n:Nat}{ps:Nat→PR}{h:HV}(ho:¬(0≤h.plane∧h.plane≤(n:Int)-1)):ofB n ps h=false:=by simp[ofB,N9 ho]
theorem zC3{n:Nat}{ps:Nat→PR}{h:HV}{k:Nat}(hk:k<n)(hh:h.plane=k):ofB n ps h=C7 (ps k) h:=by
 have:J1 h.plane 0 ((n:Int)-1)=true:=J6 (by omega) (by omega)
 rw[ofB,this,Bool.true_and,hh,Int.toNat_natCast]
theorem qN2(a:Option Addr)(n c:Nat)(ps:Nat→PR)(h:HV)(w:World)(B:Nat)(hBw:B≤w.heap.size)(hP:Y2 B w a n ps):
  Calls Tryz.prog 36 #[L3 a n c,h.val] w fun e w'=>e= .returned (.bool (K7 n ps&&ofB n ps h))∧Below w.heap.size w w':=by
 have HP:=Hd hP
 clear hP
 by_cases hC:K7 n ps=true
 ·have hN:=P1 hC
  have HC:=Hd hC
  by_cases ho:0≤h.plane∧h.plane≤(n:Int)-1
  ·obtain⟨o1,o2⟩:=ho
   obtain⟨k,hk⟩:=Int.eq_ofNat_of_zero_le o1
   have hkn:k<n:=by omega
   have HV1:=Hd (zC3 (ps:=ps) hkn hk)
   have HK:=Hd hk
   clear hk
   go_enter Tryz.func36,Tryz.ntmps36
   go_wp2_with(first|(go_at_call 30;refine(N8 a n c ps _ B (by simp;omega) (HP.out.below (((Q2 B w).alloc hBw _).alloc (by simp;omega) _))).mono ?_;rintro e w1 ⟨rfl,hb⟩;have hz1:w.heap.size+2≤w1.heap.size:=(by have:=hb.size;simp at this;omega);have hB1:Below w.heap.size w w1:=((((Q2 _ _).alloc (Q1 _) _).alloc (by simp) _).trans (hb.mono (by simp;omega)));obtain⟨hc,hf⟩:=J9 hb;clear hb)|(go_at_call 37;refine(zS4 a n c ps h _ B (by omega) (HP.out.below (hB1.mono hBw)) HC.out k hkn HK.out).mono ?_;rintro e w2 ⟨rfl,hb2⟩;have hB2:Below w.heap.size w w2:=hB1.trans (hb2.mono (by omega));have hz2:w.heap.size≤w2.heap.size:=hB2.size;clear hc hf))
   go_ret
   exact⟨J2 (by rw[HC.out,HV1.out,Bool.true_and]),hB2.alloc (by omega) _⟩
  ·have HV1:=Hd (xO1 (ps:=ps) ho)
   have HO:=Hd ho
   clear ho
   go_enter Tryz.func36,Tryz.ntmps36
   go_wp2_with(first|(go_at_call 30;refine(N8 a n c ps _ B (by simp;omega) (HP.out.below (((Q2 B w).alloc hBw _).alloc (by simp;omega) _))).mono ?_;rintro e w1 ⟨rfl,hb⟩;have hz1:w.heap.size+2≤w1.heap.size:=(by have:=hb.size;simp at this;omega);have hB1:Below w.heap.size w w1:=((((Q2 _ _).alloc (Q1 _) _).alloc (by simp) _).trans (hb.mono (by simp;omega)));obtain⟨hc,hf⟩:=J9 hb;clear hb)|(go_at_call 37;refine(jU5 a n c h _ (by omega) HO.out).mono ?_;rintro e w2 ⟨rfl,hb2⟩;have hB2:Below w.heap.size w w2:=hB1.trans (hb2.mono (by omega));have hz2:w.heap.size≤w2.heap.size:=hB2.size;clear hc hf))
   go_ret
   exact⟨J2 (by rw[HC.out,HV1.out,Bool.true_and]),hB2.alloc (by omega) _⟩
 ·have hC':K7 n ps=false:=by simpa using hC
  clear hC
  go_enter Tryz.func36,Tryz.ntmps36
  go_wp2_with(go_at_call 30;refine(N8 a n c ps _ B (by simp;omega) (HP.out.below (((Q2 B w).alloc hBw _).alloc (by simp;omega) _))).mono ?_;rintro e w1 ⟨rfl,hb⟩;have hB1:Below w.heap.size w w1:=((((Q2 _ _).alloc (Q1 _) _).alloc (by simp) _).trans (hb.mono (by simp;omega))))
  go_ret
  exact⟨J2 (by rw[hC',Bool.false_and]),hB1⟩
def qT0(p:PR)(h:HV):Int:=if p.kind=3 then p.clo else h.time-p.chi-p.jitter
def qS9(p:PR)(h:HV):Int:=if p.kind=3 then p.chi else h.time-p.clo+p.jitter
def qC1(b:Bool):Int:=if b=true then 0 else 2
theorem zT7(p:PR)(i:Int)(h:HV)(w:World)(hS:S8 p)(ht: -1000000000≤h.time∧h.time≤1000000000):
  Calls Tryz.prog 199 #[p.placed i,h.val] w fun e w'=>e= .returned (.agg #[.int .i64 (qT0 p h),.int .i64 (qS9 p h)])∧Below w.heap.size w w':=by
 obtain⟨j1,j2⟩:=hS.jitter
 obtain⟨c1,c2,c3⟩:=hS.clock
 obtain⟨t1,t2⟩:=ht
 clear hS
 by_cases hk:p.kind=3
 ·have hk1:(p.kind==3)=true:=by simp[hk]
  have HK:=Hd hk
  clear hk
  go_enter Tryz.func199,Tryz.ntmps199
  go_wp2
  refine Z2 (v:= .agg #[.int .i64 p.clo,.int .i64 p.chi]) (by simp[results,Tryz.results199,go_sem]) rfl ⟨by simp[qT0,qS9,HK.out],?_⟩
  exact(((Q2 _ _).alloc (Q1 _) _).alloc (by simp) _).alloc (by simp;omega) _
 ·have hk1:(p.kind==3)=false:=by simp[hk]
  have HK:=Hd hk
  clear hk
  go_enter Tryz.func199,Tryz.ntmps199
  go_wp2
  refine Z2 (v:= .agg #[.int .i64 (h.time-p.chi-p.jitter),.int .i64 (h.time-p.clo+p.jitter)]) (by simp[results,Tryz.results199,go_sem]) rfl ⟨by simp[qT0,qS9,HK.out],?_⟩
  exact(((Q2 _ _).alloc (Q1 _) _).alloc (by simp) _).alloc (by simp;omega) _
theorem kY5{n:Nat}{ps:Nat→PR}{h:HV}(hh:ofB n ps h=true):∃k:Nat,k<n∧h.plane=k∧C7 (ps k) h=true:=by
 simp only[ofB,Q8,J8] at hh
 obtain⟨⟨h1,h2⟩,h3⟩:=hh
 exact⟨h.plane.toNat,by omega,by omega,h3⟩
theorem zR7{p:PR}{h:HV}(hh:C7 p h=true):(0≤h.channel∧h.channel≤p.strips-1)∧(1≤h.many∧h.many≤p.strips-h.channel)∧(p.least≤h.charge∧h.charge≤1000000)∧(-1000000000≤h.time∧h.time≤1000000000):=by
 simp only[C7,Q8] at hh
 exact qS2.1 hh.1
def xV8(p:PR)(h:HV):Int:=if C2 p h=0 then 5 else 0
theorem zP0(a:Option Addr)(n c:Nat)(ps:Nat→PR)(h:HV)(w:World)(B:Nat)(hBw:B≤w.heap.size)(hP:Y2 B w a n ps)(hC0:K7 n ps=true)(k:Nat)(hk:k<n)(hh:h.plane=k)(hH:C7 (ps k) h=true):
  Calls Tryz.prog 15 #[L3 a n c,h.val] w fun e w'=>∃ga gc,e= .returned (.tuple #[.slice ga (C2 (ps k) h) gc,.int .i64 (xV8 (ps k) h)])∧qK9 w'.heap.size w' ga (C2 (ps k) h) (Y5 (ps k) h)∧(∀b off,ga=some ⟨b,off,none⟩→w.heap.size≤b)∧Below w.heap.size w w':=by
 have HP:=Hd hP
 have hC:(K7 n ps&&ofB n ps h)=true:=by rw[hC0,zC3 hk hh,hH];rfl
 have HPr:=Hd (M3 hC0 hk)
 have HC0:=Hd hC0
 have HHp:=Hd hh
 have HHt:=Hd hH
 have hpm:(ps k).mem B w:=by obtain⟨b,off,_,_,_,hm⟩:=hP.get hk;exact hm
 have HPM:=Hd hpm
 obtain⟨gn,hgn⟩:∃g,g=C2 (ps k) h:=⟨_,rfl⟩
 obtain⟨gf,hgf⟩:∃g,g=Y5 (ps k) h:=⟨_,rfl⟩
 have HGN:=Hd hgn
 have HGF:=Hd hgf
 have hgE:xV8 (ps k) h=if gn=0 then 5 else 0:=by rw[xV8,hgn]
 rw[hgE,←hgn,←hgf]
 have hg2:gn≤2:=by rw[hgn,C2];split<;>split<;>omega
 clear hP hC0 hh hpm hgn hgf hgE
 by_cases hg0:gn=0
 ·subst hg0
  go_enter Tryz.func15,Tryz.ntmps15
  go_wp2_with(first|(go_at_call 36;refine(qN2 a n c ps h _ B (by simp;omega) (HP.out.below (((Q2 B w).alloc hBw _).alloc (by simp;omega) _))).mono ?_;rintro e w1 ⟨rfl,hb⟩;have hz1:w.heap.size+2≤w1.heap.size:=(by have:=hb.size;simp at this;omega);have hB1:Below w.heap.size w w1:=(((((Q2 _ _).alloc (Q1 _) _).alloc (by simp) _)).trans (hb.mono (by simp;omega)));have hX:=hb.mono (B':=w.heap.size+2) (by simp);obtain⟨hc,hf⟩:=J9 hX;clear hb;rw[hC])|(go_at_call 37;refine(zS4 a n c ps h _ B (by omega) (HP.out.below (hB1.mono hBw)) HC0.out k hk HHp.out).mono ?_;rintro e w2 ⟨rfl,hb2⟩;rw[hH];have hz2:w.heap.size+2≤w2.heap.size:=(by have:=hb2.size;omega);have hz6:w.heap.size+1<w2.heap.size:=(by omega);have hB2:Below w.heap.size w w2:=hB1.trans (hb2.mono (by omega));have hX2:=hX.trans (hb2.mono (by omega));clear hc hf hX hb2;obtain⟨hc,hf⟩:=J9 hX2)|(go_at_call 38;refine(zR1 (ps k) k h _ B (by simp;omega) (HPM.out.below ((hB2.alloc (by omega) _).mono hBw)) HPr.out HHt.out).mono ?_;rintro e w3 ⟨⟨ga,gc,rfl,hg0,hGA,hb3⟩,hnw⟩;have HNW:=Hd (fun b off (h:ga=some ⟨b,off,none⟩)=>show w.heap.size≤b from(by have:=hnw b off _ _ (by rw[h]);have:=hB2.size;simp at*;omega));clear hnw;rw[←HGN.out] at hg0 hGA ⊢;rw[←HGF.out] at hGA;have HGA:=Hd hGA;have HG0:=Hd hg0;have hB3:Below w.heap.size w w3:=(hB2.alloc (by omega) _).trans (hb3.mono (by simp;omega));clear hc hf hX2 hb3 hGA hg0))
  go_ret2
  exact⟨none,⟨0,rfl⟩,.inl rfl,fun b off h=>(by cases h),hB3⟩
 ·rw[if_neg hg0]
  have hg1:¬(gn:Int)=0:=by omega
  go_enter Tryz.func15,Tryz.ntmps15
  go_wp2_with(first|(go_at_call 36;refine(qN2 a n c ps h _ B (by simp;omega) (HP.out.below (((Q2 B w).alloc hBw _).alloc (by simp;omega) _))).mono ?_;rintro e w1 ⟨rfl,hb⟩;have hz1:w.heap.size+2≤w1.heap.size:=(by have:=hb.size;simp at this;omega);have hB1:Below w.heap.size w w1:=(((((Q2 _ _).alloc (Q1 _) _).alloc (by simp) _)).trans (hb.mono (by simp;omega)));have hX:=hb.mono (B':=w.heap.size+2) (by simp);obtain⟨hc,hf⟩:=J9 hX;clear hb;rw[hC])|(go_at_call 37;refine(zS4 a n c ps h _ B (by omega) (HP.out.below (hB1.mono hBw)) HC0.out k hk HHp.out).mono ?_;rintro e w2 ⟨rfl,hb2⟩;rw[hH];have hz2:w.heap.size+2≤w2.heap.size:=(by have:=hb2.size;omega);have hz6:w.heap.size+1<w2.heap.size:=(by omega);have hB2:Below w.heap.size w w2:=hB1.trans (hb2.mono (by omega));have hX2:=hX.trans (hb2.mono (by omega));clear hc hf hX hb2;obtain⟨hc,hf⟩:=J9 hX2)|(go_at_call 38;refine(zR1 (ps k) k h _ B (by simp;omega) (HPM.out.below ((hB2.alloc (by omega) _).mono hBw)) HPr.out HHt.out).mono ?_;rintro e w3 ⟨⟨ga,gc,rfl,hg0,hGA,hb3⟩,hnw⟩;have HNW:=Hd (fun b off (h:ga=some ⟨b,off,none⟩)=>show w.heap.size≤b from(by have:=hnw b off _ _ (by rw[h]);have:=hB2.size;simp at*;omega));clear hnw;rw[←HGN.out] at hg0 hGA ⊢;rw[←HGF.out] at hGA;have HGA:=Hd hGA;have HG0:=Hd hg0;have hB3:Below w.heap.size w w3:=(hB2.alloc (by omega) _).trans (hb3.mono (by simp;omega));clear hc hf hX2 hb3 hGA hg0))
  go_ret2
  exact⟨ga,gc,rfl,HGA.out,HNW.out,hB3⟩
end
section
open Go Go.RowKit
section
variable {P:Program}{ops:Array Oper}{md:Region.Mode}{S:World→Prop}{Q:Exit→Act→World→Prop}
def qC3(md:Region.Mode)(ops:Array Oper)(Q:Exit→Act→World→Prop)(listed:Array Bool)(a:Act)(w:World):Prop:=Region.ready md ops listed=[]∧Q .normal a w
theorem O3{a:Act}{w:World}{listed:Array Bool}(f:Nat)(S:World→Prop)(hS:S w)(h:S w→M5 P md ops Q S ops.size (qC3 md ops Q) f listed a w):wpAny P md ops Q f listed a w:=by
 have:=qB8 (g:=0) (fun listed a' w' (hL:qC3 md ops Q listed a' w')=>(show wpAny P md ops Q 0 listed a' w' from⟨hL.1,hL.2⟩)) f listed a w (h hS)
 simpa using this
theorem zA6{i:Nat}{oi:Oper}{v:Value}(hi:ops[i]?=some oi)(hsel:∀(j:Nat) (o:Oper) cs b,ops[j]?=some o→o.op≠.select cs b)
  (hQ:∀c a w,Q (.panic c) (a.put oi.dst v) w→Q (.panic c) a w):
  ∀(f:Nat) (listed:Array Bool) (a:Act) (w:World),HeadInv md ops ops.size listed→
   (∀j oj,ops[j]?=some oj→j≠i→listed.getD j true=false→(∀e∈oj.after,Region.binds md e=true→e.on≠i)→oi.apart ops oj=true)→
   i∈Region.ready md ops listed→YieldsIf P ops S oi v a→S w→
   M5 P md ops Q S ops.size (qC3 md ops Q) f (listed.setIfInBounds i true) (a.put oi.dst v) w→M5 P md ops Q S ops.size (qC3 md ops Q) (f+1) listed a w:=by
 have inside:∀(listed:Array Bool),∀j∈Region.ready md ops listed,j<ops.size:=fun listed j hj=>by
  obtain⟨_,oj,hoj,_⟩:=mem_ready.1 hj
  exact(J5 hoj)
 have nonempty:∀(listed:Array Bool),i∈Region.ready md ops listed→Region.ready md ops listed≠[]:=fun listed hr h=>by rw[h] at hr;cases hr
 intro f
 induction f with
 |zero=>
  intro listed a w inv _ hr hy hS H
  refine⟨nonempty _ hr,fun j hj=>⟨inside _ j hj,?_⟩⟩
  by_cases hji:j=i
  ·subst hji;exact hy.wpOp hi hS ⟨hS,H⟩
  ·have h1:=ready_mono hj hji
   have h2:Region.ready md ops (listed.setIfInBounds i true)=[]:=H.1
   rw[h2] at h1
   cases h1
 |succ f ih=>
  intro listed a w inv hfree hr hy hS H
  refine⟨nonempty _ hr,fun j hj=> ?_⟩
  have hjn:=inside _ j hj
  refine⟨hjn,?_⟩
  by_cases hji:j=i
  ·subst hji;exact hy.wpOp hi hS ⟨hS,H⟩
  ·obtain⟨hjun,oj,hoj,hall⟩:=mem_ready.1 hj
   have hnot:∀e∈oj.after,Region.binds md e=true→e.on≠i:=fun e he hb heq=>by
    have h1:=hall e he hb
    rw[heq,getD_both (mem_ready.1 hr).1] at h1
    cases h1
   have h2:=wpOp_putIf hoj (hfree j oj hoj hji hjun hnot) (fun cs b=>hsel i oi cs b hi) (fun cs b=>hsel j oj cs b hoj) hQ hy (H.2 j (ready_mono hj hji)).2
   refine wpOp_mono (fun a' w' h3=>⟨h3.2.1,ih (listed.setIfInBounds j true) a' w' (inv.set hj hjn) ?_ (ready_mono hr (Ne.symm hji)) h3.1 h3.2.1 ?_⟩) h2
   ·intro k ok hk hki hun hno
    refine hfree k ok hk hki ?_ hno
    by_cases hjk:j=k
    ·subst hjk;exact hjun
    ·rw[getD_set_ne true hjk] at hun;exact hun
   ·rw[Array.setIfInBounds_comm _ _ hji]
    exact h3.2.2
def TkE(md:Region.Mode)(ops:Array Oper)(listed:Array Bool)(i:Nat):Bool:=Region.noSelect ops&&qJ3 md ops ops.size listed&&Region.free md ops listed i&&(Region.ready md ops listed).contains i
theorem qY0{i:Nat}{oi:Oper}{v:Value}{f:Nat}{listed:Array Bool}{a:Act}{w:World}(hi:ops[i]?=some oi)
  (hB:(Region.noSelect ops&&qJ3 md ops ops.size listed&&Region.free md ops listed i&&(Region.ready md ops listed).contains i)=true)
  (hQ:∀c a w,Q (.panic c) (a.put oi.dst v) w→Q (.panic c) a w) (hy:YieldsIf P ops S oi v a) (hS:S w)
  (h:M5 P md ops Q S ops.size (qC3 md ops Q) f (listed.setIfInBounds i true) (a.put oi.dst v) w):M5 P md ops Q S ops.size (qC3 md ops Q) (f+1) listed a w:=by
 simp only[Q8] at hB
 obtain⟨⟨⟨h1,h6⟩,h7⟩,h8⟩:=hB
 exact zA6 hi (Region.noSelect_spec h1) hQ f listed a w (qS1 h6) (Region.free_spec hi h7) (by simpa using h8) hy hS h
end
end
section
open Go Go.RowKit
section
variable {P:Program}{ops:Array Oper}{md:Region.Mode}{Q:Exit→Act→World→Prop}
def qV6(ops:Array Oper)(i:Nat):Option Tmp:=(ops[i]?).bind (·.dst)
def D8(ops:Array Oper)(x:Nat→Value):List Nat→Act→Act
 |[],a=>a
 |i::t,a=>D8 ops x t (a.put (qV6 ops i) (x i))
theorem kG4(a:Act)(d:Option Tmp)(u v:Value):(a.put d u).put d v=a.put d v:=by
 cases d with
 |none=>rfl
 |some d=>simp[Act.put]
theorem jW8(a:Act){d e:Option Tmp}(h:d=e→d=none)(u v:Value):(a.put d u).put e v=(a.put e v).put d u:=by
 cases d with
 |none=>rfl
 |some d=>
  cases e with
  |none=>rfl
  |some e=>
   have hne:d≠e:=fun k=>by subst k;cases h rfl
   simp[Act.put,Array.setIfInBounds_comm _ _ hne]
def jE5(ops:Array Oper)(i j:Nat):Prop:=qV6 ops i=qV6 ops j→qV6 ops i=none
theorem zD9{x:Nat→Value}{i:Nat}{v:Value}:∀{t:List Nat} {a:Act},(∀j∈t,jE5 ops j i)→(D8 ops x t a).put (qV6 ops i) v=D8 ops x t (a.put (qV6 ops i) v)
 |[],_,_=>rfl
 |j::t,a,h=>by
  rw[D8,D8,zD9 (fun k hk=>h k (List.mem_cons_of_mem _ hk)),jW8 _ (h j List.mem_cons_self)]
theorem qA0{x y:Nat→Value}:∀{t:List Nat} {a:Act},(∀j∈t,x j=y j)→D8 ops x t a=D8 ops y t a
 |[],_,_=>rfl
 |j::t,a,h=>by rw[D8,D8,h j List.mem_cons_self,qA0 (fun k hk=>h k (List.mem_cons_of_mem _ hk))]
def upd(x:Nat→Value)(i:Nat)(v:Value)(j:Nat):Value:=if j=i then v else x j
theorem zE0{x:Nat→Value}{i:Nat}{v:Value}:∀{t:List Nat} {a:Act},t.Nodup→t.Pairwise (fun a b=>jE5 ops a b∧jE5 ops b a)→i∈t→(D8 ops x t a).put (qV6 ops i) v=D8 ops (upd x i v) t a
 |[],_,_,_,h=>by cases h
 |j::t,a,hn,hp,h=>by
  rw[List.nodup_cons] at hn
  rw[List.pairwise_cons] at hp
  rw[D8,D8]
  by_cases e:i=j
  ·subst e
   rw[zD9 (fun k hk=>(hp.1 k hk).2),kG4]
   rw[show upd x i v i=v from by simp[upd]]
   exact qA0 fun k hk=>by
    have:k≠i:=fun e=>hn.1 (e▸hk)
    simp[upd,this]
  ·have hi:i∈t:=by
    rcases List.mem_cons.1 h with h|h
    ·exact absurd h e
    ·exact h
   rw[zE0 hn.2 hp.2 hi,show upd x i v j=x j from by simp[upd,Ne.symm e]]
theorem jW9(a:Act)(d:Option Tmp):a.put d ((d.map fun d=>a.tmps.getD d undef).getD undef)=a:=by
 cases d with
 |none=>rfl
 |some d=>
  obtain⟨t,f⟩:=a
  simp only[Act.put,Option.map_some,Option.getD_some]
  congr 1
  apply Array.ext
  ·simp
  ·intro i h1 h2
   by_cases e:d=i
   ·subst e
    simp at h1
    simp[h1]
   ·rw[Array.getElem_setIfInBounds_ne (by simpa using h1) e]
def jU6(ops:Array Oper)(a:Act)(i:Nat):Value:=((qV6 ops i).map fun d=>a.tmps.getD d undef).getD undef
theorem zD8{a:Act}:∀{t:List Nat},D8 ops (jU6 ops a) t a=a
 |[]=>rfl
 |i::t=>by rw[D8,jU6,jW9,zD8]
def qU5(I:List Nat)(listed:Array Bool):Nat:=(I.filter fun i=> !listed.getD i true).length
theorem xA3{listed:Array Bool}{i:Nat}(hs:i<listed.size)(hl:listed.getD i true=false):∀{I:List Nat},I.Nodup→i∈I→qU5 I listed=qU5 I (listed.setIfInBounds i true)+1
 |[],_,h=>by cases h
 |j::t,hn,h=>by
  rw[List.nodup_cons] at hn
  by_cases e:i=j
  ·subst e
   have h1:(listed.setIfInBounds i true).getD i true=true:=by simp[hs]
   have h2:qU5 t (listed.setIfInBounds i true)=qU5 t listed:=by
    unfold qU5
    congr 1
    exact List.filter_congr fun k hk=>by
     have:i≠k:=fun e=>hn.1 (e▸hk)
     rw[getD_set_ne true this]
   unfold qU5 at*
   rw[List.filter_cons,List.filter_cons,hl,h1]
   simp only[Bool.not_false,Bool.not_true,if_true,List.length_cons]
   simpa using h2.symm
  ·have hi:i∈t:=by
    rcases List.mem_cons.1 h with h|h
    ·exact absurd h e
    ·exact h
   have ih:=xA3 hs hl hn.2 hi
   unfold qU5 at*
   rw[List.filter_cons,List.filter_cons,getD_set_ne true e]
   split
   ·simp only[List.length_cons];omega
   ·exact ih
theorem xK1{listed:Array Bool}:∀{I:List Nat},qU5 I listed=0→∀i∈I,listed.getD i true=true
 |[],_,i,hi=>by cases hi
 |j::t,h,i,hi=>by
  unfold qU5 at h
  rw[List.filter_cons] at h
  split at h
  ·simp at h
  ·rename_i hj
   rcases List.mem_cons.1 hi with rfl|hi
   ·simpa using hj
   ·exact xK1 (I:=t) h i hi
def T3:List Nat→Array Bool→Array Bool
 |[],l=>l
 |i::t,l=>T3 t (l.setIfInBounds i true)
theorem zX8:∀(I:List Nat) (l:Array Bool),(T3 I l).size=l.size
 |[],_=>rfl
 |i::t,l=>by rw[T3,zX8 t];simp
theorem zF1:∀{I:List Nat} {l:Array Bool} {k:Nat},k∉I→(T3 I l).getD k true=l.getD k true
 |[],_,_,_=>rfl
 |i::t,l,k,h=>by
  rw[List.mem_cons,not_or] at h
  rw[T3,zF1 h.2,getD_set_ne true (Ne.symm h.1)]
theorem zT1:∀{I:List Nat} {l:Array Bool} {k:Nat},l.getD k true=true∨k∈I→(T3 I l).getD k true=true
 |[],l,k,h=>by rcases h with h|h;exact h;cases h
 |i::t,l,k,h=>by
  rw[T3]
  refine zT1 ?_
  by_cases e:i=k
  ·subst e
   left
   by_cases hs:i<l.size
   ·simp[hs]
   ·simp[Array.getElem?_eq_none (show(l.setIfInBounds i true).size≤i by simp;omega)]
  ·rw[getD_set_ne true e]
   rcases h with h|h
   ·exact .inl h
   ·rcases List.mem_cons.1 h with h|h
    ·exact absurd h.symm e
    ·exact .inr h
def jP9(md:Region.Mode)(ops:Array Oper)(n:Nat)(I:List Nat)(listed:Array Bool):Bool:=
 qJ3 md ops n listed&&(List.range n).all (fun i=>listed.getD i true||I.contains i)&&I.all (fun i=>decide (i<n)&& !listed.getD i true)&&decide I.Nodup&&I.all (fun i=>I.all fun j=>decide (i=j)|| !decide (qV6 ops i=qV6 ops j)||decide (qV6 ops i=none))&&(List.range n).all (fun i=>((ops[i]?).map fun o=>o.after.all fun e=> !Region.binds md e||decide (e.on<i)).getD true)
def zM9(x:Nat→Value):List (Nat×Option Tmp)→Act→Act
 |[],a=>a
 |p::t,a=>zM9 x t (a.put p.2 (x p.1))
theorem zO4{x:Nat→Value}:∀{J:List (Nat×Option Tmp)} {a:Act},J.all (fun p=>decide (qV6 ops p.1=p.2))=true→D8 ops x (J.map (·.1)) a=zM9 x J a
 |[],_,_=>rfl
 |p::t,a,h=>by
  simp only[List.all_cons,Q8,Z8] at h
  rw[List.map_cons,D8,zM9,h.1,zO4 h.2]
def qS5(d:Nat):List (Nat×Option Tmp)→Option Nat
 |[]=>none
 |p::t=>(qS5 d t).or (if p.2=some d then some p.1 else none)
theorem qJ8{x:Nat→Value}{d:Nat}:∀{J:List (Nat×Option Tmp)} {a:Act},qS5 d J=none→(zM9 x J a).tmps[d]?=a.tmps[d]?
 |[],_,_=>rfl
 |p::t,a,h=>by
  rw[qS5,Option.or_eq_none_iff] at h
  rw[zM9,qJ8 h.1]
  cases e:p.2 with
  |none=>rfl
  |some k=>
   have hk:k≠d:=fun h3=>by
    have:=h.2
    rw[e,h3] at this
    simp at this
   simp[Act.put,Array.getElem?_setIfInBounds_ne hk]
theorem qD4{x:Nat→Value}{d i:Nat}:∀{J:List (Nat×Option Tmp)} {a:Act},qS5 d J=some i→d<a.tmps.size→(zM9 x J a).tmps[d]?=some (x i)
 |[],_,h,_=>by simp[qS5] at h
 |p::t,a,h,hs=>by
  rw[qS5] at h
  rw[zM9]
  cases e:qS5 d t with
  |some k=>
   rw[e] at h
   obtain rfl:k=i:=by simpa using h
   exact qD4 e (by cases p.2<;>simpa [Act.put] using hs)
  |none=>
   rw[e] at h
   rw[qJ8 e]
   split at h
   ·rename_i h2
    obtain rfl:p.1=i:=by simpa using h
    simp[Act.put,h2,hs]
   ·simp at h
def jE8(P:Program)(ops:Array Oper)(Q:Exit→Act→World→Prop)(S:World→Prop)(R:Nat→World→World→Prop)(G:Nat→(Nat→Value)→World→Prop)(x:Nat→Value)(A:Act)(w:World)(i:Nat)(d:Option Tmp):Prop:=
 wpOp P ops Q i (fun a' w'=>∃v,a'=A.put d v∧S w'∧R i w w'∧G i (upd x i v) w') A w
theorem jE8.intro{S:World→Prop}{R:Nat→World→World→Prop}{G:Nat→(Nat→Value)→World→Prop}{x:Nat→Value}{A:Act}{w:World}{i:Nat}{d:Option Tmp}{o:Oper}(ho:ops[i]?=some o)
  (h:∀K:Act→World→Prop,Shut (∀v w',S w'→R i w w'→G i (upd x i v) w'→K (A.put d v) w')→if Region.wanted o (yielded ops A.tmps)=true then o.wp P A w K Q else K (A.put o.dst undef) w):jE8 P ops Q S R G x A w i d:=
 wpOp_step ho fun K hK=>h K fun v w' h1 h2 h3=>hK _ _ ⟨v,rfl,h1,h2,h3⟩
end
end
section
open Go Go.RowKit
theorem J3(W:World)(o:Obj):Below W.heap.size W (W.alloc o):=(Q2 _ _).alloc (Q1 _) o
theorem J0{W W':World}{b:Nat}{o:Obj}(h:W.heap[b]?=some o)(hb:Below W.heap.size W W'):W'.heap[b]?=some o:=(hb.block _ (J5 h)).trans h
end
section
open Go Go.RowKit Go.Shelf
attribute [local go_sem] Oper.semAt_some
def mnF(f:Nat→Int):Nat→Int
 |0=>f 0
 |k+1=>min (mnF f k) (f k)
def mxF(f:Nat→Int):Nat→Int
 |0=>f 0
 |k+1=>max (mxF f k) (f k)
structure FcT(f:Nat→Int)(rb fb ob:Nat)(X:Nat→Prop)(xs:List Nat)(W:World):Prop where
 xr:X rb
 xf:X fb
 xo:X ob
 res:W.heap[rb]?=some (.cells #[.int .i64 0,.int .i64 0] 47)
 mark:W.heap[fb]?=some (.cells #[.bool (decide (xs.length=0))] 4)
 out:W.heap[ob]?=some (.cells (if xs.length=0 then #[.int .i64 0,.int .i64 0] else #[.int .i64 (mnF f xs.length),.int .i64 (mxF f xs.length)]) 47)
theorem FcT.keep{f:Nat→Int}{rb fb ob:Nat}{X:Nat→Prop}{xs:List Nat}{W W':World}(h:FcT f rb fb ob X xs W)(hk:∀b,X b→W'.heap[b]?=W.heap[b]?):FcT f rb fb ob X xs W':=⟨h.xr,h.xf,h.xo,(hk _ h.xr).trans h.res,(hk _ h.xf).trans h.mark,(hk _ h.xo).trans h.out⟩
section
variable {f:Nat→Int}{rb fb ob N k x:Nat}{R X O:Nat→Prop}{pre:List Nat}{W:World}
theorem FcT.next{lo hi:Int}(hT:FcT f rb fb ob X pre W)(hm:A3 N R X O W)(hlen:pre.length=k+1)(h1:ob≠rb)(h2:ob≠fb)(hlo:lo=min (mnF f (k+1)) (f (k+1)))(hhi:hi=max (mxF f (k+1)) (f (k+1))):
  ∃X',M6 N X W ((W.setCell ⟨ob,0,none⟩ (.int .i64 lo)).setCell ⟨ob,1,none⟩ (.int .i64 hi)) X'∧FcT f rb fb ob X' (pre++[x]) ((W.setCell ⟨ob,0,none⟩ (.int .i64 lo)).setCell ⟨ob,1,none⟩ (.int .i64 hi)):=by
 have hl2:(pre++[x]).length=k+2:=by rw[Z6,hlen];rfl
 obtain⟨xr,xf,xo,c0,c1,c2⟩:=hT
 rw[hlen] at c1 c2
 have hot:∀b,b≠ob→((W.setCell ⟨ob,0,none⟩ (.int .i64 lo)).setCell ⟨ob,1,none⟩ (.int .i64 hi)).heap[b]?=W.heap[b]? :=fun b hb=>(Q6 _ ⟨ob,1,none⟩ b _ hb).trans (Q6 W ⟨ob,0,none⟩ b _ hb)
 refine⟨X,((M6.refl hm).setCell xo _).setCell xo _,xr,xf,xo,(hot _ (Ne.symm h1)).trans c0,?_,?_⟩
 ·rw[hl2]
  exact(hot _ (Ne.symm h2)).trans c1
 ·rw[hl2]
  have:=Q4 _ _ 1 _ _ (.int .i64 hi) (Q4 W _ 0 _ _ (.int .i64 lo) c2)
  refine this.trans ?_
  subst hlo
  subst hhi
  rfl
theorem FcT.first{v:Int}(hT:FcT f rb fb ob X pre W)(hm:A3 N R X O W)(hlen:pre.length=0)(h1:ob≠rb)(h2:ob≠fb)(h3:fb≠rb)(hv:f 0=v):
  ∃X',M6 N X W (((((W.setCell ⟨ob,0,none⟩ (.int .i64 v)).setCell ⟨ob,1,none⟩ (.int .i64 v)).setCell ⟨fb,0,none⟩ (.bool false)).setCell ⟨ob,0,none⟩ (.int .i64 v)).setCell ⟨ob,1,none⟩ (.int .i64 v)) X'∧FcT f rb fb ob X' (pre++[x]) (((((W.setCell ⟨ob,0,none⟩ (.int .i64 v)).setCell ⟨ob,1,none⟩ (.int .i64 v)).setCell ⟨fb,0,none⟩ (.bool false)).setCell ⟨ob,0,none⟩ (.int .i64 v)).setCell ⟨ob,1,none⟩ (.int .i64 v)):=by
 have hl2:(pre++[x]).length=1:=by rw[Z6,hlen];rfl
 obtain⟨xr,xf,xo,c0,c1,c2⟩:=hT
 rw[hlen] at c1 c2
 refine⟨X,(((((M6.refl hm).setCell xo _).setCell xo _).setCell xf _).setCell xo _).setCell xo _,xr,xf,xo,?_,?_,?_⟩
 ·rw[Q6 _ ⟨ob,1,none⟩ rb _ (Ne.symm h1),Q6 _ ⟨ob,0,none⟩ rb _ (Ne.symm h1),Q6 _ ⟨fb,0,none⟩ rb _ (Ne.symm h3),Q6 _ ⟨ob,1,none⟩ rb _ (Ne.symm h1),Q6 _ ⟨ob,0,none⟩ rb _ (Ne.symm h1)]
  exact c0
 ·rw[hl2,Q6 _ ⟨ob,1,none⟩ fb _ (Ne.symm h2),Q6 _ ⟨ob,0,none⟩ fb _ (Ne.symm h2)]
  have e:((W.setCell ⟨ob,0,none⟩ (.int .i64 v)).setCell ⟨ob,1,none⟩ (.int .i64 v)).heap[fb]?=some (.cells #[.bool true] 4):=by
   rw[Q6 _ ⟨ob,1,none⟩ fb _ (Ne.symm h2),Q6 _ ⟨ob,0,none⟩ fb _ (Ne.symm h2)]
   exact c1
  exact Q4 _ _ 0 _ _ (.bool false) e
 ·rw[hl2]
  have e:=Q4 _ _ 1 _ _ (.int .i64 v) (Q4 W _ 0 _ _ (.int .i64 v) c2)
  have e2:(((W.setCell ⟨ob,0,none⟩ (.int .i64 v)).setCell ⟨ob,1,none⟩ (.int .i64 v)).setCell ⟨fb,0,none⟩ (.bool false)).heap[ob]?=_:=(Q6 _ ⟨fb,0,none⟩ ob _ h2).trans e
  have e3:=Q4 _ _ 1 _ _ (.int .i64 v) (Q4 _ _ 0 _ _ (.int .i64 v) e2)
  refine e3.trans ?_
  have hm1:mnF f 1=v:=by show min (f 0) (f 0)=v;omega
  have hm2:mxF f 1=v:=by show max (f 0) (f 0)=v;omega
  rw[hm1,hm2]
  rfl
end
end
section
section
variable {K:Nat}{fr lo hi:Nat→Int}{el eh:Int→Int}
end
end
section
open Go Go.RowKit Go.Maps
def kL9(v:Value):Option (DataW Unit×List MemPlace):=some (.lit (.int .i64 0),[])
def qP5(W:World)(mb n:Nat)(D:DataW Unit):Prop:=W.ownsMap Tryz.prog 3 kL9 mb n D
theorem qP5.start{W:World}{mb:Nat}(h:W.heap[mb]?=some (.map #[] 0)):qP5 W mb 0 (.map []):=⟨#[],0,h,⟨by simp,MapKept.stamped_empty 0,by simp⟩,Q1 _,rfl⟩
theorem qP5.step{W W':World}{mb n:Nat}{D:DataW Unit}(h:qP5 W mb n D)(hb:Below W.heap.size W W'):qP5 W' mb n D:=by
 have hl:=World.ownsMap.lt h
 obtain⟨es,clock,h1,h2⟩:=h
 exact⟨es,clock,(hb.block _ hl).trans h1,h2⟩
theorem zI1:Keyed Tryz.prog 3:=int_keyed Tryz.underlying3
theorem xR1{x:Int}(h0: -1≤x)(h1:x≤10000000):keyOf Tryz.prog 3 (.int .i64 x)=some (.int .i64 x):=keyOf_int_mk Tryz.underlying3 (WalkArith.wf_i64 (by omega))
def qP4(D:DataW Unit)(x:Int):Prop:=IsMap D∧∀y,x≤y→y≤10000000→Maps.has D (.int .i64 y)=false
theorem qP4.start:qP4 (.map []) 0:=⟨⟨_,rfl⟩,fun _ _ _=>rfl⟩
theorem qP4.put{D:DataW Unit}{x y:Int}(h:qP4 D x)(hxy:x<y):qP4 (D.put (.int .i64 x) (.lit (.int .i64 0))) y:=by
 obtain⟨⟨es,rfl⟩,h2⟩:=h
 refine⟨?_,fun z hz hz2=> ?_⟩
 ·rw[DataW.put_eq]
  exact⟨_,rfl⟩
 ·rw[has_put_other (by intro e;injection e with _ e;omega)]
  exact h2 z (by omega) hz2
theorem xY3{W W':World}{mb b:Nat}{o:Obj}(h:W.grownBy W' (some mb))(hne:b≠mb)(hx:W.heap[b]?=some o):W'.heap[b]?=some o:=(h.block b (J5 hx) (by intro e;injection e with e;exact hne e)).trans hx
theorem zR2{W W':World}{mb B:Nat}(h:W.grownBy W' (some mb))(hB:B≤mb)(hW:B≤W.heap.size):Below B W W':=⟨h.os,h.tape,h.output,h.size,fun k hk=>h.block k (by omega) (by intro e;injection e with e;omega)⟩
end
section
open Go Go.RowKit Go.Shelf
structure SPL where
 slots:Int
 w:WX
structure SPL.ok(s:SPL):Prop where
 slots:1≤s.slots∧s.slots≤1000000
 w:s.w.ok
def kX7(B:Nat)(w:World)(a:Option Addr)(n:Nat)(t:Nat→SPL):Prop:=
 n=0∨∃b off,a=some ⟨b,off,none⟩∧b<B∧∀i,i<n→w.cell? ⟨b,off+i*5,none⟩=some (.int .i64 (t i).slots)∧w.cell? ⟨b,off+i*5+1,none⟩=some (.int .i64 (t i).w.p0)∧w.cell? ⟨b,off+i*5+2,none⟩=some (.int .i64 (t i).w.p1)∧w.cell? ⟨b,off+i*5+3,none⟩=some (.int .i64 (t i).w.x0)∧w.cell? ⟨b,off+i*5+4,none⟩=some (.int .i64 (t i).w.x1)
theorem kX7.below{B:Nat}{w w':World}{a:Option Addr}{n:Nat}{t:Nat→SPL}(h:kX7 B w a n t)(hb:Below B w w'):kX7 B w' a n t:=by
 rcases h with h|⟨b,off,ha,hB,hc⟩
 ·exact .inl h
 ·refine .inr ⟨b,off,ha,hB,fun i hi=> ?_⟩
  obtain⟨h0,h1,h2,h3,h4⟩:=hc i hi
  have hk:=(J9 hb).1
  exact⟨(hk _ _ hB).trans h0,(hk _ _ hB).trans h1,(hk _ _ hB).trans h2,(hk _ _ hB).trans h3,(hk _ _ hB).trans h4⟩
structure MnB(w W:World)(lo hi a b:Int):Prop where
 rates:W.heap[w.heap.size]?=some (.cells #[.int .i64 lo,.int .i64 hi] 47)
 res:W.heap[w.heap.size+1]?=some (.cells #[.int .i64 0,.int .i64 0] 47)
 sums:W.heap[w.heap.size+1+1]?=some (.cells #[.int .i64 a,.int .i64 b] 268)
 below:Below w.heap.size w W
theorem MnB.lt{w W:World}{lo hi a b:Int}(h:MnB w W lo hi a b):w.heap.size+3≤W.heap.size:=by
 have:=(J5 h.sums)
 omega
end
end Go.Proofs.YtmncaipgefbalaaGreatDoor
