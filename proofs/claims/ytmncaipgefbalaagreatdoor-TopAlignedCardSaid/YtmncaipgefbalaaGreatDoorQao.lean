/- Part of the proof of the claim. -/
import Derived.Test.YtmncaipgefbalaaGreatDoorQan
import Derived.Test.YtmncaipgefbalaaGreatDoorFxShelf
import Derived.Lib.OwnBridge
import Derived.Shelf.SlicesG.Cmp
set_option maxRecDepth 100000
set_option maxHeartbeats 8000000
set_option linter.unusedVariables false
set_option linter.unusedSimpArgs false
namespace Go.Proofs.YtmncaipgefbalaaGreatDoor
section
open Go Go.RowKit Go.Shelf
structure kF2(s:SK)(ta:Option Addr)(tn:Nat)(t:Nat→RW)(pa:Option Addr)(pn:Nat)(p:Nat→SPL)(B:Nat)(w:World):Prop where
 le:B≤w.heap.size
 sky:s.mem B w
 sok:s.ok
 tab:S5 B w ta tn t
 tl:tn≤40
 tok:jL1 tn t
 sp:kX7 B w pa pn p
 pl:1≤pn∧pn≤50
 pok:∀i,i<pn→(p i).ok
theorem kF2.below{s:SK}{ta:Option Addr}{tn:Nat}{t:Nat→RW}{pa:Option Addr}{pn:Nat}{p:Nat→SPL}{B:Nat}{w W:World}(h:kF2 s ta tn t pa pn p B w)(hb:Below B w W):kF2 s ta tn t pa pn p B W:=
 ⟨Q5 h.le hb.size,h.sky.below hb,h.sok,h.tab.below hb,h.tl,h.tok,h.sp.below hb,h.pl,h.pok⟩
end
section
structure FS where
 fr:Int
 lo:Int
 hi:Int
def FS.zero:FS:=⟨0,0,0⟩
def kE3(el eh:Int→Int)(S:List FS)(x:Int):List FS:=
 match S.getLast? with
 |none=>S++[⟨x,el x,eh x⟩]
 |some p=>if p.lo=el x∧p.hi=eh x then S else S++[⟨x,el x,eh x⟩]
structure xU9(el eh:Int→Int)(P:List Int)(S:List FS):Prop where
 sub:(S.map FS.fr).Sublist P
 head:(S.map FS.fr).head?=P.head?
 inc:S.Pairwise (fun a b=>a.fr<b.fr)
 rate:∀p∈S,p.lo=el p.fr∧p.hi=eh p.fr
 all:∀x∈P,∃p∈S,p.fr≤x∧(∀q∈S,¬(p.fr<q.fr∧q.fr≤x))∧el x=p.lo∧eh x=p.hi
theorem jS9{α:Type}{l:List α}{p:α}(h:l.getLast?=some p):∃l',l=l'++[p]:=by
 rcases List.eq_nil_or_concat l with rfl|⟨l',q,rfl⟩
 ·cases h
 ·simp at h
  subst h
  exact⟨l',by simp⟩
theorem xU9.next{el eh:Int→Int}{P:List Int}{S:List FS}{x:Int}(h:xU9 el eh P S)(hx:∀y∈P,y<x):xU9 el eh (P++[x]) (kE3 el eh S x):=by
 have hS:∀p∈S,p.fr<x:=fun p hp=>hx _ (h.sub.subset (List.mem_map_of_mem hp))
 have add:xU9 el eh (P++[x]) (S++[⟨x,el x,eh x⟩]):=by
  refine⟨?_,?_,?_,?_,?_⟩
  ·rw[List.map_append]
   exact h.sub.append (List.Sublist.refl _)
  ·have h2:=h.head
   cases S with
   |nil=>
    cases P with
    |nil=>rfl
    |cons y P=>cases h2
   |cons p S=>
    cases P with
    |nil=>cases h2
    |cons y P=>simpa using h2
  ·exact List.pairwise_append.2 ⟨h.inc,List.pairwise_singleton _ _,fun p hp q hq=>by
    simp only[List.mem_singleton] at hq
    subst hq
    exact hS p hp⟩
  ·intro p hp
   rcases List.mem_append.1 hp with hp|hp
   ·exact h.rate p hp
   ·simp only[List.mem_singleton] at hp
    subst hp
    exact⟨rfl,rfl⟩
  ·intro y hy
   rcases List.mem_append.1 hy with hy|hy
   ·obtain⟨p,hp,h1,h2,h3⟩:=h.all y hy
    refine⟨p,List.mem_append_left _ hp,h1,fun q hq=> ?_,h3⟩
    rcases List.mem_append.1 hq with hq|hq
    ·exact h2 q hq
    ·simp only[List.mem_singleton] at hq
     subst hq
     have:=hx y hy
     dsimp only
     omega
   ·simp only[List.mem_singleton] at hy
    subst hy
    refine⟨⟨y,el y,eh y⟩,by simp,Int.le_refl _,fun q hq=> ?_,rfl,rfl⟩
    rcases List.mem_append.1 hq with hq|hq
    ·have:=hS q hq
     dsimp only
     omega
    ·simp only[List.mem_singleton] at hq
     subst hq
     dsimp only
     omega
 unfold kE3
 split
 ·exact add
 ·rename_i p hp
  split
  ·rename_i hr
   obtain⟨S',rfl⟩:=jS9 hp
   refine⟨h.sub.trans (List.sublist_append_left _ _),?_,h.inc,h.rate,?_⟩
   ·rw[h.head]
    cases P with
    |nil=>
     have:=h.sub
     simp at this
    |cons y P=>rfl
   ·intro y hy
    rcases List.mem_append.1 hy with hy|hy
    ·exact h.all y hy
    ·simp only[List.mem_singleton] at hy
     subst hy
     have hpx:=hS p (by simp)
     refine⟨p,by simp,by omega,fun q hq=> ?_,hr.1.symm,hr.2.symm⟩
     have hi:=(List.pairwise_append.1 h.inc).2.2
     rcases List.mem_append.1 hq with hq|hq
     ·have:=hi q hq p (by simp)
      omega
     ·simp only[List.mem_singleton] at hq
      subst hq
      omega
  ·exact add
end
section
open Go Go.RowKit Go.Shelf
end
section
open Go Go.RowKit Go.Shelf
section
variable {w:World}{mb g N2 j:Nat}{X:List Int}{a:Option Addr}{c:Nat}{S:List FS}{W W':World}
end
end
section
open Go Go.RowKit Go.Shelf
end
section
open Go.Shelf
def Tryz.laysCmpCh_ren:Go.Shelf.Ren:=⟨fun|5=>161|7=>189|n=>n,fun|22=>3|3=>3|4=>4|n=>n,fun|n=>n⟩
theorem Tryz.laysCmpCh:Go.Proofs.SlLaysC2.n5 Tryz.prog Tryz.laysCmpCh_ren:={
  mixed:=by kernel_rfl
  f5:=⟨Tryz.f161.name,by decide,Tryz.func161.trans (congrArg some (by kernel_rfl))⟩
  f7:=⟨Tryz.f189.name,by decide,Tryz.func189.trans (congrArg some (by kernel_rfl))⟩
  t3:=Tryz.underlying3
  a3:=Tryz.isAgg3
  z3:=Tryz.sizeOf3
  v3:=Tryz.zeroValue3
  t4:=Tryz.underlying4
  a4:=Tryz.isAgg4
  z4:=Tryz.sizeOf4
  v4:=Tryz.zeroValue4
  t22:=Tryz.underlying3
  a22:=Tryz.isAgg3
  z22:=Tryz.sizeOf3
  v22:=Tryz.zeroValue3}
end
section
open Go Go.RowKit Go.Shelf
theorem qH9(a b c:Int)(w:World):Calls Tryz.prog 46 #[.int .i64 a,.int .i64 b,.int .i64 c] w fun e w'=>e= .returned (.bool (J1 a b c))∧w=w':=by
 by_cases h1:b≤a
 ·by_cases h2:a≤c
  ·rw[G2 h1 h2]
   go_enter Tryz.func46,Tryz.ntmps46
   go_wp2
   go_ret
   exact⟨rfl,rfl⟩
  ·rw[N9 (fun h=>h2 h.2)]
   go_enter Tryz.func46,Tryz.ntmps46
   go_wp2
   go_ret
   exact⟨rfl,rfl⟩
 ·rw[N9 (fun h=>h1 h.1)]
  go_enter Tryz.func46,Tryz.ntmps46
  go_wp2
  go_ret
  exact⟨rfl,rfl⟩
structure qQ2(n:Nat)(t:Nat→RW):Prop where
 len:1≤n∧n≤24
 z:∀i,i<n→0≤(t i).key∧(t i).key≤100000
 span:∀i,i<n→-1000000≤(t i).lo∧(t i).lo≤(t i).hi∧(t i).hi≤1000000
theorem jJ8(k lo hi:Int)(w:World)(hz:0≤k∧k≤100000)(hs: -1000000≤lo∧lo≤hi∧hi≤1000000):
  Calls Tryz.prog 127 #[.agg #[.int .i64 k,.int .i64 lo,.int .i64 hi]] w fun e w'=>e= .returned (.bool true)∧Below w.heap.size w w':=by
 have HB:=Hd (J3 w (.cells #[.int .i64 k,.int .i64 lo,.int .i64 hi] 63))
 have HW:=Hd (G2 hz.1 hz.2)
 obtain⟨h1,h2,h3⟩:=hs
 clear hz
 go_enter Tryz.func127,Tryz.ntmps127
 go_wp2_with(go_at_call 46;refine(qH9 _ _ _ _).mono ?_;rintro e w' ⟨rfl,rfl⟩;rw[HW.out])
 go_ret
 exact⟨rfl,HB.out⟩
theorem qR0(a:Option Addr)(n c:Nat)(t:Nat→RW)(B:Nat)(w:World)(hBw:B≤w.heap.size)(hT:S5 B w a n t)(hO:qQ2 n t):
  Calls Tryz.prog 85 #[.slice a n c] w fun e w'=>e= .returned (.bool true)∧Below w.heap.size w w':=by
 have HT:=Hd hT
 have HG:=Hd (fun i (hi:i<n) W=>jJ8 (t i).key (t i).lo (t i).hi W (hO.z i hi) (hO.span i hi))
 have HB0:=Hd (Q2 w.heap.size w)
 have hl:=hO.len
 have hn1:J1 (n:Int) 1 24=true:=G2 (by omega) (by omega)
 have HN:=Hd hn1
 clear hT hO hn1
 go_enter Tryz.func85,Tryz.ntmps85
 go_wp2
 go_loopw [7] (fun x wr=>∃i:Nat,i≤n∧x= .int .i64 (i:Int)∧Hid (Below w.heap.size w wr)) (fun x _=>n-(intOf x).toNat)
 case atStart=>exact⟨0,Nat.zero_le _,rfl,HB0⟩
 case round=>
  clear HB0
  obtain⟨i,hi,rfl,HB⟩:=hrel
  by_cases hlt:i<n
  ·have hlt':(i:Int)<(n:Int):=by omega
   obtain⟨b,off,rfl,hbB,c0,c1,c2⟩:=(HT.out.below (HB.out.mono hBw)).get hlt
   have HGi:=Hd (HG.out i hlt)
   generalize t i=ti at*
   obtain⟨k,lo,hi'⟩:=ti
   dsimp only at*
   clear HG
   go_upto_region 4 with(fail)
   have HB1:=Hd (HB.out.trans ((J3 wr (.cells #[.int .i64 k,.int .i64 lo,.int .i64 hi'] 63)).mono HB.out.size))
   have hx:=Q3 wr (.cells #[.int .i64 k,.int .i64 lo,.int .i64 hi'] 63)
   generalize World.alloc wr _=V at*
   obtain⟨e0,e1,e2⟩:=U4 hx
   simp only[P2] at e0 e1 e2
   clear hx c0 c1 c2
   go_wp2_with(go_at_call 127;refine(HGi.out _).mono ?_;rintro e W2 ⟨rfl,hb2⟩;have HB2:=Hd (HB1.out.trans (hb2.mono HB1.out.size));clear hb2 e0 e1 e2)
   go_roundw
   case rel=>exact⟨i+1,by omega,by go_num,HB2⟩
   case measure=>simp[intOf];omega
  ·obtain rfl:i=n:=by omega
   have hlt':¬(i:Int)<(i:Int):=by omega
   go_wp2_with(go_at_call 46;refine(qH9 _ _ _ _).mono ?_;rintro e w' ⟨rfl,rfl⟩;rw[HN.out])
   go_ret
   exact⟨rfl,HB.out⟩
theorem kK6(a b:Nat)(w:World)(ha:a≤1000000000000000)(hb:b≤1000000000000000):
  Calls Tryz.prog 133 #[.int .i64 (a:Int),.int .i64 (b:Int)] w fun e w'=>e= .returned (.int .i64 (Nat.gcd a b:Int))∧Below w.heap.size w w':=by
 have HB0:=Hd (Q2 w.heap.size w)
 have HG0:=Hd (show Nat.gcd a b=Nat.gcd a b from rfl)
 obtain⟨G,hG⟩:∃G,Nat.gcd a b=G:=⟨_,rfl⟩
 rw[hG]
 have HG:=Hd hG
 clear hG HG0
 go_enter Tryz.func133,Tryz.ntmps133
 go_wp2
 go_loopw [0,1] (fun x y wr=>∃p q:Nat,x= .int .i64 (p:Int)∧y= .int .i64 (q:Int)∧p≤1000000000000000∧q≤1000000000000000∧Hid (Nat.gcd p q=G)∧Hid (Below w.heap.size w wr)) (fun _ y _=>(intOf y).toNat)
 case atStart=>exact⟨a,b,rfl,rfl,ha,hb,HG,HB0⟩
 case round=>
  clear HB0
  obtain⟨p,q,rfl,rfl,hp,hq,HE,HB⟩:=hrel
  by_cases h0:0<q
  ·have h0':(0:Int)<(q:Int):=by omega
   have hqz:(q:Int)≠0:=by omega
   have hm:((p:Int)).tmod (q:Int)=((p%q:Nat):Int):=by rw[Int.ofNat_tmod]
   have hm2:(p:Int)%(q:Int)=((p%q:Nat):Int):=by rw[Int.natCast_emod]
   have hlt:=Nat.mod_lt p h0
   have HE2:=Hd (show Nat.gcd q (p%q)=G from by rw[←HE.out,Nat.gcd_comm p q,Nat.gcd_rec q p,Nat.gcd_comm])
   generalize p%q=r at*
   go_upto_region 2 with(fail)
   (refine J4 (wr.heap.size) (by kernel_rfl) (by kernel_rfl) ?_;(repeat(first|go_big_quiet_step(fail)|quiet_step(fail)));refine X4 (wqn ?_);intro xq)
   have HB2:=Hd (HB.out.trans (xq.below.mono HB.out.size))
   generalize K9.val xq=V2 at*
   clear HB HE hm hm2
   go_wp2
   go_roundw
   case rel=>exact⟨q,r,rfl,rfl,hq,by omega,HE2,HB2⟩
   case measure=>simp[intOf];omega
  ·obtain rfl:q=0:=by omega
   have HE2:=Hd (show p=G from by rw[←HE.out,Nat.gcd_zero_right])
   clear HE
   go_wp2
   go_ret
   exact⟨by rw[←HE2.out];rfl,HB.out⟩
def R7(num den:Int):Int:=num.tdiv (Nat.gcd num.natAbs den.natAbs:Int)
def F3(num den:Int):Int:=den.tdiv (Nat.gcd num.natAbs den.natAbs:Int)
theorem qU9(num den:Int)(w:World)(hn: -1000000000000000≤num∧num≤1000000000000000)(hd:1≤den∧den≤1000000000000000):
  Calls Tryz.prog 90 #[.int .i64 num,.int .i64 den] w fun e w'=>e= .returned (spV (R7 num den) (F3 num den))∧Below w.heap.size w w':=by
 have HGC:=Hd (fun W=>kK6 num.natAbs den.natAbs W (by omega) (by omega))
 have hg1:1≤Nat.gcd num.natAbs den.natAbs:=Nat.gcd_pos_of_pos_right _ (by omega)
 have hg2:(Nat.gcd num.natAbs den.natAbs:Int)≤den:=by have:=Nat.gcd_le_right num.natAbs (show 0<den.natAbs by omega);omega
 unfold R7 F3 spV
 have hq1:num.tdiv (Nat.gcd num.natAbs den.natAbs:Int)≤1000000000000000∧-1000000000000000≤num.tdiv (Nat.gcd num.natAbs den.natAbs:Int):=by
  have h1:(num.tdiv (Nat.gcd num.natAbs den.natAbs:Int)).natAbs≤num.natAbs:=by rw[Int.natAbs_tdiv];exact Nat.div_le_self _ _
  omega
 have hq2:den.tdiv (Nat.gcd num.natAbs den.natAbs:Int)≤1000000000000000∧-1000000000000000≤den.tdiv (Nat.gcd num.natAbs den.natAbs:Int):=by
  have h1:(den.tdiv (Nat.gcd num.natAbs den.natAbs:Int)).natAbs≤den.natAbs:=by rw[Int.natAbs_tdiv];exact Nat.div_le_self _ _
  omega
 have hda:((den.natAbs:Nat):Int)=den:=by omega
 have hna:((num.natAbs:Nat):Int)=max num (-num):=by omega
 rw[hda] at HGC
 have hdd:den/(Nat.gcd num.natAbs den.natAbs:Int)=den.tdiv (Nat.gcd num.natAbs den.natAbs:Int):=(Int.tdiv_eq_ediv_of_nonneg (by omega)).symm
 generalize hG:Nat.gcd num.natAbs den.natAbs=G at*
 generalize hN:num.tdiv (G:Int)=N at*
 generalize hD:den.tdiv (G:Int)=D at*
 generalize num.natAbs=na at*
 clear hG hda
 have HB:=Hd (J3 w (.cells #[.int .i64 0,.int .i64 0] 69))
 have HX:=Hd (Q3 w (.cells #[.int .i64 0,.int .i64 0] 69))
 have HGZ:(G:Int)≠0:=by omega
 have hm1:IntKind.i64.wrap (-num)= -num:=Z1 _ (by omega)
 have hm2:IntKind.i64.wrap N=N:=Z1 _ (by omega)
 have hm3:IntKind.i64.wrap D=D:=Z1 _ (by omega)
 rw[hna] at HGC
 clear hna
 go_enter Tryz.func90,Tryz.ntmps90
 go_upto_region 1 with(fail)
 generalize World.alloc w _=V at*
 go_upto_region 2 with(go_at_call 133;with_reducible refine(HGC.out _).mono ?_;rintro e W1 ⟨rfl,hb1⟩;have HB1:=Hd (HB.out.trans (hb1.mono HB.out.size));have HX1:=Hd (J0 HX.out hb1);clear hb1)
 (refine M0 (W1.heap.size) 7 (by kernel_rfl) (by kernel_rfl) ?_;simp only[List.take_succ_cons,List.take_zero,X7,List.drop_zero];(repeat(first|go_big_quiet_step(fail)|quiet_step(fail)));refine X4 (wqn ?_);intro xq)
 have hq:=xq.below
 have HB2:=Hd (HB1.out.trans (hq.mono HB1.out.size))
 have HX2:=Hd (J0 HX1.out hq)
 clear hq
 generalize K9.val xq=V2 at*
 obtain⟨p0,p1⟩:=M7 HX2.out
 obtain⟨f0,f1⟩:=fr2 HX2.out
 simp only[P2] at p0 p1
 go_wp2
 have hrow:=Q4 _ _ 1 _ _ (.int .i64 D) (Q4 V2 _ 0 _ _ (.int .i64 N) HX2.out)
 have hbl:=(HB2.out.setCell (p:=⟨w.heap.size,0,none⟩) (by dsimp only;omega) (.int .i64 N)).setCell (p:=⟨w.heap.size,1,none⟩) (by dsimp only;omega) (.int .i64 D)
 generalize World.setCell (World.setCell V2 _ _) _ _=V5 at*
 obtain⟨q0,q1⟩:=M7 hrow
 exact Z2 (v:= .agg #[.int .i64 N,.int .i64 D]) (by simp[results,Tryz.results90,go_sem,q0,q1]) rfl ⟨rfl,hbl⟩
structure ST where
 sl:Int
 st:Int
 dn:Int
 deriving DecidableEq
def ST.zero:ST:=⟨0,0,0⟩
def ST.val(s:ST):Value:= .agg #[.int .i64 s.sl,.int .i64 s.st,.int .i64 s.dn]
def qF2(z p y q:Int):ST:=if y<z then⟨p-q,q*z-p*y,z-y⟩ else⟨q-p,p*y-q*z,y-z⟩
structure ST.ok(s:ST):Prop where
 sl: -2000000≤s.sl∧s.sl≤2000000
 st: -200000000000≤s.st∧s.st≤200000000000
 dn:1≤s.dn∧s.dn≤100000
theorem qS6{x y K M:Int}(hK:0≤K)(hx: -K≤x∧x≤K)(hy: -M≤y∧y≤M): -(K*M)≤x*y∧x*y≤K*M:=zB3 hK hx hy
theorem kD1{z p y q:Int}(hz:0≤z∧z≤100000)(hy:0≤y∧y≤100000)(hp: -1000000≤p∧p≤1000000)(hq: -1000000≤q∧q≤1000000)(hne:z≠y):(qF2 z p y q).ok:=by
 have h1:=qS6 (K:=1000000) (M:=100000) (by decide) hp (y:=y) (by omega)
 have h2:=qS6 (K:=1000000) (M:=100000) (by decide) hq (y:=z) (by omega)
 unfold qF2
 split
 ·exact⟨by dsimp only;omega,by dsimp only;omega,by dsimp only;omega⟩
 ·exact⟨by dsimp only;omega,by dsimp only;omega,by dsimp only;omega⟩
theorem zM0(z p y q:Int)(w:World)(hz:0≤z∧z≤100000)(hy:0≤y∧y≤100000)(hp: -1000000≤p∧p≤1000000)(hq: -1000000≤q∧q≤1000000):
  Calls Tryz.prog 163 #[.int .i64 z,.int .i64 p,.int .i64 y,.int .i64 q] w fun e w'=>e= .returned (qF2 z p y q).val∧Below w.heap.size w w':=by
 have h1:=qS6 (K:=1000000) (M:=100000) (by decide) hp (y:=y) (by omega)
 have h2:=qS6 (K:=1000000) (M:=100000) (by decide) hq (y:=z) (by omega)
 unfold qF2 ST.val
 generalize hm1:p*y=m1 at*
 generalize hm2:q*z=m2 at*
 by_cases hc:y<z
 ·rw[if_pos hc]
  have HB:=Hd (J3 w (.cells #[.int .i64 (p-q),.int .i64 (m2-m1),.int .i64 (z-y)] 181))
  have HX:=Hd (Q3 w (.cells #[.int .i64 (p-q),.int .i64 (m2-m1),.int .i64 (z-y)] 181))
  go_enter Tryz.func163,Tryz.ntmps163
  go_wp2
  generalize World.alloc w _=V at*
  obtain⟨q0,q1,q2⟩:=U4 HX.out
  exact Z2 (v:= .agg #[.int .i64 (p-q),.int .i64 (m2-m1),.int .i64 (z-y)]) (by simp[results,Tryz.results163,go_sem,q0,q1,q2]) rfl ⟨rfl,HB.out⟩
 ·rw[if_neg hc]
  have HB:=Hd (J3 w (.cells #[.int .i64 (q-p),.int .i64 (m1-m2),.int .i64 (y-z)] 181))
  have HX:=Hd (Q3 w (.cells #[.int .i64 (q-p),.int .i64 (m1-m2),.int .i64 (y-z)] 181))
  go_enter Tryz.func163,Tryz.ntmps163
  go_wp2
  generalize World.alloc w _=V at*
  obtain⟨q0,q1,q2⟩:=U4 HX.out
  exact Z2 (v:= .agg #[.int .i64 (q-p),.int .i64 (m1-m2),.int .i64 (y-z)]) (by simp[results,Tryz.results163,go_sem,q0,q1,q2]) rfl ⟨rfl,HB.out⟩
def atN(s:ST)(z:Int):Int:=s.st+s.sl*z
theorem jX4{s:ST}(hs:s.ok){z:Int}(hz: -100000≤z∧z≤200000): -600000000000≤atN s z∧atN s z≤600000000000:=by
 have h1:=qS6 (K:=2000000) (M:=200000) (by decide) hs.sl (y:=z) (by omega)
 have:=hs.st
 unfold atN
 omega
theorem kH1(s:ST)(z:Int)(w:World)(hs:s.ok)(hz: -100000≤z∧z≤200000):
  Calls Tryz.prog 92 #[s.val,.int .i64 z] w fun e w'=>e= .returned (spV (atN s z) s.dn)∧Below w.heap.size w w':=by
 have h1:=qS6 (K:=2000000) (M:=200000) (by decide) hs.sl (y:=z) (by omega)
 have h2:=hs.st
 obtain⟨sl,st,dn⟩:=s
 unfold atN ST.val spV
 dsimp only at*
 generalize hm:sl*z=m at*
 have HB:=Hd (((Q2 _ w).alloc (Q1 _) (.cells #[.int .i64 sl,.int .i64 st,.int .i64 dn] 181)).alloc (by simp) (.cells #[.int .i64 (st+m),.int .i64 dn] 69))
 have hnew:=Q3 (w.alloc (.cells #[.int .i64 sl,.int .i64 st,.int .i64 dn] 181)) (.cells #[.int .i64 (st+m),.int .i64 dn] 69)
 rw[show(w.alloc (.cells #[.int .i64 sl,.int .i64 st,.int .i64 dn] 181)).heap.size=w.heap.size+1 from by simp] at hnew
 have HX:=Hd hnew
 clear hnew hs
 go_enter Tryz.func92,Tryz.ntmps92
 go_wp2
 generalize World.alloc (World.alloc w _) _=V at*
 obtain⟨q0,q1⟩:=M7 HX.out
 exact Z2 (v:= .agg #[.int .i64 (st+m),.int .i64 dn]) (by simp[results,Tryz.results92,go_sem,q0,q1]) rfl ⟨rfl,HB.out⟩
def zX5(s:ST)(g:RW):Bool:=J1 (atN s g.key) (g.lo*s.dn) (g.hi*s.dn)
theorem xS4(s:ST)(g:RW)(w:World)(hs:s.ok)(hz:0≤g.key∧g.key≤100000)(hg: -1000000≤g.lo∧g.lo≤g.hi∧g.hi≤1000000):
  Calls Tryz.prog 165 #[s.val,g.agg] w fun e w'=>e= .returned (.bool (zX5 s g))∧Below w.heap.size w w':=by
 have h1:=qS6 (K:=2000000) (M:=100000) (by decide) hs.sl (y:=g.key) (by omega)
 have h2:=hs.st
 have h3:=qS6 (K:=1000000) (M:=100000) (by decide) (show-1000000≤g.lo∧g.lo≤1000000 by omega) (y:=s.dn) (by have:=hs.dn;omega)
 have h4:=qS6 (K:=1000000) (M:=100000) (by decide) (show-1000000≤g.hi∧g.hi≤1000000 by omega) (y:=s.dn) (by have:=hs.dn;omega)
 obtain⟨sl,st,dn⟩:=s
 obtain⟨k,lo,hi⟩:=g
 unfold zX5 atN ST.val RW.agg
 dsimp only at*
 generalize hm1:sl*k=m1 at*
 generalize hm2:lo*dn=m2 at*
 generalize hm3:hi*dn=m3 at*
 have HB:=Hd (((Q2 _ w).alloc (Q1 _) (.cells #[.int .i64 sl,.int .i64 st,.int .i64 dn] 181)).alloc (by simp) (.cells #[.int .i64 k,.int .i64 lo,.int .i64 hi] 63))
 clear hs
 go_enter Tryz.func165,Tryz.ntmps165
 go_wp2_with(go_at_call 46;refine(qH9 _ _ _ _).mono ?_;rintro e w' ⟨rfl,rfl⟩)
 go_ret
 exact⟨rfl,HB.out⟩
def lnV(s:ST):Value:= .agg #[.int .i64 (R7 s.sl s.dn),.int .i64 (F3 s.sl s.dn),.int .i64 (R7 s.st s.dn),.int .i64 (F3 s.st s.dn)]
theorem xB0(s:ST)(w:World)(hs:s.ok):Calls Tryz.prog 129 #[s.val] w fun e w'=>e= .returned (lnV s)∧Below w.heap.size w w':=by
 have HF1:=Hd (fun W=>qU9 s.sl s.dn W (by have:=hs.sl;omega) (by have:=hs.dn;omega))
 have HF2:=Hd (fun W=>qU9 s.st s.dn W (by have:=hs.st;omega) (by have:=hs.dn;omega))
 unfold lnV ST.val
 unfold spV at HF1 HF2
 generalize R7 s.sl s.dn=a0 at*
 generalize F3 s.sl s.dn=a1 at*
 generalize R7 s.st s.dn=b0 at*
 generalize F3 s.st s.dn=b1 at*
 obtain⟨sl,st,dn⟩:=s
 dsimp only at*
 have HB:=Hd (((Q2 _ w).alloc (Q1 _) (.cells #[.int .i64 sl,.int .i64 st,.int .i64 dn] 181)).alloc (by simp) (.cells #[.int .i64 0,.int .i64 0,.int .i64 0,.int .i64 0] 237))
 have hnew:=Q3 (w.alloc (.cells #[.int .i64 sl,.int .i64 st,.int .i64 dn] 181)) (.cells #[.int .i64 0,.int .i64 0,.int .i64 0,.int .i64 0] 237)
 rw[show(w.alloc (.cells #[.int .i64 sl,.int .i64 st,.int .i64 dn] 181)).heap.size=w.heap.size+1 from by simp] at hnew
 have HX:=Hd hnew
 have HS:=Hd (show((w.alloc (.cells #[.int .i64 sl,.int .i64 st,.int .i64 dn] 181)).alloc (.cells #[.int .i64 0,.int .i64 0,.int .i64 0,.int .i64 0] 237)).heap[w.heap.size]?=some (.cells #[.int .i64 sl,.int .i64 st,.int .i64 dn] 181) from(Q9 _ _ _ (by simp)).trans (Q3 w _))
 clear hnew hs
 go_enter Tryz.func129,Tryz.ntmps129
 go_upto_region 1 with(fail)
 generalize World.alloc (World.alloc w _) _=V at*
 obtain⟨k0,k1,k2⟩:=U4 HS.out
 simp only[P2] at k0 k1 k2
 have lt1:=(J5 HS.out)
 (refine M0 (V.heap.size) 11 (by kernel_rfl) (by kernel_rfl) ?_;simp only[List.take_succ_cons,List.take_zero,X7,List.drop_zero];(repeat(first|go_big_quiet_step((go_at_call 90;first|(with_reducible exact Calls.calm_of (Q1 _) (HF1.out _))|(with_reducible exact Calls.calm_of (Q1 _) (HF2.out _))))|quiet_step((go_at_call 90;first|(with_reducible exact Calls.calm_of (Q1 _) (HF1.out _))|(with_reducible exact Calls.calm_of (Q1 _) (HF2.out _))))));refine X4 (wqn ?_);intro xq)
 have hq:=xq.below
 have HB2:=Hd (HB.out.trans (hq.mono HB.out.size))
 have HX2:=Hd (J0 HX.out hq)
 clear hq
 generalize K9.val xq=V2 at*
 obtain⟨p0,p1,p2,p3⟩:=cr4 HX2.out
 obtain⟨f0,f1,f2,f3⟩:=fr4 HX2.out
 simp only[P2] at p0 p1 p2 p3
 go_wp2
 have hrow:=Q4 _ _ 3 _ _ (.int .i64 b1) (Q4 _ _ 2 _ _ (.int .i64 b0) (Q4 _ _ 1 _ _ (.int .i64 a1) (Q4 V2 _ 0 _ _ (.int .i64 a0) HX2.out)))
 have hbl:=(((HB2.out.setCell (p:=⟨w.heap.size+1,0,none⟩) (by dsimp only;omega) (.int .i64 a0)).setCell (p:=⟨w.heap.size+1,1,none⟩) (by dsimp only;omega) (.int .i64 a1)).setCell (p:=⟨w.heap.size+1,2,none⟩) (by dsimp only;omega) (.int .i64 b0)).setCell (p:=⟨w.heap.size+1,3,none⟩) (by dsimp only;omega) (.int .i64 b1)
 generalize World.setCell (World.setCell (World.setCell (World.setCell V2 _ _) _ _) _ _) _ _=V5 at*
 obtain⟨q0,q1,q2,q3⟩:=cr4 hrow
 exact Z2 (v:= .agg #[.int .i64 a0,.int .i64 a1,.int .i64 b0,.int .i64 b1]) (by simp[results,Tryz.results129,go_sem,q0,q1,q2,q3]) rfl ⟨rfl,hbl⟩
theorem zW4{x y:Int}:(Lib.compareInt x y<0)↔x<y:=by
 unfold Lib.compareInt
 split
 ·simp;omega
 ·split
  ·simp;omega
  ·simp;omega
theorem zW3{x y:Int}:(0<Lib.compareInt x y)↔y<x:=by
 unfold Lib.compareInt
 split
 ·simp;omega
 ·split
  ·simp;omega
  ·simp;omega
theorem zZ5(an ad bn bd:Int)(w:World)(h1: -600000000000≤an∧an≤600000000000)(h2:1≤ad∧ad≤100000)(h3: -600000000000≤bn∧bn≤600000000000)(h4:1≤bd∧bd≤100000):
  Calls Tryz.prog 125 #[.agg #[.int .i64 an,.int .i64 ad],.agg #[.int .i64 bn,.int .i64 bd]] w fun e w'=>e= .returned (.int .i64 (Lib.compareInt (an*bd) (bn*ad)))∧Below w.heap.size w w':=by
 have b1:=qS6 (K:=600000000000) (M:=100000) (by decide) h1 (y:=bd) (by omega)
 have b2:=qS6 (K:=600000000000) (M:=100000) (by decide) h3 (y:=ad) (by omega)
 generalize hm1:an*bd=m1 at*
 generalize hm2:bn*ad=m2 at*
 have hcon:=fun W'=>AnyG.cmp_Compare_int Tryz.laysCmpCh m1 m2 W'
 change ∀W',Calls Tryz.prog 161 _ _ _ at hcon
 have HC:=Hd hcon
 have HB:=Hd (((Q2 _ w).alloc (Q1 _) (.cells #[.int .i64 an,.int .i64 ad] 69)).alloc (by simp) (.cells #[.int .i64 bn,.int .i64 bd] 69))
 generalize Lib.compareInt m1 m2=r at*
 clear hcon
 go_enter Tryz.func125,Tryz.ntmps125
 go_wp2_with(go_at_call 161;refine(HC.out _).mono ?_;rintro e w' ⟨rfl,rfl⟩)
 go_ret
 exact⟨rfl,HB.out⟩
end
section
open Go Go.RowKit Go.Shelf
attribute [local go_sem] Oper.semAt_some
def prE(t:Nat→RW)(i j:Nat):List ST:=if(t i).key=(t j).key then [] else [qF2 (t i).key (t i).lo (t j).key (t j).lo,qF2 (t i).key (t i).lo (t j).key (t j).hi,qF2 (t i).key (t i).hi (t j).key (t j).lo,qF2 (t i).key (t i).hi (t j).key (t j).hi]
def kB5(t:Nat→RW)(n i:Nat):List ST:=(List.range (n-(i+1))).flatMap fun j=>prE t i (i+1+j)
def E1(t:Nat→RW)(n i:Nat):List ST:=(List.range i).flatMap (kB5 t n)
def G7(t:Nat→RW)(n:Nat):List ST:=E1 t n n
def E2(t:Nat→RW)(n i j:Nat):List ST:=E1 t n i++(List.range j).flatMap fun j=>prE t i (i+1+j)
theorem xW0(t:Nat→RW)(n i:Nat):E1 t n (i+1)=E1 t n i++kB5 t n i:=by
 unfold E1
 rw[List.range_succ,List.flatMap_append]
 simp
theorem xW1(t:Nat→RW)(n i:Nat):E2 t n i 0=E1 t n i:=by simp[E2]
theorem qM1(t:Nat→RW)(n i j:Nat):E2 t n i (j+1)=E2 t n i j++prE t i (i+1+j):=by
 unfold E2
 rw[List.range_succ,List.flatMap_append,List.append_assoc]
 simp
theorem zU4(t:Nat→RW)(n i:Nat):E2 t n i (n-(i+1))=E1 t n (i+1):=by rw[xW0];rfl
theorem jE6(t:Nat→RW)(n:Nat):∀d i,i+d=n→E1 t n i<+:G7 t n
 |0,i,h=>by
  obtain rfl:i=n:=by omega
  exact List.prefix_refl _
 |d+1,i,h=>by
  have h1:=jE6 t n d (i+1) (by omega)
  rw[xW0] at h1
  exact(List.prefix_append _ _).trans h1
theorem jE7(t:Nat→RW)(n i:Nat)(hi:i<n):∀d j,j+d=n-(i+1)→E2 t n i j<+:G7 t n
 |0,j,h=>by
  obtain rfl:j=n-(i+1):=by omega
  rw[zU4]
  exact jE6 t n (n-(i+1)) (i+1) (by omega)
 |d+1,j,h=>by
  have h1:=jE7 t n i hi d (j+1) (by omega)
  rw[qM1] at h1
  exact(List.prefix_append _ _).trans h1
theorem kF1(t:Nat→RW)(n i j k:Nat)(hi:i<n)(hj:j<n-(i+1)):E2 t n i j++(prE t i (i+1+j)).take k<+:G7 t n:=by
 have h1:=jE7 t n i hi (n-(i+1)-(j+1)) (j+1) (by omega)
 rw[qM1] at h1
 exact((List.prefix_append_right_inj _).2 (List.take_prefix _ _)).trans h1
theorem jW4(t:Nat→RW)(i j:Nat)(hne:(t i).key≠(t j).key){a b:Nat}(ha:a<2)(hb:b<2):(prE t i j).take (2*a+b+1)=(prE t i j).take (2*a+b)++[qF2 (t i).key (pk2 a (t i).lo (t i).hi) (t j).key (pk2 b (t j).lo (t j).hi)]:=by
 unfold prE
 rw[if_neg hne]
 match a,ha,b,hb with
 |0,_,0,_=>rfl
 |0,_,1,_=>rfl
 |1,_,0,_=>rfl
 |1,_,1,_=>rfl
theorem zI6(t:Nat→RW)(i j:Nat):(prE t i j).length≤4:=by
 unfold prE
 split<;>simp
theorem zB1{α:Type}{f:Nat→List α}{M:Nat}(h:∀i,(f i).length≤M):∀n,((List.range n).flatMap f).length≤M*n
 |0=>by simp
 |n+1=>by
  rw[List.range_succ,List.flatMap_append,Z6]
  have h1:=zB1 h n
  have h2:=h n
  simp only[List.flatMap_cons,List.flatMap_nil,List.append_nil]
  rw[Nat.mul_succ]
  omega
theorem jJ1(t:Nat→RW)(n:Nat):(G7 t n).length≤4*n*n:=by
 refine zB1 (M:=4*n) (fun i=> ?_) n
 have:=zB1 (f:=fun j=>prE t i (i+1+j)) (M:=4) (fun j=>zI6 t i _) (n-(i+1))
 unfold kB5
 omega
theorem E3{t:Nat→RW}{n:Nat}(h:qQ2 n t):∀s∈G7 t n,s.ok:=by
 intro s hs
 unfold G7 E1 at hs
 obtain⟨i,hi,hs⟩:=List.mem_flatMap.1 hs
 obtain⟨j,hj,hs⟩:=List.mem_flatMap.1 hs
 have hi':=List.mem_range.1 hi
 have hj':=List.mem_range.1 hj
 have z1:=h.z i (by omega)
 have z2:=h.z (i+1+j) (by omega)
 have s1:=h.span i (by omega)
 have s2:=h.span (i+1+j) (by omega)
 unfold prE at hs
 split at hs
 ·cases hs
 ·rename_i hne
  simp only[List.mem_cons,List.not_mem_nil,or_false] at hs
  rcases hs with rfl|rfl|rfl|rfl<;>exact kD1 z1 z2 (by omega) (by omega) hne
structure qQ1(B:Nat)(a:Option Addr)(n c:Nat)(t:Nat→RW)(q:Nat)(W:World):Prop where
 box:W.heap[q]?=some (.cells #[.slice a n c] 118)
 rows:S5 B W a n t
def GlR(a:Option Addr)(q:Nat)(b:Nat):Prop:=b=q∨∃o,a=some ⟨b,o,none⟩
theorem qQ1.step{B:Nat}{a:Option Addr}{n c:Nat}{t:Nat→RW}{q:Nat}{W W':World}(h:qQ1 B a n c t q W)(hk:∀b,GlR a q b→W'.heap[b]?=W.heap[b]?):qQ1 B a n c t q W':=by
 refine⟨(hk q (.inl rfl)).trans h.box,?_⟩
 rcases h.rows with h0|⟨b,off,ha,hB,hc⟩
 ·exact .inl h0
 ·have he:=hk b (.inr ⟨off,ha⟩)
  exact .inr ⟨b,off,ha,hB,fun i hi=>⟨(X5 he).trans (hc i hi).1,(X5 he).trans (hc i hi).2.1,(X5 he).trans (hc i hi).2.2⟩⟩
theorem qQ1.below{B:Nat}{a:Option Addr}{n c:Nat}{t:Nat→RW}{q:Nat}{W W':World}(h:qQ1 B a n c t q W)(hB:B≤W.heap.size)(hb:Below W.heap.size W W'):qQ1 B a n c t q W':=⟨J0 h.box hb,h.rows.below (hb.mono hB)⟩
def EqE(E xs:List ST):Prop:=xs=E
def PfE(E pre:List ST)(x:ST):Prop:=pre++[x]<+:E
def kP2(xs:List ST):Prop:=True
theorem jP6(a:Option Addr)(n c:Nat)(w:World):Calls Tryz.prog 128 #[.agg #[.slice a n c]] w fun e w'=>e= .returned (.func (.func 162) #[] #[.pointer (some ⟨w.heap.size,0,none⟩)])∧w'.heap[w.heap.size]?=some (.cells #[.slice a n c] 118)∧Below w.heap.size w w':=by
 have h1:=J3 w (.cells #[.slice a n c] 118)
 have h2:=Q3 w (.cells #[.slice a n c] 118)
 go_enter Tryz.func128,Tryz.ntmps128
 go_wp2
 go_ret
 exact⟨rfl,h2,h1⟩
theorem jP7(a:Option Addr)(n c:Nat)(t:Nat→RW)(B q:Nat)(w:World)(hBw:B≤w.heap.size)(hq:qQ1 B a n c t q w)(hO:qQ2 n t)(hc:n≤c∧c≤maxLen):
  qI6 Tryz.prog 162 #[.pointer (some ⟨q,0,none⟩)] (fun s=> #[s.val]) (GlR a q) (fun _ _ _=>True) (PfE (G7 t n)) (EqE (G7 t n)) kP2 w:=by
 intro l J Jx W hW hJ hJx hY h0 N
 have HS0:∃O,J [] O W∧qQ1 B a n c t q W∧B≤W.heap.size∧∀e∈([]:List (Nat×Obj)),O e.1∧W.heap[e.1]?=some e.2:=⟨_,h0,hq.below hBw hW,Q5 hBw hW.size,fun e he=>by cases he⟩
 have HSTEP:∀m (F:List (Nat×Obj)) A A',(∃O,J m O A∧qQ1 B a n c t q A∧B≤A.heap.size∧∀e∈F,O e.1∧A.heap[e.1]?=some e.2)→Below A.heap.size A A'→(∃O,J m O A'∧qQ1 B a n c t q A'∧B≤A'.heap.size∧∀e∈F,O e.1∧A'.heap[e.1]?=some e.2):=by
  rintro m F A A' ⟨O,h1,h2,h3,h4⟩ hb
  exact⟨_,hJ _ _ _ _ _ h1 (U2.of_below hb),h2.below h3 hb,Q5 h3 hb.size,fun e he=>⟨.inl (h4 e he).1,J0 (h4 e he).2 hb⟩⟩
 have HNEW:∀m (F:List (Nat×Obj)) A (o:Obj),(∃O,J m O A∧qQ1 B a n c t q A∧B≤A.heap.size∧∀e∈F,O e.1∧A.heap[e.1]?=some e.2)→(∃O,J m O (A.alloc o)∧qQ1 B a n c t q (A.alloc o)∧B≤(A.alloc o).heap.size∧∀e∈(A.heap.size,o)::F,O e.1∧(A.alloc o).heap[e.1]?=some e.2):=by
  rintro m F A o ⟨O,h1,h2,h3,h4⟩
  have hb:=J3 A o
  refine⟨_,hJ _ _ _ _ _ h1 (U2.of_below hb),h2.below h3 hb,Q5 h3 hb.size,fun e he=> ?_⟩
  rcases List.mem_cons.1 he with rfl|he
  ·exact⟨.inr ⟨Q1 _,by simp⟩,Q3 A o⟩
  ·exact⟨.inl (h4 e he).1,J0 (h4 e he).2 hb⟩
 have HDROP:∀m (f:Nat×Obj) (F:List (Nat×Obj)) A,(∃O,J m O A∧qQ1 B a n c t q A∧B≤A.heap.size∧∀e∈(f::F),O e.1∧A.heap[e.1]?=some e.2)→(∃O,J m O A∧qQ1 B a n c t q A∧B≤A.heap.size∧∀e∈F,O e.1∧A.heap[e.1]?=some e.2):=by
  rintro m f F A ⟨O,h1,h2,h3,h4⟩
  exact⟨O,h1,h2,h3,fun e he=>h4 e (List.mem_cons_of_mem _ he)⟩
 have HCN:∀m (F:List (Nat×Obj)) A,(∃O,J m O A∧qQ1 B a n c t q A∧B≤A.heap.size∧∀e∈F,O e.1∧A.heap[e.1]?=some e.2)→qQ1 B a n c t q A∧B≤A.heap.size∧∀e∈F,A.heap[e.1]?=some e.2:=by
  rintro m F A ⟨O,h1,h2,h3,h4⟩
  exact⟨h2,h3,fun e he=>(h4 e he).2⟩
 have HY:∀m (F:List (Nat×Obj)) A x,(∃O,J m O A∧qQ1 B a n c t q A∧B≤A.heap.size∧∀e∈F,O e.1∧A.heap[e.1]?=some e.2)→PfE (G7 t n) m x→∀N,YieldAt Fence.wide N Tryz.prog l #[x.val] A fun e W'=>(e= .returned (.bool true)∧(∃O,J (m++[x]) O W'∧qQ1 B a n c t q W'∧B≤W'.heap.size∧∀e∈F,O e.1∧W'.heap[e.1]?=some e.2))∨(e= .returned (.bool false)∧∃pre O,kP2 pre∧Jx pre O W'):=by
  rintro m F A x ⟨O,h1,h2,h3,hF⟩ hm N
  obtain⟨fn,tmps,assign,body,hy,hR⟩:=hY m x O A h1 trivial hm N
  refine⟨fn,tmps,assign,body,hy,hR.mono ?_⟩
  rintro e W' (⟨h4,h5,h6⟩|⟨h4,h5⟩)
  ·exact .inl ⟨h4,_,h5,h2.step (fun b hb=>h6.block b (.inr hb)),Q5 h3 h6.size,fun e he=>⟨(hF e he).1,(h6.block _ (.inl (hF e he).1)).trans (hF e he).2⟩⟩
  ·exact .inr ⟨h4,_,_,trivial,h5⟩
 have HFIN:∀A,(∃O,J (G7 t n) O A∧qQ1 B a n c t q A∧B≤A.heap.size∧∀e∈([]:List (Nat×Obj)),O e.1∧A.heap[e.1]?=some e.2)→∃xs O,EqE (G7 t n) xs∧J xs O A:=by
  rintro A ⟨O,h1,h2⟩
  exact⟨_,O,rfl,h1⟩
 clear hJ hJx hY h0 hq
 generalize hST:(fun(m:List ST) (F:List (Nat×Obj)) (A:World)=>∃O,J m O A∧qQ1 B a n c t q A∧B≤A.heap.size∧∀e∈F,O e.1∧A.heap[e.1]?=some e.2)=S at*
 have eST:∀m (F:List (Nat×Obj)) A,(∃O,J m O A∧qQ1 B a n c t q A∧B≤A.heap.size∧∀e∈F,O e.1∧A.heap[e.1]?=some e.2)=S m F A:=fun m F A=>by rw[←hST]
 simp only[eST] at HS0 HSTEP HNEW HDROP HCN HY HFIN
 clear eST hST
 have HTH:=Hd (fun i (hi:i<n) j (hj:j<n) a b W=>zM0 (t i).key (pk2 a (t i).lo (t i).hi) (t j).key (pk2 b (t j).lo (t j).hi) W (hO.z i hi) (hO.z j hj) (zS6 (hO.span i hi)) (zS6 (hO.span j hj)))
 have HPF:=Hd (fun i (hi:i<n) j (hj:j<n-(i+1)) a (ha:a<2) b (hb:b<2) (hne:(t i).key≠(t (i+1+j)).key)=>show PfE (G7 t n) (E2 t n i j++(prE t i (i+1+j)).take (2*a+b)) (qF2 (t i).key (pk2 a (t i).lo (t i).hi) (t (i+1+j)).key (pk2 b (t (i+1+j)).lo (t (i+1+j)).hi))∧E2 t n i j++(prE t i (i+1+j)).take (2*a+b)++[qF2 (t i).key (pk2 a (t i).lo (t i).hi) (t (i+1+j)).key (pk2 b (t (i+1+j)).lo (t (i+1+j)).hi)]=E2 t n i j++(prE t i (i+1+j)).take (2*a+b+1) from by
  have h1:=kF1 t n i j (2*a+b+1) hi hj
  rw[jW4 t i _ hne ha hb] at h1 ⊢
  unfold PfE
  rw[List.append_assoc]
  exact⟨h1,rfl⟩)
 have HSTEP:=Hd HSTEP
 have HNEW:=Hd HNEW
 have HDROP:=Hd HDROP
 have HCN:=Hd HCN
 have HY:=Hd HY
 have HFIN:=Hd HFIN
 have hn24:=hO.len
 have hcl:=hc.1
 have hcm:=hc.2
 unfold maxLen at hcm
 clear hO hc
 refine callsIn_of_wp Tryz.func162 rfl trivial ?_ rfl
 simp only[Tryz.ntmps162,List.size_toArray,List.length_cons,List.length_nil,Nat.reduceAdd,Nat.reduceSub,Array.replicate_succ,Array.replicate_zero,List.push_toArray,List.append_toArray,List.nil_append,List.cons_append]
 have HQ:=Hd (HCN.out _ _ _ HS0).1
 (have k0:=Q0 _ _ 0 _ _ _ HQ.out.box)
 gi_wp2
 clear k0 HQ
 gi_loopw [14] (fun s14 wr=>∃i:Nat,i≤n∧s14= .int .i64 (i:Int)∧Hid (S (E1 t n i) [] wr)) (fun s14 _=>n-(intOf s14).toNat)
 case atStart=>exact⟨0,by omega,rfl,Hd HS0⟩
 case round=>
  clear HS0
  obtain⟨i,hi,rfl,H1⟩:=hrel
  by_cases hl1:i<n
  ·have hl1':(i:Int)<(n:Int):=by omega
   obtain⟨hQ,hBr,_⟩:=HCN.out _ _ _ H1.out
   have HQ:=Hd hQ
   obtain⟨b,off,rfl,hbB,c0,c1,c2⟩:=hQ.rows.get hl1
   have k0:=Q0 _ _ 0 _ _ _ HQ.out.box
   have hic:i+1≤c:=by omega
   have u1:IntKind.i64.wrap ((i:Int)+1)=((i+1:Nat):Int):=by rw[show((i:Int)+1)=((i+1:Nat):Int) by omega];exact Z1 _ (by omega)
   clear hQ
   gi_upto_region 3 with(fail)
   have HS1:=Hd (HNEW.out _ _ _ (Obj.cells #[Value.int IntKind.i64 (t i).key,Value.int IntKind.i64 (t i).lo,Value.int IntKind.i64 (t i).hi] 63) H1.out)
   generalize World.alloc wr _=wa at*
   generalize wr.heap.size=g at*
   clear k0 c0 c1 c2 HQ H1 hBr
   have HQ:=Hd (HCN.out _ _ _ HS1.out)
   have k0:=Q0 _ _ 0 _ _ _ HQ.out.1.box
   have hin:((i+1:Nat):Int)≤(n:Int):=by omega
   have hin0:(0:Int)≤((i+1:Nat):Int):=by omega
   by_cases hce:c=i+1
   ·obtain rfl:n=i+1:=by omega
    subst hce
    gi_wp2
    gi_loopw [25] (fun s25 wb=>s25= .int .i64 0∧Hid (S (E1 t (i+1) (i+1)) [(g,Obj.cells #[Value.int IntKind.i64 (t i).key,Value.int IntKind.i64 (t i).lo,Value.int IntKind.i64 (t i).hi] 63)] wb)) (fun s25 _=>0)
    case atStart=>exact⟨rfl,Hd (by rw[←zU4,Nat.sub_self,xW1];exact HS1.out)⟩
    case round=>
     obtain⟨rfl,H2⟩:=hrel
     gi_wp2
     go_roundw
     case rel=>first|exact⟨i+1,by omega,by go_num,Hd (HDROP.out _ _ _ _ H2.out)⟩|((repeat apply Z9);exact⟨⟨i+1,by omega,by go_num,Hd (HDROP.out _ _ _ _ H2.out)⟩,rfl⟩)
     case measure=>simp[intOf]
   ·have hce':decide (c=i+1)=false:=by simp[hce]
    gi_wp2
    clear k0 HQ u1
    gi_loopw [25] (fun s25 wb=>∃j:Nat,j≤n-(i+1)∧s25= .int .i64 (j:Int)∧Hid (S (E2 t n i j) [(g,Obj.cells #[Value.int IntKind.i64 (t i).key,Value.int IntKind.i64 (t i).lo,Value.int IntKind.i64 (t i).hi] 63)] wb)) (fun s25 _=>n-(i+1)-(intOf s25).toNat)
    case atStart=>exact⟨0,by omega,rfl,Hd (by rw[xW1];exact HS1.out)⟩
    case round=>
     clear HS1
     obtain⟨j,hj,rfl,H2⟩:=hrel
     by_cases hl2:j<n-(i+1)
     ·have hl2':(j:Int)<((n-(i+1):Nat):Int):=by omega
      have hjn:i+1+j<n:=by omega
      have HQ:=Hd (HCN.out _ _ _ H2.out)
      obtain⟨b',off',hbo,_,c0,c1,c2⟩:=HQ.out.1.rows.get hjn
      obtain⟨rfl,rfl⟩:b=b'∧off=off':=by
       have h:=Option.some.inj hbo
       injection h with h1 h2
       exact⟨h1,h2⟩
      rw[show off+(i+1+j)*3=off+(i+1)*3+j*3 by rw[Nat.add_mul (i+1) j 3,Nat.add_assoc]] at c0 c1 c2
      clear hbo HQ
      gi_upto_region 6 with(fail)
      have HS2:=Hd (HNEW.out _ _ _ (Obj.cells #[Value.int IntKind.i64 (t (i+1+j)).key,Value.int IntKind.i64 (t (i+1+j)).lo,Value.int IntKind.i64 (t (i+1+j)).hi] 63) H2.out)
      generalize World.alloc wr _=wc at*
      generalize wr.heap.size=h at*
      clear c0 c1 c2 H2
      (have HQ:=(HCN.out _ _ _ (HS2).out).2.2;have hg:=HQ _ (List.mem_cons_of_mem _ List.mem_cons_self);have hh:=HQ _ List.mem_cons_self;obtain⟨kg0,kg1,kg2⟩:=U4 hg;obtain⟨kh0,kh1,kh2⟩:=U4 hh;simp only[P2] at kg0 kg1 kg2 kh0 kh1 kh2;clear HQ hg hh)
      by_cases hz:(t i).key=(t (i+1+j)).key
      ·have hpe:prE t i (i+1+j)=[]:=if_pos hz
       gi_wp2
       go_roundw
       case rel=>first|exact⟨j+1,by omega,by go_num,Hd (by rw[qM1,hpe,List.append_nil];exact HDROP.out _ _ _ _ HS2.out)⟩|((repeat apply Z9);exact⟨⟨j+1,by omega,by go_num,Hd (by rw[qM1,hpe,List.append_nil];exact HDROP.out _ _ _ _ HS2.out)⟩,rfl⟩)
       case measure=>simp[intOf];omega
      ·have hzb:((t i).key==(t (i+1+j)).key)=false:=by simpa using hz
       gi_wp2
       try rw[hzb]
       clear kg0 kg1 kg2 kh0 kh1 kh2
       gi_loopw [39] (fun s39 wd=>∃x:Nat,x≤2∧s39= .int .i64 (x:Int)∧Hid (S (E2 t n i j++(prE t i (i+1+j)).take (2*x)) [(h,Obj.cells #[Value.int IntKind.i64 (t (i+1+j)).key,Value.int IntKind.i64 (t (i+1+j)).lo,Value.int IntKind.i64 (t (i+1+j)).hi] 63),(g,Obj.cells #[Value.int IntKind.i64 (t i).key,Value.int IntKind.i64 (t i).lo,Value.int IntKind.i64 (t i).hi] 63)] wd)) (fun s39 _=>2-(intOf s39).toNat)
       case atStart=>exact⟨0,by omega,rfl,Hd (by rw[Nat.mul_zero,List.take_zero,List.append_nil];exact HS2.out)⟩
       case round=>
        clear HS2
        obtain⟨x,hx,rfl,H3⟩:=hrel
        by_cases hl3:x<2
        ·have hl3':(x:Int)<2:=by omega
         have hix3:=ix2 (t i).lo (t i).hi hl3
         (have HQ:=(HCN.out _ _ _ (H3).out).2.2;have hg:=HQ _ (List.mem_cons_of_mem _ List.mem_cons_self);have hh:=HQ _ List.mem_cons_self;obtain⟨kg0,kg1,kg2⟩:=U4 hg;obtain⟨kh0,kh1,kh2⟩:=U4 hh;simp only[P2] at kg0 kg1 kg2 kh0 kh1 kh2;clear HQ hg hh)
         gi_wp2
         clear hix3 kg0 kg1 kg2 kh0 kh1 kh2
         gi_loopw [47] (fun s47 wd=>∃y:Nat,y≤2∧s47= .int .i64 (y:Int)∧Hid (S (E2 t n i j++(prE t i (i+1+j)).take (2*x+y)) [(h,Obj.cells #[Value.int IntKind.i64 (t (i+1+j)).key,Value.int IntKind.i64 (t (i+1+j)).lo,Value.int IntKind.i64 (t (i+1+j)).hi] 63),(g,Obj.cells #[Value.int IntKind.i64 (t i).key,Value.int IntKind.i64 (t i).lo,Value.int IntKind.i64 (t i).hi] 63)] wd)) (fun s47 _=>2-(intOf s47).toNat)
         case atStart=>exact⟨0,by omega,rfl,H3⟩
         case round=>
          clear H3
          obtain⟨y,hy2,rfl,H4⟩:=hrel
          by_cases hl4:y<2
          ·have hl4':(y:Int)<2:=by omega
           have hix4:=ix2 (t (i+1+j)).lo (t (i+1+j)).hi hl4
           (have HQ:=(HCN.out _ _ _ (H4).out).2.2;have hg:=HQ _ (List.mem_cons_of_mem _ List.mem_cons_self);have hh:=HQ _ List.mem_cons_self;obtain⟨kg0,kg1,kg2⟩:=U4 hg;obtain⟨kh0,kh1,kh2⟩:=U4 hh;simp only[P2] at kg0 kg1 kg2 kh0 kh1 kh2;clear HQ hg hh)
           obtain⟨hp1,hp2⟩:=HPF.out i hl1 j hl2 x hl3 y hl4 hz
           have hcall:=HTH.out i hl1 (i+1+j) hjn x y
           generalize qF2 (t i).key (pk2 x (t i).lo (t i).hi) (t (i+1+j)).key (pk2 y (t (i+1+j)).lo (t (i+1+j)).hi)=st at*
           have hcall:=Hd hcall
           generalize pk2 x (t i).lo (t i).hi=va at*
           generalize pk2 y (t (i+1+j)).lo (t (i+1+j)).hi=vb at*
           gi_wp2
           refine⟨trivial,fun h=>(by cases h),?_⟩
           with_reducible refine(callsIn_wide.2 (hcall.out _)).mono ?_
           rintro e W5 ⟨rfl,hb⟩
           have HS5:=Hd (HSTEP.out _ _ _ _ H4.out hb)
           obtain⟨fn,tmps,assign,body,hy,hR⟩:=HY.out _ _ _ _ HS5.out hp1 (N-1)
           gi_wp2
           refine⟨fun h=>(by cases h),hR.mono ?_⟩
           rintro e W6 (⟨rfl,hs6⟩|⟨rfl,pre,O,_,hj6⟩)
           ·rw[hp2,Nat.add_assoc (2*x) y 1] at hs6;have HS6:=Hd hs6
            clear hR hy hs6
            gi_wp2
            go_roundw
            case rel=>first|exact⟨y+1,by omega,by go_num,HS6⟩|((repeat apply Z9);exact⟨⟨y+1,by omega,by go_num,HS6⟩,rfl⟩)
            case measure=>simp[intOf];omega
           ·gi_wp2
            refine Z2 (results_none rfl _ _ _) rfl ?_
            exact⟨⟨_,rfl⟩,.inr ⟨_,O,trivial,hj6⟩⟩
          ·obtain rfl:y=2:=by omega
           have hl4':¬((2:Nat):Int)<2:=by omega
           gi_wp2
           go_roundw
           case rel=>first|exact⟨x+1,by omega,by go_num,Hd (by rw[Nat.mul_succ];exact H4.out)⟩|((repeat apply Z9);exact⟨⟨x+1,by omega,by go_num,Hd (by rw[Nat.mul_succ];exact H4.out)⟩,rfl⟩)
           case measure=>simp[intOf];omega
        ·obtain rfl:x=2:=by omega
         have hl3':¬((2:Nat):Int)<2:=by omega
         gi_wp2
         go_roundw
         case rel=>first|exact⟨j+1,by omega,by go_num,Hd (by rw[qM1];have:=HDROP.out _ _ _ _ H3.out;rwa [List.take_of_length_le (zI6 t i (i+1+j))] at this)⟩|((repeat apply Z9);exact⟨⟨j+1,by omega,by go_num,Hd (by rw[qM1];have:=HDROP.out _ _ _ _ H3.out;rwa [List.take_of_length_le (zI6 t i (i+1+j))] at this)⟩,rfl⟩)
         case measure=>simp[intOf];omega
     ·obtain rfl:j=n-(i+1):=by omega
      have hl2':¬((n-(i+1):Nat):Int)<((n-(i+1):Nat):Int):=by omega
      gi_wp2
      go_roundw
      case rel=>first|exact⟨i+1,by omega,by go_num,Hd (by rw[←zU4];exact HDROP.out _ _ _ _ H2.out)⟩|((repeat apply Z9);exact⟨⟨i+1,by omega,by go_num,Hd (by rw[←zU4];exact HDROP.out _ _ _ _ H2.out)⟩,rfl⟩)
      case measure=>simp[intOf];omega
  ·obtain rfl:i=n:=by omega
   have hl1':¬(i:Int)<(i:Int):=by omega
   gi_wp2
   go_end0
   obtain⟨xs,O,hf1,hf2⟩:=HFIN.out _ H1.out
   exact⟨⟨_,rfl⟩,.inl ⟨xs,hf1,O,hf2⟩⟩
end
end Go.Proofs.YtmncaipgefbalaaGreatDoor
