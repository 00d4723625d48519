/- Part of the proof of the claim. -/
import Derived.Test.YtmncaipgefbalaaGreatDoorQbb
set_option maxRecDepth 100000
set_option maxHeartbeats 8000000
set_option linter.unusedVariables false
set_option linter.unusedSimpArgs false
namespace Go.Proofs.YtmncaipgefbalaaGreatDoor
section
theorem xV7(A:Nat→Prop)[DecidablePred A](u d:Nat→Int)(hd:∀k,A k→0<d k):∀n,(∃k,k<n∧A k)→∃j,j<n∧A j∧∀k,k<n→A k→u k*d j≤u j*d k
 |0,⟨k,h,_⟩=>absurd h (Nat.not_lt_zero k)
 |n+1,h=>by
  by_cases h1:∃k,k<n∧A k
  ·obtain⟨j,hj,hA,hm⟩:=xV7 A u d hd n h1
   by_cases hn:A n
   ·by_cases hc:u n*d j≤u j*d n
    ·refine⟨j,by omega,hA,fun k hk hk2=> ?_⟩
     by_cases e:k=n
     ·subst e;exact hc
     ·exact hm k (by omega) hk2
    ·refine⟨n,by omega,hn,fun k hk hk2=> ?_⟩
     by_cases e:k=n
     ·subst e;exact Int.le_refl _
     ·have h2:=hm k (by omega) hk2
      have dj:=hd j hA
      have dn:=hd n hn
      have dk:=hd k hk2
      -- u k * d j ≤ u j * d k, u j * d n < u n * d j
      have a1:u k*d j*d n≤u j*d k*d n:=Z7 h2 (by omega)
      have a2:u j*d n*d k≤u n*d j*d k:=Z7 (by omega) (by omega)
      have a3:u k*d n*d j≤u n*d k*d j:=by
       have e1:u k*d n*d j=u k*d j*d n:=by rw[X6,Int.mul_comm (d n),←X6]
       have e2:u j*d k*d n=u j*d n*d k:=by rw[X6,Int.mul_comm (d k),←X6]
       have e3:u n*d j*d k=u n*d k*d j:=by rw[X6,Int.mul_comm (d j),←X6]
       omega
      exact Int.le_of_mul_le_mul_right a3 dj
   ·refine⟨j,by omega,hA,fun k hk hk2=> ?_⟩
    by_cases e:k=n
    ·subst e;exact absurd hk2 hn
    ·exact hm k (by omega) hk2
  ·obtain⟨k,hk,hA⟩:=h
   have hkn:k=n:=by
    by_cases e:k=n
    ·exact e
    ·exact absurd ⟨k,by omega,hA⟩ h1
   subst hkn
   refine⟨k,by omega,hA,fun k' hk' hA'=> ?_⟩
   by_cases e:k'=k
   ·subst e;exact Int.le_refl _
   ·exact absurd ⟨k',by omega,hA'⟩ h1
def zK3(z lo hi:Nat→Int)(n:Nat)(sl st dn:Int):Prop:=∀k,k<n→lo k*dn≤st+sl*z k∧st+sl*z k≤hi k*dn
structure Vx(z lo hi:Nat→Int)(n i j:Nat)(p q sl st dn:Int):Prop where
 il:i<n
 jl:j<n
 ne:z i≠z j
 pe:p=lo i∨p=hi i
 qe:q=lo j∨q=hi j
 pos:0<dn
 up:z i<z j→sl=q-p∧st=p*z j-q*z i∧dn=z j-z i
 down:z j<z i→sl=p-q∧st=q*z i-p*z j∧dn=z i-z j
 all:zK3 z lo hi n sl st dn
theorem zH3{z lo hi:Nat→Int}{n i:Nat}{P a:Int}(hi0:i<n)(hP:P=lo i∨P=hi i)(hO:∃k,k<n∧z k≠z i)
  (hT:∀k,k<n→lo k≤P+a*(z k-z i)∧P+a*(z k-z i)≤hi k):
  ∃j q sl st dn,Vx z lo hi n i j P q sl st dn∧sl≤a*dn∧st=P*dn-sl*z i:=by
 obtain⟨j,hj,hA,hm⟩:=xV7 (fun k=>z k≠z i) (fun k=>if z i<z k then lo k-P else P-hi k) (fun k=>if z i<z k then z k-z i else z i-z k)
  (fun k hk=>by(try dsimp only);split<;>omega) n hO
 (try dsimp only at hm)
 -- the slope is u / d
 obtain⟨u,hu⟩:∃u,(if z i<z j then lo j-P else P-hi j)=u:=⟨_,rfl⟩
 obtain⟨d,hd⟩:∃d,(if z i<z j then z j-z i else z i-z j)=d:=⟨_,rfl⟩
 rw[hu,hd] at hm
 have hd0:0<d:=by rw[←hd];split<;>omega
 have hua:u≤a*d:=by
  have h1:=hT j hj
  rw[←hu,←hd]
  split
  ·omega
  ·have e:a*(z j-z i)= -(a*(z i-z j)):=by rw[←Int.mul_neg];congr 1;omega
   omega
 have hall:zK3 z lo hi n u (P*d-u*z i) d:=by
  intro k hk
  have hTk:=hT k hk
  have e0:P*d-u*z i+u*z k=P*d+u*(z k-z i):=by rw[Int.mul_sub];omega
  rw[e0]
  by_cases e:z k=z i
  ·rw[e,Int.sub_self,Int.mul_zero,Int.add_zero]
   rw[e,Int.sub_self,Int.mul_zero,Int.add_zero] at hTk
   exact⟨Z7 hTk.1 (by omega),Z7 hTk.2 (by omega)⟩
  ·have hmk:=hm k hk e
   by_cases hlt:z i<z k
   ·rw[if_pos hlt,if_pos hlt] at hmk
    refine⟨?_,?_⟩
    ·rw[Int.sub_mul] at hmk;omega
    ·have h1:u*(z k-z i)≤a*d*(z k-z i):=Z7 hua (by omega)
     have h2:(P+a*(z k-z i))*d≤hi k*d:=Z7 hTk.2 (by omega)
     have e3:(P+a*(z k-z i))*d=P*d+a*d*(z k-z i):=by rw[Int.add_mul,X6,Int.mul_comm (z k-z i),←X6]
     omega
   ·rw[if_neg hlt,if_neg hlt] at hmk
    have e4:u*(z k-z i)= -(u*(z i-z k)):=by rw[←Int.mul_neg];congr 1;omega
    refine⟨?_,?_⟩
    ·have h1:u*(z i-z k)≤a*d*(z i-z k):=Z7 hua (by omega)
     have h2:lo k*d≤(P+a*(z k-z i))*d:=Z7 hTk.1 (by omega)
     have e3:(P+a*(z k-z i))*d=P*d-a*d*(z i-z k):=by
      have:a*(z k-z i)= -(a*(z i-z k)):=by rw[←Int.mul_neg];congr 1;omega
      rw[this,Int.add_mul,Int.neg_mul,X6 a,Int.mul_comm (z i-z k),←X6];omega
     omega
    ·rw[Int.sub_mul] at hmk;omega
 refine⟨j,if z i<z j then lo j else hi j,u,P*d-u*z i,d,⟨hi0,hj,fun e=>hA e.symm,hP,by split<;>simp,hd0,fun h=> ?_,fun h=> ?_,hall⟩,hua,rfl⟩
 ·rw[if_pos h] at hu hd ⊢
  refine⟨by omega,?_,by omega⟩
  rw[←hd,←hu,Int.sub_mul,Int.mul_sub];omega
 ·have h':¬z i<z j:=by omega
  rw[if_neg h'] at hu hd ⊢
  refine⟨by omega,?_,by omega⟩
  rw[←hd,←hu,Int.sub_mul,Int.mul_sub];omega
theorem jT8{z lo hi:Nat→Int}{n:Nat}{sl st dn:Int}(h:zK3 z (fun k=> -hi k) (fun k=> -lo k) n sl st dn):zK3 z lo hi n (-sl) (-st) dn:=by
 intro k hk
 have:=h k hk
 rw[Int.neg_mul,Int.neg_mul] at this
 rw[Int.neg_mul]
 omega
theorem Vx.neg{z lo hi:Nat→Int}{n i j:Nat}{p q sl st dn:Int}(h:Vx z (fun k=> -hi k) (fun k=> -lo k) n i j p q sl st dn):Vx z lo hi n i j (-p) (-q) (-sl) (-st) dn:=by
 refine⟨h.il,h.jl,h.ne,?_,?_,h.pos,fun e=> ?_,fun e=> ?_,jT8 h.all⟩
 ·rcases h.pe with e|e
  ·right;omega
  ·left;omega
 ·rcases h.qe with e|e
  ·right;omega
  ·left;omega
 ·obtain⟨h1,h2,h3⟩:=h.up e
  refine⟨by omega,?_,h3⟩
  rw[h2,Int.neg_mul,Int.neg_mul];omega
 ·obtain⟨h1,h2,h3⟩:=h.down e
  refine⟨by omega,?_,h3⟩
  rw[h2,Int.neg_mul,Int.neg_mul];omega
theorem jC5{z lo hi:Nat→Int}{n i:Nat}{P a:Int}(hi0:i<n)(hP:P=lo i∨P=hi i)(hO:∃k,k<n∧z k≠z i)
  (hT:∀k,k<n→lo k≤P+a*(z k-z i)∧P+a*(z k-z i)≤hi k):
  ∃j q sl st dn,Vx z lo hi n i j P q sl st dn∧a*dn≤sl∧st=P*dn-sl*z i:=by
 obtain⟨j,q,sl,st,dn,h,h1,h2⟩:=zH3 (z:=z) (lo:=fun k=> -hi k) (hi:=fun k=> -lo k) (n:=n) (i:=i) (P:= -P) (a:= -a) hi0 (by rcases hP with e|e<;>simp[e]) hO
  (fun k hk=>by have:=hT k hk;rw[Int.neg_mul];omega)
 refine⟨j,-q,-sl,-st,dn,by simpa using h.neg,?_,?_⟩
 ·rw[Int.neg_mul] at h1;omega
 ·rw[Int.neg_mul] at h2 ⊢;omega
theorem xG8(f:Nat→Int):∀n,0<n→∃i,i<n∧∀k,k<n→f i≤f k
 |0,h=>absurd h (Nat.lt_irrefl 0)
 |1,_=>⟨0,by omega,fun k hk=>by(obtain rfl:k=0:=(by omega));exact Int.le_refl _⟩
 |n+2,_=>by
  obtain⟨i,hi,hm⟩:=xG8 f (n+1) (by omega)
  by_cases h:f i≤f (n+1)
  ·refine⟨i,by omega,fun k hk=> ?_⟩
   by_cases e:k=n+1
   ·subst e;exact h
   ·exact hm k (by omega)
  ·refine⟨n+1,by omega,fun k hk=> ?_⟩
   by_cases e:k=n+1
   ·subst e;exact Int.le_refl _
   ·have:=hm k (by omega);omega
theorem xK5{z lo hi:Nat→Int}{n:Nat}{a b:Int}(hn:0<n)(hT:∀k,k<n→lo k≤b+a*z k∧b+a*z k≤hi k):
  ∃i,i<n∧(∀k,k<n→lo k≤lo i+a*(z k-z i)∧lo i+a*(z k-z i)≤hi k)∧lo i-a*z i≤b:=by
 obtain⟨i,hi0,hm⟩:=xG8 (fun k=>b+a*z k-lo k) n hn
 (try dsimp only at hm)
 refine⟨i,hi0,fun k hk=> ?_,?_⟩
 ·have h1:=hm k hk
  have h2:=hT k hk
  have h3:=hT i hi0
  rw[Int.mul_sub]
  omega
 ·have:=hT i hi0;omega
theorem other{z:Nat→Int}{n i:Nat}(hi:i<n)(h:∃k m,k<n∧m<n∧z k≠z m):∃k,k<n∧z k≠z i:=by
 obtain⟨k,m,hk,hm,hne⟩:=h
 by_cases e:z k=z i
 ·exact⟨m,hm,fun e2=>hne (by omega)⟩
 ·exact⟨k,hk,e⟩
theorem I0{z lo hi:Nat→Int}{n:Nat}{a b:Int}(hO:∃k m,k<n∧m<n∧z k≠z m)(hT:∀k,k<n→lo k≤b+a*z k∧b+a*z k≤hi k):
  ∃i j p q sl st dn,Vx z lo hi n i j p q sl st dn∧sl≤a*dn:=by
 obtain⟨k0,m0,hk0,_⟩:=id hO
 obtain⟨i,hi0,h1,_⟩:=xK5 (by omega) hT
 obtain⟨j,q,sl,st,dn,h,h2,_⟩:=zH3 hi0 (.inl rfl) (other hi0 hO) h1
 exact⟨i,j,_,q,sl,st,dn,h,h2⟩
theorem qP8{z lo hi:Nat→Int}{n:Nat}{a b:Int}(y:Int)(hO:∃k m,k<n∧m<n∧z k≠z m)(hT:∀k,k<n→lo k≤b+a*z k∧b+a*z k≤hi k):
  ∃i j p q sl st dn,Vx z lo hi n i j p q sl st dn∧st+sl*y≤(b+a*y)*dn:=by
 obtain⟨k0,m0,hk0,_⟩:=id hO
 obtain⟨i,hi0,h1,h3⟩:=xK5 (by omega) hT
 have key:∀sl st dn:Int,0<dn→st=lo i*dn-sl*z i→(sl*(y-z i)≤a*dn*(y-z i))→st+sl*y≤(b+a*y)*dn:=by
  intro sl st dn hp hs hle
  have e1:st+sl*y=lo i*dn+sl*(y-z i):=by rw[hs,Int.mul_sub];omega
  have e2:(lo i-a*z i)*dn≤b*dn:=Z7 h3 (by omega)
  have e3:a*dn*(y-z i)=a*y*dn-a*z i*dn:=by rw[X6,Int.mul_comm dn,Int.sub_mul,Int.mul_sub,←X6,←X6]
  rw[e1,Int.add_mul]
  rw[Int.sub_mul] at e2
  omega
 by_cases hy:z i≤y
 ·obtain⟨j,q,sl,st,dn,h,h2,h4⟩:=zH3 hi0 (.inl rfl) (other hi0 hO) h1
  exact⟨i,j,_,q,sl,st,dn,h,key _ _ _ h.pos h4 (Z7 h2 (by omega))⟩
 ·obtain⟨j,q,sl,st,dn,h,h2,h4⟩:=jC5 hi0 (.inl rfl) (other hi0 hO) h1
  exact⟨i,j,_,q,sl,st,dn,h,key _ _ _ h.pos h4 (Int.mul_le_mul_of_nonpos_right h2 (by omega))⟩
theorem qU6{z lo hi:Nat→Int}{n:Nat}{a b:Int}(hO:∃k m,k<n∧m<n∧z k≠z m)(hT:∀k,k<n→lo k≤b+a*z k∧b+a*z k≤hi k):
  ∃i j p q sl st dn,Vx z lo hi n i j p q sl st dn∧a*dn≤sl:=by
 obtain⟨i,j,p,q,sl,st,dn,h,h1⟩:=I0 (z:=z) (lo:=fun k=> -hi k) (hi:=fun k=> -lo k) (n:=n) (a:= -a) (b:= -b) hO (fun k hk=>by have:=hT k hk;rw[Int.neg_mul];omega)
 exact⟨i,j,_,_,_,_,_,h.neg,by rw[Int.neg_mul] at h1;omega⟩
theorem zG7{z lo hi:Nat→Int}{n:Nat}{a b:Int}(y:Int)(hO:∃k m,k<n∧m<n∧z k≠z m)(hT:∀k,k<n→lo k≤b+a*z k∧b+a*z k≤hi k):
  ∃i j p q sl st dn,Vx z lo hi n i j p q sl st dn∧(b+a*y)*dn≤st+sl*y:=by
 obtain⟨i,j,p,q,sl,st,dn,h,h1⟩:=qP8 (z:=z) (lo:=fun k=> -hi k) (hi:=fun k=> -lo k) (n:=n) (a:= -a) (b:= -b) y hO (fun k hk=>by have:=hT k hk;rw[Int.neg_mul];omega)
 refine⟨i,j,_,_,_,_,_,h.neg,?_⟩
 have e:(-b+ -a*y)*dn= -((b+a*y)*dn):=by rw[←Int.neg_mul];congr 1;rw[Int.neg_mul];omega
 rw[e] at h1
 rw[Int.neg_mul]
 omega
end
section
open Go Go.RowKit Go.Shelf
def slC(C:List ST)(i:Nat):SV:=⟨(C.getD i ST.zero).sl,(C.getD i ST.zero).dn⟩
def zF4(C:List ST):SV:=F6 ltF (slC C) (C.length-1)
def zF3(C:List ST):SV:=F6 gtF (slC C) (C.length-1)
theorem xT8{C:List ST}(hC:∀s∈C,s.ok):∀i,i<C.length→U1 (slC C i):=by
 intro i hi
 have hs:(C.getD i ST.zero).ok:=by
  rw[X3,Z5 hi]
  exact hC _ (List.getElem_mem hi)
 exact⟨by have:=hs.sl;unfold slC;dsimp only;omega,hs.dn⟩
theorem kT1(args:Array Value)(W:World):(callFunc 84 args).run Tryz.prog W= .ok (.enter 84 args) W:=enters_of Tryz.func84 (by kernel_rfl) rfl args W
theorem xE4(sl st dn:Int)(w:World):Calls Tryz.prog 84 #[.agg #[.int .i64 sl,.int .i64 st,.int .i64 dn]] w fun e w'=>e= .returned (.agg #[.int .i64 sl,.int .i64 dn])∧Below w.heap.size w w':=by
 have HB:=Hd (((Q2 _ w).alloc (Q1 _) (.cells #[.int .i64 sl,.int .i64 st,.int .i64 dn] 181)).alloc (by simp) (.cells #[.int .i64 0,.int .i64 0] 69))
 have e1:=(Q9 (w.alloc (.cells #[.int .i64 sl,.int .i64 st,.int .i64 dn] 181)) (.cells #[.int .i64 0,.int .i64 0] 69) w.heap.size (by simp)).trans (Q3 w _)
 have e2:=Q3 (w.alloc (.cells #[.int .i64 sl,.int .i64 st,.int .i64 dn] 181)) (.cells #[.int .i64 0,.int .i64 0] 69)
 rw[show(w.alloc (.cells #[.int .i64 sl,.int .i64 st,.int .i64 dn] 181)).heap.size=w.heap.size+1 from by simp] at e2
 have HE2:=Hd e2
 clear e2
 go_enter Tryz.func84,Tryz.ntmps84
 go_upto_region 1 with(fail)
 generalize World.alloc (World.alloc w _) _=V at*
 have k0:=Q0 _ _ 0 _ _ _ e1
 have k2:=Q0 _ _ 2 _ _ _ e1
 obtain⟨f0,f1⟩:=fr2 HE2.out
 obtain⟨g0,g1⟩:=M7 HE2.out
 clear e1
 go_wp2
 have hrow:=Q4 _ _ 1 _ _ (.int .i64 dn) (Q4 V _ 0 _ _ (.int .i64 sl) HE2.out)
 have hbl:=(HB.out.setCell (p:=⟨w.heap.size+1,0,none⟩) (by dsimp only;omega) (.int .i64 sl)).setCell (p:=⟨w.heap.size+1,1,none⟩) (by dsimp only;omega) (.int .i64 dn)
 generalize World.setCell (World.setCell V _ _) _ _=V5 at*
 obtain⟨q0,q1⟩:=M7 hrow
 exact Z2 (v:= .agg #[.int .i64 sl,.int .i64 dn]) (by simp[results,Tryz.results84,go_sem,q0,q1]) rfl ⟨rfl,hbl⟩
theorem kC2(av:Value)(C:List ST)(va:Option Addr)(vc base:Nat)(w:World)(hown:w.ownsRow base 181 3 (.slice va C.length vc) C.length (stC C))(hC:∀s∈C,s.ok)(hlen:1≤C.length∧C.length≤2400):
  Calls Tryz.prog 83 #[.agg #[av,.slice va C.length vc],.func (.func 84) #[] #[]] w fun e w'=>e= .returned (.tuple #[frV (zF4 C),frV (zF3 C)])∧Below w.heap.size w w':=
 zZ4 84 #[] (slC C) av C va vc w.heap.size w (Q1 _) (zT0 hown hlen.1) (xT8 hC) hlen kT1 (fun i hi W hb=>xE4 _ _ _ W)
def jH9(n:Nat)(t:Nat→RW)(w:World)(e:Ending)(w':World):Prop:=
 (∃C,F7 t n (G7 t n) C∧1≤C.length∧e= .returned (.tuple #[frV (zF4 C),frV (zF3 C),.int .i64 0]))∧Below w.heap.size w w'
theorem xH1(a:Option Addr)(n c:Nat)(t:Nat→RW)(B:Nat)(w:World)(hBw:B≤w.heap.size)(hT:S5 B w a n t)(hO:qQ2 n t)(hc:n≤c∧c≤maxLen)(hf:R6 t n=false)(hs:∃s∈G7 t n,qY6 s t n=true):
  Calls Tryz.prog 42 #[.slice a n c] w (jH9 n t w):=by
 have h1:Below w.heap.size w ((w.alloc (.cells #[.int .i64 0,.int .i64 0] 69)).alloc (.cells #[.int .i64 0,.int .i64 0] 69)):=((Q2 _ w).alloc (Q1 _) _).alloc (by simp) _
 have h3:((w.alloc (.cells #[.int .i64 0,.int .i64 0] 69)).alloc (.cells #[.int .i64 0,.int .i64 0] 69)).heap[w.heap.size]?=some (.cells #[.int .i64 0,.int .i64 0] 69):=(Q9 _ _ _ (by simp)).trans (Q3 w _)
 have h4:=Q3 (w.alloc (.cells #[.int .i64 0,.int .i64 0] 69)) (.cells #[.int .i64 0,.int .i64 0] 69)
 rw[show(w.alloc (.cells #[.int .i64 0,.int .i64 0] 69)).heap.size=w.heap.size+1 from by simp] at h4
 have hn:=hO.len
 have HOP:=Hd (fun fv W (hb:Below w.heap.size w W)=>zC8 fv a n c t B W (Q5 hBw hb.size) (hT.below (hb.mono hBw)) hO hc hf hs)
 have HPL:=Hd (fun C va vc base W (hb:Below w.heap.size w W) (hown:W.ownsRow base 181 3 (.slice va C.length vc) C.length (stC C)) (hC:∀s∈C,s.ok) (hl:1≤C.length∧C.length≤2400)=>kC2 (.slice a n c) C va vc base W hown hC hl)
 have HOK:=Hd (fun C (h:F7 t n (G7 t n) C)=>show ∀s∈C,s.ok from fun s hs=>E3 hO s (h.from' s hs).1)
 have HRES:=Hd (fun C W (h1:F7 t n (G7 t n) C) (h2:1≤C.length) (hb:Below w.heap.size w W)=>show jH9 n t w (.returned (.tuple #[frV (zF4 C),frV (zF3 C),.int .i64 0])) W from⟨⟨C,h1,h2,rfl⟩,hb⟩)
 unfold qM2 at HOP
 generalize jH9 n t w=RES at*
 have HB:=Hd h1
 have HE:=Hd (And.intro h3 h4)
 clear h1 h3 h4 hT hO hc hf hs
 go_enter Tryz.func42,Tryz.ntmps42
 go_upto_region 1 with(fail)
 generalize World.alloc (World.alloc w _) _=V at*
 go_upto_region 2 with(go_at_call 47;refine(HOP.out _ _ HB.out).mono ?_;rintro e W1 ⟨C,va,vc,rfl,hcor,hcl,hown,hb1⟩;have HCR:=Hd hcor;have HOW:=Hd hown;have HB1:=Hd (HB.out.trans (hb1.mono HB.out.size));have HE1:=Hd (And.intro (J0 HE.out.1 hb1) (J0 HE.out.2 hb1));clear hb1 hcor hown HB HE HOP)
 have hb2:=J3 W1 (.cells #[.slice a n c,.slice va C.length vc] 121)
 have HX2:=Hd (Q3 W1 (.cells #[.slice a n c,.slice va C.length vc] 121))
 have HB2:=Hd (HB1.out.trans (hb2.mono HB1.out.size))
 have HE2:=Hd (And.intro (J0 HE1.out.1 hb2) (J0 HE1.out.2 hb2))
 have HO2:=Hd (K4 HOW.out hb2)
 clear hb2 HB1 HE1 HOW
 generalize World.alloc W1 _=W2 at*
 generalize W1.heap.size=x at*
 have HPL:=Hd (HPL.out C va vc _ W2 HB2.out HO2.out (HOK.out C HCR.out) hcl)
 have HRES:=Hd (fun W hb=>HRES.out C W HCR.out hcl.1 hb)
 clear HOK HCR hcl HO2
 unfold frV spV at HPL HRES
 generalize R7 (zF4 C).lo (zF4 C).hi=a0 at*
 generalize F3 (zF4 C).lo (zF4 C).hi=a1 at*
 generalize R7 (zF3 C).lo (zF3 C).hi=b0 at*
 generalize F3 (zF3 C).lo (zF3 C).hi=b1 at*
 generalize C.length=m at*
 obtain⟨k0,k1⟩:=M7 HX2.out
 go_upto_region 5 with(go_at_call 83;refine HPL.out.mono ?_;rintro e W3 ⟨rfl,hb3⟩;have HB3:=Hd (HB2.out.trans (hb3.mono HB2.out.size));have HE3:=Hd (And.intro (J0 HE2.out.1 hb3) (J0 HE2.out.2 hb3));clear hb3 k0 k1 HB2 HE2 HX2 HPL)
 have hb4:Below W3.heap.size W3 ((W3.alloc (.cells #[.int .i64 a0,.int .i64 a1] 69)).alloc (.cells #[.int .i64 b0,.int .i64 b1] 69)):=((Q2 _ W3).alloc (Q1 _) _).alloc (by simp) _
 have e1:((W3.alloc (.cells #[.int .i64 a0,.int .i64 a1] 69)).alloc (.cells #[.int .i64 b0,.int .i64 b1] 69)).heap[W3.heap.size]?=some (.cells #[.int .i64 a0,.int .i64 a1] 69):=(Q9 _ _ _ (by simp)).trans (Q3 W3 _)
 have e2:=Q3 (W3.alloc (.cells #[.int .i64 a0,.int .i64 a1] 69)) (.cells #[.int .i64 b0,.int .i64 b1] 69)
 rw[show(W3.alloc (.cells #[.int .i64 a0,.int .i64 a1] 69)).heap.size=W3.heap.size+1 from by simp] at e2
 have hwx:w.heap.size+1<W3.heap.size:=(J5 HE3.out.2)
 have HB5:=Hd (HB3.out.trans (hb4.mono HB3.out.size))
 have HE5:=Hd (And.intro (J0 HE3.out.1 hb4) (J0 HE3.out.2 hb4))
 clear hb4 HB3 HE3
 generalize World.alloc (World.alloc W3 _) _=V2 at*
 generalize W3.heap.size=y at*
 obtain⟨k0,k1⟩:=M7 e1
 obtain⟨m0,m1⟩:=M7 e2
 clear e1 e2
 obtain⟨r0,r1⟩:=M7 HE5.out.1;obtain⟨s0,s1⟩:=M7 HE5.out.2;obtain⟨f0,f1⟩:=fr2 HE5.out.1;obtain⟨g0,g1⟩:=fr2 HE5.out.2
 go_region
 have hne:w.heap.size≠w.heap.size+1:=by omega
 have hr1:=Q4 _ _ 1 _ _ (.int .i64 a1) (Q4 V2 _ 0 _ _ (.int .i64 a0) HE5.out.1)
 have hr2:=((Q6 _ ⟨w.heap.size,1,none⟩ (w.heap.size+1) (.int .i64 a1) (Ne.symm hne)).trans (Q6 V2 ⟨w.heap.size,0,none⟩ (w.heap.size+1) (.int .i64 a0) (Ne.symm hne))).trans HE5.out.2
 have hr3:=Q4 _ _ 1 _ _ (.int .i64 b1) (Q4 _ _ 0 _ _ (.int .i64 b0) hr2)
 have hr4:=((Q6 _ ⟨w.heap.size+1,1,none⟩ (w.heap.size) (.int .i64 b1) hne).trans (Q6 _ ⟨w.heap.size+1,0,none⟩ (w.heap.size) (.int .i64 b0) hne)).trans hr1
 have hbl:=((((HB5.out.setCell (p:=⟨w.heap.size,0,none⟩) (by dsimp only;omega) (.int .i64 a0)).setCell (p:=⟨w.heap.size,1,none⟩) (by dsimp only;omega) (.int .i64 a1)).setCell (p:=⟨w.heap.size+1,0,none⟩) (by dsimp only;omega) (.int .i64 b0)).setCell (p:=⟨w.heap.size+1,1,none⟩) (by dsimp only;omega) (.int .i64 b1)).drew
 rw[←heap_drew] at hr3 hr4
 generalize World.drew _=V6 at*
 obtain⟨q0,q1⟩:=M7 hr4
 obtain⟨q2,q3⟩:=M7 hr3
 go_wp2
 exact Z2 (v:= .tuple #[.agg #[.int .i64 a0,.int .i64 a1],.agg #[.int .i64 b0,.int .i64 b1],.int .i64 0]) (by simp[results,Tryz.results42,go_sem,q0,q1,q2,q3]) rfl (HRES.out V6 hbl)
end
section
open Go Go.RowKit
theorem xI9{p q:SV}:ltF p q=true↔p.lo*q.hi<q.lo*p.hi:=by unfold ltF;exact decide_eq_true_iff
theorem xI1{p q:SV}:gtF p q=true↔q.lo*p.hi<p.lo*q.hi:=by unfold gtF;exact decide_eq_true_iff
theorem qM7{L:Nat→SV}:∀{k:Nat},(∀i,i≤k→U1 (L i))→∀i,i≤k→(F6 ltF L k).lo*(L i).hi≤(L i).lo*(F6 ltF L k).hi
 |0,h,i,hi=>by
  obtain rfl:i=0:=by omega
  exact Int.le_refl _
 |k+1,h,i,hi=>by
  have h1:=h (k+1) (Q1 _)
  have h2:U1 (F6 ltF L k):=U7 (fun j hj=>h j (by omega))
  have h3:=h i hi
  by_cases hq:ltF (L (k+1)) (F6 ltF L k)=true
  ·rw[F6,if_pos hq]
   rw[xI9] at hq
   by_cases e:i=k+1
   ·subst e;exact Int.le_refl _
   ·have h4:=qM7 (k:=k) (fun j hj=>h j (by omega)) i (by omega)
    exact qM9 (by have:=h1.dn;omega) (by have:=h2.dn;omega) (by have:=h3.dn;omega) (Int.le_of_lt hq) h4
  ·rw[F6,if_neg hq]
   rw[xI9] at hq
   by_cases e:i=k+1
   ·subst e;omega
   ·exact qM7 (k:=k) (fun j hj=>h j (by omega)) i (by omega)
theorem qU8{L:Nat→SV}:∀{k:Nat},(∀i,i≤k→U1 (L i))→∀i,i≤k→(L i).lo*(F6 gtF L k).hi≤(F6 gtF L k).lo*(L i).hi
 |0,h,i,hi=>by
  obtain rfl:i=0:=by omega
  exact Int.le_refl _
 |k+1,h,i,hi=>by
  have h1:=h (k+1) (Q1 _)
  have h2:U1 (F6 gtF L k):=U7 (fun j hj=>h j (by omega))
  have h3:=h i hi
  by_cases hq:gtF (L (k+1)) (F6 gtF L k)=true
  ·rw[F6,if_pos hq]
   rw[xI1] at hq
   by_cases e:i=k+1
   ·subst e;exact Int.le_refl _
   ·have h4:=qU8 (k:=k) (fun j hj=>h j (by omega)) i (by omega)
    exact qM9 (by have:=h3.dn;omega) (by have:=h2.dn;omega) (by have:=h1.dn;omega) h4 (Int.le_of_lt hq)
  ·rw[F6,if_neg hq]
   rw[xI1] at hq
   by_cases e:i=k+1
   ·subst e;omega
   ·exact qU8 (k:=k) (fun j hj=>h j (by omega)) i (by omega)
def qB6(t:Nat→RW)(n:Nat)(a b:Int):Prop:=∀k,k<n→(t k).lo≤b+a*(t k).key∧b+a*(t k).key≤(t k).hi
theorem O8{t:Nat→RW}{n:Nat}(hn:1≤n)(hf:R6 t n=false):∃k m,k<n∧m<n∧(t k).key≠(t m).key:=by
 unfold R6 U6 at hf
 have h1:G9 n (fun i=>decide ((t i).key≠(t 0).key))<n:=by simpa using hf
 by_cases h:∃k,k<n∧(t k).key≠(t 0).key
 ·obtain⟨k,hk,hne⟩:=h
  exact⟨k,0,hk,by omega,hne⟩
 ·exfalso
  have h2:=T6 (n:=n) (p:=fun i=>decide ((t i).key≠(t 0).key)) (fun j hj=>by
   simp only[decide_eq_false_iff_not,ne_eq,Decidable.not_not]
   exact Classical.byContradiction fun hne=>h ⟨j,hj,hne⟩)
  omega
theorem H9{t:Nat→RW}{n i j:Nat}{p q sl st dn:Int}(h:Vx (fun k=>(t k).key) (fun k=>(t k).lo) (fun k=>(t k).hi) n i j p q sl st dn):(⟨sl,st,dn⟩:ST)∈G7 t n∧qY6 ⟨sl,st,dn⟩ t n=true:=by
 have hne:=h.ne
 have hij:i≠j:=by rintro rfl;exact hne rfl
 have hp:p=(t i).lo∨p=(t i).hi:=h.pe
 have hq:q=(t j).lo∨q=(t j).hi:=h.qe
 have e1:(⟨sl,st,dn⟩:ST)=qF2 (t i).key p (t j).key q:=by
  unfold qF2
  rcases Int.lt_or_gt_of_ne hne with h1|h1
  ·obtain⟨rfl,rfl,rfl⟩:=h.up h1
   (try dsimp only at h1)
   rw[if_neg (by omega)]
  ·obtain⟨rfl,rfl,rfl⟩:=h.down h1
   (try dsimp only at h1)
   rw[if_pos (by omega)]
 have e2:qF2 (t i).key p (t j).key q=qF2 (t j).key q (t i).key p:=by
  unfold qF2
  (try dsimp only at hne)
  by_cases h1:(t j).key<(t i).key
  ·rw[if_pos h1,if_neg (by omega)]
  ·rw[if_neg h1,if_pos (by omega)]
 have key:∀x y u v,x<y→y<n→(t x).key≠(t y).key→(u=(t x).lo∨u=(t x).hi)→(v=(t y).lo∨v=(t y).hi)→qF2 (t x).key u (t y).key v∈G7 t n:=by
  intro x y u v hxy hyn hk hu hv
  unfold G7 E1
  rw[List.mem_flatMap]
  refine⟨x,List.mem_range.2 (by omega),?_⟩
  unfold kB5
  rw[List.mem_flatMap]
  refine⟨y-(x+1),List.mem_range.2 (by omega),?_⟩
  rw[show x+1+(y-(x+1))=y by omega]
  unfold prE
  rw[if_neg hk]
  rcases hu with rfl|rfl<;>rcases hv with rfl|rfl<;>simp
 refine⟨?_,?_⟩
 ·rw[e1]
  rcases Nat.lt_or_gt_of_ne hij with h1|h1
  ·exact key i j p q h1 h.jl hne hp hq
  ·rw[e2]
   exact key j i q p h1 h.il (fun e=>hne e.symm) hq hp
 ·unfold qY6 U6
  rw[T6 (fun k hk=>by
   have h1:=h.all k hk
   (try dsimp only at h1)
   unfold zX5 atN
   rw[G2 h1.1 h1.2]
   rfl)]
  simp
theorem xA5(num:Int){den:Int}(hd:1≤den):num*F3 num den=R7 num den*den:=by
 unfold R7 F3
 have hg1:1≤Nat.gcd num.natAbs den.natAbs:=Nat.gcd_pos_of_pos_right _ (by omega)
 have hg2:((Nat.gcd num.natAbs den.natAbs:Nat):Int)∣den:=Int.dvd_natAbs.1 (Int.ofNat_dvd.2 (Nat.gcd_dvd_right _ _))
 have hg3:((Nat.gcd num.natAbs den.natAbs:Nat):Int)∣num:=Int.dvd_natAbs.1 (Int.ofNat_dvd.2 (Nat.gcd_dvd_left _ _))
 generalize Nat.gcd num.natAbs den.natAbs=G at*
 obtain⟨k,rfl⟩:=hg2
 obtain⟨l,rfl⟩:=hg3
 rw[Int.mul_tdiv_cancel_left _ (by omega),Int.mul_tdiv_cancel_left _ (by omega)]
 rw[Int.mul_comm (G:Int) l,X6]
theorem xA6{a b c d:Int}(hb:1≤b∧b≤100000)(hd:1≤d∧d≤100000)(h1:R7 a b=R7 c d)(h2:F3 a b=F3 c d):a*d=c*b:=by
 have e1:=xA5 a hb.1
 have e2:=xA5 c hd.1
 have hD:=(I1 (num:=a) hb).1
 rw[←h1,←h2] at e2
 generalize R7 a b=N at*
 generalize F3 a b=D at*
 have e3:a*d*D=c*b*D:=by
  rw[X6,Int.mul_comm d D,←X6,e1,X6 c b D,Int.mul_comm b D,←X6,e2,X6,X6,Int.mul_comm b d]
 exact Int.eq_of_mul_eq_mul_right (by omega) e3
theorem qV5{c s:ST}(hc:c.ok)(hs:s.ok)(h:lnV c=lnV s):c.sl*s.dn=s.sl*c.dn∧c.st*s.dn=s.st*c.dn:=by
 unfold lnV at h
 simp only[Value.agg.injEq,Array.mk.injEq,List.cons.injEq,Value.int.injEq,true_and,and_true] at h
 obtain⟨h1,h2,h3,h4⟩:=h
 exact⟨xA6 hc.dn hs.dn h1 h2,xA6 hc.dn hs.dn h3 h4⟩
theorem qW5{C:List ST}{c:ST}(h:c∈C):∃i,i<C.length∧C.getD i ST.zero=c:=by
 obtain⟨i,hi,rfl⟩:=List.mem_iff_getElem.1 h
 exact⟨i,hi,by rw[X3,Z5 hi];rfl⟩
theorem qH5{x y d e u:Int}(hd:0<d)(h1:x*d≤y*e)(h2:y≤u*d)(he:0≤e):x≤u*e:=by
 have h3:=Z7 h2 he
 refine Int.le_of_mul_le_mul_right (a:=d) ?_ hd
 rw[show u*e*d=u*d*e from by rw[X6,Int.mul_comm e d,←X6]]
 omega
theorem qH3{x y d e u:Int}(hd:0<d)(h1:y*e≤x*d)(h2:u*d≤y)(he:0≤e):u*e≤x:=by
 have h3:=Z7 h2 he
 refine Int.le_of_mul_le_mul_right (a:=d) ?_ hd
 rw[show u*e*d=u*d*e from by rw[X6,Int.mul_comm e d,←X6]]
 omega
theorem zX3{t:Nat→RW}{n:Nat}{a b:Int}(hO:qQ2 n t)(hf:R6 t n=false)(hL:qB6 t n a b):∃s∈G7 t n,qY6 s t n=true:=by
 obtain⟨i,j,p,q,sl,st,dn,h,_⟩:=I0 (z:=fun k=>(t k).key) (lo:=fun k=>(t k).lo) (hi:=fun k=>(t k).hi) (n:=n) (a:=a) (b:=b) (O8 hO.len.1 hf) hL
 exact⟨_,(H9 h).1,(H9 h).2⟩
theorem xE5{t:Nat→RW}{n:Nat}{a b:Int}(hO:qQ2 n t)(hf:R6 t n=false)(hL:qB6 t n a b){C:List ST}(hC:F7 t n (G7 t n) C)(h1:1≤C.length):(zF4 C).lo≤a*(zF4 C).hi∧a*(zF3 C).hi≤(zF3 C).lo:=by
 have hok:∀s∈C,s.ok:=fun s hs=>E3 hO s (hC.from' s hs).1
 have hF:=xT8 hok
 have hlo:U1 (zF4 C):=U7 (fun i hi=>hF i (by omega))
 have hhi:U1 (zF3 C):=U7 (fun i hi=>hF i (by omega))
 refine⟨?_,?_⟩
 ·obtain⟨i,j,p,q,sl,st,dn,h,h2⟩:=I0 (z:=fun k=>(t k).key) (lo:=fun k=>(t k).lo) (hi:=fun k=>(t k).hi) (n:=n) (a:=a) (b:=b) (O8 hO.len.1 hf) hL
  obtain⟨c,hc,he⟩:=hC.all _ (H9 h).1 (H9 h).2
  have hs:=E3 hO _ (H9 h).1
  obtain⟨k,hk,rfl⟩:=qW5 hc
  have e:=(qV5 (hok _ hc) hs he).1
  have hcd:=(hok _ hc).dn
  have hsd:=hs.dn
  dsimp only at e hsd
  have h4:(C.getD k ST.zero).sl≤a*(C.getD k ST.zero).dn:=qH5 (by omega) (Int.le_of_eq e) h2 (by omega)
  exact qH5 (by show 0<(C.getD k ST.zero).dn;omega) (qM7 (L:=slC C) (k:=C.length-1) (fun i hi=>hF i (by omega)) k (by omega)) h4 (by have:=hlo.dn;omega)
 ·obtain⟨i,j,p,q,sl,st,dn,h,h2⟩:=qU6 (z:=fun k=>(t k).key) (lo:=fun k=>(t k).lo) (hi:=fun k=>(t k).hi) (n:=n) (a:=a) (b:=b) (O8 hO.len.1 hf) hL
  obtain⟨c,hc,he⟩:=hC.all _ (H9 h).1 (H9 h).2
  have hs:=E3 hO _ (H9 h).1
  obtain⟨k,hk,rfl⟩:=qW5 hc
  have e:=(qV5 (hok _ hc) hs he).1
  have hcd:=(hok _ hc).dn
  have hsd:=hs.dn
  dsimp only at e hsd
  have h4:a*(C.getD k ST.zero).dn≤(C.getD k ST.zero).sl:=qH3 (by omega) (Int.le_of_eq e.symm) h2 (by omega)
  exact qH3 (by show 0<(C.getD k ST.zero).dn;omega) (qU8 (L:=slC C) (k:=C.length-1) (fun i hi=>hF i (by omega)) k (by omega)) h4 (by have:=hhi.dn;omega)
theorem xW9{c s:ST}{z:Int}(h1:c.sl*s.dn=s.sl*c.dn)(h2:c.st*s.dn=s.st*c.dn):atN c z*s.dn=atN s z*c.dn:=by
 unfold atN
 rw[Int.add_mul,Int.add_mul,h2,Int.mul_right_comm,h1,Int.mul_right_comm]
theorem xC9{t:Nat→RW}{n:Nat}{a b:Int}(z:Int)(hz: -100000≤z∧z≤200000)(hO:qQ2 n t)(hf:R6 t n=false)(hL:qB6 t n a b){C:List ST}(hC:F7 t n (G7 t n) C)(h1:1≤C.length):(loP C z).lo≤(b+a*z)*(loP C z).hi∧(b+a*z)*(hiP C z).hi≤(hiP C z).lo:=by
 have hok:∀s∈C,s.ok:=fun s hs=>E3 hO s (hC.from' s hs).1
 have hF:=xS6 hok hz
 have hlo:U1 (loP C z):=U7 (fun i hi=>hF i (by omega))
 have hhi:U1 (hiP C z):=U7 (fun i hi=>hF i (by omega))
 refine⟨?_,?_⟩
 ·obtain⟨i,j,p,q,sl,st,dn,h,h2⟩:=qP8 (z:=fun k=>(t k).key) (lo:=fun k=>(t k).lo) (hi:=fun k=>(t k).hi) (n:=n) (a:=a) (b:=b) z (O8 hO.len.1 hf) hL
  obtain⟨c,hc,he⟩:=hC.all _ (H9 h).1 (H9 h).2
  have hs:=E3 hO _ (H9 h).1
  obtain⟨k,hk,rfl⟩:=qW5 hc
  have e:=qV5 (hok _ hc) hs he
  have e2:=xW9 (z:=z) e.1 e.2
  have hcd:=(hok _ hc).dn
  have hsd:=hs.dn
  have h2':atN ⟨sl,st,dn⟩ z≤(b+a*z)*dn:=h2
  dsimp only at e2 hsd
  have h4:atN (C.getD k ST.zero) z≤(b+a*z)*(C.getD k ST.zero).dn:=qH5 (by omega) (Int.le_of_eq e2) h2' (by omega)
  exact qH5 (by show 0<(C.getD k ST.zero).dn;omega) (qM7 (L:=plC C z) (k:=C.length-1) (fun i hi=>hF i (by omega)) k (by omega)) h4 (by have:=hlo.dn;omega)
 ·obtain⟨i,j,p,q,sl,st,dn,h,h2⟩:=zG7 (z:=fun k=>(t k).key) (lo:=fun k=>(t k).lo) (hi:=fun k=>(t k).hi) (n:=n) (a:=a) (b:=b) z (O8 hO.len.1 hf) hL
  obtain⟨c,hc,he⟩:=hC.all _ (H9 h).1 (H9 h).2
  have hs:=E3 hO _ (H9 h).1
  obtain⟨k,hk,rfl⟩:=qW5 hc
  have e:=qV5 (hok _ hc) hs he
  have e2:=xW9 (z:=z) e.1 e.2
  have hcd:=(hok _ hc).dn
  have hsd:=hs.dn
  have h2':(b+a*z)*dn≤atN ⟨sl,st,dn⟩ z:=h2
  dsimp only at e2 hsd
  have h4:(b+a*z)*(C.getD k ST.zero).dn≤atN (C.getD k ST.zero) z:=qH3 (by omega) (Int.le_of_eq e2.symm) h2' (by omega)
  exact qH3 (by show 0<(C.getD k ST.zero).dn;omega) (qU8 (L:=plC C z) (k:=C.length-1) (fun i hi=>hF i (by omega)) k (by omega)) h4 (by have:=hhi.dn;omega)
theorem jR3{x d u:Int}(hd:1≤d∧d≤100000)(h:x≤u*d):R7 x d/F3 x d≤u:=by
 have e:=xA5 x hd.1
 have hD:=(I1 (num:=x) hd).1
 generalize R7 x d=N at*
 generalize F3 x d=D at*
 have h2:N≤u*D:=qH5 (by omega) (Int.le_of_eq e.symm) h (by omega)
 exact Int.ediv_le_of_le_mul (by omega) h2
theorem kK4{x d u:Int}(hd:1≤d∧d≤100000)(h:u*d≤x):u≤-(-(R7 x d)/F3 x d):=by
 have e:=xA5 x hd.1
 have hD:=(I1 (num:=x) hd).1
 generalize R7 x d=N at*
 generalize F3 x d=D at*
 have h2:u*D≤N:=qH3 (by omega) (Int.le_of_eq e) h (by omega)
 have h3: -N/D≤-u:=Int.ediv_le_of_le_mul (by omega) (by rw[Int.neg_mul];omega)
 omega
end
section
open Go Go.RowKit Go.Shelf
def qX9(Q:Nat→Bool):Nat→Nat
 |0=>0
 |i+1=>qX9 Q i+if Q i then 1 else 0
def AtK(e:EV)(x:TK)(pl:Int→Int)(z:Int)(w:World)(y:Ending)(w':World):Prop:=
 (∃p0 p1 q0 q1 er:Int,y= .returned (.tuple #[.agg #[.int .i64 p0,.int .i64 p1],.agg #[.int .i64 q0,.int .i64 q1],.int .i64 er])∧(er=0→(-600000000000≤p0∧p0≤600000000000)∧(1≤p1∧p1≤100000)∧(-600000000000≤q0∧q0≤600000000000)∧(1≤q1∧q1≤100000)∧p0/p1≤pl z∧pl z≤-(-q0/q1)))∧Below w.heap.size w w'
theorem kU7(e:EV)(x:TK)(a b z:Int)(va:Option Addr)(vc B:Nat)(w:World)(hBw:B≤w.heap.size)(hT:S5 B w va x.n (e.gt x))(hc:x.n≤vc∧vc≤maxLen)(hL:e.Lined x)(hI:qB6 (e.gt x) x.n a b)(hz:0≤z∧z≤100000)(hk:∀k,k<x.n→(e.gt x k).key≠z):
  Calls Tryz.prog 19 #[.slice va x.n vc,.int .i64 z] w (AtK e x (fun z=>b+a*z) z w):=by
 rcases hL.ln with h1|⟨hf,hs⟩
 ·refine(kF0 z va x.n vc (e.gt x) B w hBw hT hL.ok h1 (by omega) (hk 0 (by omega))).mono ?_
  rintro y w' ⟨⟨p0,p1,q0,q1,rfl⟩,hb⟩
  exact⟨⟨p0,p1,q0,q1,6,rfl,fun h=>absurd h (by decide)⟩,hb⟩
 ·refine(jD7 z va x.n vc (e.gt x) B w hBw hT hL.ok hc hf hs (by omega)).mono ?_
  rintro y w' ⟨⟨C,hC,rfl⟩,hb⟩
  have hlen:1≤C.length:=by
   obtain⟨s,h1,h2⟩:=hs
   obtain⟨c,h3,_⟩:=hC.all s h1 h2
   cases C with
   |nil=>cases h3
   |cons x l=>simp
  have hok:∀s∈C,s.ok:=fun s hs=>E3 hL.ok s (hC.from' s hs).1
  have hF:=xS6 hok (z:=z) (by omega)
  have hlo:U1 (loP C z):=U7 (fun i hi=>hF i (by omega))
  have hhi:U1 (hiP C z):=U7 (fun i hi=>hF i (by omega))
  obtain⟨h3,h4⟩:=xC9 z (by omega) hL.ok hf hI hC hlen
  have a1:=qC5 (loP C z).lo (loP C z).hi
  have a2:=qC5 (hiP C z).lo (hiP C z).hi
  exact⟨⟨_,_,_,_,0,rfl,fun _=>⟨by have:=hlo.nm;omega,I1 hlo.dn,by have:=hhi.nm;omega,I1 hhi.dn,jR3 hlo.dn h3,kK4 hhi.dn h4⟩⟩,hb⟩
theorem kD4{n:Nat}{ps:Nat→PR}(h:K7 n ps=true){i:Nat}:∀{j:Nat},i<j→j<n→(ps i).z<(ps j).z
 |j+1,h1,h2=>by
  have h3:C8 ps (j+1)=true:=by
   simp only[K7,Q8,Y9] at h
   exact h.1 (j+1) h2
  rw[qL1] at h3
  have h4:(ps j).z<(ps (j+1)).z:=by
   rcases h3.2 with h4|h4
   ·omega
   ·exact h4
  by_cases e:i=j
  ·rw[e];exact h4
  ·have:=kD4 h (i:=i) (j:=j) (by omega) (by omega)
   omega
theorem kA7{n:Nat}{ps:Nat→PR}(h:K7 n ps=true){i j:Nat}(hi:i<n)(hj:j<n)(hne:i≠j):(ps i).z≠(ps j).z:=by
 rcases Nat.lt_or_gt_of_ne hne with h1|h1
 ·have:=kD4 h h1 hj;omega
 ·have:=kD4 h h1 hi;omega
theorem jR0{p:Nat→Bool}:∀k,p k=true→∃j,j≤k∧p j=true∧∀i,i<j→p i=false:=by
 intro k
 induction k using Nat.strongRecOn with
 |_ k ih=>
  intro h
  by_cases e:∃i,i<k∧p i=true
  ·obtain⟨i,h1,h2⟩:=e
   obtain⟨j,h3,h4,h5⟩:=ih i h1 h2
   exact⟨j,by omega,h4,h5⟩
  ·exact⟨k,Q1 _,h,fun i hi=>by
    cases h2:p i
    ·rfl
    ·exact absurd ⟨i,hi,h2⟩ e⟩
theorem zU7{n:Nat}{p:Nat→Bool}{k:Nat}(hk:k<n)(h:p k=true):U6 n p=true:=by
 obtain⟨j,h1,h2,h3⟩:=jR0 k h
 unfold U6
 rw[qW0 (show j<n by omega) h3 h2]
 exact Z0 (by omega)
def jF7(n:Nat)(Q:Nat→Bool)(w:World)(y:Ending)(w':World):Prop:=(∃la k lc,y= .returned (.slice la k lc)∧k≤qX9 Q n)∧Below w.heap.size w w'
theorem qM6(Q:Nat→Bool)(i:Nat):qX9 Q i≤qX9 Q (i+1):=by
 rw[qX9]
 omega
theorem jN8{Q:Nat→Bool}{i:Nat}(h:Q i=true):qX9 Q (i+1)=qX9 Q i+1:=by
 rw[qX9,if_pos h]
theorem xB5(e:EV)(x:TK)(A b0:Int)(Q:Nat→Bool)(N eb:Nat)(w:World)(hN:N≤w.heap.size)(hE:e.At N eb w)(hO:e.Ok)(hx:x.At N w)(hxo:x.Ok e.m)(hxn:0<x.n)(hL:e.Lined x)(hI:qB6 (e.gt x) x.n A b0)
  (hQ:∀i,i<e.n→(e.ps i).view=e.view→(∀k,k<x.n→e.P (x.J k)≠i)→∀lo hi:Int,lo≤b0+A*(e.ps i).z→b0+A*(e.ps i).z≤hi→-1000000≤lo→hi≤1000000→O7 (e.ps i) lo hi=true→Q i=true):
  Calls Tryz.prog 152 #[.pointer (some ⟨eb,0,none⟩),x.val e.view] w (jF7 e.n Q w):=by
 have HB:=Hd (((Q2 _ w).alloc (Q1 _) (.cells #[.pointer (some ⟨eb,0,none⟩)] 171)).alloc (by simp) (.cells #[.int .i64 e.view,.slice x.ja x.n x.jc,.slice x.sa x.n x.sc] 110))
 have hv:=(Q9 (w.alloc (.cells #[.pointer (some ⟨eb,0,none⟩)] 171)) (.cells #[.int .i64 e.view,.slice x.ja x.n x.jc,.slice x.sa x.n x.sc] 110) w.heap.size (by simp)).trans (Q3 w _)
 have ht:=Q3 (w.alloc (.cells #[.pointer (some ⟨eb,0,none⟩)] 171)) (.cells #[.int .i64 e.view,.slice x.ja x.n x.jc,.slice x.sa x.n x.sc] 110)
 rw[show(w.alloc (.cells #[.pointer (some ⟨eb,0,none⟩)] 171)).heap.size=w.heap.size+1 from by simp] at ht
 have HVB:=Hd hv
 have HTB:=Hd ht
 have HE:=Hd (fun W (hb:Below w.heap.size w W)=>hE.below (hb.mono hN))
 have HXA:=Hd (fun W (hb:Below w.heap.size w W)=>hx.below (hb.mono hN))
 have HGO:=Hd (fun W (hb:Below w.heap.size w W)=>qH2 e x e.view N eb W (Q5 hN hb.size) (hE.below (hb.mono hN)) (hx.below (hb.mono hN)) hxo hO.m8.2)
 have HM1:=Hd (fun(h i vb ib:Nat) (W:World) (hb:Below w.heap.size w W) (hh:h<e.m) hv hi=>zI2 e N eb h i vb ib W (Q5 hN hb.size) (hE.below (hb.mono hN)) hO hh hv hi)
 have HAT:=Hd (fun z va vc B W (hB:B≤W.heap.size) (hT:S5 B W va x.n (e.gt x)) hc hz hk=>kU7 e x A b0 z va vc B W hB hT hc hL hI hz hk)
 have HLT:=Hd hxo.lt
 have HCK:=Hd hO.ck
 have HZN:=Hd (fun i (hi:i<e.n) (hk:∀k,k<x.n→e.P (x.J k)≠i) k (h:k<x.n)=>show(e.gt x k).key≠(e.ps i).z from by
  have h1:=hxo.lt k h
  have h2:=hO.pl (x.J k) h1
  show(e.G (x.J k)).key≠_
  rw[hO.key _ h1]
  exact kA7 hO.ck h2.2 hi (hk k h))
 have hn16:=P1 hO.ck
 have hxm:=hxo.le
 have hm8:=hO.m8.2
 have HQ:=Hd hQ
 have HXN:=Hd hxn
 obtain⟨n,hn⟩:∃n,e.n=n:=⟨_,rfl⟩
 rw[hn] at hn16 HZN HQ HCK
 have HSE:=Hd (fun W (hb:Below w.heap.size w W) i (hi:i<n) lo hi' (h:P7 lo hi' 1000000=true)=>kX5 e.a e.n e.c e.ps lo hi' W N (Q5 hN hb.size) (hE.below (hb.mono hN)).planes hO.ck i (by omega) h)
 unfold L3 at HSE
 rw[hn] at HSE
 unfold TK.val at HGO
 unfold TK.val
 clear hv ht hE hO hx hL hI hQ hxo
 rw[hn]
 generalize hres:jF7 n Q w=RES
 have HRES:=Hd hres
 clear hres
 go_enter Tryz.func152,Tryz.ntmps152
 go_upto_region 1 with(fail)
 generalize World.alloc (World.alloc w _) _=V0 at*
 have v0:=Q0 _ _ 0 _ _ _ HVB.out
 obtain⟨t0,t1,t2⟩:=U4 HTB.out
 go_upto_region 3 with(go_at_call 81;refine(HGO.out _ HB.out).mono ?_;rintro y V ⟨va,vc,rfl,hr1,hc1,hb1⟩;have HRW:=Hd (show S5 V.heap.size V va x.n (e.gt x) from hr1);have HCV:=Hd (hc1 HXN.out);have HBV:=Hd (HB.out.trans (hb1.mono HB.out.size));have HVV:=Hd (J0 HVB.out hb1);have HTV:=Hd (J0 HTB.out hb1);clear hr1 hc1 hb1 v0 t0 t1 t2 HVB HTB HB HGO)
 have hEV:=HE.out V HBV.out
 obtain⟨e0,e1,e2,e3,e4⟩:=hEV.cells
 rw[hn] at e0
 have v0:=Q0 _ _ 0 _ _ _ HVV.out
 have hebl:=hEV.lt
 have hwV:=HBV.out.size
 have hvV:=J5 HVV.out
 have htV:=J5 HTV.out
 have HO:=Hd (show V.ownsRow V.heap.size 3 1 (.slice none 0 0) 0 [] from⟨rfl,.inl ⟨rfl,rfl⟩⟩)
 have HZ:=Hd (Q2 V.heap.size V)
 clear hEV e1 e2 e3 e4
 go_wp2
 clear v0 e0
 go_loopw [5,26] (fun s5 s26 wr=>∃i:Nat,i≤n∧s26= .int .i64 (i:Int)∧∃la k lc xs,s5= .slice la k lc∧Hid (k≤qX9 Q i)∧k≤i∧Hid (wr.ownsRow V.heap.size 3 1 (.slice la k lc) k xs)∧Hid (Below V.heap.size V wr)) (fun _ s26 _=>n-(intOf s26).toNat)
 case atStart=>exact⟨0,by omega,rfl,none,0,0,[],rfl,Hd (Nat.zero_le _),by omega,HO,HZ⟩
 case round=>
  clear HO HZ
  obtain⟨i,hi,rfl,la,k,lc,xs,rfl,HK,hki,HO,HZ⟩:=hrel
  by_cases hl:i<n
  ·have hl':(i:Int)<(n:Int):=by omega
   have hz:=HZ.out.size
   have HBr:=Hd (HBV.out.trans (HZ.out.mono hwV))
   have hE2:=HE.out wr HBr.out
   have hpl:=hE2.planes
   rw[hn] at hpl
   obtain⟨b,off,hpa,hbB,⟨c0,c1,c2,c3,c4,c5,c6,c7,c8,c9,c10,c11,c12,c13,c14⟩,hm⟩:=hpl.get hl
   rw[hpa]
   have hbl:b<wr.heap.size:=by omega
   have hsh:=G0 (M3 HCK.out hl)
   have hzb:=hsh.z
   have HZNi:=Hd (HZN.out i hl)
   have HQi:=Hd (HQ.out i hl)
   have HSEi:=Hd (fun W hb lo hi' h=>HSE.out W hb i hl lo hi' h)
   clear hsh hE2 hpl hm HZN HQ HSE
   generalize hp:e.ps i=p at*
   go_upto_region 6 with(fail)
   have hb2:=((Q2 _ wr).alloc (Q1 _) (.cells #[.int .i64 (i:Int)] 3)).alloc (by simp) (.cells #[.int .i64 p.kind,.int .i64 p.view,.int .i64 p.z,.int .i64 p.first,.int .i64 p.pitch,.int .i64 p.strips,.int .i64 p.spill,.int .i64 p.olo,.int .i64 p.ohi,.int .i64 p.clo,.int .i64 p.chi,.int .i64 p.jitter,.int .i64 p.least,.slice p.da p.dn p.dc,.slice p.ea p.en p.ec] 50)
   have hib:=(Q9 (wr.alloc (.cells #[.int .i64 (i:Int)] 3)) (.cells #[.int .i64 p.kind,.int .i64 p.view,.int .i64 p.z,.int .i64 p.first,.int .i64 p.pitch,.int .i64 p.strips,.int .i64 p.spill,.int .i64 p.olo,.int .i64 p.ohi,.int .i64 p.clo,.int .i64 p.chi,.int .i64 p.jitter,.int .i64 p.least,.slice p.da p.dn p.dc,.slice p.ea p.en p.ec] 50) wr.heap.size (by simp)).trans (Q3 wr _)
   have hpb:=Q3 (wr.alloc (.cells #[.int .i64 (i:Int)] 3)) (.cells #[.int .i64 p.kind,.int .i64 p.view,.int .i64 p.z,.int .i64 p.first,.int .i64 p.pitch,.int .i64 p.strips,.int .i64 p.spill,.int .i64 p.olo,.int .i64 p.ohi,.int .i64 p.clo,.int .i64 p.chi,.int .i64 p.jitter,.int .i64 p.least,.slice p.da p.dn p.dc,.slice p.ea p.en p.ec] 50)
   rw[show(wr.alloc (.cells #[.int .i64 (i:Int)] 3)).heap.size=wr.heap.size+1 from by simp] at hpb
   have HB1:=Hd (HBr.out.trans (hb2.mono HBr.out.size))
   have HO1:=Hd (K4 HO.out hb2)
   have HZ1:=Hd (HZ.out.trans (hb2.mono HZ.out.size))
   have HIB:=Hd hib
   have HPB:=Hd hpb
   have HVB:=Hd (J0 (J0 HVV.out HZ.out) hb2)
   have HTB:=Hd (J0 (J0 HTV.out HZ.out) hb2)
   clear hb2 hib hpb c0 c1 c2 c3 c4 c5 c6 c7 c8 c9 c10 c11 c12 c13 c14 HO HZ HBr hbl hbB hpa
   generalize World.alloc (World.alloc wr _) _=V1 at*
   generalize wr.heap.size=ib at*
   have z1:=Q0 _ _ 1 _ _ _ HPB.out
   obtain⟨t0,t1⟩:=M7 HTB.out
   by_cases hv:p.view=e.view
   ·have hv':(p.view !=e.view)=false:=by simp[hv]
    have HVV2:=Hd hv
    have HCJ:=Hd (qP7 174 #[.pointer (some ⟨w.heap.size,0,none⟩),.pointer (some ⟨ib,0,none⟩)] x.ja x.n x.jc (fun k=>(x.J k:Int)) N (fun k=>decide (e.P (x.J k)=i)) V1 (Q5 hN HB1.out.size) (by omega) (HXA.out V1 HB1.out).js kY2 (fun W' hb' k hk=>HM1.out (x.J k) i w.heap.size ib W' (HB1.out.trans (hb'.mono HB1.out.size)) (HLT.out k hk) (J0 HVB.out hb') (J0 HIB.out hb')))
    clear hv
    cases hA:U6 x.n (fun k=>decide (e.P (x.J k)=i)) with
    |true=>
     rw[hA] at HCJ
     clear hA
     go_wp2_with(go_at_call 149;refine HCJ.out.mono ?_;rintro y W2 ⟨rfl,hb2⟩;(have HBn:=Hd (HB1.out.trans ((hb2).mono HB1.out.size));have HOn:=Hd (K4 HO1.out (hb2));have HZn:=Hd (HZ1.out.trans ((hb2).mono HZ1.out.size));have HIn:=Hd (J0 HIB.out (hb2));have HPn:=Hd (J0 HPB.out (hb2));clear HB1 HO1 HZ1 HIB HPB;have HB1:=HBn;have HO1:=HOn;have HZ1:=HZn;have HIB:=HIn;have HPB:=HPn;clear HBn HOn HZn HIn HPn);clear hb2 z1 t0 t1 HVB HTB)
     (go_roundw;(case rel=>exact⟨i+1,by omega,by go_num,la,k,lc,xs,rfl,Hd (Q5 HK.out (qM6 Q i)),by omega,HO1,HZ1⟩);(case measure=>(simp[intOf];omega)))
    |false=>
     rw[hA] at HCJ
     have hne:∀k,k<x.n→e.P (x.J k)≠i:=fun k hk he=>by
      rw[zU7 (p:=fun k=>decide (e.P (x.J k)=i)) hk (Z0 he)] at hA
      cases hA
     have HNE:=Hd hne
     have HKZ:=Hd (HZNi.out hne)
     have HQn:=Hd (HQi.out HVV2.out hne)
     clear hA hne HQi HZNi HVV2
     have z2:=Q0 _ _ 2 _ _ _ HPB.out
     go_upto_region 7 with(go_at_call 149;refine HCJ.out.mono ?_;rintro y W2 ⟨rfl,hb2⟩;(have HBn:=Hd (HB1.out.trans ((hb2).mono HB1.out.size));have HOn:=Hd (K4 HO1.out (hb2));have HZn:=Hd (HZ1.out.trans ((hb2).mono HZ1.out.size));have HIn:=Hd (J0 HIB.out (hb2));have HPn:=Hd (J0 HPB.out (hb2));clear HB1 HO1 HZ1 HIB HPB;have HB1:=HBn;have HO1:=HOn;have HZ1:=HZn;have HIB:=HIn;have HPB:=HPn;clear HBn HOn HZn HIn HPn);have HVB2:=Hd (J0 HVB.out hb2);clear hb2 z1 z2 t0 t1 HVB HTB HCJ)
     have z2:=Q0 _ _ 2 _ _ _ HPB.out
     have HATi:=Hd (HAT.out p.z va vc V.heap.size W2 HZ1.out.size (HRW.out.below HZ1.out) HCV.out hzb HKZ.out)
     go_upto_region 8 with(go_at_call 19;refine HATi.out.mono ?_;rintro y W3 ⟨⟨p0,p1,q0,q1,er,rfl,hfr⟩,hb3⟩;have HFR:=Hd hfr;(have HBn:=Hd (HB1.out.trans ((hb3).mono HB1.out.size));have HOn:=Hd (K4 HO1.out (hb3));have HZn:=Hd (HZ1.out.trans ((hb3).mono HZ1.out.size));have HIn:=Hd (J0 HIB.out (hb3));have HPn:=Hd (J0 HPB.out (hb3));clear HB1 HO1 HZ1 HIB HPB;have HB1:=HBn;have HO1:=HOn;have HZ1:=HZn;have HIB:=HIn;have HPB:=HPn;clear HBn HOn HZn HIn HPn);have HVB3:=Hd (J0 HVB2.out hb3);clear hb3 hfr z2 HVB2 HATi)
     have hb4:=((Q2 _ W3).alloc (Q1 _) (.cells #[.int .i64 p0,.int .i64 p1] 69)).alloc (by simp) (.cells #[.int .i64 q0,.int .i64 q1] 69)
     have hfa:=(Q9 (W3.alloc (.cells #[.int .i64 p0,.int .i64 p1] 69)) (.cells #[.int .i64 q0,.int .i64 q1] 69) W3.heap.size (by simp)).trans (Q3 W3 _)
     have hfb:=Q3 (W3.alloc (.cells #[.int .i64 p0,.int .i64 p1] 69)) (.cells #[.int .i64 q0,.int .i64 q1] 69)
     rw[show(W3.alloc (.cells #[.int .i64 p0,.int .i64 p1] 69)).heap.size=W3.heap.size+1 from by simp] at hfb
     have HFA:=Hd hfa
     have HFB:=Hd hfb
     have HVB4:=Hd (J0 HVB3.out hb4)
     (have HBn:=Hd (HB1.out.trans ((hb4).mono HB1.out.size));have HOn:=Hd (K4 HO1.out (hb4));have HZn:=Hd (HZ1.out.trans ((hb4).mono HZ1.out.size));have HIn:=Hd (J0 HIB.out (hb4));have HPn:=Hd (J0 HPB.out (hb4));clear HB1 HO1 HZ1 HIB HPB;have HB1:=HBn;have HO1:=HOn;have HZ1:=HZn;have HIB:=HIn;have HPB:=HPn;clear HBn HOn HZn HIn HPn)
     clear hb4 hfa hfb HVB3
     generalize World.alloc (World.alloc W3 _) _=W4 at*
     generalize W3.heap.size=fa at*
     by_cases her:er=0
     ·subst her
      obtain⟨hp0,hp1,hq0,hq1,hlo,hhi⟩:=HFR.out rfl
      have HFl:=Hd (fun W=>zP9 p0 p1 W (by omega) (by omega))
      have HCe:=Hd (fun W=>jN2 q0 q1 W (by omega) (by omega))
      generalize p0/p1=lo at*
      generalize-(-q0/q1)=hi' at*
      go_upto_region 9 with(fail)
      obtain⟨fa0,fa1⟩:=M7 HFA.out
      obtain⟨fb0,fb1⟩:=M7 HFB.out
      have lfa:=J5 HFA.out
      have lfb:=J5 HFB.out
      (refine J4 W4.heap.size (by kernel_rfl) (by kernel_rfl) ?_;(repeat(first|go_big_quiet_step(first|(go_at_call 175;with_reducible exact Calls.calm_of (Q1 _) (HFl.out _))|(go_at_call 176;with_reducible exact Calls.calm_of (Q1 _) (HCe.out _)))|quiet_step(first|(go_at_call 175;with_reducible exact Calls.calm_of (Q1 _) (HFl.out _))|(go_at_call 176;with_reducible exact Calls.calm_of (Q1 _) (HCe.out _)))));refine X4 (wqn ?_);intro xq)
      have hxq:=xq.below
      have HVB5:=Hd (J0 HVB4.out hxq)
      (have HBn:=Hd (HB1.out.trans ((hxq).mono HB1.out.size));have HOn:=Hd (K4 HO1.out (hxq));have HZn:=Hd (HZ1.out.trans ((hxq).mono HZ1.out.size));have HIn:=Hd (J0 HIB.out (hxq));have HPn:=Hd (J0 HPB.out (hxq));clear HB1 HO1 HZ1 HIB HPB;have HB1:=HBn;have HO1:=HOn;have HZ1:=HZn;have HIB:=HIn;have HPB:=HPn;clear HBn HOn HZn HIn HPn)
      clear hxq fa0 fa1 fb0 fb1 lfa lfb HFA HFB HVB4
      generalize K9.val xq=W5 at*
      clear HFl HCe HFR
      by_cases hl1:lo< -1000000
      ·have hd1:decide (lo< -1000000)=true:=Z0 hl1
       clear hl1
       go_wp2
       (go_roundw;(case rel=>exact⟨i+1,by omega,by go_num,la,k,lc,xs,rfl,Hd (Q5 HK.out (qM6 Q i)),by omega,HO1,HZ1⟩);(case measure=>(simp[intOf];omega)))
      by_cases hl2:1000000<hi'
      ·have hd1:decide (lo< -1000000)=false:=Q7 hl1
       have hd2:decide (1000000<hi')=true:=Z0 hl2
       clear hl1 hl2
       go_wp2
       (go_roundw;(case rel=>exact⟨i+1,by omega,by go_num,la,k,lc,xs,rfl,Hd (Q5 HK.out (qM6 Q i)),by omega,HO1,HZ1⟩);(case measure=>(simp[intOf];omega)))
      have hd1:decide (lo< -1000000)=false:=Q7 hl1
      have hd2:decide (1000000<hi')=false:=Q7 hl2
      have HQm:=Hd (HQn.out lo hi' hlo hhi (by omega) (by omega))
      have hord:P7 lo hi' 1000000=true:=by
       unfold P7
       rw[G2 (by omega) (by omega),Z0 (show hi'≤1000000 by omega)]
       rfl
      have HS5:=Hd (fun W hb=>HSEi.out W hb lo hi' hord)
      clear hlo hhi hl1 hl2 hord HQn
      generalize O7 p lo hi'=mu at*
      generalize qN7 p lo hi'=ca at*
      go_upto_region 11 with(fail)
      have v0:=Q0 _ _ 0 _ _ _ HVB5.out
      have i0:=Q0 _ _ 0 _ _ _ HIB.out
      have hEV:=HE.out W5 HB1.out
      obtain⟨e0,_⟩:=hEV.cells
      rw[hn] at e0
      have lv:=J5 HVB5.out
      have li:=J5 HIB.out
      have le:=hEV.lt
      have hw5:=HB1.out.size
      have leb:eb<W5.heap.size:=by omega
      have HS6:=Hd (fun W (hb:Below W5.heap.size W5 W)=>HS5.out W (HB1.out.trans (hb.mono hw5)))
      clear hEV le HS5
      (refine J4 W5.heap.size (by kernel_rfl) (by kernel_rfl) ?_;(repeat(first|go_big_quiet_step((go_at_call 177;with_reducible exact Calls.calm_of (Q1 _) (HS6.out _ (K9.below _))))|quiet_step((go_at_call 177;with_reducible exact Calls.calm_of (Q1 _) (HS6.out _ (K9.below _))))));refine X4 (wqn ?_);intro xq)
      have hxq:=xq.below
      (have HBn:=Hd (HB1.out.trans ((hxq).mono HB1.out.size));have HOn:=Hd (K4 HO1.out (hxq));have HZn:=Hd (HZ1.out.trans ((hxq).mono HZ1.out.size));have HIn:=Hd (J0 HIB.out (hxq));have HPn:=Hd (J0 HPB.out (hxq));clear HB1 HO1 HZ1 HIB HPB;have HB1:=HBn;have HO1:=HOn;have HZ1:=HZn;have HIB:=HIn;have HPB:=HPn;clear HBn HOn HZn HIn HPn)
      clear hxq v0 i0 e0 lv li leb HVB5 HS6
      generalize K9.val xq=W6 at*
      cases mu with
      |false=>
       go_wp2
       (go_roundw;(case rel=>exact⟨i+1,by omega,by go_num,la,k,lc,xs,rfl,Hd (Q5 HK.out (qM6 Q i)),by omega,HO1,HZ1⟩);(case measure=>(simp[intOf];omega)))
      |true=>
       have hq:=HQm.out rfl
       have HKQ:=Hd (show k+1≤qX9 Q (i+1) from by have:=HK.out;rw[jN8 hq];omega)
       clear HQm hq
       go_upto_region 13 with(fail)
       have i0:=Q0 _ _ 0 _ _ _ HIB.out
       obtain⟨j0,hj0,hj1,hj2,hj3⟩:=info_parts qN4
       have hz6:=HZ1.out.size
       have hcn:k+1≤maxLen∧(k+1)*8≤140737488355328:=by unfold maxLen;omega
       go_wp2_with(at_builtin;refine wpList_append_own _ rfl _ _ 28 rfl V.heap.size 3 j0 (.int .i64 0) 1 8 Tryz.underlying28 hj0 hj1 hj2 hj3 rfl (by decide) _ k xs rfl (HO1.out.alloc _) ⟨W6.heap.size,0,none⟩ 1 1 [.int .i64 (i:Int)] rfl rfl (fun j v h=>R4 (xs:=[.int .i64 (i:Int)]) j v h) (by intro u hu;simp at hu;rw[hu];rfl) hcn.1 hcn.2 (by simp;omega) ?_;intro v' W8 hown8 hgrow8 _;have hbf:=((J3 W6 (.cells #[.int .i64 (i:Int)] 3)).mono hz6).grown hgrow8 (by simp;omega) (fun b hb=>L7 HO1.out hb);obtain⟨a8,c8,hv8⟩:=Y6 hown8;subst hv8;have HO8:=Hd hown8;have HZ8:=Hd (HZ1.out.trans hbf);clear hbf hown8 hgrow8 i0)
       go_roundw
       case rel=>exact⟨i+1,by omega,by go_num,a8,k+1,c8,_,rfl,HKQ,by omega,HO8,HZ8⟩
       case measure=>simp[intOf];omega
     ·have her':(er !=0)=true:=by simpa using her
      clear her
      go_wp2
      (go_roundw;(case rel=>exact⟨i+1,by omega,by go_num,la,k,lc,xs,rfl,Hd (Q5 HK.out (qM6 Q i)),by omega,HO1,HZ1⟩);(case measure=>(simp[intOf];omega)))
   ·have hv':(p.view !=e.view)=true:=by simpa using hv
    clear hv
    go_wp2
    (go_roundw;(case rel=>exact⟨i+1,by omega,by go_num,la,k,lc,xs,rfl,Hd (Q5 HK.out (qM6 Q i)),by omega,HO1,HZ1⟩);(case measure=>(simp[intOf];omega)))
  ·obtain rfl:i=n:=by omega
   have hl':¬(i:Int)<(i:Int):=by omega
   have HF:=Hd (HBV.out.trans (HZ.out.mono hwV))
   clear HO HZ
   go_wp2
   rw[←HRES.out]
   exact⟨⟨la,k,lc,rfl,HK.out⟩,HF.out⟩
end
end Go.Proofs.YtmncaipgefbalaaGreatDoor
