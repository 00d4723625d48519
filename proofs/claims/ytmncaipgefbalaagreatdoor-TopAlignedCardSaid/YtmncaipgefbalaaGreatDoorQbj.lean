/- Part of the proof of the claim. -/
import Derived.Test.YtmncaipgefbalaaGreatDoorQaf
set_option maxRecDepth 100000
set_option maxHeartbeats 8000000
set_option linter.unusedVariables false
set_option linter.unusedSimpArgs false
namespace Go.Proofs.YtmncaipgefbalaaGreatDoor
section
open Go.RowKit
structure VO where
 nx:Int
 ny:Int
 nz:Int
 size:Int
structure RY where
 x:Int
 y:Int
 z:Int
 dx:Int
 dy:Int
 dz:Int
def VO.val(v:VO):Value:= .agg #[.int .i64 v.nx,.int .i64 v.ny,.int .i64 v.nz,.int .i64 v.size]
def RY.val(r:RY):Value:= .agg #[.int .i64 r.x,.int .i64 r.y,.int .i64 r.z,.int .i64 r.dx,.int .i64 r.dy,.int .i64 r.dz]
def jC8(v:VO):Bool:=(((P4 v.nx 1 12&&P4 v.ny 1 12)&&P4 v.nz 1 12)&&decide (v.nx*v.ny*v.nz≤600))&&P4 v.size 1 1000
structure VO.Ok(v:VO):Prop where
 x:1≤v.nx∧v.nx≤12
 y:1≤v.ny∧v.ny≤12
 z:1≤v.nz∧v.nz≤12
 cells:v.nx*v.ny*v.nz≤600
 size:1≤v.size∧v.size≤1000
theorem kQ2{v:VO}:jC8 v=true↔v.Ok:=by
 unfold jC8
 simp only[Q8,D4,Z8]
 exact⟨fun⟨⟨⟨⟨h1,h2⟩,h3⟩,h4⟩,h5⟩=>⟨h1,h2,h3,h4,h5⟩,fun h=>⟨⟨⟨⟨h.x,h.y⟩,h.z⟩,h.cells⟩,h.size⟩⟩
def zE1(r:RY):Bool:=((P4 r.x (-100000) 100000&&P4 r.y (-100000) 100000)&&P4 r.z (-100000) 100000)&&(((P4 r.dx (-60) 60&&P4 r.dy (-60) 60)&&P4 r.dz (-60) 60)&&((r.dx !=0||r.dy !=0)||r.dz !=0))
structure RY.Ok(r:RY):Prop where
 x: -100000≤r.x∧r.x≤100000
 y: -100000≤r.y∧r.y≤100000
 z: -100000≤r.z∧r.z≤100000
 dx: -60≤r.dx∧r.dx≤60
 dy: -60≤r.dy∧r.dy≤60
 dz: -60≤r.dz∧r.dz≤60
 turns:r.dx≠0∨r.dy≠0∨r.dz≠0
theorem jA1{r:RY}:zE1 r=true↔r.Ok:=by
 unfold zE1
 simp only[Q8,D4,Bool.or_eq_true,bne_iff_ne,ne_eq]
 exact⟨fun⟨⟨⟨h1,h2⟩,h3⟩,⟨⟨h4,h5⟩,h6⟩,h7⟩=>⟨h1,h2,h3,h4,h5,h6,by rcases h7 with(h|h)|h;exact .inl h;exact .inr (.inl h);exact .inr (.inr h)⟩,fun h=>⟨⟨⟨h.x,h.y⟩,h.z⟩,⟨⟨h.dx,h.dy⟩,h.dz⟩,by rcases h.turns with h|h|h;exact .inl (.inl h);exact .inl (.inr h);exact .inr h⟩⟩
def tkS(out:Nat)(d:Int):Nat:=if d.natAbs=0 then out else out/Nat.gcd out d.natAbs*d.natAbs
def tkN(r:RY):Nat→Nat
 |0=>1
 |1=>tkS 1 r.dx
 |2=>tkS (tkS 1 r.dx) r.dy
 |_=>tkS (tkS (tkS 1 r.dx) r.dy) r.dz
def D9(r:RY):Nat:=tkN r 3
theorem qX4{out K:Nat}{d:Int}(h1:1≤out)(hK:out≤K)(hd: -60≤d∧d≤60):1≤tkS out d∧tkS out d≤K*60:=by
 unfold tkS
 by_cases e:d.natAbs=0
 ·rw[if_pos e];omega
 ·rw[if_neg e]
  have h2:0<out/Nat.gcd out d.natAbs:=Nat.div_pos (Nat.le_of_dvd (by omega) (Nat.gcd_dvd_left _ _)) (Nat.gcd_pos_of_pos_left _ (by omega))
  have h3:out/Nat.gcd out d.natAbs≤K:=Q5 (Nat.div_le_self _ _) hK
  have h4:d.natAbs≤60:=by omega
  exact⟨Nat.mul_pos h2 (by omega),X8 h3 h4⟩
theorem zT8{r:RY}(h:r.Ok):∀i,1≤tkN r i∧tkN r i≤216000
 |0=>by simp[tkN]
 |1=>by have:=qX4 (K:=1) (Q1 1) (Q1 1) h.dx;show 1≤tkS 1 r.dx∧tkS 1 r.dx≤216000;omega
 |2=>by
  have h1:=qX4 (K:=1) (Q1 1) (Q1 1) h.dx
  have h2:=qX4 (K:=60) h1.1 (by omega) h.dy
  show 1≤tkS (tkS 1 r.dx) r.dy∧tkS (tkS 1 r.dx) r.dy≤216000
  omega
 |n+3=>by
  have h1:=qX4 (K:=1) (Q1 1) (Q1 1) h.dx
  have h2:=qX4 (K:=60) h1.1 (by omega) h.dy
  have h3:=qX4 (K:=3600) h2.1 (by omega) h.dz
  show 1≤tkS (tkS (tkS 1 r.dx) r.dy) r.dz∧tkS (tkS (tkS 1 r.dx) r.dy) r.dz≤216000
  omega
theorem T9{r:RY}(h:r.Ok):1≤D9 r∧D9 r≤216000:=zT8 h 3
structure AX where
 b:Int
 t:Int
 c:Int
def C1(v:VO)(r:RY):Nat→AX
 |0=>⟨r.x,r.dx,v.nx⟩
 |1=>⟨r.y,r.dy,v.ny⟩
 |_=>⟨r.z,r.dz,v.nz⟩
def AX.val(a:AX):Value:= .agg #[.int .i64 a.b,.int .i64 a.t,.int .i64 a.c]
def U0(v:VO)(r:RY):Value:= .agg #[.int .i64 v.nx,.int .i64 v.ny,.int .i64 v.nz,.int .i64 v.size,.int .i64 r.x,.int .i64 r.dx,.int .i64 v.nx,.int .i64 r.y,.int .i64 r.dy,.int .i64 v.ny,.int .i64 r.z,.int .i64 r.dz,.int .i64 v.nz,.int .i64 (D9 r:Int)]
theorem qG4{v:VO}{r:RY}(hv:v.Ok)(hr:r.Ok)(i:Nat):(-100000≤(C1 v r i).b∧(C1 v r i).b≤100000)∧(-60≤(C1 v r i).t∧(C1 v r i).t≤60)∧(1≤(C1 v r i).c∧(C1 v r i).c≤12):=by
 match i with
 |0=>exact⟨hr.x,hr.dx,hv.x⟩
 |1=>exact⟨hr.y,hr.dy,hv.y⟩
 |n+2=>exact⟨hr.z,hr.dz,hv.z⟩
def whF(T:Int)(a:AX)(p:Int):Int:=((p-a.b)*T).tdiv a.t
theorem xE9(x y:Int)(K:Int)(h: -K≤x∧x≤K): -K≤x.tdiv y∧x.tdiv y≤K:=by
 have h1:(x.tdiv y).natAbs≤x.natAbs:=by rw[Int.natAbs_tdiv];exact Nat.div_le_self _ _
 omega
theorem N3{x y K M:Int}(hK:0≤K)(hM:0≤M)(h: -K≤x∧x≤K)(h2: -M≤y∧y≤M): -(K*M)≤x*y∧x*y≤K*M:=by
 have h3:(x*y).natAbs≤K.natAbs*M.natAbs:=by
  rw[Int.natAbs_mul]
  exact X8 (by omega) (by omega)
 have h4:((K.natAbs*M.natAbs:Nat):Int)=K*M:=by
  rw[Int.natCast_mul,Int.natAbs_of_nonneg hK,Int.natAbs_of_nonneg hM]
 omega
theorem zH5{T:Int}{a:AX}{p:Int}(hT:1≤T∧T≤216000)(ha: -100000≤a.b∧a.b≤100000)(hp: -100000≤p∧p≤100000):(-43200000000≤(p-a.b)*T∧(p-a.b)*T≤43200000000)∧(-43200000000≤whF T a p∧whF T a p≤43200000000):=by
 have h1:=N3 (x:=p-a.b) (y:=T) (K:=200000) (M:=216000) (by decide) (by decide) (by omega) (by omega)
 have h2: -43200000000≤(p-a.b)*T∧(p-a.b)*T≤43200000000:=by omega
 exact⟨h2,xE9 _ _ _ h2⟩
def stp(at_ best t:Int):Int:=if at_<t∧(best<0∨t<best) then t else best
def nxK(f:Nat→Int)(at_:Int):Nat→Int→Int
 |0,b=>b
 |k+1,b=>stp at_ (nxK f at_ k b) (f k)
def nxA(v:VO)(r:RY)(at_:Int):Nat→Int
 |0=> -1
 |i+1=>if(C1 v r i).t=0 then nxA v r at_ i else nxK (fun k=>whF (D9 r) (C1 v r i) ((k:Int)*v.size)) at_ ((C1 v r i).c.toNat+1) (nxA v r at_ i)
def nxF(v:VO)(r:RY)(at_:Int):Int:=nxA v r at_ 3
def jZ5(at_ b:Int):Prop:=b= -1∨(at_<b∧0≤b∧b≤43200000000)
theorem kN0{at_ b t:Int}(h:jZ5 at_ b)(h0: -1≤at_)(ht:t≤43200000000):jZ5 at_ (stp at_ b t):=by
 unfold stp
 split
 ·rename_i h1;exact .inr ⟨h1.1,by omega,ht⟩
 ·exact h
theorem jU3{f:Nat→Int}{at_ b:Int}(h0: -1≤at_):∀k,jZ5 at_ b→(∀j,j<k→f j≤43200000000)→jZ5 at_ (nxK f at_ k b)
 |0,h,_=>h
 |k+1,h,hf=>kN0 (jU3 h0 k h (fun j hj=>hf j (by omega))) h0 (hf k (by omega))
theorem zX6{v:VO}{r:RY}(hv:v.Ok)(hr:r.Ok)(i k:Nat)(hk:k≤(C1 v r i).c.toNat):0≤(k:Int)*v.size∧(k:Int)*v.size≤12000:=by
 have h1:=(qG4 hv hr i).2.2
 have h2:=hv.size
 have h3:=N3 (x:=(k:Int)) (y:=v.size) (K:=12) (M:=1000) (by decide) (by decide) (by omega) (by omega)
 exact⟨Int.mul_nonneg (by omega) (by omega),by omega⟩
theorem kT4{v:VO}{r:RY}(hv:v.Ok)(hr:r.Ok)(i k:Nat)(hk:k≤(C1 v r i).c.toNat):whF (D9 r) (C1 v r i) ((k:Int)*v.size)≤43200000000:=by
 have h1:=zX6 hv hr i k hk
 have h2:=T9 hr
 exact((zH5 (T:=(D9 r:Int)) (a:=C1 v r i) (p:=(k:Int)*v.size) (by omega) (qG4 hv hr i).1 (by omega)).2).2
theorem xR7{v:VO}{r:RY}(hv:v.Ok)(hr:r.Ok){at_:Int}(h0: -1≤at_):∀i,jZ5 at_ (nxA v r at_ i)
 |0=> .inl rfl
 |i+1=>by
  rw[nxA]
  split
  ·exact xR7 hv hr h0 i
  ·exact jU3 h0 _ (xR7 hv hr h0 i) (fun j hj=>kT4 hv hr i j (by omega))
theorem zI3{v:VO}{r:RY}(hv:v.Ok)(hr:r.Ok){at_:Int}(h0: -1≤at_):jZ5 at_ (nxF v r at_):=xR7 hv hr h0 3
def B9(v:VO)(r:RY):Nat→Int
 |0=>0
 |i+1=>nxF v r (B9 v r i)
theorem I6{v:VO}{r:RY}(hv:v.Ok)(hr:r.Ok):∀i,-1≤B9 v r i∧B9 v r i≤43200000000
 |0=>by simp[B9]
 |i+1=>by
  have h1:=(I6 hv hr i).1
  rcases zI3 hv hr h1 with h|h
  ·rw[B9,h];omega
  ·rw[B9];omega
theorem xH9{v:VO}{r:RY}(hv:v.Ok)(hr:r.Ok):∀i,(∀j,j≤i→0≤B9 v r j)→(i:Int)≤B9 v r i
 |0,_=>by simp[B9]
 |i+1,h=>by
  have h1:=xH9 hv hr i (fun j hj=>h j (by omega))
  rcases zI3 hv hr (I6 hv hr i).1 with h2|h2
  ·have:=h (i+1) (Q1 _);rw[B9,h2] at this;omega
  ·rw[B9];omega
def IsM(v:VO)(r:RY)(m:Nat):Prop:=(∀j,j≤m→0≤B9 v r j)∧nxF v r (B9 v r m)<0
theorem kL4{v:VO}{r:RY}{m m':Nat}(h:IsM v r m)(h':IsM v r m'):m=m':=by
 rcases Nat.lt_trichotomy m m' with e|e|e
 ·have:=h'.1 (m+1) (by omega);rw[B9] at this;have:=h.2;omega
 ·exact e
 ·have:=h.1 (m'+1) (by omega);rw[B9] at this;have:=h'.2;omega
def cAx(T S:Int)(a:AX)(p q:Int):Int:=if 2*a.b*T+a.t*(p+q)<0 then-1 else if a.c≤(2*a.b*T+a.t*(p+q)).tdiv (2*T*S) then-1 else(2*a.b*T+a.t*(p+q)).tdiv (2*T*S)
def P0(v:VO)(r:RY)(p q:Int):Int:=
 if cAx (D9 r) v.size (C1 v r 0) p q<0∨cAx (D9 r) v.size (C1 v r 1) p q<0∨cAx (D9 r) v.size (C1 v r 2) p q<0 then-1
 else(cAx (D9 r) v.size (C1 v r 2) p q*v.ny+cAx (D9 r) v.size (C1 v r 1) p q)*v.nx+cAx (D9 r) v.size (C1 v r 0) p q
theorem qZ9{T S:Int}{a:AX}{p q:Int}(hT:1≤T)(hS:1≤S)(ha:1≤a.c): -1≤cAx T S a p q∧cAx T S a p q<a.c:=by
 unfold cAx
 split
 ·omega
 ·split
  ·omega
  ·rename_i h1 h2
   have:0≤(2*a.b*T+a.t*(p+q)).tdiv (2*T*S):=Int.tdiv_nonneg (by omega) (Int.mul_nonneg (by omega) (by omega))
   omega
theorem xG4{x y z nx ny nz:Int}(hx:0≤x∧x<nx)(hy:0≤y∧y<ny)(hz:0≤z∧z<nz):0≤(z*ny+y)*nx+x∧(z*ny+y)*nx+x<nx*ny*nz:=by
 have h1:0≤z*ny:=Int.mul_nonneg hz.1 (by omega)
 have h2:z*ny+y+1≤ny*nz:=by
  have h3:(z+1)*ny≤nz*ny:=Z7 (by omega) (by omega)
  rw[Int.add_mul,Int.one_mul] at h3
  rw[Int.mul_comm ny nz]
  omega
 have h4:0≤(z*ny+y)*nx:=Int.mul_nonneg (by omega) (by omega)
 have h5:(z*ny+y+1)*nx≤ny*nz*nx:=Z7 h2 (by omega)
 rw[Int.add_mul,Int.one_mul] at h5
 have h6:ny*nz*nx=nx*ny*nz:=by rw[Int.mul_comm (ny*nz) nx,X6]
 omega
theorem qR7{v:VO}{r:RY}(hv:v.Ok)(hr:r.Ok)(p q:Int): -1≤P0 v r p q∧P0 v r p q<v.nx*v.ny*v.nz:=by
 have hT:=T9 hr
 have h0:=qZ9 (T:=(D9 r:Int)) (S:=v.size) (a:=C1 v r 0) (p:=p) (q:=q) (by omega) hv.size.1 hv.x.1
 have h1:=qZ9 (T:=(D9 r:Int)) (S:=v.size) (a:=C1 v r 1) (p:=p) (q:=q) (by omega) hv.size.1 hv.y.1
 have h2:=qZ9 (T:=(D9 r:Int)) (S:=v.size) (a:=C1 v r 2) (p:=p) (q:=q) (by omega) hv.size.1 hv.z.1
 have hn:0<v.nx*v.ny*v.nz:=Int.mul_pos (Int.mul_pos (by have:=hv.x;omega) (by have:=hv.y;omega)) (by have:=hv.z;omega)
 unfold P0
 split
 ·omega
 ·rename_i h
  have:=xG4 (x:=cAx (D9 r) v.size (C1 v r 0) p q) (y:=cAx (D9 r) v.size (C1 v r 1) p q) (z:=cAx (D9 r) v.size (C1 v r 2) p q) (nx:=v.nx) (ny:=v.ny) (nz:=v.nz) ⟨by omega,h0.2⟩ ⟨by omega,h1.2⟩ ⟨by omega,h2.2⟩
  omega
structure PT where
 cell:Int
 lo:Int
 hi:Int
def PT.val(p:PT):Value:= .agg #[.int .i64 p.cell,.int .i64 p.lo,.int .i64 p.hi]
def qC2(v:VO)(r:RY)(g:Nat→Int)(p:PT):PT:=
 if 0<r.dz then⟨p.cell,p.lo,min p.hi (whF (D9 r) (C1 v r 2) (g (p.cell.tmod (v.nx*v.ny)).toNat))⟩
 else if r.dz<0 then⟨p.cell,max p.lo (whF (D9 r) (C1 v r 2) (g (p.cell.tmod (v.nx*v.ny)).toNat)),p.hi⟩
 else if g (p.cell.tmod (v.nx*v.ny)).toNat≤r.z then⟨p.cell,p.lo,p.lo⟩ else p
def zC5(v:VO)(r:RY)(g:Nat→Int)(p q:Int):List PT:=
 if P0 v r p q<0 then [] else if(qC2 v r g ⟨P0 v r p q,p,q⟩).lo<(qC2 v r g ⟨P0 v r p q,p,q⟩).hi then [qC2 v r g ⟨P0 v r p q,p,q⟩] else []
def prN(v:VO)(r:RY)(g:Nat→Int):Nat→List PT
 |0=>[]
 |1=>[]
 |k+2=>prN v r g (k+1)++zC5 v r g (B9 v r k) (B9 v r (k+1))
theorem B6(V:World)(o:Obj):Below V.heap.size V (V.alloc o):=(Q2 _ _).alloc (Q1 _) _
theorem zE8(W:World)(o1 o2:Obj):Below W.heap.size W ((W.alloc o1).alloc o2)∧((W.alloc o1).alloc o2).heap[W.heap.size]?=some o1∧((W.alloc o1).alloc o2).heap[W.heap.size+1]?=some o2:=by
 have a1:=B6 W o1
 have a2:=B6 (W.alloc o1) o2
 have z1:(W.alloc o1).heap.size=W.heap.size+1:=by simp
 refine⟨a1.trans (a2.mono a1.size),(a2.block _ (by omega)).trans (Q3 W o1),?_⟩
 have:=Q3 (W.alloc o1) o2
 rwa [z1] at this
theorem G6(x a b:Int)(w:World):Calls Tryz.prog 53 #[.int .i64 x,.int .i64 a,.int .i64 b] w fun e w'=>e= .returned (.bool (P4 x a b))∧w=w':=by
 by_cases h1:a≤x
 ·by_cases h2:x≤b
  ·have HE:=Hd (D4.2 ⟨h1,h2⟩)
   go_enter Tryz.func53,Tryz.ntmps53
   go_wp2
   go_ret
   exact⟨J2 HE.out.symm,rfl⟩
  ·have HE:=Hd (show P4 x a b=false from by cases e:P4 x a b;rfl;have:=D4.1 e;omega)
   go_enter Tryz.func53,Tryz.ntmps53
   go_wp2
   go_ret
   exact⟨J2 HE.out.symm,rfl⟩
 ·have HE:=Hd (show P4 x a b=false from by cases e:P4 x a b;rfl;have:=D4.1 e;omega)
  go_enter Tryz.func53,Tryz.ntmps53
  go_wp2
  go_ret
  exact⟨J2 HE.out.symm,rfl⟩
theorem xU6(v:VO)(w:World):Calls Tryz.prog 50 #[v.val] w fun e w'=>e= .returned (.bool (jC8 v))∧Below w.heap.size w w':=by
 have HV:=Hd (show jC8 v=((((P4 v.nx 1 12&&P4 v.ny 1 12)&&P4 v.nz 1 12)&&decide (v.nx*v.ny*v.nz≤600))&&P4 v.size 1 1000) from rfl)
 have HI:=Hd (show P4 v.nx 1 12=true→P4 v.ny 1 12=true→P4 v.nz 1 12=true→(-144≤v.nx*v.ny∧v.nx*v.ny≤144)∧(-1728≤v.nx*v.ny*v.nz∧v.nx*v.ny*v.nz≤1728) from fun h1 h2 h3=>by
  have h1:=D4.1 h1
  have h2:=D4.1 h2
  have h3:=D4.1 h3
  have h4:=N3 (x:=v.nx) (y:=v.ny) (K:=12) (M:=12) (by decide) (by decide) (by omega) (by omega)
  have h5:=N3 (x:=v.nx*v.ny) (y:=v.nz) (K:=144) (M:=12) (by decide) (by decide) (by omega) (by omega)
  omega)
 generalize jC8 v=RES at*
 unfold VO.val
 obtain⟨nx,ny,nz,size⟩:=v
 dsimp only at*
 go_enter Tryz.func50,Tryz.ntmps50
 go_upto_region 1 with(fail)
 have HB:=Hd (B6 w (.cells #[.int .i64 nx,.int .i64 ny,.int .i64 nz,.int .i64 size] 75))
 have hn:=Q3 w (.cells #[.int .i64 nx,.int .i64 ny,.int .i64 nz,.int .i64 size] 75)
 generalize World.alloc w _=V at*
 obtain⟨k0,k1,k2,k3⟩:=cr4 hn
 clear hn
 obtain⟨b1,hb1⟩:∃b,P4 nx 1 12=b:=⟨_,rfl⟩
 cases b1
 ·rw[hb1] at HV
  simp only[Bool.false_and] at HV
  go_wp2_with(go_at_call 53;refine(G6 _ _ _ _).mono ?_;rintro e w' ⟨rfl,rfl⟩;rw[hb1])
  go_ret
  exact⟨J2 HV.out.symm,HB.out⟩
 obtain⟨b2,hb2⟩:∃b,P4 ny 1 12=b:=⟨_,rfl⟩
 cases b2
 ·rw[hb1,hb2] at HV
  simp only[Bool.false_and,Bool.true_and] at HV
  go_wp2_with(go_at_call 53;refine(G6 _ _ _ _).mono ?_;rintro e w' ⟨rfl,rfl⟩;first|rw[hb1]|rw[hb2])
  go_ret
  exact⟨J2 HV.out.symm,HB.out⟩
 obtain⟨b3,hb3⟩:∃b,P4 nz 1 12=b:=⟨_,rfl⟩
 cases b3
 ·rw[hb1,hb2,hb3] at HV
  simp only[Bool.false_and,Bool.true_and] at HV
  go_wp2_with(go_at_call 53;refine(G6 _ _ _ _).mono ?_;rintro e w' ⟨rfl,rfl⟩;first|rw[hb1]|rw[hb2]|rw[hb3])
  go_ret
  exact⟨J2 HV.out.symm,HB.out⟩
 obtain⟨⟨m1,m2⟩,m3,m4⟩:=HI.out hb1 hb2 hb3
 rw[hb1,hb2,hb3] at HV
 simp only[Bool.true_and] at HV
 clear HI
 generalize hp:nx*ny=pq at*
 generalize hq:pq*nz=pqr at*
 by_cases h6:pqr≤600
 ·rw[Z0 h6,Bool.true_and] at HV
  generalize hb5:P4 size 1 1000=b5 at*
  go_wp2_with(go_at_call 53;refine(G6 _ _ _ _).mono ?_;rintro e w' ⟨rfl,rfl⟩;first|rw[hb1]|rw[hb2]|rw[hb3]|rw[hb5])
  go_ret
  exact⟨J2 HV.out.symm,HB.out⟩
 ·rw[Q7 h6,Bool.false_and] at HV
  go_wp2_with(go_at_call 53;refine(G6 _ _ _ _).mono ?_;rintro e w' ⟨rfl,rfl⟩;first|rw[hb1]|rw[hb2]|rw[hb3])
  go_ret
  exact⟨J2 HV.out.symm,HB.out⟩
theorem xF3(v:VO)(r:RY)(a:AX)(p:Int)(w:World)(hr:r.Ok)(ht:a.t≠0)(hb: -100000≤a.b∧a.b≤100000)(hp: -100000≤p∧p≤100000):
  Calls Tryz.prog 137 #[U0 v r,a.val,.int .i64 p] w fun e w'=>e= .returned (.int .i64 (whF (D9 r) a p))∧Below w.heap.size w w':=by
 have hT:=T9 hr
 obtain⟨⟨m1,m2⟩,m3,m4⟩:=zH5 (T:=(D9 r:Int)) (a:=a) (p:=p) (by omega) hb hp
 have HW:=Hd (show whF (D9 r) a p=((p-a.b)*(D9 r:Int)).tdiv a.t from rfl)
 generalize whF (D9 r) a p=RES at*
 unfold U0 AX.val
 obtain⟨nx,ny,nz,size⟩:=v
 obtain⟨x,y,z,dx,dy,dz⟩:=r
 obtain⟨ab,at_,ac⟩:=a
 dsimp only at*
 generalize((D9 ⟨x,y,z,dx,dy,dz⟩:Nat):Int)=T at*
 obtain⟨hb1,hb2⟩:=hb
 obtain⟨hp1,hp2⟩:=hp
 go_enter Tryz.func137,Tryz.ntmps137
 go_upto_region 1 with(fail)
 obtain⟨hVb,e1,e2⟩:=zE8 w (.cells #[.int .i64 nx,.int .i64 ny,.int .i64 nz,.int .i64 size,.int .i64 x,.int .i64 dx,.int .i64 nx,.int .i64 y,.int .i64 dy,.int .i64 ny,.int .i64 z,.int .i64 dz,.int .i64 nz,.int .i64 T] 135) (.cells #[.int .i64 ab,.int .i64 at_,.int .i64 ac] 132)
 have HB:=Hd hVb
 generalize World.alloc (World.alloc w _) _=V at*
 have k0:V.cell? ⟨w.heap.size,13,none⟩=some (.int .i64 T):=Q0 _ _ _ _ _ _ e1
 have k1:V.cell? ⟨w.heap.size+1,0,none⟩=some (.int .i64 ab):=Q0 _ _ _ _ _ _ e2
 have k2:V.cell? ⟨w.heap.size+1,1,none⟩=some (.int .i64 at_):=Q0 _ _ _ _ _ _ e2
 have hc:(at_==0)=false:=beq_eq_false_iff_ne.2 ht
 clear hVb e1 e2 hT hr
 have m5: -43200000000≤((p-ab)*T).tdiv at_:=by rw[←HW.out];exact m3
 have m6:((p-ab)*T).tdiv at_≤43200000000:=by rw[←HW.out];exact m4
 generalize hpr:(p-ab)*T=pr at*
 generalize hqu:pr.tdiv at_=qu at*
 go_wp2
 obtain rfl:=HW.out
 go_ret
 exact⟨rfl,HB.out⟩
def plF(r:RY):Nat→Int
 |0=>r.x
 |1=>r.y
 |_=>r.z
def tnF(r:RY):Nat→Int
 |0=>r.dx
 |1=>r.dy
 |_=>r.dz
theorem jA2{r:RY}{j:Nat}(hj:j<3)(h:P4 (plF r j) (-100000) 100000=false):zE1 r=false:=by
 unfold zE1
 match j,hj with
 |0,_=>rw[show P4 r.x (-100000) 100000=false from h];rfl
 |1,_=>rw[show P4 r.y (-100000) 100000=false from h];simp
 |2,_=>rw[show P4 r.z (-100000) 100000=false from h];simp
theorem jA3{r:RY}{j:Nat}(hj:j<3)(h:P4 (tnF r j) (-60) 60=false):zE1 r=false:=by
 unfold zE1
 match j,hj with
 |0,_=>rw[show P4 r.dx (-60) 60=false from h];simp
 |1,_=>rw[show P4 r.dy (-60) 60=false from h];simp
 |2,_=>rw[show P4 r.dz (-60) 60=false from h];simp
theorem jA0{r:RY}(h1:∀j,j<3→P4 (plF r j) (-100000) 100000=true)(h2:∀j,j<3→P4 (tnF r j) (-60) 60=true):zE1 r=((r.dx !=0||r.dy !=0)||r.dz !=0):=by
 unfold zE1
 rw[show P4 r.x (-100000) 100000=true from h1 0 (by omega),show P4 r.y (-100000) 100000=true from h1 1 (by omega),show P4 r.z (-100000) 100000=true from h1 2 (by omega),show P4 r.dx (-60) 60=true from h2 0 (by omega),show P4 r.dy (-60) 60=true from h2 1 (by omega),show P4 r.dz (-60) 60=true from h2 2 (by omega)]
 simp
theorem xI2(a b c:Int)(W:World):(Instr.index 186 (.agg #[.int .i64 a,.int .i64 b,.int .i64 c]) (.int .i64 0)).run Tryz.prog W= .ok (.int .i64 a) W:=by kernel_rfl
theorem xI3(a b c:Int)(W:World):(Instr.index 186 (.agg #[.int .i64 a,.int .i64 b,.int .i64 c]) (.int .i64 1)).run Tryz.prog W= .ok (.int .i64 b) W:=by kernel_rfl
theorem xI4(a b c:Int)(W:World):(Instr.index 186 (.agg #[.int .i64 a,.int .i64 b,.int .i64 c]) (.int .i64 2)).run Tryz.prog W= .ok (.int .i64 c) W:=by kernel_rfl
theorem kG7(r:RY)(w:World):Calls Tryz.prog 51 #[r.val] w fun e w'=>e= .returned (.bool (zE1 r))∧Below w.heap.size w w':=by
 have HN1:=Hd (fun(j:Nat) (hj:j<3) (h:P4 (plF r j) (-100000) 100000=false)=>jA2 hj h)
 have HN2:=Hd (fun(j:Nat) (hj:j<3) (h:P4 (tnF r j) (-60) 60=false)=>jA3 hj h)
 have HEN:=Hd (fun(h1:∀j,j<3→P4 (plF r j) (-100000) 100000=true) (h2:∀j,j<3→P4 (tnF r j) (-60) 60=true)=>jA0 h1 h2)
 generalize zE1 r=RES at*
 unfold RY.val
 go_enter Tryz.func51,Tryz.ntmps51
 go_upto_region 1 with(fail)
 have HB:=Hd (B6 w (.cells #[.int .i64 r.x,.int .i64 r.y,.int .i64 r.z,.int .i64 r.dx,.int .i64 r.dy,.int .i64 r.dz] 77))
 have hn:=Q3 w (.cells #[.int .i64 r.x,.int .i64 r.y,.int .i64 r.z,.int .i64 r.dx,.int .i64 r.dy,.int .i64 r.dz] 77)
 generalize World.alloc w _=V at*
 obtain⟨k0,k1,k2,k3,k4,k5⟩:=cr6 hn
 clear hn
 have hix0:=xI2 r.x r.y r.z;have hix1:=xI3 r.x r.y r.z;have hix2:=xI4 r.x r.y r.z
 have hiy0:=xI2 r.dx r.dy r.dz
 have hiy1:=xI3 r.dx r.dy r.dz
 have hiy2:=xI4 r.dx r.dy r.dz
 go_wp2
 go_loopw [14] (fun s wr=>∃i:Nat,i≤3∧s= .int .i64 (i:Int)∧wr=V∧Hid (∀j,j<i→P4 (plF r j) (-100000) 100000=true)) (fun s _=>3-(intOf s).toNat)
 case atStart=>exact⟨0,by omega,rfl,rfl,Hd (fun j hj=>by omega)⟩
 case round=>
  obtain⟨i,hi,rfl,rfl,HA⟩:=hrel
  by_cases hlt:i<3
  ·have hcs:i=0∨i=1∨i=2:=by omega
   rcases hcs with rfl|rfl|rfl
   ·((generalize hb:P4 (plF r 0) (-100000) 100000=b at*;cases b;(have HE:=Hd (HN1.out 0 (by omega) hb);dsimp only[plF] at hb;go_wp2_with(go_at_call 53;refine(G6 _ _ _ _).mono ?_;rintro e w' ⟨rfl,rfl⟩;rw[hb]);go_ret;exact⟨J2 HE.out.symm,HB.out⟩);(have HA2:=Hd (fun j (hj:j<0+1)=>show P4 (plF r j) (-100000) 100000=true from(by by_cases e:j=0;(subst e;exact hb);exact HA.out j (by omega)));dsimp only[plF] at hb;go_wp2_with(go_at_call 53;refine(G6 _ _ _ _).mono ?_;rintro e w' ⟨rfl,rfl⟩;rw[hb]);go_roundw;(case rel=>first|exact⟨0+1,by omega,by go_num,trivial,HA2⟩|((repeat apply Z9);exact⟨⟨0+1,by omega,by go_num,trivial,HA2⟩,rfl⟩));(case measure=>(simp[intOf])))))
   ·((generalize hb:P4 (plF r 1) (-100000) 100000=b at*;cases b;(have HE:=Hd (HN1.out 1 (by omega) hb);dsimp only[plF] at hb;go_wp2_with(go_at_call 53;refine(G6 _ _ _ _).mono ?_;rintro e w' ⟨rfl,rfl⟩;rw[hb]);go_ret;exact⟨J2 HE.out.symm,HB.out⟩);(have HA2:=Hd (fun j (hj:j<1+1)=>show P4 (plF r j) (-100000) 100000=true from(by by_cases e:j=1;(subst e;exact hb);exact HA.out j (by omega)));dsimp only[plF] at hb;go_wp2_with(go_at_call 53;refine(G6 _ _ _ _).mono ?_;rintro e w' ⟨rfl,rfl⟩;rw[hb]);go_roundw;(case rel=>first|exact⟨1+1,by omega,by go_num,trivial,HA2⟩|((repeat apply Z9);exact⟨⟨1+1,by omega,by go_num,trivial,HA2⟩,rfl⟩));(case measure=>(simp[intOf])))))
   ·((generalize hb:P4 (plF r 2) (-100000) 100000=b at*;cases b;(have HE:=Hd (HN1.out 2 (by omega) hb);dsimp only[plF] at hb;go_wp2_with(go_at_call 53;refine(G6 _ _ _ _).mono ?_;rintro e w' ⟨rfl,rfl⟩;rw[hb]);go_ret;exact⟨J2 HE.out.symm,HB.out⟩);(have HA2:=Hd (fun j (hj:j<2+1)=>show P4 (plF r j) (-100000) 100000=true from(by by_cases e:j=2;(subst e;exact hb);exact HA.out j (by omega)));dsimp only[plF] at hb;go_wp2_with(go_at_call 53;refine(G6 _ _ _ _).mono ?_;rintro e w' ⟨rfl,rfl⟩;rw[hb]);go_roundw;(case rel=>first|exact⟨2+1,by omega,by go_num,trivial,HA2⟩|((repeat apply Z9);exact⟨⟨2+1,by omega,by go_num,trivial,HA2⟩,rfl⟩));(case measure=>(simp[intOf])))))
  ·obtain rfl:i=3:=by omega
   have HA1:=HA
   clear HA
   go_wp2
   go_loopw [28] (fun s wz=>∃i:Nat,i≤3∧s= .int .i64 (i:Int)∧wz=wr∧Hid (∀j,j<i→P4 (tnF r j) (-60) 60=true)) (fun s _=>3-(intOf s).toNat)
   case atStart=>exact⟨0,by omega,rfl,rfl,Hd (fun j hj=>by omega)⟩
   case round=>
    obtain⟨i,hi,rfl,rfl,HA⟩:=hrel
    by_cases hlt:i<3
    ·have hcs:i=0∨i=1∨i=2:=by omega
     rcases hcs with rfl|rfl|rfl
     ·((generalize hb:P4 (tnF r 0) (-60) 60=b at*;cases b;(have HE:=Hd (HN2.out 0 (by omega) hb);dsimp only[tnF] at hb;go_wp2_with(go_at_call 53;refine(G6 _ _ _ _).mono ?_;rintro e w' ⟨rfl,rfl⟩;rw[hb]);go_ret;exact⟨J2 HE.out.symm,HB.out⟩);(have HA2:=Hd (fun j (hj:j<0+1)=>show P4 (tnF r j) (-60) 60=true from(by by_cases e:j=0;(subst e;exact hb);exact HA.out j (by omega)));dsimp only[tnF] at hb;go_wp2_with(go_at_call 53;refine(G6 _ _ _ _).mono ?_;rintro e w' ⟨rfl,rfl⟩;rw[hb]);go_roundw;(case rel=>first|exact⟨0+1,by omega,by go_num,trivial,HA2⟩|((repeat apply Z9);exact⟨⟨0+1,by omega,by go_num,trivial,HA2⟩,rfl⟩));(case measure=>(simp[intOf])))))
     ·((generalize hb:P4 (tnF r 1) (-60) 60=b at*;cases b;(have HE:=Hd (HN2.out 1 (by omega) hb);dsimp only[tnF] at hb;go_wp2_with(go_at_call 53;refine(G6 _ _ _ _).mono ?_;rintro e w' ⟨rfl,rfl⟩;rw[hb]);go_ret;exact⟨J2 HE.out.symm,HB.out⟩);(have HA2:=Hd (fun j (hj:j<1+1)=>show P4 (tnF r j) (-60) 60=true from(by by_cases e:j=1;(subst e;exact hb);exact HA.out j (by omega)));dsimp only[tnF] at hb;go_wp2_with(go_at_call 53;refine(G6 _ _ _ _).mono ?_;rintro e w' ⟨rfl,rfl⟩;rw[hb]);go_roundw;(case rel=>first|exact⟨1+1,by omega,by go_num,trivial,HA2⟩|((repeat apply Z9);exact⟨⟨1+1,by omega,by go_num,trivial,HA2⟩,rfl⟩));(case measure=>(simp[intOf])))))
     ·((generalize hb:P4 (tnF r 2) (-60) 60=b at*;cases b;(have HE:=Hd (HN2.out 2 (by omega) hb);dsimp only[tnF] at hb;go_wp2_with(go_at_call 53;refine(G6 _ _ _ _).mono ?_;rintro e w' ⟨rfl,rfl⟩;rw[hb]);go_ret;exact⟨J2 HE.out.symm,HB.out⟩);(have HA2:=Hd (fun j (hj:j<2+1)=>show P4 (tnF r j) (-60) 60=true from(by by_cases e:j=2;(subst e;exact hb);exact HA.out j (by omega)));dsimp only[tnF] at hb;go_wp2_with(go_at_call 53;refine(G6 _ _ _ _).mono ?_;rintro e w' ⟨rfl,rfl⟩;rw[hb]);go_roundw;(case rel=>first|exact⟨2+1,by omega,by go_num,trivial,HA2⟩|((repeat apply Z9);exact⟨⟨2+1,by omega,by go_num,trivial,HA2⟩,rfl⟩));(case measure=>(simp[intOf])))))
    ·obtain rfl:i=3:=by omega
     have HE:=Hd (HEN.out HA1.out HA.out)
     clear HA HA1 HEN HN1 HN2
     cases h1:(r.dx !=0)
     ·cases h2:(r.dy !=0)
      ·cases h3:(r.dz !=0)
       ·rw[h1,h2,h3] at HE
        go_wp2
        go_ret
        exact⟨J2 HE.out.symm,HB.out⟩
       ·rw[h1,h2,h3] at HE
        go_wp2
        go_ret
        exact⟨J2 HE.out.symm,HB.out⟩
      ·rw[h1,h2] at HE
       simp only[Bool.or_true,Bool.true_or] at HE
       go_wp2
       go_ret
       exact⟨J2 HE.out.symm,HB.out⟩
     ·rw[h1] at HE
      simp only[Bool.or_true,Bool.true_or] at HE
      go_wp2
      go_ret
      exact⟨J2 HE.out.symm,HB.out⟩
theorem jO9{r:RY}{i:Nat}(h:i<3):tkN r (i+1)=tkS (tkN r i) (tnF r i):=by
 match i,h with
 |0,_=>rfl
 |1,_=>rfl
 |2,_=>rfl
theorem kQ0{r:RY}(h:r.Ok)(i:Nat): -60≤tnF r i∧tnF r i≤60:=by
 match i with
 |0=>exact h.dx
 |1=>exact h.dy
 |n+2=>exact h.dz
theorem kY1(d:Int):(if d< -d then-d else d)=((d.natAbs:Nat):Int):=by split<;>omega
theorem jC4(r:RY)(w:World)(hr:r.Ok):Calls Tryz.prog 95 #[r.val] w fun e w'=>e= .returned (.int .i64 (D9 r:Int))∧Below w.heap.size w w':=by
 have HR:=Hd hr
 have HE:=Hd (show D9 r=tkN r 3 from rfl)
 generalize D9 r=RES at*
 unfold RY.val
 clear hr
 go_enter Tryz.func95,Tryz.ntmps95
 go_upto_region 1 with(fail)
 have HB:=Hd (B6 w (.cells #[.int .i64 r.x,.int .i64 r.y,.int .i64 r.z,.int .i64 r.dx,.int .i64 r.dy,.int .i64 r.dz] 77))
 have hn:=Q3 w (.cells #[.int .i64 r.x,.int .i64 r.y,.int .i64 r.z,.int .i64 r.dx,.int .i64 r.dy,.int .i64 r.dz] 77)
 generalize World.alloc w _=V at*
 have k3:=Q0 _ _ 3 _ _ _ hn
 have k4:=Q0 _ _ 4 _ _ _ hn
 have k5:=Q0 _ _ 5 _ _ _ hn
 clear hn
 have hiy0:=xI2 r.dx r.dy r.dz
 have hiy1:=xI3 r.dx r.dy r.dz
 have hiy2:=xI4 r.dx r.dy r.dz
 have HX0:=Hd hiy0
 go_wp2
 go_loopw [3,15] (fun s3 s15 wr=>∃i:Nat,i≤3∧s15= .int .i64 (i:Int)∧s3= .int .i64 (tkN r i:Int)∧Hid (Below w.heap.size w wr)) (fun _ s15 _=>3-(intOf s15).toNat)
 case atStart=>exact⟨0,by omega,rfl,rfl,HB⟩
 case round=>
  obtain⟨i,hi,rfl,rfl,HB⟩:=hrel
  by_cases hlt:i<3
  ·have hlt':(i:Int)<3:=by omega
   have HSU:=Hd (jO9 (r:=r) hlt)
   obtain⟨hb1,hb2⟩:=kQ0 HR.out i
   have hix:∀W:World,(Instr.index 186 (.agg #[.int .i64 r.dx,.int .i64 r.dy,.int .i64 r.dz]) (.int .i64 (i:Int))).run Tryz.prog W= .ok (.int .i64 (tnF r i)) W:=by
    match i,hlt with
    |0,_=>exact xI2 _ _ _
    |1,_=>exact xI3 _ _ _
    |2,_=>exact xI4 _ _ _
   obtain⟨ho1,ho2⟩:=zT8 HR.out i
   clear hiy0 hiy1 hiy2 k3 k4 k5
   generalize tnF r i=d at*
   generalize tkN r i=out at*
   have HMX:=Hd (kY1 d)
   go_upto_region 6 with(fail)
   rw[HMX.out]
   have HSE:=Hd (show tkS out d=if d.natAbs=0 then out else out/Nat.gcd out d.natAbs*d.natAbs from rfl)
   have hD60:d.natAbs≤60:=by omega
   clear hix HX0
   generalize d.natAbs=D at*
   by_cases h0:D=0
   ·have HS2:=Hd (show tkN r (i+1)=out from by rw[HSU.out,HSE.out,if_pos h0])
    have h0':¬(0:Int)<(D:Int):=by omega
    go_wp2
    go_roundw
    case rel=>first|exact⟨i+1,by omega,by go_num,by rw[HS2.out],HB⟩|((repeat apply Z9);exact⟨⟨i+1,by omega,by go_num,by rw[HS2.out],HB⟩,rfl⟩)
    case measure=>simp[intOf];omega
   ·have HS2:=Hd (show tkN r (i+1)=out/Nat.gcd out D*D from by rw[HSU.out,HSE.out,if_neg h0])
    have h0':(0:Int)<(D:Int):=by omega
    have hg:Nat.gcd out D≠0:=by have:=Nat.gcd_pos_of_pos_left D (show 0<out by omega);omega
    have HBo:=HB
    clear HB HSU HSE HMX
    go_wp2
    go_loopw [6,7] (fun s6 s7 wx=>∃a b:Nat,s6= .int .i64 (a:Int)∧s7= .int .i64 (b:Int)∧Nat.gcd a b=Nat.gcd out D∧a≤216000∧b≤60∧Hid (Below w.heap.size w wx)) (fun _ s7 _=>(intOf s7).toNat)
    case atStart=>exact⟨out,D,rfl,rfl,rfl,ho2,hD60,HBo⟩
    case round=>
     obtain⟨a,b,rfl,rfl,hgc,ha,hb,HB⟩:=hrel
     clear HBo
     by_cases hb0:b=0
     ·subst hb0
      rw[Nat.gcd_zero_right] at hgc
      subst hgc
      generalize Nat.gcd out D=G at*
      have hq1:(out:Int).tdiv (G:Int)=((out/G:Nat):Int):=rfl
      have hq2:out/G≤216000:=Q5 (Nat.div_le_self _ _) ho2
      have hq3:out/G*D≤216000*60:=X8 hq2 hD60
      have hq4:((out/G:Nat):Int)*(D:Int)=((out/G*D:Nat):Int):=by rw[Int.natCast_mul]
      have hG:((G:Int)==0)=false:=beq_eq_false_iff_ne.2 (by omega)
      generalize out/G=q at*
      generalize q*D=o2 at*
      go_wp2
      go_roundw
      case rel=>first|exact⟨i+1,by omega,by go_num,by rw[HS2.out],HB⟩|((repeat apply Z9);exact⟨⟨i+1,by omega,by go_num,by rw[HS2.out],HB⟩,rfl⟩)
      case measure=>simp[intOf];omega
     ·have hb0':(0:Int)<(b:Int):=by omega
      have hbn:((b:Int)==0)=false:=beq_eq_false_iff_ne.2 (by omega)
      have hmo:(a:Int).tmod (b:Int)=((a%b:Nat):Int):=rfl
      have hlt2:a%b<b:=Nat.mod_lt _ (by omega)
      have hg2:Nat.gcd b (a%b)=Nat.gcd out D:=by rw[←hgc,Nat.gcd_comm b,←Nat.gcd_rec,Nat.gcd_comm]
      generalize a%b=m at*
      go_upto_region 9 with(fail)
      (refine J4 (wr.heap.size) (by kernel_rfl) (by kernel_rfl) ?_;(repeat(first|go_big_quiet_step(fail)|quiet_step(fail)));refine X4 (wqn ?_);intro xq)
      have HB2:=Hd (HB.out.trans ((K9.below xq).mono HB.out.size))
      generalize K9.val xq=wq at*
      go_wp2
      go_roundw
      case rel=>first|exact⟨b,m,rfl,rfl,hg2,by omega,by omega,HB2⟩|((repeat apply Z9);exact⟨⟨b,m,rfl,rfl,hg2,by omega,by omega,HB2⟩,rfl⟩)
      case measure=>simp[intOf];omega
  ·obtain rfl:i=3:=by omega
   have hlt':¬(3:Int)<3:=by omega
   rw[←HE.out]
   go_wp2
   go_ret
   exact⟨rfl,HB.out⟩
theorem zQ4:(Tryz.prog.info? 135).map (·.size)=some 14:=by kernel_rfl
theorem jV7:zP1 Tryz.prog 135:=xK6 (P:=Tryz.prog) (t:=135) Tryz.underlying135 rfl zQ4
theorem xU2:zY7 Tryz.prog 135:=zA0 (P:=Tryz.prog) (t:=135) zQ4
theorem jB5:(Tryz.prog.info? 133).map (·.size)=some 9:=by kernel_rfl
theorem jV6:xX1 Tryz.prog 133:=xM5 (P:=Tryz.prog) (t:=133) Tryz.underlying133 rfl jB5
theorem zE7(k:IntKind)(n:Int):(Value.int k n).oneCell'=true:=rfl
theorem zQ3(a:Option Addr)(n c:Nat):(Value.slice a n c).oneCell'=true:=rfl
attribute [go_sem↓] jV7 xU2 jV6
attribute [go_sem] qZ3 R0 zE7 zQ3 List.all_toArray List.all_cons List.all_nil
theorem M4{P:Program}{md:Region.Mode}{Q:Exit→Act→World→Prop}{S:World→Prop}{l:List Oper}{n f:Nat}{listed:Array Bool}{a:Act}{w:World}{v:Value}{oi:Oper}{X:Prop}(i:Nat)(q:X)(hi:l.toArray[i]?=some oi:=by rfl)(hB:TkB md l n listed i=true:=by kernel_rfl)(hQ:∀c a w,Q (.panic c) (a.put oi.dst v) w→Q (.panic c) a w:=by exact fun _ _ _ h=>h)(hy:YieldsIf P l.toArray S oi v a:=by(refine Or.inl ⟨by rfl,?_⟩;intro w' hSw;(try dsimp only at hSw);(obtain⟨a0,a1,a2,a3,b0,b1,b2,b3,b4,b5⟩:=hSw);(try simp only[hng]);go_simp;(try with_reducible rfl)))(hS:S w:=by assumption)(hx:X→M5 P md l.toArray Q S n (C0 P md l Q n) f (listed.setIfInBounds i true) (a.put oi.dst v) w:=by(intro qq;refine hnm ?_;exact qq)):M5 P md l.toArray Q S n (C0 P md l Q n) (f+1) listed a w:=L9 hi hB hQ hy hS (hx q)
def ThS(q:Nat)(v:VO)(r:RY)(w':World):Prop:=w'.cell? ⟨q,0,none⟩=some (.int .i64 v.nx)∧w'.cell? ⟨q,1,none⟩=some (.int .i64 v.ny)∧w'.cell? ⟨q,2,none⟩=some (.int .i64 v.nz)∧w'.cell? ⟨q,3,none⟩=some (.int .i64 v.size)∧w'.cell? ⟨q+1,0,none⟩=some (.int .i64 r.x)∧w'.cell? ⟨q+1,1,none⟩=some (.int .i64 r.y)∧w'.cell? ⟨q+1,2,none⟩=some (.int .i64 r.z)∧w'.cell? ⟨q+1,3,none⟩=some (.int .i64 r.dx)∧w'.cell? ⟨q+1,4,none⟩=some (.int .i64 r.dy)∧w'.cell? ⟨q+1,5,none⟩=some (.int .i64 r.dz)
theorem jO4{q:Nat}{v:VO}{r:RY}{W:World}(h0:W.heap[q]?=some (.cells #[.int .i64 v.nx,.int .i64 v.ny,.int .i64 v.nz,.int .i64 v.size] 75))(h1:W.heap[q+1]?=some (.cells #[.int .i64 r.x,.int .i64 r.y,.int .i64 r.z,.int .i64 r.dx,.int .i64 r.dy,.int .i64 r.dz] 77)):ThS q v r W:=
 ⟨Q0 _ _ _ _ _ _ h0,Q0 _ _ _ _ _ _ h0,Q0 _ _ _ _ _ _ h0,Q0 _ _ _ _ _ _ h0,Q0 _ _ _ _ _ _ h1,Q0 _ _ _ _ _ _ h1,Q0 _ _ _ _ _ _ h1,Q0 _ _ _ _ _ _ h1,Q0 _ _ _ _ _ _ h1,Q0 _ _ _ _ _ _ h1⟩
theorem jG8{W:World}{b j:Nat}{cur:Array Value}{t:TypeId}(h:W.heap[b]?=some (.cells cur t))(hj:j<cur.size):(W.cell? ⟨b,0+j,none⟩).isSome=true∧W.frozen? ⟨b,0+j,none⟩=false:=by
 rw[Nat.zero_add]
 refine⟨?_,Z3 _ _ _ _ _ h⟩
 rw[Q0 W b j cur _ _ h,Array.getElem?_eq_getElem hj]
 rfl
theorem zX7{B:Nat}{a:World}{b:Nat}(hB:B≤b):∀(vs:List Value) (o:Nat) (w:World),Below B a w→Below B a (w.setCells b o vs)
 |[],_,_,h=>h
 |v::r,o,w,h=>zX7 hB r (o+1) _ (h.setCell (p:=⟨b,o,none⟩) hB v)
theorem xE2(W:World)(o1 o2 o3:Obj):Below W.heap.size W (((W.alloc o1).alloc o2).alloc o3)∧(((W.alloc o1).alloc o2).alloc o3).heap[W.heap.size]?=some o1∧(((W.alloc o1).alloc o2).alloc o3).heap[W.heap.size+1]?=some o2∧(((W.alloc o1).alloc o2).alloc o3).heap[W.heap.size+1+1]?=some o3:=by
 obtain⟨h1,h2,h3⟩:=zE8 W o1 o2
 have a3:=B6 ((W.alloc o1).alloc o2) o3
 have z2:((W.alloc o1).alloc o2).heap.size=W.heap.size+1+1:=by simp
 refine⟨h1.trans (a3.mono h1.size),(a3.block _ (by omega)).trans h2,(a3.block _ (by omega)).trans h3,?_⟩
 have:=Q3 ((W.alloc o1).alloc o2) o3
 rwa [z2] at this
theorem xF0(v:VO)(r:RY)(w:World)(hr:r.Ok):Calls Tryz.prog 55 #[v.val,r.val] w fun e w'=>e= .returned (U0 v r)∧Below w.heap.size w w':=by
 have HTK:=Hd (fun(W:World)=>jC4 r W hr)
 unfold U0
 unfold RY.val at HTK
 unfold VO.val RY.val
 clear hr
 generalize D9 r=T at*
 go_enter Tryz.func55,Tryz.ntmps55
 go_upto_region 1 with(fail)
 obtain⟨hVb,e1,e2,e3⟩:=xE2 w (.cells #[.int .i64 v.nx,.int .i64 v.ny,.int .i64 v.nz,.int .i64 v.size] 75) (.cells #[.int .i64 r.x,.int .i64 r.y,.int .i64 r.z,.int .i64 r.dx,.int .i64 r.dy,.int .i64 r.dz] 77) (.cells #[.int .i64 0,.int .i64 0,.int .i64 0,.int .i64 0,.int .i64 0,.int .i64 0,.int .i64 0,.int .i64 0,.int .i64 0,.int .i64 0,.int .i64 0,.int .i64 0,.int .i64 0,.int .i64 0] 135)
 have HB:=Hd hVb
 have HR0:=Hd e1
 have HR1:=Hd e2
 have HR2:=Hd e3
 clear hVb e1 e2 e3
 generalize World.alloc (World.alloc (World.alloc w _) _) _=V at*
 refine wp_region_any (by kernel_rfl) ?_
 change wpAny _ _ _ _ _ _ _ (World.drew V)
 have HB:=Hd (show Below w.heap.size w V.drew from HB.out.drew)
 have HR0:=Hd (show V.drew.heap[w.heap.size]?=_ from HR0.out)
 have HR1:=Hd (show V.drew.heap[w.heap.size+1]?=_ from HR1.out)
 have HR2:=Hd (show V.drew.heap[w.heap.size+1+1]?=_ from HR2.out)
 generalize World.drew V=Vd at*
 refine B1 25 25 (ThS w.heap.size v r) (by kernel_rfl) (jO4 HR0.out HR1.out) (fun hS=> ?_)
 refine M4 0 ?_
 refine M4 1 ?_
 refine M4 2 ?_
 refine M4 3 ?_
 refine M4 4 ?_
 refine M4 5 ?_
 refine M4 6 ?_
 refine M4 7 ?_
 refine M4 8 ?_
 refine M4 9 ?_
 refine M4 10 ?_
 refine M4 11 ?_
 refine M4 12 ?_
 refine M4 13 ?_
 refine M4 14 ?_
 refine M4 15 ?_
 refine M4 16 ?_
 refine M4 17 ?_
 refine M4 18 ?_
 refine M4 19 ?_
 refine M4 20 ?_
 refine M4 21 ?_
 refine M4 22 ?_
 refine M4 23 ?_
 refine V7 24 ?_
 refine V8 rfl (fun K hK=> ?_)
 (try simp only[hng])
 go_simp
 refine(HTK.out _).mono ?_
 rintro e W2 ⟨rfl,hb⟩
 dsimp only
 have HS0:=Hd (Y0 HR0.out hb)
 have HS1:=Hd (Y0 HR1.out hb)
 have HS2:=Hd (Y0 HR2.out hb)
 have HBB:=Hd (HB.out.trans (hb.mono HB.out.size))
 refine hK.out _ _ (jO4 HS0.out HS1.out) (fun hS=> ?_)
 clear hK K hb HR0 HR1 HR2
 refine hnm ?_
 change C0 _ _ _ _ _ _ _ _
 refine⟨by kernel_rfl,?_⟩
 simp only[X7,List.drop_zero]
 have z0:W2.cell? ⟨w.heap.size+1+1,0,none⟩=some (.int .i64 0):=Q0 _ _ _ _ _ _ HS2.out
 have f0:W2.frozen? ⟨w.heap.size+1+1,0,none⟩=false:=Z3 _ _ _ _ _ HS2.out
 have z1:W2.cell? ⟨w.heap.size+1+1,1,none⟩=some (.int .i64 0):=Q0 _ _ _ _ _ _ HS2.out
 have f1:W2.frozen? ⟨w.heap.size+1+1,1,none⟩=false:=Z3 _ _ _ _ _ HS2.out
 have z2:W2.cell? ⟨w.heap.size+1+1,2,none⟩=some (.int .i64 0):=Q0 _ _ _ _ _ _ HS2.out
 have f2:W2.frozen? ⟨w.heap.size+1+1,2,none⟩=false:=Z3 _ _ _ _ _ HS2.out
 have z3:W2.cell? ⟨w.heap.size+1+1,3,none⟩=some (.int .i64 0):=Q0 _ _ _ _ _ _ HS2.out
 have f3:W2.frozen? ⟨w.heap.size+1+1,3,none⟩=false:=Z3 _ _ _ _ _ HS2.out
 have z4:W2.cell? ⟨w.heap.size+1+1,4,none⟩=some (.int .i64 0):=Q0 _ _ _ _ _ _ HS2.out
 have f4:W2.frozen? ⟨w.heap.size+1+1,4,none⟩=false:=Z3 _ _ _ _ _ HS2.out
 have z5:W2.cell? ⟨w.heap.size+1+1,5,none⟩=some (.int .i64 0):=Q0 _ _ _ _ _ _ HS2.out
 have f5:W2.frozen? ⟨w.heap.size+1+1,5,none⟩=false:=Z3 _ _ _ _ _ HS2.out
 have z6:W2.cell? ⟨w.heap.size+1+1,6,none⟩=some (.int .i64 0):=Q0 _ _ _ _ _ _ HS2.out
 have f6:W2.frozen? ⟨w.heap.size+1+1,6,none⟩=false:=Z3 _ _ _ _ _ HS2.out
 have z7:W2.cell? ⟨w.heap.size+1+1,7,none⟩=some (.int .i64 0):=Q0 _ _ _ _ _ _ HS2.out
 have f7:W2.frozen? ⟨w.heap.size+1+1,7,none⟩=false:=Z3 _ _ _ _ _ HS2.out
 have z8:W2.cell? ⟨w.heap.size+1+1,8,none⟩=some (.int .i64 0):=Q0 _ _ _ _ _ _ HS2.out
 have f8:W2.frozen? ⟨w.heap.size+1+1,8,none⟩=false:=Z3 _ _ _ _ _ HS2.out
 have z9:W2.cell? ⟨w.heap.size+1+1,9,none⟩=some (.int .i64 0):=Q0 _ _ _ _ _ _ HS2.out
 have f9:W2.frozen? ⟨w.heap.size+1+1,9,none⟩=false:=Z3 _ _ _ _ _ HS2.out
 have z10:W2.cell? ⟨w.heap.size+1+1,10,none⟩=some (.int .i64 0):=Q0 _ _ _ _ _ _ HS2.out
 have f10:W2.frozen? ⟨w.heap.size+1+1,10,none⟩=false:=Z3 _ _ _ _ _ HS2.out
 have z11:W2.cell? ⟨w.heap.size+1+1,11,none⟩=some (.int .i64 0):=Q0 _ _ _ _ _ _ HS2.out
 have f11:W2.frozen? ⟨w.heap.size+1+1,11,none⟩=false:=Z3 _ _ _ _ _ HS2.out
 have z12:W2.cell? ⟨w.heap.size+1+1,12,none⟩=some (.int .i64 0):=Q0 _ _ _ _ _ _ HS2.out
 have f12:W2.frozen? ⟨w.heap.size+1+1,12,none⟩=false:=Z3 _ _ _ _ _ HS2.out
 have z13:W2.cell? ⟨w.heap.size+1+1,13,none⟩=some (.int .i64 0):=Q0 _ _ _ _ _ _ HS2.out
 have f13:W2.frozen? ⟨w.heap.size+1+1,13,none⟩=false:=Z3 _ _ _ _ _ HS2.out
 go_wp2
 refine Z2 (xQ2 rfl _ _ (w.heap.size+1+1) [.int .i64 v.nx,.int .i64 v.ny,.int .i64 v.nz,.int .i64 v.size,.int .i64 r.x,.int .i64 r.dx,.int .i64 v.nx,.int .i64 r.y,.int .i64 r.dy,.int .i64 v.ny,.int .i64 r.z,.int .i64 r.dz,.int .i64 v.nz,.int .i64 (T:Int)] rfl ?hr Tryz.underlying135 rfl zQ4) rfl ⟨rfl,?_⟩
 case hr=>exact World.rangeAt_setCells_same _ _ 0 _ (fun j hj=>jG8 HS2.out hj)
 exact zX7 (by omega) _ _ _ HBB.out
end
end Go.Proofs.YtmncaipgefbalaaGreatDoor
