/- Part of the proof of the claim. -/
import Derived.Test.YtmncaipgefbalaaGreatDoorQaa
import Derived.Deep.MidRow
import Derived.StillTail
set_option maxRecDepth 100000
set_option maxHeartbeats 8000000
set_option linter.unusedVariables false
set_option linter.unusedSimpArgs false
namespace Go.Proofs.YtmncaipgefbalaaGreatDoor
section
def jB2(d:Nat→Int)(i:Nat)(x:Int):Nat→Int:=fun j=>if j=i then x else d j
def zQ1(d:Nat→Int)(a b:Nat)(len:Int):Nat→Int:=if d a+len<d b then jB2 d b (d a+len) else d
def S3(d:Nat→Int)(l:List WY):Nat→Int:=l.foldl (fun d e=>zQ1 d e.a e.b e.len) d
def qZ1:(Nat→Int)→List WY→Bool
 |_,[]=>false
 |d,e::l=>decide (d e.a+e.len<d e.b)||qZ1 (zQ1 d e.a e.b e.len) l
theorem xT2(d:Nat→Int)(l:List WY)(e:WY):S3 d (l++[e])=zQ1 (S3 d l) e.a e.b e.len:=by simp[S3,List.foldl_append]
theorem zG4:∀(l:List WY) (d:Nat→Int) (e:WY),qZ1 d (l++[e])=(qZ1 d l||decide (S3 d l e.a+e.len<S3 d l e.b))
 |[],d,e=>by simp[qZ1,S3];rfl
 |f::l,d,e=>by
  rw[List.cons_append,qZ1,zG4 l _ e,qZ1,Bool.or_assoc]
  rfl
def BdT(U:Int)(d:Nat→Int):Prop:=∀x,-(U*1000000000)≤d x∧d x≤U*1000000000
theorem BdT.mono{U V:Int}{d:Nat→Int}(h:BdT U d)(hv:U≤V):BdT V d:=fun x=>by have:=h x;omega
theorem kB0{U:Int}{d:Nat→Int}{a b:Nat}{len:Int}(h:BdT U d)(hl: -1000000000≤len∧len≤1000000000)(hU:0≤U):BdT (U+1) (zQ1 d a b len):=by
 intro x
 have h1:=h a
 have h2:=h x
 unfold zQ1
 split
 ·unfold jB2
  split<;>omega
 ·omega
theorem zE4:∀(l:List WY) {U:Int} {d:Nat→Int},BdT U d→WOk l→0≤U→BdT (U+l.length) (S3 d l)
 |[],U,d,h,_,_=>by(show BdT (U+((0:Nat):Int)) d);simpa using h
 |e::l,U,d,h,hl,hU=>by
  have h1:=zE4 l (kB0 (a:=e.a) (b:=e.b) h (hl e (by simp)) hU) (fun f hf=>hl f (by simp[hf])) (by omega)
  show BdT _ (S3 (zQ1 d e.a e.b e.len) l)
  simp only[List.length_cons]
  exact h1.mono (by omega)
theorem jG5{l p:List WY}{U:Int}{d:Nat→Int}(h:BdT U d)(hU:0≤U)(hl:WOk l)(hp:p<+:l):BdT (U+l.length) (S3 d p):=by
 obtain⟨q,rfl⟩:=hp
 refine(zE4 p h (fun e he=>hl e (by simp[he])) hU).mono ?_
 simp only[Z6]
 omega
def qJ1(N:Nat)(d:Nat→Int)(x:Nat):Option Int:=if x<N then some (d x) else none
def WY.et(e:WY):EG:=⟨e.a,e.b,e.len⟩
theorem kB1{N:Nat}{d:Nat→Int}{e:WY}(ha:e.a<N)(hb:e.b<N):decide (d e.a+e.len<d e.b)=A9 (qJ1 N d) e.et∧qJ1 N (zQ1 d e.a e.b e.len)=relax (qJ1 N d) e.et:=by
 have h1:decide (d e.a+e.len<d e.b)=A9 (qJ1 N d) e.et:=by
  unfold A9
  simp[qJ1,WY.et,ha,hb]
  rfl
 refine⟨h1,?_⟩
 unfold relax
 rw[←h1]
 unfold zQ1
 by_cases hc:d e.a+e.len<d e.b
 ·rw[if_pos hc,if_pos (Z0 hc)]
  funext x
  by_cases hx:x=e.b
  ·simp[qJ1,WY.et,ha,hb,hx,jB2]
  ·simp[qJ1,WY.et,hx,jB2]
 ·rw[if_neg hc,if_neg (by simpa using hc)]
theorem zE5{N:Nat}:∀(l:List WY) (d:Nat→Int),(∀e∈l,e.a<N∧e.b<N)→qJ1 N (S3 d l)=relaxL (qJ1 N d) (l.map WY.et)∧qZ1 d l=chg (qJ1 N d) (l.map WY.et)
 |[],d,_=>⟨rfl,rfl⟩
 |e::l,d,h=>by
  obtain⟨h1,h2⟩:=kB1 (d:=d) (h e (by simp)).1 (h e (by simp)).2
  obtain⟨h3,h4⟩:=zE5 l (zQ1 d e.a e.b e.len) (fun f hf=>h f (by simp[hf]))
  refine⟨?_,?_⟩
  ·show qJ1 N (S3 (zQ1 d e.a e.b e.len) l)=relaxL (relax _ e.et) _
   rw[h3,h2]
  ·rw[qZ1,h4,List.map_cons,chg,h1,h2]
structure qZ4(l:List WY)(N r:Nat)(d:Nat→Int):Prop where
 bd:BdT ((l.length:Int)*r) d
 made:zJ2 (l.map WY.et) (fun x=>x<N) (qJ1 N d)
 done:zV3 (l.map WY.et) (fun x=>x<N) r (qJ1 N d)
theorem qZ4.start(l:List WY)(N:Nat):qZ4 l N 0 (fun _=>0):=by
 refine⟨fun x=>by simp,fun x c h=> ?_,zV3.zero fun x hx=>⟨0,by simp[qJ1,hx],Int.le_refl _⟩⟩
 unfold qJ1 at h
 split at h
 ·rename_i hx
  simp at h
  subst h
  exact⟨_,.nil x hx⟩
 ·simp at h
theorem qZ4.next{l:List WY}{N r:Nat}{d:Nat→Int}(h:qZ4 l N r d)(hl:WOk l)(hN:∀e∈l,e.a<N∧e.b<N):qZ4 l N (r+1) (S3 d l):=by
 obtain⟨h1,h2⟩:=zE5 l d hN
 refine⟨?_,?_,?_⟩
 ·refine(zE4 l h.bd hl (Int.mul_nonneg (by omega) (by omega))).mono ?_
  rw[Int.natCast_add,Int.mul_add];simp
 ·rw[h1];exact zJ2.relaxL _ h.made (fun e he=>he)
 ·rw[h1];exact h.done.round
theorem qZ4.few{l:List WY}{N r:Nat}{d:Nat→Int}{v:Nat→Int}(h:qZ4 l N r d)(hN:∀e∈l,e.a<N∧e.b<N)(hv:∀e∈l,v e.b-v e.a≤e.len)(hc:qZ1 d l=true):r+1<N:=by
 rw[(zE5 l d hN).2] at hc
 refine Decidable.byContradiction fun hx=> ?_
 have hK:zV7 (l.map WY.et) v:=by
  intro e he
  obtain⟨f,hf,rfl⟩:=List.mem_map.1 he
  exact hv f hf
 have hE:∀e∈l.map WY.et,e.b<N:=by
  intro e he
  obtain⟨f,hf,rfl⟩:=List.mem_map.1 he
  exact(hN f hf).2
 rw[qI9 _ _ (h.done.still hK hE (fun x hx=>hx) h.made (by omega))] at hc
 cases hc
structure TI where
 frm:Int
 tow:Int
 lo:Int
 hi:Int
def jO6(t:TI):Bool:=(t.lo== -1000000000000)||J1 t.lo (-1000000000) 1000000000
def jO5(t:TI):Bool:=(t.hi==1000000000000)||J1 t.hi (-1000000000) 1000000000
def A1(N:Int)(t:TI):Bool:=J1 t.frm 0 (N-1)&&(J1 t.tow 0 (N-1)&&(!(t.frm==t.tow)&&(jO6 t&&(jO5 t&&decide (t.lo≤t.hi)))))
def qG7(N:Int)(m:Nat)(ts:Nat→TI):Bool:=M1 m (fun i=>A1 N (ts i))&&(J1 N 1 40&&decide ((m:Int)≤200))
def qY1(t:TI)(vs:Nat→Int):Bool:=((t.lo== -1000000000000)||decide (t.lo≤vs t.tow.toNat-vs t.frm.toNat))&&((t.hi==1000000000000)||decide (vs t.tow.toNat-vs t.frm.toNat≤t.hi))
def T1(n m:Nat)(ts:Nat→TI)(k:Nat)(vs:Nat→Int):Bool:=(k==n)&&((vs 0==0)&&(M1 k (fun i=>J1 (vs i) (-1000000000000) 1000000000000)&&M1 m (fun i=>qY1 (ts i) vs)))
structure SP where
 tie:Int
 bk:Bool
 f:Int
 t:Int
 len:Int
def qQ5(i:Int)(t:TI):SP:=⟨i,false,t.frm,t.tow,t.hi⟩
def qE2(i:Int)(t:TI):SP:=⟨i,true,t.tow,t.frm,-t.lo⟩
def qY7(i:Int)(t:TI):List SP:=if t.hi=1000000000000 then [] else [qQ5 i t]
def qU3(i:Int)(t:TI):List SP:=if t.lo= -1000000000000 then [] else [qE2 i t]
def K8(ts:Nat→TI)(m:Nat):List SP:=(List.range m).flatMap fun(i:Nat)=>qY7 (i:Int) (ts i)++qU3 (i:Int) (ts i)
def SP.val(s:SP):Value:= .agg #[.int .i64 s.tie,.bool s.bk,.int .i64 s.f,.int .i64 s.t,.int .i64 s.len]
def SP.fr(s:SP):WY:=⟨s.f.toNat,s.t.toNat,s.len⟩
def SP.tw(s:SP):WY:=⟨s.t.toNat,s.f.toNat,s.len⟩
structure kW3(N:Nat)(s:SP):Prop where
 tie:0≤s.tie∧s.tie≤200
 f:0≤s.f∧s.f<N
 t:0≤s.t∧s.t<N
 len: -1000000000≤s.len∧s.len≤1000000000
theorem U9{N:Int}{m:Nat}{ts:Nat→TI}:qG7 N m ts=true↔(∀i,i<m→A1 N (ts i)=true)∧(1≤N∧N≤40)∧m≤200:=by
 simp only[qG7,Q8,Y9,J8,Z8]
 constructor
 ·rintro⟨h1,h2,h3⟩;exact⟨h1,h2,by omega⟩
 ·rintro⟨h1,h2,h3⟩;exact⟨h1,h2,by omega⟩
theorem qN8{N:Int}{t:TI}:A1 N t=true↔(0≤t.frm∧t.frm≤N-1)∧(0≤t.tow∧t.tow≤N-1)∧t.frm≠t.tow∧(t.lo= -1000000000000∨(-1000000000≤t.lo∧t.lo≤1000000000))∧(t.hi=1000000000000∨(-1000000000≤t.hi∧t.hi≤1000000000))∧t.lo≤t.hi:=by
 simp only[A1,jO6,jO5,Q8,Bool.or_eq_true,J8,Z8,beq_iff_eq,Bool.not_eq_true',beq_eq_false_iff_ne]
theorem T8{n m:Nat}{ts:Nat→TI}(h:qG7 n m ts=true):∀s∈K8 ts m,kW3 n s:=by
 intro s hs
 obtain⟨h1,h2,h3⟩:=U9.1 h
 obtain⟨i,hi,hs⟩:=List.mem_flatMap.1 hs
 have hi':=List.mem_range.1 hi
 obtain⟨a1,a2,a3,a4,a5,a6⟩:=qN8.1 (h1 i hi')
 rcases List.mem_append.1 hs with hs|hs
 ·unfold qY7 at hs
  split at hs
  ·cases hs
  ·rename_i hne
   obtain rfl:s=qQ5 i (ts i):=by simpa using hs
   refine⟨?_,?_,?_,?_⟩<;>(simp only[qQ5];omega)
 ·unfold qU3 at hs
  split at hs
  ·cases hs
  ·rename_i hne
   obtain rfl:s=qE2 i (ts i):=by simpa using hs
   refine⟨?_,?_,?_,?_⟩<;>(simp only[qE2];omega)
theorem qS8(ts:Nat→TI):∀m,(K8 ts m).length≤2*m
 |0=>by simp[K8]
 |m+1=>by
  have h1:=qS8 ts m
  unfold K8 at h1 ⊢
  rw[List.range_succ,List.flatMap_append,Z6]
  have h2:(qY7 (m:Int) (ts m)++qU3 (m:Int) (ts m)).length≤2:=by
   rw[Z6]
   unfold qY7 qU3
   split<;>split<;>simp
  simp only[List.flatMap_cons,List.flatMap_nil,List.append_nil]
  omega
theorem zX9{n m:Nat}{ts:Nat→TI}{vs:Nat→Int}(h:T1 n m ts n vs=true):∀s∈K8 ts m,vs s.t.toNat-vs s.f.toNat≤s.len:=by
 intro s hs
 simp only[T1,Q8,Y9] at h
 obtain⟨i,hi,hs⟩:=List.mem_flatMap.1 hs
 have hi':=List.mem_range.1 hi
 have hk:=h.2.2.2 i hi'
 simp only[qY1,Q8,Bool.or_eq_true,Z8,beq_iff_eq] at hk
 rcases List.mem_append.1 hs with hs|hs
 ·unfold qY7 at hs
  split at hs
  ·cases hs
  ·rename_i hne
   obtain rfl:s=qQ5 i (ts i):=by simpa using hs
   simp only[qQ5];omega
 ·unfold qU3 at hs
  split at hs
  ·cases hs
  ·rename_i hne
   obtain rfl:s=qE2 i (ts i):=by simpa using hs
   simp only[qE2];omega
theorem qA9{n m:Nat}{ts:Nat→TI}(h:qG7 n m ts=true):WOk ((K8 ts m).map SP.fr)∧(∀e∈(K8 ts m).map SP.fr,e.a<n∧e.b<n)∧((K8 ts m).map SP.fr).length≤2*m:=by
 refine⟨fun e he=> ?_,fun e he=> ?_,by rw[List.length_map];exact qS8 ts m⟩
 ·obtain⟨s,hs,rfl⟩:=List.mem_map.1 he
  exact(T8 h s hs).len
 ·obtain⟨s,hs,rfl⟩:=List.mem_map.1 he
  have h1:=(T8 h s hs).f
  have h2:=(T8 h s hs).t
  simp only[SP.fr]
  omega
theorem zF6{n m:Nat}{ts:Nat→TI}(h:qG7 n m ts=true):WOk ((K8 ts m).map SP.tw)∧(∀e∈(K8 ts m).map SP.tw,e.a<n∧e.b<n)∧((K8 ts m).map SP.tw).length≤2*m:=by
 refine⟨fun e he=> ?_,fun e he=> ?_,by rw[List.length_map];exact qS8 ts m⟩
 ·obtain⟨s,hs,rfl⟩:=List.mem_map.1 he
  exact(T8 h s hs).len
 ·obtain⟨s,hs,rfl⟩:=List.mem_map.1 he
  have h1:=(T8 h s hs).f
  have h2:=(T8 h s hs).t
  simp only[SP.tw]
  omega
theorem zA9{n m:Nat}{ts:Nat→TI}{vs:Nat→Int}(h:T1 n m ts n vs=true):∀e∈(K8 ts m).map SP.fr,vs e.b-vs e.a≤e.len:=by
 intro e he
 obtain⟨s,hs,rfl⟩:=List.mem_map.1 he
 exact zX9 h s hs
theorem xI6{n m:Nat}{ts:Nat→TI}{vs:Nat→Int}(h:T1 n m ts n vs=true):∀e∈(K8 ts m).map SP.tw,-vs e.b- -vs e.a≤e.len:=by
 intro e he
 obtain⟨s,hs,rfl⟩:=List.mem_map.1 he
 have:=zX9 h s hs
 simp only[SP.tw]
 omega
end
section
open Go.RowKit
def M9:Value→Addr| .pointer (some a)=>a|_=>⟨0,0,none⟩
theorem xH3(a:Addr):M9 (.pointer (some a))=a:=rfl
def qG3:Value→Array Value| .agg cs=>cs|_=> #[]
theorem jX1(cs:Array Value):qG3 (.agg cs)=cs:=rfl
def qI0(w:World)(v:Value):Prop:=(w.cell? ⟨(M9 v).block,(M9 v).off,none⟩).isSome=true
def qI(w:World)(v:Value)(j:Nat):Prop:=(w.cell? ⟨(M9 v).block,(M9 v).off+j,none⟩).isSome=true
def qF0(w:World)(v:Value):Prop:=qI0 w v∧w.frozen? ⟨(M9 v).block,(M9 v).off,none⟩=false
def qF(w:World)(v:Value)(j:Nat):Prop:=qI w v j∧w.frozen? ⟨(M9 v).block,(M9 v).off+j,none⟩=false
def qV0(w:World)(v:Value):Value:=(w.cell? ⟨(M9 v).block,(M9 v).off,none⟩).getD undef
def qV(w:World)(v:Value)(j:Nat):Value:=(w.cell? ⟨(M9 v).block,(M9 v).off+j,none⟩).getD undef
attribute [go_sem] xH3 jX1 qI0 qI qF0 qF qV0 qV
section
variable {P:Program}{t:TypeId}
theorem qV7{d:TypeDesc}(n:Nat)(hu:P.underlying t=some d)(hd:d.isRow=true)(hi:(P.info? t).map (·.size)=some n)(ρ:Operand→Value)(x:Operand)(o:Oper)(ho:o.op= .load t x)(w:World)(b f:Nat)
  (hx:ρ x= .pointer (some ⟨b,f,none⟩)) (hc:∀j,j<n→(w.cell? ⟨b,f+j,none⟩).isSome=true):
  (execOp ρ o).run P w= .ok (.value (.agg ((List.range n).map fun j=>(w.cell? ⟨b,f+j,none⟩).getD undef).toArray)) w:=by
 have hr:w.rangeAt b f ((List.range n).map fun j=>(w.cell? ⟨b,f+j,none⟩).getD undef):=by
  intro j v hv
  rw[List.getElem?_map] at hv
  by_cases hj:j<n
  ·rw[List.getElem?_range hj] at hv
   obtain⟨u,hu⟩:=Option.isSome_iff_exists.1 (hc j hj)
   simp only[Option.map_some,hu,Option.getD_some,Option.some.injEq] at hv
   rw[hu,hv]
  ·rw[List.getElem?_eq_none (by simp;omega)] at hv
   cases hv
 unfold execOp
 simp only[ho,hx,Sem.run_bind,run_loadAt_mid w b f t _ d hr hu hd (by simpa using hi),Result.andThen_ok,Sem.run_pure]
theorem qC4(n:Nat)(hi:(P.info? t).map (·.size)=some n)(ρ:Operand→Value)(x y:Operand)(o:Oper)(ho:o.op= .store t x y)(w:World)(b f:Nat)(cs:Array Value)
  (hx:ρ x= .pointer (some ⟨b,f,none⟩)) (hy:ρ y= .agg cs) (hn:cs.size=n) (h1:cs.all (·.oneCell')=true) (hc:w.there b f n):
  (execOp ρ o).run P w= .ok .skip (w.setCells b f cs.toList):=by
 unfold execOp
 simp only[ho,hx,hy,Sem.run_bind,run_storeAt_mid w b f t cs (by rw[hn];exact hc) (by rw[hn];exact hi) h1,Result.andThen_ok,Sem.run_pure]
end
theorem qK1(w:World)(t:TypeId):∀(vs:List Value) (o:Nat) (zs:Array Value),o+vs.length=zs.size→(w.alloc (.cells zs t)).setCells w.heap.size o vs=w.alloc (.cells (zs.extract 0 o++vs.toArray) t)
 |[],o,zs,h=>by
  have:zs.extract 0 o=zs:=by simp at h;subst h;simp
  simp[World.setCells,this]
 |v::r,o,zs,h=>by
  simp only[List.length_cons] at h
  rw[World.setCells,World.setCell_alloc_at _ _ _ _ _ rfl,qK1 w t r (o+1) _ (by simp;omega)]
  congr 2
  apply Array.ext
  ·simp;omega
  ·intro i h1 h2
   simp only[Array.getElem_append,Array.getElem_extract,Array.size_extract,Array.size_setIfInBounds]
   grind
theorem qZ3{w:World}{t:TypeId}{zs:Array Value}{vs:List Value}{b:Nat}(hb:b=w.heap.size)(h:vs.length=zs.size):(w.alloc (.cells zs t)).setCells b 0 vs=w.alloc (.cells vs.toArray t):=by
 subst hb;rw[qK1 w t vs 0 zs (by omega)];simp
theorem R0(b:Nat)(o2:Obj):∀(vs:List Value) (o:Nat) (w:World),b<w.heap.size→(w.alloc o2).setCells b o vs=(w.setCells b o vs).alloc o2
 |[],_,_,_=>rfl
 |v::r,o,w,h=>by
  have e:(w.alloc o2).setCell ⟨b,o,none⟩ v=(w.setCell ⟨b,o,none⟩ v).alloc o2:=by
   simp only[World.alloc,World.setCell]
   congr 1
   apply Array.ext
   ·simp
   ·intro i h1 h2
    simp only[Array.getElem_modify,Array.getElem_push,Array.size_modify]
    grind
  rw[World.setCells,World.setCells,e,R0 b o2 r (o+1) _ (by simpa [World.setCell] using h)]
abbrev xX1(P:Program)(t:TypeId):Prop:=∀(ρ:Operand→Value) (x:Operand) (dst:Option Tmp) (ty:TypeId) (pos:String) (after:Array Edge) (guard:Option (Nat×Bool)) (w:World),ρ x= .pointer (some ⟨(M9 (ρ x)).block,(M9 (ρ x)).off,none⟩)→(qI0 w (ρ x)∧qI w (ρ x) 1∧qI w (ρ x) 2∧qI w (ρ x) 3∧qI w (ρ x) 4∧qI w (ρ x) 5∧qI w (ρ x) 6∧qI w (ρ x) 7∧qI w (ρ x) 8)→Sem.run P (execOp ρ ⟨dst,.load t x,ty,pos,after,guard⟩) w= .ok (.value (.agg #[qV0 w (ρ x),qV w (ρ x) 1,qV w (ρ x) 2,qV w (ρ x) 3,qV w (ρ x) 4,qV w (ρ x) 5,qV w (ρ x) 6,qV w (ρ x) 7,qV w (ρ x) 8])) w
theorem xM5{P:Program}{t:TypeId}{d:TypeDesc}(hu:P.underlying t=some d)(hd:d.isRow=true)(hi:(P.info? t).map (·.size)=some 9):xX1 P t:=fun ρ x dst ty pos after guard w hx ⟨h0,h1,h2,h3,h4,h5,h6,h7,h8⟩=>
 qV7 9 hu hd hi ρ x _ rfl w _ _ hx (fun j hj=>by match j,hj with|0,_=>exact h0|1,_=>exact h1|2,_=>exact h2|3,_=>exact h3|4,_=>exact h4|5,_=>exact h5|6,_=>exact h6|7,_=>exact h7|8,_=>exact h8|k+9,h=>omega)
abbrev zP1(P:Program)(t:TypeId):Prop:=∀(ρ:Operand→Value) (x:Operand) (dst:Option Tmp) (ty:TypeId) (pos:String) (after:Array Edge) (guard:Option (Nat×Bool)) (w:World),ρ x= .pointer (some ⟨(M9 (ρ x)).block,(M9 (ρ x)).off,none⟩)→(qI0 w (ρ x)∧qI w (ρ x) 1∧qI w (ρ x) 2∧qI w (ρ x) 3∧qI w (ρ x) 4∧qI w (ρ x) 5∧qI w (ρ x) 6∧qI w (ρ x) 7∧qI w (ρ x) 8∧qI w (ρ x) 9∧qI w (ρ x) 10∧qI w (ρ x) 11∧qI w (ρ x) 12∧qI w (ρ x) 13)→Sem.run P (execOp ρ ⟨dst,.load t x,ty,pos,after,guard⟩) w= .ok (.value (.agg #[qV0 w (ρ x),qV w (ρ x) 1,qV w (ρ x) 2,qV w (ρ x) 3,qV w (ρ x) 4,qV w (ρ x) 5,qV w (ρ x) 6,qV w (ρ x) 7,qV w (ρ x) 8,qV w (ρ x) 9,qV w (ρ x) 10,qV w (ρ x) 11,qV w (ρ x) 12,qV w (ρ x) 13])) w
theorem xK6{P:Program}{t:TypeId}{d:TypeDesc}(hu:P.underlying t=some d)(hd:d.isRow=true)(hi:(P.info? t).map (·.size)=some 14):zP1 P t:=fun ρ x dst ty pos after guard w hx ⟨h0,h1,h2,h3,h4,h5,h6,h7,h8,h9,h10,h11,h12,h13⟩=>
 qV7 14 hu hd hi ρ x _ rfl w _ _ hx (fun j hj=>by match j,hj with|0,_=>exact h0|1,_=>exact h1|2,_=>exact h2|3,_=>exact h3|4,_=>exact h4|5,_=>exact h5|6,_=>exact h6|7,_=>exact h7|8,_=>exact h8|9,_=>exact h9|10,_=>exact h10|11,_=>exact h11|12,_=>exact h12|13,_=>exact h13|k+14,h=>omega)
abbrev zY7(P:Program)(t:TypeId):Prop:=∀(ρ:Operand→Value) (x y:Operand) (dst:Option Tmp) (ty:TypeId) (pos:String) (after:Array Edge) (guard:Option (Nat×Bool)) (w:World),ρ x= .pointer (some ⟨(M9 (ρ x)).block,(M9 (ρ x)).off,none⟩)→ρ y= .agg (qG3 (ρ y))→(qG3 (ρ y)).size=14→(qG3 (ρ y)).toList.all (·.oneCell')=true→(qF0 w (ρ x)∧qF w (ρ x) 1∧qF w (ρ x) 2∧qF w (ρ x) 3∧qF w (ρ x) 4∧qF w (ρ x) 5∧qF w (ρ x) 6∧qF w (ρ x) 7∧qF w (ρ x) 8∧qF w (ρ x) 9∧qF w (ρ x) 10∧qF w (ρ x) 11∧qF w (ρ x) 12∧qF w (ρ x) 13)→Sem.run P (execOp ρ ⟨dst,.store t x y,ty,pos,after,guard⟩) w= .ok .skip (w.setCells (M9 (ρ x)).block (M9 (ρ x)).off (qG3 (ρ y)).toList)
theorem zA0{P:Program}{t:TypeId}(hi:(P.info? t).map (·.size)=some 14):zY7 P t:=fun ρ x y dst ty pos after guard w hx hy hn hone ⟨h0,h1,h2,h3,h4,h5,h6,h7,h8,h9,h10,h11,h12,h13⟩=>
 qC4 14 hi ρ x y _ rfl w _ _ _ hx hy hn (by rw[←Array.all_toList];exact hone) (fun j hj=>by match j,hj with|0,_=>exact h0|1,_=>exact h1|2,_=>exact h2|3,_=>exact h3|4,_=>exact h4|5,_=>exact h5|6,_=>exact h6|7,_=>exact h7|8,_=>exact h8|9,_=>exact h9|10,_=>exact h10|11,_=>exact h11|12,_=>exact h12|13,_=>exact h13|k+14,h=>omega)
abbrev zP2(P:Program)(t:TypeId):Prop:=∀(ρ:Operand→Value) (x:Operand) (dst:Option Tmp) (ty:TypeId) (pos:String) (after:Array Edge) (guard:Option (Nat×Bool)) (w:World),ρ x= .pointer (some ⟨(M9 (ρ x)).block,(M9 (ρ x)).off,none⟩)→(qI0 w (ρ x)∧qI w (ρ x) 1∧qI w (ρ x) 2∧qI w (ρ x) 3∧qI w (ρ x) 4∧qI w (ρ x) 5∧qI w (ρ x) 6∧qI w (ρ x) 7∧qI w (ρ x) 8∧qI w (ρ x) 9∧qI w (ρ x) 10∧qI w (ρ x) 11∧qI w (ρ x) 12∧qI w (ρ x) 13∧qI w (ρ x) 14)→Sem.run P (execOp ρ ⟨dst,.load t x,ty,pos,after,guard⟩) w= .ok (.value (.agg #[qV0 w (ρ x),qV w (ρ x) 1,qV w (ρ x) 2,qV w (ρ x) 3,qV w (ρ x) 4,qV w (ρ x) 5,qV w (ρ x) 6,qV w (ρ x) 7,qV w (ρ x) 8,qV w (ρ x) 9,qV w (ρ x) 10,qV w (ρ x) 11,qV w (ρ x) 12,qV w (ρ x) 13,qV w (ρ x) 14])) w
theorem xK7{P:Program}{t:TypeId}{d:TypeDesc}(hu:P.underlying t=some d)(hd:d.isRow=true)(hi:(P.info? t).map (·.size)=some 15):zP2 P t:=fun ρ x dst ty pos after guard w hx ⟨h0,h1,h2,h3,h4,h5,h6,h7,h8,h9,h10,h11,h12,h13,h14⟩=>
 qV7 15 hu hd hi ρ x _ rfl w _ _ hx (fun j hj=>by match j,hj with|0,_=>exact h0|1,_=>exact h1|2,_=>exact h2|3,_=>exact h3|4,_=>exact h4|5,_=>exact h5|6,_=>exact h6|7,_=>exact h7|8,_=>exact h8|9,_=>exact h9|10,_=>exact h10|11,_=>exact h11|12,_=>exact h12|13,_=>exact h13|14,_=>exact h14|k+15,h=>omega)
abbrev zY8(P:Program)(t:TypeId):Prop:=∀(ρ:Operand→Value) (x y:Operand) (dst:Option Tmp) (ty:TypeId) (pos:String) (after:Array Edge) (guard:Option (Nat×Bool)) (w:World),ρ x= .pointer (some ⟨(M9 (ρ x)).block,(M9 (ρ x)).off,none⟩)→ρ y= .agg (qG3 (ρ y))→(qG3 (ρ y)).size=15→(qG3 (ρ y)).toList.all (·.oneCell')=true→(qF0 w (ρ x)∧qF w (ρ x) 1∧qF w (ρ x) 2∧qF w (ρ x) 3∧qF w (ρ x) 4∧qF w (ρ x) 5∧qF w (ρ x) 6∧qF w (ρ x) 7∧qF w (ρ x) 8∧qF w (ρ x) 9∧qF w (ρ x) 10∧qF w (ρ x) 11∧qF w (ρ x) 12∧qF w (ρ x) 13∧qF w (ρ x) 14)→Sem.run P (execOp ρ ⟨dst,.store t x y,ty,pos,after,guard⟩) w= .ok .skip (w.setCells (M9 (ρ x)).block (M9 (ρ x)).off (qG3 (ρ y)).toList)
theorem zA1{P:Program}{t:TypeId}(hi:(P.info? t).map (·.size)=some 15):zY8 P t:=fun ρ x y dst ty pos after guard w hx hy hn hone ⟨h0,h1,h2,h3,h4,h5,h6,h7,h8,h9,h10,h11,h12,h13,h14⟩=>
 qC4 15 hi ρ x y _ rfl w _ _ _ hx hy hn (by rw[←Array.all_toList];exact hone) (fun j hj=>by match j,hj with|0,_=>exact h0|1,_=>exact h1|2,_=>exact h2|3,_=>exact h3|4,_=>exact h4|5,_=>exact h5|6,_=>exact h6|7,_=>exact h7|8,_=>exact h8|9,_=>exact h9|10,_=>exact h10|11,_=>exact h11|12,_=>exact h12|13,_=>exact h13|14,_=>exact h14|k+15,h=>omega)
abbrev zP3(P:Program)(t:TypeId):Prop:=∀(ρ:Operand→Value) (x:Operand) (dst:Option Tmp) (ty:TypeId) (pos:String) (after:Array Edge) (guard:Option (Nat×Bool)) (w:World),ρ x= .pointer (some ⟨(M9 (ρ x)).block,(M9 (ρ x)).off,none⟩)→(qI0 w (ρ x)∧qI w (ρ x) 1∧qI w (ρ x) 2∧qI w (ρ x) 3∧qI w (ρ x) 4∧qI w (ρ x) 5∧qI w (ρ x) 6∧qI w (ρ x) 7∧qI w (ρ x) 8∧qI w (ρ x) 9∧qI w (ρ x) 10∧qI w (ρ x) 11∧qI w (ρ x) 12∧qI w (ρ x) 13∧qI w (ρ x) 14∧qI w (ρ x) 15)→Sem.run P (execOp ρ ⟨dst,.load t x,ty,pos,after,guard⟩) w= .ok (.value (.agg #[qV0 w (ρ x),qV w (ρ x) 1,qV w (ρ x) 2,qV w (ρ x) 3,qV w (ρ x) 4,qV w (ρ x) 5,qV w (ρ x) 6,qV w (ρ x) 7,qV w (ρ x) 8,qV w (ρ x) 9,qV w (ρ x) 10,qV w (ρ x) 11,qV w (ρ x) 12,qV w (ρ x) 13,qV w (ρ x) 14,qV w (ρ x) 15])) w
theorem xK8{P:Program}{t:TypeId}{d:TypeDesc}(hu:P.underlying t=some d)(hd:d.isRow=true)(hi:(P.info? t).map (·.size)=some 16):zP3 P t:=fun ρ x dst ty pos after guard w hx ⟨h0,h1,h2,h3,h4,h5,h6,h7,h8,h9,h10,h11,h12,h13,h14,h15⟩=>
 qV7 16 hu hd hi ρ x _ rfl w _ _ hx (fun j hj=>by match j,hj with|0,_=>exact h0|1,_=>exact h1|2,_=>exact h2|3,_=>exact h3|4,_=>exact h4|5,_=>exact h5|6,_=>exact h6|7,_=>exact h7|8,_=>exact h8|9,_=>exact h9|10,_=>exact h10|11,_=>exact h11|12,_=>exact h12|13,_=>exact h13|14,_=>exact h14|15,_=>exact h15|k+16,h=>omega)
abbrev zY9(P:Program)(t:TypeId):Prop:=∀(ρ:Operand→Value) (x y:Operand) (dst:Option Tmp) (ty:TypeId) (pos:String) (after:Array Edge) (guard:Option (Nat×Bool)) (w:World),ρ x= .pointer (some ⟨(M9 (ρ x)).block,(M9 (ρ x)).off,none⟩)→ρ y= .agg (qG3 (ρ y))→(qG3 (ρ y)).size=16→(qG3 (ρ y)).toList.all (·.oneCell')=true→(qF0 w (ρ x)∧qF w (ρ x) 1∧qF w (ρ x) 2∧qF w (ρ x) 3∧qF w (ρ x) 4∧qF w (ρ x) 5∧qF w (ρ x) 6∧qF w (ρ x) 7∧qF w (ρ x) 8∧qF w (ρ x) 9∧qF w (ρ x) 10∧qF w (ρ x) 11∧qF w (ρ x) 12∧qF w (ρ x) 13∧qF w (ρ x) 14∧qF w (ρ x) 15)→Sem.run P (execOp ρ ⟨dst,.store t x y,ty,pos,after,guard⟩) w= .ok .skip (w.setCells (M9 (ρ x)).block (M9 (ρ x)).off (qG3 (ρ y)).toList)
theorem zA2{P:Program}{t:TypeId}(hi:(P.info? t).map (·.size)=some 16):zY9 P t:=fun ρ x y dst ty pos after guard w hx hy hn hone ⟨h0,h1,h2,h3,h4,h5,h6,h7,h8,h9,h10,h11,h12,h13,h14,h15⟩=>
 qC4 16 hi ρ x y _ rfl w _ _ _ hx hy hn (by rw[←Array.all_toList];exact hone) (fun j hj=>by match j,hj with|0,_=>exact h0|1,_=>exact h1|2,_=>exact h2|3,_=>exact h3|4,_=>exact h4|5,_=>exact h5|6,_=>exact h6|7,_=>exact h7|8,_=>exact h8|9,_=>exact h9|10,_=>exact h10|11,_=>exact h11|12,_=>exact h12|13,_=>exact h13|14,_=>exact h14|15,_=>exact h15|k+16,h=>omega)
end
section
open Go.RowKit
theorem zF2:(Tryz.prog.info? 50).map (·.size)=some 15:=by kernel_rfl
theorem B7:(Tryz.prog.info? 102).map (·.size)=some 16:=by kernel_rfl
theorem xR4:zP2 Tryz.prog 50:=xK7 (P:=Tryz.prog) (t:=50) Tryz.underlying50 rfl zF2
theorem xB3:zP3 Tryz.prog 102:=xK8 (P:=Tryz.prog) (t:=102) Tryz.underlying102 rfl B7
theorem xE7:zY8 Tryz.prog 50:=zA1 (P:=Tryz.prog) (t:=50) zF2
theorem xQ6:zY9 Tryz.prog 102:=zA2 (P:=Tryz.prog) (t:=102) B7
theorem xC2(k:IntKind)(n:Int):(Value.int k n).oneCell'=true:=rfl
theorem zM2(a:Option Addr)(n c:Nat):(Value.slice a n c).oneCell'=true:=rfl
attribute [go_sem↓] xR4 xB3 xE7 xQ6
attribute [go_sem] qZ3 R0 xC2 zM2 List.all_toArray List.all_cons List.all_nil
theorem K5(a b c:Int)(w:World):
  Calls Tryz.prog 71 #[.int .i64 a,.int .i64 b,.int .i64 c] w fun e w'=>e= .returned (.bool (J1 a b c))∧w=w':=by
 by_cases h:b≤a
 ·go_enter Tryz.func71,Tryz.ntmps71
  go_wp2
  go_ret
  exact⟨J2 (by unfold J1;rw[Z0 h,Bool.true_and]),rfl⟩
 ·go_enter Tryz.func71,Tryz.ntmps71
  go_wp2
  go_ret
  exact⟨J2 (by unfold J1;rw[Q7 (by omega),Bool.false_and]),rfl⟩
theorem zF7(p:PR)(i:Int)(w:World):
  Calls Tryz.prog 103 #[p.placed i] w fun e w'=>e= .returned (.bool ((p.dn:Int)==0))∧Below w.heap.size w w':=by
 go_enter Tryz.func103,Tryz.ntmps103
 go_wp2
 go_ret
 exact⟨rfl,(Q2 _ _).alloc (Q1 _) _⟩
theorem xV0(p:PR)(i:Int)(w:World):
  Calls Tryz.prog 105 #[p.placed i] w fun e w'=>e= .returned (.bool ((p.dn:Int)==0))∧Below w.heap.size w w':=by
 go_enter Tryz.func105,Tryz.ntmps105
 go_wp2
 go_ret
 exact⟨rfl,(Q2 _ _).alloc (Q1 _) _⟩
theorem qL0(lo hi most:Int)(w:World)(h0:0≤most)(h1:most≤1000000000000):
  Calls Tryz.prog 143 #[.agg #[.int .i64 lo,.int .i64 hi],.int .i64 most] w fun e w'=>e= .returned (.bool (P7 lo hi most))∧Below w.heap.size w w':=by
 go_enter Tryz.func143,Tryz.ntmps143
 go_wp2_with(go_at_call 71;refine(K5 _ _ _ _).mono ?_;rintro e w' ⟨rfl,rfl⟩)
 ·go_ret
  rename_i h
  exact⟨J2 (by unfold P7;rw[h,Bool.true_and]),(Q2 _ _).alloc (Q1 _) _⟩
 ·go_ret
  rename_i h
  exact⟨J2 (by unfold P7;rw[Bool.eq_false_iff.2 h,Bool.false_and]),(Q2 _ _).alloc (Q1 _) _⟩
theorem T4(p:PR)(i:Int)(w:World):
  Calls Tryz.prog 106 #[p.placed i] w fun e w'=>e= .returned (.bool (N4 p))∧Below w.heap.size w w':=by
 by_cases hS:D3 p=true
 ·have hS':=hS
  simp only[D3,Q8] at hS'
  obtain⟨a1,a2,a3,a4,a5,a6,a7,a8,a9,a10⟩:=hS'
  obtain⟨⟨_,_⟩,⟨_,_⟩,⟨_,_⟩,⟨b1,b2⟩,⟨b3,b4⟩,⟨_,_⟩,⟨_,_,_⟩,⟨_,_,_⟩,⟨_,_⟩,⟨_,_⟩⟩:=I8.1 hS
  obtain⟨m1,m2⟩:=qL2 b3 b4 b1 b2
  have HS:=Hd hS
  clear hS
  go_enter Tryz.func106,Tryz.ntmps106
  go_wp2_with(first|(go_at_call 71;refine(K5 _ _ _ _).mono ?_;rintro e w' ⟨rfl,rfl⟩)|(go_at_call 143;refine(qL0 _ _ _ _ (by omega) (by omega)).mono ?_;rintro e w' ⟨rfl,hb⟩;have hz':w.heap.size<w'.heap.size:=(by have hz:=hb.size;(try simp at hz);omega);have hB:Below w.heap.size w w':=(by first|exact hB.trans (hb.mono (by omega))|exact((Q2 _ _).alloc (Q1 _) _).trans (hb.mono (by simp)));obtain⟨hc,hf⟩:=J9 hb;clear hb))
  all_goals go_ret
  all_goals go_light
  all_goals refine⟨J2 ?_,hB⟩
  ·simp[N4,HS.out, *]
  ·simp[N4,HS.out, *];omega
 ·have HF:=Hd (show false=N4 p by simp[N4,hS])
  go_enter Tryz.func106,Tryz.ntmps106
  go_wp2_with(first|(go_at_call 71;refine(K5 _ _ _ _).mono ?_;rintro e w' ⟨rfl,rfl⟩)|(go_at_call 143;refine(qL0 _ _ _ _ (by omega) (by omega)).mono ?_;rintro e w' ⟨rfl,hb⟩;have hz':w.heap.size<w'.heap.size:=(by have hz:=hb.size;(try simp at hz);omega);have hB:Below w.heap.size w w':=(by first|exact hB.trans (hb.mono (by omega))|exact((Q2 _ _).alloc (Q1 _) _).trans (hb.mono (by simp)));obtain⟨hc,hf⟩:=J9 hb;clear hb))
  all_goals go_ret
  all_goals go_light
  all_goals first|(exact⟨J2 HF.out,hB⟩)|(exact⟨J2 HF.out,(Q2 _ _).alloc (Q1 _) _⟩)|(exfalso;apply hS;clear hS HF;simp_all [D3])
end
section
open Go Go.RowKit
def qT5(B:Nat)(w:World)(a:Option Addr)(n:Nat)(ts:Nat→TI):Prop:=
 n=0∨∃b off,a=some ⟨b,off,none⟩∧b<B∧∀i,i<n→w.cell? ⟨b,off+i*4,none⟩=some (.int .i64 (ts i).frm)∧w.cell? ⟨b,off+i*4+1,none⟩=some (.int .i64 (ts i).tow)∧w.cell? ⟨b,off+i*4+2,none⟩=some (.int .i64 (ts i).lo)∧w.cell? ⟨b,off+i*4+3,none⟩=some (.int .i64 (ts i).hi)
theorem qT5.below{B:Nat}{w w':World}{a:Option Addr}{n:Nat}{ts:Nat→TI}(h:qT5 B w a n ts)(hb:Below B w w'):qT5 B w' a n ts:=by
 rcases h with h|⟨b,off,ha,hB,hc⟩
 ·exact .inl h
 ·have c:=(J9 hb).1
  exact .inr ⟨b,off,ha,hB,fun i hi=>⟨(c _ _ hB).trans (hc i hi).1,(c _ _ hB).trans (hc i hi).2.1,(c _ _ hB).trans (hc i hi).2.2.1,(c _ _ hB).trans (hc i hi).2.2.2⟩⟩
theorem qT5.get{B:Nat}{w:World}{a:Option Addr}{n:Nat}{ts:Nat→TI}(h:qT5 B w a n ts){i:Nat}(hi:i<n):∃b off,a=some ⟨b,off,none⟩∧b<B∧w.cell? ⟨b,off+i*4,none⟩=some (.int .i64 (ts i).frm)∧w.cell? ⟨b,off+i*4+1,none⟩=some (.int .i64 (ts i).tow)∧w.cell? ⟨b,off+i*4+2,none⟩=some (.int .i64 (ts i).lo)∧w.cell? ⟨b,off+i*4+3,none⟩=some (.int .i64 (ts i).hi):=by
 rcases h with h|⟨b,off,ha,hB,hc⟩
 ·omega
 ·exact⟨b,off,ha,hB,hc i hi⟩
abbrev jY2(N:Nat)(a:Option Addr)(m c:Nat):Value:= .agg #[.int .i64 (N:Int),.slice a m c]
theorem U5(a b c:Int)(w:World):Calls Tryz.prog 65 #[.int .i64 a,.int .i64 b,.int .i64 c] w fun e w'=>e= .returned (.bool (J1 a b c))∧w=w':=by
 by_cases h1:b≤a
 ·by_cases h2:a≤c
  ·rw[J6 h1 h2]
   go_enter Tryz.func65,Tryz.ntmps65
   go_wp2
   go_ret
   exact⟨rfl,rfl⟩
  ·rw[N9 (fun h=>h2 h.2)]
   go_enter Tryz.func65,Tryz.ntmps65
   go_wp2
   go_ret
   exact⟨rfl,rfl⟩
 ·rw[N9 (fun h=>h1 h.1)]
  go_enter Tryz.func65,Tryz.ntmps65
  go_wp2
  go_ret
  exact⟨rfl,rfl⟩
theorem D6(a b c:Int)(w:World):Calls Tryz.prog 23 #[.int .i64 a,.int .i64 b,.int .i64 c] w fun e w'=>e= .returned (.bool (J1 a b c))∧w=w':=by
 by_cases h1:b≤a
 ·by_cases h2:a≤c
  ·rw[J6 h1 h2]
   go_enter Tryz.func23,Tryz.ntmps23
   go_wp2
   go_ret
   exact⟨rfl,rfl⟩
  ·rw[N9 (fun h=>h2 h.2)]
   go_enter Tryz.func23,Tryz.ntmps23
   go_wp2
   go_ret
   exact⟨rfl,rfl⟩
 ·rw[N9 (fun h=>h1 h.1)]
  go_enter Tryz.func23,Tryz.ntmps23
  go_wp2
  go_ret
  exact⟨rfl,rfl⟩
theorem jO7(t:TI)(N:Nat)(w:World)(hN:N≤1000)(h:A1 N t=true):Calls Tryz.prog 99 #[.agg #[.int .i64 t.frm,.int .i64 t.tow,.int .i64 t.lo,.int .i64 t.hi],.int .i64 (N:Int)] w fun e w'=>e= .returned (.bool true)∧Below w.heap.size w w':=by
 obtain⟨h1,h2,h3,h4,h5,h6⟩:=qN8.1 h
 obtain⟨f,t,lo,hi⟩:=t
 dsimp only at*
 have e1:=Hd (J6 h1.1 h1.2)
 have e2:=Hd (J6 h2.1 h2.2)
 have hft:(f !=t)=true:=by simpa using h3
 have hle:decide (lo≤hi)=true:=Z0 h6
 have HB:=Hd ((Q2 _ w).alloc (Q1 _) (.cells #[.int .i64 f,.int .i64 t,.int .i64 lo,.int .i64 hi] 83))
 clear h h1 h2 h3 h6
 rcases h4 with h4|h4
 ·have q1:(lo== -1000000000000)=true:=by simpa using h4
  rcases h5 with h5|h5
  ·have q2:(hi==1000000000000)=true:=by simpa using h5
   clear h4 h5
   go_enter Tryz.func99,Tryz.ntmps99
   go_wp2_with(go_at_call 65;refine(U5 _ _ _ _).mono ?_;rintro e w' ⟨rfl,rfl⟩;first|rw[e1.out]|rw[e2.out])
   go_ret
   exact⟨rfl,HB.out⟩
  ·have q2:(hi==1000000000000)=false:=by simp;omega
   have e4:=Hd (J6 h5.1 h5.2)
   clear h4 h5
   go_enter Tryz.func99,Tryz.ntmps99
   go_wp2_with(go_at_call 65;refine(U5 _ _ _ _).mono ?_;rintro e w' ⟨rfl,rfl⟩;first|rw[e1.out]|rw[e2.out]|rw[e4.out])
   go_ret
   exact⟨rfl,HB.out⟩
 ·have q1:(lo== -1000000000000)=false:=by simp;omega
  have e3:=Hd (J6 h4.1 h4.2)
  rcases h5 with h5|h5
  ·have q2:(hi==1000000000000)=true:=by simpa using h5
   clear h4 h5
   go_enter Tryz.func99,Tryz.ntmps99
   go_wp2_with(go_at_call 65;refine(U5 _ _ _ _).mono ?_;rintro e w' ⟨rfl,rfl⟩;first|rw[e1.out]|rw[e2.out]|rw[e3.out])
   go_ret
   exact⟨rfl,HB.out⟩
  ·have q2:(hi==1000000000000)=false:=by simp;omega
   have e4:=Hd (J6 h5.1 h5.2)
   clear h4 h5
   go_enter Tryz.func99,Tryz.ntmps99
   go_wp2_with(go_at_call 65;refine(U5 _ _ _ _).mono ?_;rintro e w' ⟨rfl,rfl⟩;first|rw[e1.out]|rw[e2.out]|rw[e3.out]|rw[e4.out])
   go_ret
   exact⟨rfl,HB.out⟩
theorem xX6(a:Option Addr)(N m c:Nat)(ts:Nat→TI)(w:World)(B:Nat)(hBw:B≤w.heap.size)(hT:qT5 B w a m ts)(h:qG7 N m ts=true):
  Calls Tryz.prog 64 #[jY2 N a m c] w fun e w'=>e= .returned (.bool true)∧Below w.heap.size w w':=by
 obtain⟨h1,h2,h3⟩:=U9.1 h
 have HT:=Hd hT
 have HY:=Hd (fun i (hi:i<m) W=>jO7 (ts i) N W (by omega) (h1 i hi))
 have HN:=Hd (J6 h2.1 h2.2)
 have hm2:decide ((m:Int)≤200)=true:=Z0 (by omega)
 clear hT h h1 h2
 go_enter Tryz.func64,Tryz.ntmps64
 go_upto_region 1 with(fail)
 have HV:=Hd ((Q2 _ w).alloc (Q1 _) (.cells #[.int .i64 (N:Int),.slice a m c] 38))
 have hx:=Q3 w (.cells #[.int .i64 (N:Int),.slice a m c] 38)
 generalize World.alloc w _=V at*
 have HX:=Hd hx
 clear hx
 have k1:=Q0 _ _ 1 _ _ _ HX.out
 go_wp2
 clear k1
 go_loopw [8] (fun x wr=>∃i:Nat,i≤m∧x= .int .i64 (i:Int)∧Hid (Below w.heap.size w wr)∧Hid (wr.heap[w.heap.size]?=some (.cells #[.int .i64 (N:Int),.slice a m c] 38))) (fun x _=>m-(intOf x).toNat)
 case atStart=>exact⟨0,Nat.zero_le _,rfl,HV,HX⟩
 case round=>
  clear HV HX
  obtain⟨i,hi,rfl,HB,HX⟩:=hrel
  obtain⟨k0,k1⟩:=M7 HX.out
  by_cases hlt:i<m
  ·have hlt':(i:Int)<(m:Int):=by omega
   obtain⟨b,off,rfl,hbB,c0,c1,c2,c3⟩:=(HT.out.below (HB.out.mono hBw)).get hlt
   have HYi:=Hd (HY.out i hlt)
   generalize ts i=ti at*
   obtain⟨f,t,lo,hi'⟩:=ti
   dsimp only at*
   clear HY k0 k1
   go_upto_region 4 with(fail)
   have HB1:=Hd (HB.out.trans (((Q2 _ wr).alloc (Q1 _) (.cells #[.int .i64 f,.int .i64 t,.int .i64 lo,.int .i64 hi'] 83)).mono HB.out.size))
   have hb1:=(Q2 _ wr).alloc (Q1 _) (.cells #[.int .i64 f,.int .i64 t,.int .i64 lo,.int .i64 hi'] 83)
   have hx:=Q3 wr (.cells #[.int .i64 f,.int .i64 t,.int .i64 lo,.int .i64 hi'] 83)
   generalize World.alloc wr _=V1 at*
   have HX1:=Hd (Y0 HX.out hb1)
   obtain⟨e0,e1,e2,e3⟩:=cr4 hx
   have k0:=Q0 _ _ 0 _ _ _ HX1.out
   clear hx c0 c1 c2 c3 hb1
   go_wp2_with(go_at_call 99;refine(HYi.out _).mono ?_;rintro e W2 ⟨rfl,hb2⟩;have HB2:=Hd (HB1.out.trans (hb2.mono HB1.out.size));have HX2:=Hd (Y0 HX1.out hb2);clear hb2 e0 e1 e2 e3 k0)
   go_roundw
   case rel=>exact⟨i+1,by omega,by go_num,HB2,HX2⟩
   case measure=>simp[intOf];omega
  ·obtain rfl:i=m:=by omega
   have hlt':¬(i:Int)<(i:Int):=by omega
   go_wp2_with(go_at_call 65;refine(U5 _ _ _ _).mono ?_;rintro e w' ⟨rfl,rfl⟩;rw[HN.out])
   go_ret
   exact⟨rfl,HB.out⟩
end
section
open Go Go.RowKit
section
variable {P:Program}{ops:Array Oper}{md:Region.Mode}{C:World→Prop}
def xY5(P:Program)(md:Region.Mode)(ops:Array Oper)(C:World→Prop)(n:Nat)(L:Array Bool→Act→Prop):Nat→Array Bool→Act→Prop
 |0,listed,a=>L listed a
 |f+1,listed,a=>Region.ready md ops listed≠[]∧∀i∈Region.ready md ops listed,i<n∧qOp P ops C i (xY5 P md ops C n L f (listed.setIfInBounds i true)) a
theorem qB9{n g:Nat}{L:Array Bool→Act→Prop}{Q':Exit→Act→World→Prop}(hL:∀listed a w,C w→L listed a→wpAny P md ops Q' g listed a w):
  ∀(f:Nat) (listed:Array Bool) (a:Act) (w:World),C w→xY5 P md ops C n L f listed a→wpAny P md ops Q' (f+g) listed a w
 |0,listed,a,w,hw,h=>by rw[Nat.zero_add];exact hL _ _ _ hw h
 |f+1,listed,a,w,hw,h=>by
  rw[show f+1+g=(f+g)+1 by omega]
  exact⟨fun h0=>absurd h0 h.1,fun i hi=>wpOp_of_qOp hw (fun a' w' hw' h'=>qB9 hL f _ a' w' hw' h') (h.2 i hi).2⟩
theorem xY6{n i:Nat}{oi:Oper}{v:Value}{L:Array Bool→Act→Prop}(hi:ops[i]?=some oi)(hsel:∀(j:Nat) (o:Oper) cs b,ops[j]?=some o→o.op≠.select cs b)
  (hs:Region.sinkB md ops n=true) (hc:Region.chainB md ops n=true) (hn:n<ops.size) (hin:i<n)
  (hdone:∀listed a,L listed a→∀j∈Region.ready md ops listed,n≤j):
  ∀(f:Nat) (listed:Array Bool) (a:Act),HeadInv md ops n listed→
   (∀j oj,ops[j]?=some oj→j≠i→listed.getD j true=false→(∀e∈oj.after,Region.binds md e=true→e.on≠i)→oi.apart ops oj=true)→
   i∈Region.ready md ops listed→YieldsIn P ops C oi v a→
   xY5 P md ops C n L f (listed.setIfInBounds i true) (a.put oi.dst v)→xY5 P md ops C n L (f+1) listed a:=by
 have inside:∀(listed:Array Bool),HeadInv md ops n listed→i∈Region.ready md ops listed→∀j∈Region.ready md ops listed,j<n:=fun listed inv hr j hj=>by
  rcases Nat.lt_or_ge j n with h|h
  ·exact h
  ·exact absurd hj (tail_waits hs hc hn inv _ i rfl hin (mem_ready.1 hr).1 j h)
 have nonempty:∀(listed:Array Bool),i∈Region.ready md ops listed→Region.ready md ops listed≠[]:=fun listed hr h=>by rw[h] at hr;cases hr
 intro f
 induction f with
 |zero=>
  intro listed a inv _ hr hy H
  refine⟨nonempty _ hr,fun j hj=>⟨inside _ inv hr j hj,?_⟩⟩
  by_cases hji:j=i
  ·subst hji;exact hy.qOp hi H
  ·have:=hdone _ _ H j (ready_mono hj hji)
   have:=inside _ inv hr j hj
   omega
 |succ f ih=>
  intro listed a inv hfree hr hy H
  refine⟨nonempty _ hr,fun j hj=> ?_⟩
  have hjn:=inside _ inv hr j hj
  refine⟨hjn,?_⟩
  by_cases hji:j=i
  ·subst hji;exact hy.qOp hi H
  ·obtain⟨hjun,oj,hoj,hall⟩:=mem_ready.1 hj
   have hnot:∀e∈oj.after,Region.binds md e=true→e.on≠i:=fun e he hb heq=>by
    have h1:=hall e he hb
    rw[heq,getD_both (mem_ready.1 hr).1] at h1
    cases h1
   have h2:=qOp_put hoj (hfree j oj hoj hji hjun hnot) (fun cs b=>hsel i oi cs b hi) (fun cs b=>hsel j oj cs b hoj) hy (H.2 j (ready_mono hj hji)).2
   refine qOp_mono (fun a' h3=>ih (listed.setIfInBounds j true) a' (inv.set hj hjn) ?_ (ready_mono hr (Ne.symm hji)) h3.1 ?_) h2
   ·intro k ok hk hki hun hno
    refine hfree k ok hk hki ?_ hno
    by_cases hjk:j=k
    ·subst hjk;exact hjun
    ·rw[getD_set_ne true hjk] at hun;exact hun
   ·rw[Array.setIfInBounds_comm _ _ hji]
    exact h3.2
theorem qO4{n g:Nat}{Lq:Act→Prop}(hsel:Region.noSelect ops=true)(hs:Region.sinkB md ops n=true)(hc:Region.chainB md ops n=true)(hn:n<ops.size):
  ∀(l:List Oper) (k:Nat) (listed:Array Bool) (a:Act),(∀j,j<l.length→l[j]?=ops[k+j]?)→k+l.length=n→HeadInv md ops n listed→
  Region.lexHead md ops g l.length k listed=true→wpQuiet P ops C Lq l a→
  xY5 P md ops C n (fun listed' a'=>Region.seqB md ops g n listed'=true∧Lq a') l.length listed a
 |[],k,listed,a,_,hk,_,hB,h=>by
  have:k=n:=by simpa using hk
  subst this
  exact⟨by simpa [Region.lexHead] using hB,h⟩
 |o::l,k,listed,a,hl,hk,inv,hB,h=>by
  have h0:ops[k]?=some o:=by simpa using(hl 0 (by simp)).symm
  simp only[List.length_cons,Region.lexHead,Q8] at hB
  obtain⟨⟨hr,hf⟩,hB'⟩:=hB
  have hkn:k<n:=by simp only[List.length_cons] at hk;omega
  have hr':k∈Region.ready md ops listed:=by simpa using hr
  have hst:qOp P ops C k (wpQuiet P ops C Lq l) a:=by unfold qOp;simp only[h0];exact h
  obtain⟨v,hy,hK⟩:=yieldsIn_of_qOp h0 hst
  exact xY6 h0 (Region.noSelect_spec hsel) hs hc hn hkn (fun listed' a' hL=>seqB_ready hL.1) l.length listed a inv (Region.free_spec h0 hf) hr' hy
   (qO4 hsel hs hc hn l (k+1) _ _ (fun j hj=>by have:=hl (j+1) (by simp;omega);simpa [Nat.add_assoc,Nat.add_comm 1 j] using this) (by simp only[List.length_cons] at hk;omega) (inv.set hr' hkn) hB' hK)
theorem qQ0{id:Nat}{Q:Exit→Act→World→Prop}{a:Act}{w:World}{l:List Oper}(n:Nat)(hm:P.follows .mixedOrders=true)(hB:Region.lexTailB .any l.toArray n=true)(hC:C {w with drawn:=w.drawn+1})
  (h:wpQuiet P l.toArray C (fun a'=>∀w',C w'→wpList P l.toArray Q (l.drop n) a' w') (l.take n) a):(Code.region id l.toArray true).wp P Q a w:=by
 simp only[Region.lexTailB,Q8,Z8] at hB
 obtain⟨⟨⟨⟨hsel,hn⟩,hs⟩,hc⟩,hlex⟩:=hB
 have hn':n<l.length:=by simpa using hn
 have htl:(l.take n).length=n:=by simp;omega
 have hdl:(l.drop n).length=l.toArray.size-n:=by simp
 have inv0:HeadInv .any l.toArray n (Array.replicate l.toArray.size false):=
  ⟨by simp,fun j oj _ hl=>(by rw[getD_replicate_false] at hl;cases hl),fun t _ ht=>getD_in (by simpa using ht) (getD_replicate_false _ _)⟩
 have H:=qO4 (md:= .any) (g:=l.toArray.size-n) hsel hs hc hn (l.take n) 0 _ a (fun j hj=>by
  have hj':j<n:=by rw[htl] at hj;exact hj
  simp[hj']) (by simpa using htl) inv0 (by rw[htl];exact hlex) h
 refine wp_region_any hm ?_
 have:=qB9 (Q':=Q) (g:=l.toArray.size-n) (fun listed a' w' hw' hL=>by
  have:=wpAny_of_seq (md:= .any) (Q':=Q) (l.drop n) n listed a' w' (fun j=>by simp[List.getElem?_drop]) (by rw[hdl];exact hL.1) (hL.2 w' hw')
  rwa [hdl] at this) _ _ _ _ hC H
 rw[htl,show n+(l.toArray.size-n)=l.toArray.size by omega] at this
 exact this
end
theorem M0{P:Program}(B:Nat)(n:Nat){id:Nat}{Q:Exit→Act→World→Prop}{a:Act}{w:World}{l:List Oper}(hm:P.follows .mixedOrders=true)(hB:Region.lexTailB .any l.toArray n=true)
  (h:wpQuiet P l.toArray (fun w'=>∃x:K9 B w,w'=x.val) (fun a'=>∀w',(∃x:K9 B w,w'=x.val)→wpList P l.toArray Q (l.drop n) a' w') (l.take n) a):(Code.region id l.toArray true).wp P Q a w:=
 qQ0 (C:=fun w'=>∃x:K9 B w,w'=x.val) n hm hB ⟨⟨w.drew,(Q2 _ _).drew⟩,rfl⟩ h
end
section
open Go Go.RowKit
theorem jG1(t:TI)(N:Nat)(w:World)(hN:N≤1000):Calls Tryz.prog 24 #[.int .i64 (N:Int),.agg #[.int .i64 t.frm,.int .i64 t.tow,.int .i64 t.lo,.int .i64 t.hi]] w fun e w'=>e= .returned (.bool (A1 N t))∧Below w.heap.size w w':=by
 obtain⟨f,t,lo,hi⟩:=t
 unfold A1 jO6 jO5
 dsimp only
 have HB:=Hd ((Q2 _ w).alloc (Q1 _) (.cells #[.int .i64 f,.int .i64 t,.int .i64 lo,.int .i64 hi] 83))
 cases h1:J1 f 0 ((N:Int)-1) with
 |false=>
  have e1:=Hd h1
  clear h1
  (try simp only[Bool.false_and,Bool.true_and,Bool.and_false,Bool.and_true,Bool.or_false,Bool.or_true,Bool.false_or,Bool.true_or,Bool.not_true,Bool.not_false])
  go_enter Tryz.func24,Tryz.ntmps24
  go_wp2_with(go_at_call 23;refine(D6 _ _ _ _).mono ?_;rintro e w' ⟨rfl,rfl⟩;(first|rw[e1.out]))
  go_ret
  exact⟨rfl,HB.out⟩
 |true=>
  cases h2:J1 t 0 ((N:Int)-1) with
  |false=>
   have e1:=Hd h1
   have e2:=Hd h2
   clear h1 h2
   (try simp only[Bool.false_and,Bool.true_and,Bool.and_false,Bool.and_true,Bool.or_false,Bool.or_true,Bool.false_or,Bool.true_or,Bool.not_true,Bool.not_false])
   go_enter Tryz.func24,Tryz.ntmps24
   go_wp2_with(go_at_call 23;refine(D6 _ _ _ _).mono ?_;rintro e w' ⟨rfl,rfl⟩;(first|rw[e1.out]|rw[e2.out]))
   go_ret
   exact⟨rfl,HB.out⟩
  |true=>
   cases q3:(f==t) with
   |true=>
    have e1:=Hd h1
    have e2:=Hd h2
    clear h1 h2
    (try simp only[Bool.false_and,Bool.true_and,Bool.and_false,Bool.and_true,Bool.or_false,Bool.or_true,Bool.false_or,Bool.true_or,Bool.not_true,Bool.not_false])
    go_enter Tryz.func24,Tryz.ntmps24
    go_wp2_with(go_at_call 23;refine(D6 _ _ _ _).mono ?_;rintro e w' ⟨rfl,rfl⟩;(first|rw[e1.out]|rw[e2.out]))
    go_ret
    exact⟨rfl,HB.out⟩
   |false=>
    by_cases h4:lo≤hi
    case neg=>
     have q4:decide (lo≤hi)=false:=Q7 h4
     have q5:decide (hi<lo)=true:=Z0 (by omega)
     rw[q4]
     clear h4
     have e1:=Hd h1
     have e2:=Hd h2
     clear h1 h2
     (try simp only[Bool.false_and,Bool.true_and,Bool.and_false,Bool.and_true,Bool.or_false,Bool.or_true,Bool.false_or,Bool.true_or,Bool.not_true,Bool.not_false])
     go_enter Tryz.func24,Tryz.ntmps24
     go_wp2_with(go_at_call 23;refine(D6 _ _ _ _).mono ?_;rintro e w' ⟨rfl,rfl⟩;(first|rw[e1.out]|rw[e2.out]))
     go_ret
     exact⟨rfl,HB.out⟩
    case pos=>
     have q4:decide (lo≤hi)=true:=Z0 h4
     have q5:decide (hi<lo)=false:=Q7 (by omega)
     rw[q4]
     clear h4
     cases q6:(lo== -1000000000000) with
     |true=>
      cases q7:(hi==1000000000000) with
      |true=>
       have e1:=Hd h1
       have e2:=Hd h2
       clear h1 h2
       (try simp only[Bool.false_and,Bool.true_and,Bool.and_false,Bool.and_true,Bool.or_false,Bool.or_true,Bool.false_or,Bool.true_or,Bool.not_true,Bool.not_false])
       go_enter Tryz.func24,Tryz.ntmps24
       go_wp2_with(go_at_call 23;refine(D6 _ _ _ _).mono ?_;rintro e w' ⟨rfl,rfl⟩;(first|rw[e1.out]|rw[e2.out]))
       go_ret
       exact⟨rfl,HB.out⟩
      |false=>
       cases h8:J1 hi (-1000000000) 1000000000 with
       |true=>
        have e1:=Hd h1
        have e2:=Hd h2
        have e8:=Hd h8
        clear h1 h2 h8
        (try simp only[Bool.false_and,Bool.true_and,Bool.and_false,Bool.and_true,Bool.or_false,Bool.or_true,Bool.false_or,Bool.true_or,Bool.not_true,Bool.not_false])
        go_enter Tryz.func24,Tryz.ntmps24
        go_wp2_with(go_at_call 23;refine(D6 _ _ _ _).mono ?_;rintro e w' ⟨rfl,rfl⟩;(first|rw[e1.out]|rw[e2.out]|rw[e8.out]))
        go_ret
        exact⟨rfl,HB.out⟩
       |false=>
        have e1:=Hd h1
        have e2:=Hd h2
        have e8:=Hd h8
        clear h1 h2 h8
        (try simp only[Bool.false_and,Bool.true_and,Bool.and_false,Bool.and_true,Bool.or_false,Bool.or_true,Bool.false_or,Bool.true_or,Bool.not_true,Bool.not_false])
        go_enter Tryz.func24,Tryz.ntmps24
        go_wp2_with(go_at_call 23;refine(D6 _ _ _ _).mono ?_;rintro e w' ⟨rfl,rfl⟩;(first|rw[e1.out]|rw[e2.out]|rw[e8.out]))
        go_ret
        exact⟨rfl,HB.out⟩
     |false=>
      cases h9:J1 lo (-1000000000) 1000000000 with
      |false=>
       have e1:=Hd h1
       have e2:=Hd h2
       have e9:=Hd h9
       clear h1 h2 h9
       (try simp only[Bool.false_and,Bool.true_and,Bool.and_false,Bool.and_true,Bool.or_false,Bool.or_true,Bool.false_or,Bool.true_or,Bool.not_true,Bool.not_false])
       go_enter Tryz.func24,Tryz.ntmps24
       go_wp2_with(go_at_call 23;refine(D6 _ _ _ _).mono ?_;rintro e w' ⟨rfl,rfl⟩;(first|rw[e1.out]|rw[e2.out]|rw[e9.out]))
       go_ret
       exact⟨rfl,HB.out⟩
      |true=>
       cases q7:(hi==1000000000000) with
       |true=>
        have e1:=Hd h1
        have e2:=Hd h2
        have e9:=Hd h9
        clear h1 h2 h9
        (try simp only[Bool.false_and,Bool.true_and,Bool.and_false,Bool.and_true,Bool.or_false,Bool.or_true,Bool.false_or,Bool.true_or,Bool.not_true,Bool.not_false])
        go_enter Tryz.func24,Tryz.ntmps24
        go_wp2_with(go_at_call 23;refine(D6 _ _ _ _).mono ?_;rintro e w' ⟨rfl,rfl⟩;(first|rw[e1.out]|rw[e2.out]|rw[e9.out]))
        go_ret
        exact⟨rfl,HB.out⟩
       |false=>
        cases h8:J1 hi (-1000000000) 1000000000 with
        |true=>
         have e1:=Hd h1
         have e2:=Hd h2
         have e8:=Hd h8
         have e9:=Hd h9
         clear h1 h2 h8 h9
         (try simp only[Bool.false_and,Bool.true_and,Bool.and_false,Bool.and_true,Bool.or_false,Bool.or_true,Bool.false_or,Bool.true_or,Bool.not_true,Bool.not_false])
         go_enter Tryz.func24,Tryz.ntmps24
         go_wp2_with(go_at_call 23;refine(D6 _ _ _ _).mono ?_;rintro e w' ⟨rfl,rfl⟩;(first|rw[e1.out]|rw[e2.out]|rw[e8.out]|rw[e9.out]))
         go_ret
         exact⟨rfl,HB.out⟩
        |false=>
         have e1:=Hd h1
         have e2:=Hd h2
         have e8:=Hd h8
         have e9:=Hd h9
         clear h1 h2 h8 h9
         (try simp only[Bool.false_and,Bool.true_and,Bool.and_false,Bool.and_true,Bool.or_false,Bool.or_true,Bool.false_or,Bool.true_or,Bool.not_true,Bool.not_false])
         go_enter Tryz.func24,Tryz.ntmps24
         go_wp2_with(go_at_call 23;refine(D6 _ _ _ _).mono ?_;rintro e w' ⟨rfl,rfl⟩;(first|rw[e1.out]|rw[e2.out]|rw[e8.out]|rw[e9.out]))
         go_ret
         exact⟨rfl,HB.out⟩
end
end Go.Proofs.YtmncaipgefbalaaGreatDoor
