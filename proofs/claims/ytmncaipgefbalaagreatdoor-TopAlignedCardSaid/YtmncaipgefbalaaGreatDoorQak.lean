/- Part of the proof of the claim. -/
import Derived.Test.YtmncaipgefbalaaGreatDoorQaj
set_option maxRecDepth 100000
set_option maxHeartbeats 8000000
set_option linter.unusedVariables false
set_option linter.unusedSimpArgs false
namespace Go.Proofs.YtmncaipgefbalaaGreatDoor
section
open Go.RowKit Go.Shelf
attribute [local go_sem] Oper.semAt_some
def xL2{N:Nat}(p:PR)(low high:Int):List (Fin N)→Bool:=List.foldl (fun s c=>s||(decide (C6 p c.val-p.spill≤high)&&decide (low≤C6 p c.val+p.pitch-1+p.spill))) false
def qW6{N:Nat}(p:PR)(low:Int):List (Fin N)→Int:=List.foldl (fun s c=>if C6 p c.val≤s∧s≤C6 p c.val+p.pitch-1 then C6 p c.val+p.pitch-1+1 else s) low
theorem zP8{N:Nat}(p:PR)(low high:Int)(pre:List (Fin N))(c:Fin N):xL2 p low high (pre++[c])=(xL2 p low high pre||(decide (C6 p c.val-p.spill≤high)&&decide (low≤C6 p c.val+p.pitch-1+p.spill))):=by simp[xL2]
theorem zC2{N:Nat}(p:PR)(low:Int)(pre:List (Fin N))(c:Fin N):qW6 p low (pre++[c])=if C6 p c.val≤qW6 p low pre∧qW6 p low pre≤C6 p c.val+p.pitch-1 then C6 p c.val+p.pitch-1+1 else qW6 p low pre:=by simp[qW6]
def qN7(p:PR)(lo hi:Int):Bool:=qU4 (C6 p) p.pitch p.spill (fun c=>Y1 p c) (lo-p.ohi) (hi-p.olo) p.strips.toNat
def O7(p:PR)(lo hi:Int):Bool:=decide (hi-p.olo<T7 (C6 p) p.pitch (fun c=>Y1 p c) (lo-p.ohi) p.strips.toNat)
theorem zG1{N:Nat}{p:PR}{low high:Int}:∀k,k≤N→xL2 p low high (C9 N p k)=qU4 (C6 p) p.pitch p.spill (fun c=>Y1 p c) low high k
 |0,_=>rfl
 |k+1,h=>by
  have ih:=zG1 (p:=p) (low:=low) (high:=high) k (Nat.le_of_succ_le h)
  by_cases hd:Y1 p k=true
  ·rw[qB7 h hd,ih,qU4,if_pos hd]
  ·rw[qM4 h hd,zP8,ih,qU4,if_neg hd]
theorem zX4{N:Nat}{p:PR}{low:Int}:∀k,k≤N→qW6 p low (C9 N p k)=T7 (C6 p) p.pitch (fun c=>Y1 p c) low k
 |0,_=>rfl
 |k+1,h=>by
  have ih:=zX4 (p:=p) (low:=low) k (Nat.le_of_succ_le h)
  by_cases hd:Y1 p k=true
  ·rw[qB7 h hd,ih,T7,if_pos hd]
  ·rw[qM4 h hd,zC2,ih,T7,if_neg hd]
theorem zJ0{p:PR}(hS:S8 p){c:Nat}(hc:(c:Int)<p.strips): -1100000≤C6 p c∧C6 p c≤202100000:=by
 obtain⟨hst1,hst2⟩:=hS.strips
 obtain⟨g1,g2⟩:=hS.first
 obtain⟨b1,b2⟩:=hS.pitch
 obtain⟨m1,m2⟩:=T0 (x:=(c:Int)) (q:=p.pitch) (by omega) (by omega) b1 b2
 unfold C6 zJ8
 split<;>omega
theorem zM4{p:PR}(h:K6 p=true):zY1 p.en p.es∧p.en≤100:=by
 simp only[K6,qF9,Q8,Y9,Z8] at h
 obtain⟨h1,h2⟩:=h.2.2.2
 refine⟨?_,by omega⟩
 have step:∀k,k+1<p.en→p.es k<p.es (k+1):=fun k hk=>by
  have:=(E9.1 (h1 (k+1) hk)).2
  rcases this with h|h
  ·omega
  ·simpa using h
 intro i j hij hj
 induction j with
 |zero=>omega
 |succ j ih=>
  have:=step j hj
  by_cases e:i=j
  ·subst e;exact this
  ·have:=ih (by omega) (by omega)
   omega
abbrev SS(x b:Nat)(A:Array Value)(u v:Value)(w w':World):Prop:=(∀j,w'.cell? ⟨x,j,none⟩=A[j]?)∧w'.cell? ⟨b+1,0,none⟩=some u∧w'.cell? ⟨b+1,1,none⟩=some v∧(x<w'.heap.size∧b+1<x)∧Below b w w'
theorem kX4{x b:Nat}{A:Array Value}{u v:Value}{w W:World}(h:SS x b A u v w W):SS x b A u v w W.drew:=⟨h.1,h.2.1,h.2.2.1,h.2.2.2.1,h.2.2.2.2.drew⟩
theorem jH8{x b:Nat}{A:Array Value}{u v:Value}{w W:World}(h:SS x b A u v w W)(o:Obj):SS x b A u v w (W.alloc o):=by
 obtain⟨h1,h2,h3,⟨h4,h5⟩,h6⟩:=h
 exact⟨fun j=>(L1 (by omega)).trans (h1 j),(L1 (by omega)).trans h2,(L1 (by omega)).trans h3,⟨by simp;omega,h5⟩,h6.alloc (by omega) _⟩
theorem kF7{x b y z:Nat}{A:Array Value}{u v:Value}{w W:World}(h:SS x b A u v w W)(hy:b≤y)(hz:b≤z):x<W.heap.size∧b≤y∧b≤z∧(∀j,W.cell? ⟨x,j,none⟩=A[j]?)∧Below b w W:=⟨h.2.2.2.1.1,hy,hz,h.1,h.2.2.2.2⟩
def SI(x y x9 c:Nat)(low high spill:Int)(cv:Bool)(nv:Int)(W:World):Prop:=W.cell? ⟨x,0,none⟩=some (.int .i64 low)∧W.cell? ⟨y,0,none⟩=some (.int .i64 high)∧W.cell? ⟨x9,6,none⟩=some (.int .i64 spill)∧W.cell? ⟨c,0,none⟩=some (.bool cv)∧W.frozen? ⟨c,0,none⟩=false∧W.cell? ⟨c+1,0,none⟩=some (.int .i64 nv)∧W.frozen? ⟨c+1,0,none⟩=false∧c+2<W.heap.size
theorem kX3{x y x9 c:Nat}{low high spill nv:Int}{cv:Bool}{A B:World}{row:Option Nat}(h:SI x y x9 c low high spill cv nv A)(hg:A.grownBy B row)(hr:∀r,row=some r→∃o:Obj,A.heap[r]?=some o∧o.isCells=false):SI x y x9 c low high spill cv nv B:=by
 obtain⟨i1,i2,i3,i4,i5,i6,i7,i8⟩:=h
 exact⟨cell_kept i1 hg hr,cell_kept i2 hg hr,cell_kept i3 hg hr,cell_kept i4 hg hr,(frozen_kept i4 hg hr).trans i5,cell_kept i6 hg hr,(frozen_kept i6 hg hr).trans i7,Z4 i8 hg.size⟩
theorem kF6{α:Type}{x y x9 c:Nat}{low high spill:Int}(CL:α→Bool)(NL:α→Int):Own (fun(pre:α) W=>SI x y x9 c low high spill (CL pre) (NL pre) W):=fun s A B row hs hg hr=>kX3 hs hg hr
theorem jH7{x y x9 c:Nat}{low high spill nv:Int}{cv:Bool}{W:World}{o:Obj}(hx:x<c)(hy:y<c)(h9:x9<c)(h:SI x y x9 c low high spill cv nv W):SI x y x9 c low high spill cv nv (W.alloc o):=by
 obtain⟨i1,i2,i3,i4,i5,i6,i7,i8⟩:=h
 exact⟨(L1 (by omega)).trans i1,(L1 (by omega)).trans i2,(L1 (by omega)).trans i3,(L1 (by omega)).trans i4,(qZ5 (by omega)).trans i5,(L1 (by omega)).trans i6,(qZ5 (by omega)).trans i7,by simp;omega⟩
theorem qQ4{x y x9 c:Nat}{low high spill nv:Int}{cv cv':Bool}{W:World}(hx:x<c)(hy:y<c)(h9:x9<c)(h:SI x y x9 c low high spill cv nv W):SI x y x9 c low high spill cv' nv (W.setCell ⟨c,0,none⟩ (.bool cv')):=by
 obtain⟨i1,i2,i3,i4,i5,i6,i7,i8⟩:=h
 exact⟨(L6 (by omega)).trans i1,(L6 (by omega)).trans i2,(L6 (by omega)).trans i3,World.cell?_setCell_same' _ _ _ (by rw[i4];rfl),by rw[World.frozen?_setCell];exact i5,(L6 (by omega)).trans i6,by rw[World.frozen?_setCell];exact i7,by simpa [World.setCell] using i8⟩
theorem zK5{x y x9 c:Nat}{low high spill nv nv':Int}{cv:Bool}{W:World}(hx:x<c)(hy:y<c)(h9:x9<c)(h:SI x y x9 c low high spill cv nv W):SI x y x9 c low high spill cv nv' (W.setCell ⟨c+1,0,none⟩ (.int .i64 nv')):=by
 obtain⟨i1,i2,i3,i4,i5,i6,i7,i8⟩:=h
 exact⟨(L6 (by omega)).trans i1,(L6 (by omega)).trans i2,(L6 (by omega)).trans i3,(L6 (by omega)).trans i4,by rw[World.frozen?_setCell];exact i5,World.cell?_setCell_same' _ _ _ (by rw[i6];rfl),by rw[World.frozen?_setCell];exact i7,by simpa [World.setCell] using i8⟩
theorem kX5(a:Option Addr)(n c:Nat)(ps:Nat→PR)(lo hi:Int)(w:World)(B:Nat)(hBw:B≤w.heap.size)(hP:Y2 B w a n ps)(hC:K7 n ps=true)(k:Nat)(hk:k<n)(hO:P7 lo hi 1000000=true):
  Calls Tryz.prog 177 #[L3 a n c,.int .i64 k,.agg #[.int .i64 lo,.int .i64 hi]] w fun e w'=>e= .returned (.tuple #[.bool (O7 (ps k) lo hi),.bool (qN7 (ps k) lo hi),.int .i64 0])∧Below w.heap.size w w':=by
 obtain⟨b,off,rfl,hbB,⟨c0,c1,c2,c3,c4,c5,c6,c7,c8,c9,c10,c11,c12,c13,c14⟩,hm⟩:=hP.get hk
 have hN:=P1 hC
 have hPr:=M3 hC hk
 have hS:=G0 hPr
 obtain⟨hRi,hen⟩:=zM4 hPr
 have hkw:J1 (k:Int) 0 ((n:Int)-1)=true:=J6 (by omega) (by omega)
 obtain⟨l1,l2,l3⟩:=qW7.1 hO
 obtain⟨o1,o2,o3⟩:=hS.off
 obtain⟨t1,t2⟩:=hS.strips
 obtain⟨s1,s2⟩:=hS.spill
 obtain⟨b1,b2⟩:=hS.pitch
 obtain⟨N,hNs⟩:=Int.eq_ofNat_of_zero_le (show 0≤(ps k).strips by omega)
 have HT0:=Hd (fun(c:Fin N)=>zJ0 hS (c:=c.val) (by omega))
 have HTS:=fun(w':World) Bs hBs (hB':w.heap.size≤w'.heap.size) hc hm'=>jC3 5 (by decide) Bs w.heap.size N (ps k) k hNs hS hRi hen w' hBs hB' hc hm'
 have HTS:=Hd HTS
 have HCa:=Hd (show xL2 (ps k) (lo-(ps k).ohi) (hi-(ps k).olo) (C9 N (ps k) N)=qN7 (ps k) lo hi by rw[zG1 N (Q1 _),qN7,hNs,Int.toNat_natCast])
 have HMu:=Hd (show decide (hi-(ps k).olo<qW6 (ps k) (lo-(ps k).ohi) (C9 N (ps k) N))=O7 (ps k) lo hi by rw[zX4 N (Q1 _),O7,hNs,Int.toNat_natCast])
 have HCLs0:=Hd (zP8 (N:=N) (ps k) (lo-(ps k).ohi) (hi-(ps k).olo))
 have HNLs0:=Hd (zC2 (N:=N) (ps k) (lo-(ps k).ohi))
 have HCL0:=Hd (show xL2 (N:=N) (ps k) (lo-(ps k).ohi) (hi-(ps k).olo) []=false from rfl)
 have HNL0:=Hd (show qW6 (N:=N) (ps k) (lo-(ps k).ohi) []=lo-(ps k).ohi from rfl)
 generalize xL2 (N:=N) (ps k) (lo-(ps k).ohi) (hi-(ps k).olo)=CL at HCLs0 HCL0 HCa
 generalize qW6 (N:=N) (ps k) (lo-(ps k).ohi)=NL at HNLs0 HNL0 HMu
 obtain⟨TF,hTF⟩:∃TF:Fin N→Int,TF=fun xx=>C6 (ps k) xx.val:=⟨_,rfl⟩
 have HTF:=Hd hTF
 have HT:=Hd (show ∀xx,-1100000≤TF xx∧TF xx≤202100000 by intro xx;rw[hTF];exact HT0.out xx)
 have HCLs:=Hd (show ∀pre xx,CL (pre++[xx])=(CL pre||(decide (TF xx-(ps k).spill≤hi-(ps k).olo)&&decide (lo-(ps k).ohi≤TF xx+(ps k).pitch-1+(ps k).spill))) by intro pre xx;rw[hTF];exact HCLs0.out pre xx)
 have HNLs:=Hd (show ∀pre xx,NL (pre++[xx])=if TF xx≤NL pre∧NL pre≤TF xx+(ps k).pitch-1 then TF xx+(ps k).pitch-1+1 else NL pre by intro pre xx;rw[hTF];exact HNLs0.out pre xx)
 clear HT0 HCLs0 HNLs0 hTF
 have HP:=Hd hP
 have HM:=Hd hm
 have HS:=Hd hS
 have HC:=Hd (N8 (some ⟨b,off,none⟩) n c ps)
 have hbz0:b<w.heap.size:=by omega
 have HNs:=Hd hNs
 clear hP hm hS hPr hRi hen hNs
 rw[←HCa.out,←HMu.out]
 clear HCa HMu
 generalize ps k=p at*
 obtain⟨kind,view,z,first,pitch,strips,spill,olo,ohi,clo,chi,jitter,least,da,dn,dc,ea,en,ec,ds,es⟩:=p
 dsimp only at*
 refine(callsIn_wide (n:=6)).1 ?_
 refine callsIn_of_wp_marks Tryz.func177 rfl trivial ?_ rfl
 simp only[Tryz.ntmps177,List.size_toArray,List.length_cons,List.length_nil,Nat.reduceAdd,Nat.reduceSub,Array.replicate_succ,Array.replicate_zero,List.push_toArray,List.append_toArray,List.nil_append,List.cons_append]
 refine wpIn_wide.2 ?_
 go_upto_region 3 with(first|(go_at_call 30;refine(HC.out _ B (by simp;omega) (HP.out.below (((Q2 B w).alloc hBw _).alloc (by simp;omega) _))).mono ?_;rintro e w1 ⟨rfl,hb⟩;have hz1:w.heap.size+2≤w1.heap.size:=(by have:=hb.size;simp at this;omega);have hz2:w.heap.size+1<w1.heap.size:=(by omega);have hbz1:b<w1.heap.size:=(by omega);have hB1:Below w.heap.size w w1:=(((((Q2 _ _).alloc (Q1 _) _).alloc (by simp) _)).trans (hb.mono (by simp;omega)));have hX:=hb.mono (B':=w.heap.size+2) (by simp);obtain⟨hcx,hfx⟩:=J9 hX;clear hb;rw[hC])|(go_at_call 71;refine(K5 _ _ _ _).mono ?_;rintro e w' ⟨rfl,rfl⟩)|(go_at_call 143;refine(qL0 _ _ _ _ (by decide) (by decide)).mono ?_;rintro e w2 ⟨rfl,hb2⟩;rw[hO];have hz3:w.heap.size+2≤w2.heap.size:=(by have:=hb2.size;omega);have hz4:w.heap.size+1<w2.heap.size:=(by omega);have hbz2:b<w2.heap.size:=(by omega);have hB2:Below w.heap.size w w2:=hB1.trans (hb2.mono (by omega));have hX2:=hX.trans (hb2.mono (by omega));clear hcx hfx hX hb2;obtain⟨hcx,hfx⟩:=J9 hX2))
 go_cut [9] from 33 to 39 (fun s9 wx=>(∃x,s9= .pointer (some ⟨x,0,none⟩)∧w.heap.size+2≤x∧x<wx.heap.size∧(∀j,wx.cell? ⟨x,j,none⟩=(#[.int .i64 kind,.int .i64 view,.int .i64 z,.int .i64 first,.int .i64 pitch,.int .i64 strips,.int .i64 spill,.int .i64 olo,.int .i64 ohi,.int .i64 clo,.int .i64 chi,.int .i64 jitter,.int .i64 least,.slice da dn dc,.slice ea en ec,.int .i64 k]:Array Value)[j]?)∧wx.cell? ⟨w.heap.size+1,0,none⟩=some (.int .i64 lo)∧wx.cell? ⟨w.heap.size+1,1,none⟩=some (.int .i64 hi)∧Below w.heap.size w wx))
 case first=>
  have k0:w2.cell? ⟨w.heap.size+1,0,none⟩=some (.int .i64 lo):=by rw[hcx _ _ (by omega)];go_simp
  have k1:w2.cell? ⟨w.heap.size+1,1,none⟩=some (.int .i64 hi):=by rw[hcx _ _ (by omega)];go_simp
  have k2:w2.cell? ⟨w.heap.size,0,none⟩=some (.slice (some ⟨b,off,none⟩) n c):=by rw[hcx _ _ (by omega)];go_simp
  clear hcx hfx
  obtain⟨hcw,hfw⟩:=J9 hB2
  go_wp2_with fail
  go_meet
  refine⟨w2.heap.size,rfl,by omega,by simp,fun j=>Q0 _ _ _ _ _ _ (G3 rfl),?_,?_,hB2.alloc (by omega) _⟩
  ·rw[L1 (by omega)];exact k0
  ·rw[L1 (by omega)];exact k1
 clear hcx hfx hX2 hB2 hz3 hz4 hbz2 hbz1 hz1 hz2 hbz0 c0 c1 c2 c3 c4 c5 c6 c7 c8 c9 c10 c11 c12 c13 c14
 obtain⟨x9,rfl,hx1,hx2,hp,k0,k1,hbx⟩:=hcut
 go_upto_region 4 with(fail)
 go_cut [10,11] from 40 to 53 (fun s10 s11 wx=>∃x y,s10= .pointer (some ⟨x,0,none⟩)∧s11= .pointer (some ⟨y,0,none⟩)∧wx.cell? ⟨x,0,none⟩=some (.int .i64 (lo-ohi))∧wx.cell? ⟨y,0,none⟩=some (.int .i64 (hi-olo))∧x<wx.heap.size∧y<wx.heap.size∧x9<wx.heap.size∧w.heap.size≤x∧w.heap.size≤y∧(∀j,wx.cell? ⟨x9,j,none⟩=(#[.int .i64 kind,.int .i64 view,.int .i64 z,.int .i64 first,.int .i64 pitch,.int .i64 strips,.int .i64 spill,.int .i64 olo,.int .i64 ohi,.int .i64 clo,.int .i64 chi,.int .i64 jitter,.int .i64 least,.slice da dn dc,.slice ea en ec,.int .i64 k]:Array Value)[j]?)∧Below w.heap.size w wx)
 case first=>
  have a1:IntKind.i64.wrap (lo-ohi)=lo-ohi:=Z1 _ (by omega)
  have a2:IntKind.i64.wrap (hi-olo)=hi-olo:=Z1 _ (by omega)
  have hS0:SS x9 w.heap.size _ _ _ w wc:=⟨hp,k0,k1,⟨hx2,by omega⟩,hbx⟩
  have hws:=hbx.size
  clear hp k0 k1 hx1 hx2 hbx
  go_region_held3 (fun w'=>(∀j,w'.cell? ⟨x9,j,none⟩=(#[.int .i64 kind,.int .i64 view,.int .i64 z,.int .i64 first,.int .i64 pitch,.int .i64 strips,.int .i64 spill,.int .i64 olo,.int .i64 ohi,.int .i64 clo,.int .i64 chi,.int .i64 jitter,.int .i64 least,.slice da dn dc,.slice ea en ec,.int .i64 k]:Array Value)[j]?)∧w'.cell? ⟨w.heap.size+1,0,none⟩=some (.int .i64 lo)∧w'.cell? ⟨w.heap.size+1,1,none⟩=some (.int .i64 hi)∧(x9<w'.heap.size∧w.heap.size+1<x9)∧Below w.heap.size w w') (first|(repeat(first|(with_reducible assumption)|(with_reducible refine kX4 ?_)|(with_reducible refine jH8 ?_ _)))) (fail)
  all_goals(go_wp2_with fail)
  all_goals go_meet
  all_goals(refine⟨_,_,rfl,rfl,?_,?_,?_,?_,kF7 (by with_reducible assumption) ?_ ?_⟩)
  all_goals(try go_simp)
  all_goals omega
 clear hp k0 k1 hx1 hx2 hbx
 obtain⟨x,y,rfl,rfl,v0,v1,hx3,hy3,hx9,hxw,hyw,hp2,hB⟩:=hcut
 go_wp2_with(go_at_call 192;refine(kC9 ⟨kind,view,z,first,pitch,strips,spill,olo,ohi,clo,chi,jitter,least,da,dn,dc,ea,en,ec,ds,es⟩ k _).mono ?_;rintro e w' ⟨rfl,rfl⟩)
 have hwc:=hB.size
 have hB3:Below w.heap.size w (((wc.alloc (.cells #[.bool false] 4)).alloc (.cells #[.int .i64 (lo-ohi)] 3)).alloc (.cells #[.int .i64 kind,.int .i64 view,.int .i64 z,.int .i64 first,.int .i64 pitch,.int .i64 strips,.int .i64 spill,.int .i64 olo,.int .i64 ohi,.int .i64 clo,.int .i64 chi,.int .i64 jitter,.int .i64 least,.slice da dn dc,.slice ea en ec,.int .i64 k] 102)):=((hB.alloc (by omega) _).alloc (by simp;omega) _).alloc (by simp;omega) _
 have hTS:=HTS.out (((wc.alloc (.cells #[.bool false] 4)).alloc (.cells #[.int .i64 (lo-ohi)] 3)).alloc (.cells #[.int .i64 kind,.int .i64 view,.int .i64 z,.int .i64 first,.int .i64 pitch,.int .i64 strips,.int .i64 spill,.int .i64 olo,.int .i64 ohi,.int .i64 clo,.int .i64 chi,.int .i64 jitter,.int .i64 least,.slice da dn dc,.slice ea en ec,.int .i64 k] 102)) (wc.heap.size+1+1) (by simp) (by simp;omega) (fun j=>Q0 _ _ _ _ _ _ (G3 (by simp))) ((HM.out.up hBw).below hB3)
 have hE:(jP5 (N:=N) ⟨kind,view,z,first,pitch,strips,spill,olo,ohi,clo,chi,jitter,least,da,dn,dc,ea,en,ec,ds,es⟩)=fun xx=> #[.int .i64 ((xx.val:Nat):Int),.agg #[.int .i64 (TF xx),.int .i64 (TF xx+pitch-1)]]:=by funext xx;rw[HTF.out]
 rw[hE] at hTS
 clear hE
 refine(wpIn_wide (n:=6)).1 ?_
 refine wpIn_rangeFunc_ownH (α:=Fin N) (F:=Fence.wide) (n:=6) rfl (by decide) (gf:=201) (lb:= #[.pointer (some ⟨wc.heap.size+1+1,0,none⟩)]) rfl trivial (enters_of Tryz.func201 (by kernel_rfl) rfl)
  hTS qB4.trans ?hKb (Q2 _ _) (fun _=>rfl)
  (fun pre W=>SI x y x9 wc.heap.size (lo-ohi) (hi-olo) spill (CL pre) (NL pre) W∧Below w.heap.size w W)
  (fun _ _ _=>False)
  (OwnFrom.and ((kF6 CL NL).from _) (ownFrom_below (Q1 _) (by simp;omega)))
  (fun _ _ _ _ _ hs _ _=>hs)
  ?h0 (fun xx a' W=>∃Bx,(wc.heap.size+3≤Bx∧W.cell? ⟨Bx,0,none⟩=some (.int .i64 (TF xx))∧W.cell? ⟨Bx,1,none⟩=some (.int .i64 (TF xx+pitch-1)))∧a'={tmps:= #[L3 (some ⟨b,off,none⟩) n c,.int .i64 k,.agg #[.int .i64 lo,.int .i64 hi],.pointer (some ⟨w.heap.size,0,none⟩),undef,.pointer (some ⟨w.heap.size+1,0,none⟩),.bool false,.bool false,.int .i64 0,.pointer (some ⟨x9,0,none⟩),.pointer (some ⟨x,0,none⟩),.pointer (some ⟨y,0,none⟩),.pointer (some ⟨wc.heap.size,0,none⟩),.pointer (some ⟨wc.heap.size+1,0,none⟩),undef,.pointer (some ⟨Bx,0,none⟩),.agg #[.slice (some ⟨b,off,none⟩) n c],.bool true,.bool false,.bool false,.int .i64 k,.pointer (some ⟨w.heap.size,0,none⟩),.slice (some ⟨b,off,none⟩) n c,.int .i64 n,.int .i64 ((n:Int)-1),.bool true,.bool false,.bool false,.bool false,.agg #[.int .i64 lo,.int .i64 hi],.bool true,.bool false,.bool false,u33,u34,u35,u36,u37,u38,u39,u40,u41,u42,u43,u44,u45,u46,u47,u48,u49,u50,u51,u52,u53,.int .i64 (lo-ohi),.agg #[.int .i64 kind,.int .i64 view,.int .i64 z,.int .i64 first,.int .i64 pitch,.int .i64 strips,.int .i64 spill,.int .i64 olo,.int .i64 ohi,.int .i64 clo,.int .i64 chi,.int .i64 jitter,.int .i64 least,.slice da dn dc,.slice ea en ec,.int .i64 k],.func (.func 201) #[] #[.pointer (some ⟨wc.heap.size+1+1,0,none⟩)],.int .i64 ((xx.val:Nat):Int),.agg #[.int .i64 (TF xx),.int .i64 (TF xx+pitch-1)],undef,undef,undef,undef,undef,undef,undef,undef,undef,undef,undef,undef,undef,undef,undef,undef,undef,undef,undef,undef,undef,undef,undef,undef,undef,undef,undef,undef,undef,undef,undef,undef,undef,undef,undef,undef,undef,undef],defers:=[]})
  (fun x a'=>Own.from (fun s A B row hs hg hr=>by obtain⟨Bx,⟨h1,h2,h3⟩,he⟩:=hs;exact⟨Bx,⟨h1,cell_kept h2 hg hr,cell_kept h3 hg hr⟩,he⟩) _) ?assign ?body ?done ?stop
 case hKb=>
  intro W l o o' hl ho h1 h2
  have hne:wc.heap.size+1+1≠l:=by simp at hl;omega
  exact⟨belowK_b (w:=w) (Q1 _) W l o o' (by simp at hl;omega) ho h1 h2,fun j=>zS7 hne⟩
 case h0=>exact⟨⟨((L1 (by simp;omega)).trans ((L1 (by simp;omega)).trans (L1 (by omega)))).trans v0,((L1 (by simp;omega)).trans ((L1 (by simp;omega)).trans (L1 (by omega)))).trans v1,((L1 (by simp;omega)).trans ((L1 (by simp;omega)).trans (L1 (by omega)))).trans (hp2 6),by rw[HCL0.out];go_simp,by go_simp,by rw[HNL0.out];go_simp,by go_simp,by simp⟩,hB3⟩
 case assign=>
  rintro l pre xx W K ⟨hI,hBW⟩ hK
  gi_wp2
  have hsz:=hI.2.2.2.2.2.2.2
  exact hK _ _ ((KeepsOthers.alloc _ _).from _) ⟨(Q2 _ W).alloc hBW.size _,fun j=>L1 hsz⟩ ⟨jH7 (by omega) (by omega) (by omega) hI,hBW.alloc hBW.size _⟩ ⟨W.heap.size,⟨by omega,by simp,by simp⟩,rfl⟩
 case body=>
  rintro l pre xx a' W hl hloop ⟨hI,hBW⟩ ⟨Bx,⟨x1,x2,x3⟩,rfl⟩ hlt
  have HI:=Hd hI
  have hsz:wc.heap.size+2<W.heap.size:=hI.2.2.2.2.2.2.2
  have HBW:=Hd hBW
  obtain⟨i1,i2,i3,i4,i5,i6,i7,i8⟩:=hI
  have hcs:=HCLs.out pre xx
  have hns1:=HNLs.out pre xx
  obtain⟨q1,q2⟩:=HT.out xx
  clear hl hloop hlt hBW hTS hB3
  generalize TF xx=T at*
  generalize CL pre=CV at*
  generalize NL pre=NV at*
  have HQ:=Hd (show T≤NV∧NV≤T+pitch-1∨¬(T≤NV∧NV≤T+pitch-1) from Classical.em _)
  rcases HQ.out with hq|hq
  ·rw[if_pos hq] at hns1
   obtain⟨hq1,hq2⟩:=hq
   have HNS:=Hd hns1
   clear hns1 HQ
   cases CV
   ·by_cases hc1:T-spill≤hi-olo
    ·by_cases hc2:lo-ohi≤T+pitch-1+spill
     ·have HCS:=Hd (show CL (pre++[xx])=true by rw[hcs];simp[hc1,hc2])
      clear hcs
      gi_wp2
      exact⟨((KeepsOthers.setCell _ _ _).from _).trans ((KeepsOthers.setCell _ _ _).from _),⟨((Q2 w.heap.size W).setCell (p:=⟨_,_,_⟩) (by simp;omega) _).setCell (p:=⟨_,_,_⟩) (by simp;omega) _,fun j=>(L6 (by omega)).trans (L6 (by omega))⟩,by rw[HCS.out,HNS.out,Int.sub_add_cancel];exact zK5 hx3 hy3 hx9 (qQ4 hx3 hy3 hx9 HI.out),(HBW.out.setCell (p:=⟨_,_,_⟩) (by simp;omega) _).setCell (p:=⟨_,_,_⟩) (by simp;omega) _⟩
     ·have HCS:=Hd (show CL (pre++[xx])=false by rw[hcs];simp[hc1,hc2])
      clear hcs
      gi_wp2
      exact⟨((KeepsOthers.setCell _ _ _).from _).trans ((KeepsOthers.setCell _ _ _).from _),⟨((Q2 w.heap.size W).setCell (p:=⟨_,_,_⟩) (by simp;omega) _).setCell (p:=⟨_,_,_⟩) (by simp;omega) _,fun j=>(L6 (by omega)).trans (L6 (by omega))⟩,by rw[HCS.out,HNS.out,Int.sub_add_cancel];exact zK5 hx3 hy3 hx9 (qQ4 hx3 hy3 hx9 HI.out),(HBW.out.setCell (p:=⟨_,_,_⟩) (by simp;omega) _).setCell (p:=⟨_,_,_⟩) (by simp;omega) _⟩
    ·have HCS:=Hd (show CL (pre++[xx])=false by rw[hcs];simp[hc1])
     clear hcs
     gi_wp2
     exact⟨((KeepsOthers.setCell _ _ _).from _).trans ((KeepsOthers.setCell _ _ _).from _),⟨((Q2 w.heap.size W).setCell (p:=⟨_,_,_⟩) (by simp;omega) _).setCell (p:=⟨_,_,_⟩) (by simp;omega) _,fun j=>(L6 (by omega)).trans (L6 (by omega))⟩,by rw[HCS.out,HNS.out,Int.sub_add_cancel];exact zK5 hx3 hy3 hx9 (qQ4 hx3 hy3 hx9 HI.out),(HBW.out.setCell (p:=⟨_,_,_⟩) (by simp;omega) _).setCell (p:=⟨_,_,_⟩) (by simp;omega) _⟩
   ·have HCS:=Hd (show CL (pre++[xx])=true by rw[hcs];simp)
    clear hcs
    gi_wp2
    exact⟨((KeepsOthers.setCell _ _ _).from _).trans ((KeepsOthers.setCell _ _ _).from _),⟨((Q2 w.heap.size W).setCell (p:=⟨_,_,_⟩) (by simp;omega) _).setCell (p:=⟨_,_,_⟩) (by simp;omega) _,fun j=>(L6 (by omega)).trans (L6 (by omega))⟩,by rw[HCS.out,HNS.out,Int.sub_add_cancel];exact zK5 hx3 hy3 hx9 (qQ4 hx3 hy3 hx9 HI.out),(HBW.out.setCell (p:=⟨_,_,_⟩) (by simp;omega) _).setCell (p:=⟨_,_,_⟩) (by simp;omega) _⟩
  ·rw[if_neg hq] at hns1
   have HNS:=Hd hns1
   clear hns1 HQ
   by_cases hq1:T≤NV
   ·have hq2:¬NV≤T+pitch-1:=fun h=>hq ⟨hq1,h⟩
    clear hq
    cases CV
    ·by_cases hc1:T-spill≤hi-olo
     ·by_cases hc2:lo-ohi≤T+pitch-1+spill
      ·have HCS:=Hd (show CL (pre++[xx])=true by rw[hcs];simp[hc1,hc2])
       clear hcs
       gi_wp2
       exact⟨(KeepsOthers.setCell _ _ _).from _,⟨(Q2 w.heap.size W).setCell (p:=⟨_,_,_⟩) (by simp;omega) _,fun j=>L6 (by omega)⟩,by rw[HCS.out,HNS.out];exact qQ4 hx3 hy3 hx9 HI.out,HBW.out.setCell (p:=⟨_,_,_⟩) (by simp;omega) _⟩
      ·have HCS:=Hd (show CL (pre++[xx])=false by rw[hcs];simp[hc1,hc2])
       clear hcs
       gi_wp2
       exact⟨(KeepsOthers.setCell _ _ _).from _,⟨(Q2 w.heap.size W).setCell (p:=⟨_,_,_⟩) (by simp;omega) _,fun j=>L6 (by omega)⟩,by rw[HCS.out,HNS.out];exact qQ4 hx3 hy3 hx9 HI.out,HBW.out.setCell (p:=⟨_,_,_⟩) (by simp;omega) _⟩
     ·have HCS:=Hd (show CL (pre++[xx])=false by rw[hcs];simp[hc1])
      clear hcs
      gi_wp2
      exact⟨(KeepsOthers.setCell _ _ _).from _,⟨(Q2 w.heap.size W).setCell (p:=⟨_,_,_⟩) (by simp;omega) _,fun j=>L6 (by omega)⟩,by rw[HCS.out,HNS.out];exact qQ4 hx3 hy3 hx9 HI.out,HBW.out.setCell (p:=⟨_,_,_⟩) (by simp;omega) _⟩
    ·have HCS:=Hd (show CL (pre++[xx])=true by rw[hcs];simp)
     clear hcs
     gi_wp2
     exact⟨(KeepsOthers.setCell _ _ _).from _,⟨(Q2 w.heap.size W).setCell (p:=⟨_,_,_⟩) (by simp;omega) _,fun j=>L6 (by omega)⟩,by rw[HCS.out,HNS.out];exact qQ4 hx3 hy3 hx9 HI.out,HBW.out.setCell (p:=⟨_,_,_⟩) (by simp;omega) _⟩
   ·clear hq
    cases CV
    ·by_cases hc1:T-spill≤hi-olo
     ·by_cases hc2:lo-ohi≤T+pitch-1+spill
      ·have HCS:=Hd (show CL (pre++[xx])=true by rw[hcs];simp[hc1,hc2])
       clear hcs
       gi_wp2
       exact⟨(KeepsOthers.setCell _ _ _).from _,⟨(Q2 w.heap.size W).setCell (p:=⟨_,_,_⟩) (by simp;omega) _,fun j=>L6 (by omega)⟩,by rw[HCS.out,HNS.out];exact qQ4 hx3 hy3 hx9 HI.out,HBW.out.setCell (p:=⟨_,_,_⟩) (by simp;omega) _⟩
      ·have HCS:=Hd (show CL (pre++[xx])=false by rw[hcs];simp[hc1,hc2])
       clear hcs
       gi_wp2
       exact⟨(KeepsOthers.setCell _ _ _).from _,⟨(Q2 w.heap.size W).setCell (p:=⟨_,_,_⟩) (by simp;omega) _,fun j=>L6 (by omega)⟩,by rw[HCS.out,HNS.out];exact qQ4 hx3 hy3 hx9 HI.out,HBW.out.setCell (p:=⟨_,_,_⟩) (by simp;omega) _⟩
     ·have HCS:=Hd (show CL (pre++[xx])=false by rw[hcs];simp[hc1])
      clear hcs
      gi_wp2
      exact⟨(KeepsOthers.setCell _ _ _).from _,⟨(Q2 w.heap.size W).setCell (p:=⟨_,_,_⟩) (by simp;omega) _,fun j=>L6 (by omega)⟩,by rw[HCS.out,HNS.out];exact qQ4 hx3 hy3 hx9 HI.out,HBW.out.setCell (p:=⟨_,_,_⟩) (by simp;omega) _⟩
    ·have HCS:=Hd (show CL (pre++[xx])=true by rw[hcs];simp)
     clear hcs
     gi_wp2
     exact⟨(KeepsOthers.setCell _ _ _).from _,⟨(Q2 w.heap.size W).setCell (p:=⟨_,_,_⟩) (by simp;omega) _,fun j=>L6 (by omega)⟩,by rw[HCS.out,HNS.out];exact qQ4 hx3 hy3 hx9 HI.out,HBW.out.setCell (p:=⟨_,_,_⟩) (by simp;omega) _⟩
 case done=>
  rintro D ys W hD rfl ⟨⟨i1,i2,i3,i4,i5,i6,i7,i8⟩,hBW⟩ hK
  clear hTS hB3
  go_wp2
  go_quiet (fail)
  go_wp2
  have hK':(W.drewN nq).heap[D]?=some (.deferred (some [])):=hK
  refine⟨by simp,.inl ⟨_,_,rfl,run_takeDeferred hK',?_⟩⟩
  exact⟨_,by simp[results,Tryz.results177,go_sem],rfl,(below_drewN hBW nq).trans (belowK_b (w:=w) (Q1 _) (W.drewN nq) D _ _ (by simp at hD;omega) hK' rfl rfl)⟩
 case stop=>
  rintro D c pre W _ _ h _
  exact h.elim
end
section
open Go.RowKit
theorem qL4(p:PR)(ch:Int)(w:World)(B:Nat)(hBw:B≤w.heap.size)(hm:p.mem B w):
  Calls Tryz.prog 72 #[p.plane,.int .i64 ch] w fun e w'=>e= .returned (.bool (Y1 p ch))∧Below w.heap.size w w':=by
 obtain⟨hdn,hen,hD,hI⟩:=hm
 have HY:=Hd (fun(k:Nat) hk h=> @xM4 p ch k hk h)
 have HN:=Hd (fun(k:Nat) hk h=> @jX9 p ch k hk h)
 have HI:=Hd hI
 clear hD hI hdn
 unfold maxLen at hen
 obtain⟨kind,view,z,first,pitch,strips,spill,olo,ohi,clo,chi,jitter,least,da,dn,dc,ea,en,ec,ds,es⟩:=p
 dsimp only at*
 go_enter Tryz.func72,Tryz.ntmps72
 go_wp2
 go_loop [5] (fun t=>∃k:Nat,k≤en∧t= .int .i64 k∧∀j,j<k→¬es j=ch) (fun t=>en-(intOf t).toNat)
 case atStart=>exact⟨0,Nat.zero_le _,rfl,fun j h=>by omega⟩
 case round=>
  obtain⟨k,hk,rfl,hall⟩:=hrel
  have HALL:=Hd hall
  clear hall
  by_cases hlt:k<en
  ·rcases HI.out with hd|⟨b,off,rfl,hbs,hcell⟩
   ·omega
   have c0:=hcell k hlt
   have hbz0:b<w.heap.size:=by omega
   clear hcell
   by_cases he:es k=ch
   ·have he':(es k==ch)=true:=by simp[he]
    have HE:=Hd (HY.out k hlt he)
    clear he
    go_wp2
    go_ret
    exact⟨J2 HE.out,(Q2 _ _).alloc (Q1 _) _⟩
   ·have he':(es k==ch)=false:=by simp[he]
    have HE:=Hd he
    clear he
    go_wp2
    go_round
    case rel=>exact⟨k+1,by omega,by go_num,fun j hj=>by(by_cases e:j=k;subst e;exact HE.out;exact HALL.out j (by omega))⟩
    case measure=>simp[intOf];omega
  ·go_wp2
   go_ret
   exact⟨J2 (HN.out k (by omega) HALL.out),(Q2 _ _).alloc (Q1 _) _⟩
theorem xN8{p:PR}{h:HV}{k:Nat}(hk:(k:Int)<h.many)(hd:Y1 p (h.channel+k)=true):false=C7 p h:=by
 obtain⟨j,hj,he⟩:=qR9.1 hd
 have:P6 p h j=false:=by
  have:J1 (p.es j) h.channel (h.channel+h.many-1)=true:=J6 (by omega) (by omega)
  simp[P6,this]
 simp[C7,Y7 hj this]
theorem jK5{p:PR}{h:HV}{k:Nat}(h1:F1 p h=true)(hk:(k:Int)=h.many)(hd:∀j:Nat,j<k→Y1 p (h.channel+j)=false):F9 p h=C7 p h:=by
 have:M1 p.en (P6 p h)=true:=by
  apply Y3
  intro j hj
  by_cases hw:J1 (p.es j) h.channel (h.channel+h.many-1)=true
  ·exfalso
   obtain⟨w1,w2⟩:=J8.1 hw
   have:=hd (p.es j-h.channel).toNat (by omega)
   rw[show h.channel+((p.es j-h.channel).toNat:Int)=p.es j by omega] at this
   rw[qR9.2 ⟨j,hj,rfl⟩] at this
   cases this
  ·simp[P6,hw]
 simp[C7,h1,this]
theorem zL9{p:PR}{h:HV}(hh:¬F1 p h=true):false=C7 p h:=by simp[C7,hh]
theorem jK3{w:World}{o:Obj}{i:Nat}(h:i<w.heap.size):(w.alloc o).heap[i]?=w.heap[i]? :=Q9 w o i h
theorem zR5{w:World}{o:Obj}{i:Nat}(h:i=w.heap.size):(w.alloc o).heap[i]?=some o:=by subst h;exact Q3 w o
theorem jS0(w:World)(a b c:Obj):(((w.alloc a).alloc b).alloc c).heap[w.heap.size+1]?=some b:=by
 rw[jK3 (by simp),zR5 (by simp)]
theorem jS1(w:World)(a b c:Obj):(((w.alloc a).alloc b).alloc c).heap[w.heap.size+2]?=some c:=zR5 (by simp)
theorem jG3(a:Option Addr)(n c:Nat)(ps:Nat→PR)(h:HV)(w:World)(B:Nat)(hBw:B≤w.heap.size)(hP:Y2 B w a n ps)(hC:K7 n ps=true)(k:Nat)(hk:k<n)(hh:h.plane=k):
  Calls Tryz.prog 33 #[L3 a n c,h.val] w fun e w'=>e= .returned (.bool (C7 (ps k) h))∧Below w.heap.size w w':=by
 obtain⟨b,off,rfl,hbB,⟨c0,c1,c2,c3,c4,c5,c6,c7,c8,c9,c10,c11,c12,c13,c14⟩,hm⟩:=hP.get hk
 have hN:=P1 hC
 have hS:=G0 (M3 hC hk)
 clear hP hC
 obtain⟨_,channel,many,drift,charge,time⟩:=h
 dsimp only at hh
 subst hh
 generalize ps k=p at*
 obtain⟨hst1,hst2⟩:=hS.strips
 obtain⟨hl1,hl2⟩:=hS.least
 clear hS
 have h1:J1 (k:Int) 0 ((n:Int)-1)=true:=J6 (by omega) (by omega)
 have hbz:b<w.heap.size:=by omega
 have lt1:b<w.heap.size+1:=by omega
 have lt2:b<w.heap.size+1+1:=by omega
 have HM:=Hd hm
 clear hm
 have HF1:=Hd (fun hh=> @zL9 p ⟨k,channel,many,drift,charge,time⟩ hh)
 have HF2:=Hd (fun j hj hd=> @xN8 p ⟨k,channel,many,drift,charge,time⟩ j hj hd)
 have HF3:=Hd (fun j h1 hk hd=> @jK5 p ⟨k,channel,many,drift,charge,time⟩ j h1 hk hd)
 obtain⟨p0,HP0⟩:∃p0:PR,Hid (p0=p):=⟨p,Hd rfl⟩
 obtain⟨kind,view,z,first,pitch,strips,spill,olo,ohi,clo,chi,jitter,least,da,dn,dc,ea,en,ec,ds,es⟩:=p
 dsimp only at*
 go_enter Tryz.func33,Tryz.ntmps33
 go_upto_region 3 with((go_at_call 17;refine(L4 _ _ _ _).mono ?_;rintro e w' ⟨rfl,rfl⟩))
 go_cut [5] from 7 to 20 (fun s5 wx=>s5= .pointer (some ⟨w.heap.size+2,0,none⟩)∧(∀j,wx.cell? ⟨w.heap.size+1,j,none⟩=(#[.int .i64 k,.int .i64 channel,.int .i64 many,.int .i64 drift,.int .i64 charge,.int .i64 time]:Array Value)[j]?)∧(∀j,wx.cell? ⟨w.heap.size+2,j,none⟩=(#[.int .i64 kind,.int .i64 view,.int .i64 z,.int .i64 first,.int .i64 pitch,.int .i64 strips,.int .i64 spill,.int .i64 olo,.int .i64 ohi,.int .i64 clo,.int .i64 chi,.int .i64 jitter,.int .i64 least,.slice da dn dc,.slice ea en ec]:Array Value)[j]?)∧w.heap.size+3≤wx.heap.size∧Below w.heap.size w wx)
 case first=>
  go_wp2_with fail
  go_meet
  clear c0 c1 c2 c3 c4 c5 c6 c7 c8 c9 c10 c11 c12 c13 c14
  refine⟨rfl,fun j=> ?_,fun j=> ?_,?_,?_⟩
  ·exact Q0 _ _ _ _ _ _ (jS0 _ _ _ _)
  ·exact Q0 _ _ _ _ _ _ (jS1 _ _ _ _)
  ·simp
  ·exact(((Q2 _ _).alloc (Q1 _) _).alloc (by simp) _).alloc (by simp;omega) _
 obtain⟨rfl,hh,hp,hz,hbx⟩:=hcut
 clear c0 c1 c2 c3 c4 c5 c6 c7 c8 c9 c10 c11 c12 c13 c14 lt1 lt2
 by_cases hpre:J1 channel 0 (strips-1)=true∧J1 many 1 (strips-channel)=true∧J1 charge least 1000000=true∧J1 time (-1000000000) 1000000000=true
 case neg=>
  have HF:=Hd (HF1.out (by simpa [F1] using hpre))
  have HPRE:=Hd hpre
  clear hpre
  by_cases p1:J1 channel 0 (strips-1)=true
  ·obtain⟨q1,q2⟩:=J8.1 p1
   go_upto_region 6 with((go_at_call 17;refine(L4 _ _ _ _).mono ?_;rintro e w' ⟨rfl,rfl⟩))
   all_goals first|(go_ret;exact⟨J2 HF.out,hbx⟩)|(exfalso;go_light;apply HPRE.out;clear HPRE HF HF1 HF2 HF3 HM HP0 hh hp hbx;simp_all)
  ·have p2:J1 channel 0 (strips-1)=false:=by simpa using p1
   clear p1
   go_wp2_with(go_at_call 17;refine(L4 _ _ _ _).mono ?_;rintro e w' ⟨rfl,rfl⟩)
   go_ret
   exact⟨J2 HF.out,hbx⟩
 obtain⟨p1,p2,p3,p4⟩:=hpre
 have HPRE:=Hd (show F1 ⟨kind,view,z,first,pitch,strips,spill,olo,ohi,clo,chi,jitter,least,da,dn,dc,ea,en,ec,ds,es⟩ ⟨k,channel,many,drift,charge,time⟩=true by simp[F1,p1,p2,p3,p4])
 obtain⟨q1,q2⟩:=J8.1 p1
 obtain⟨q3,q4⟩:=J8.1 p2
 go_wp2_with(go_at_call 17;refine(L4 _ _ _ _).mono ?_;rintro e w' ⟨rfl,rfl⟩)
 clear p1 p2 p3 p4
 go_loopw [6] (fun t wr=>∃i:Nat,(i:Int)≤many∧t= .int .i64 i∧(∀j:Nat,j<i→Y1 p0 (channel+j)=false)∧(∀j,wr.cell? ⟨w.heap.size+1,j,none⟩=(#[.int .i64 k,.int .i64 channel,.int .i64 many,.int .i64 drift,.int .i64 charge,.int .i64 time]:Array Value)[j]?)∧(∀j,wr.cell? ⟨w.heap.size+2,j,none⟩=(#[.int .i64 kind,.int .i64 view,.int .i64 z,.int .i64 first,.int .i64 pitch,.int .i64 strips,.int .i64 spill,.int .i64 olo,.int .i64 ohi,.int .i64 clo,.int .i64 chi,.int .i64 jitter,.int .i64 least,.slice da dn dc,.slice ea en ec]:Array Value)[j]?)∧w.heap.size+3≤wr.heap.size∧Below w.heap.size w wr) (fun t _=>(many-intOf t).toNat)
 case atStart=>exact⟨0,by omega,rfl,fun j h=>by omega,hh,hp,hz,hbx⟩
 case round=>
  clear hh hp hz hbx
  obtain⟨i,hi,rfl,hall,hh,hp,hz,hbx⟩:=hrel
  have HALL:=Hd hall
  clear hall
  by_cases hlt:(i:Int)<many
  ·by_cases hd:Y1 p0 (channel+i)=true
   ·have HF:=Hd (HF2.out i hlt (by rw[←HP0.out];exact hd))
    go_wp2_with(go_at_call 72;refine(qL4 ⟨kind,view,z,first,pitch,strips,spill,olo,ohi,clo,chi,jitter,least,da,dn,dc,ea,en,ec,ds,es⟩ _ _ B (by omega) (HM.out.below (hbx.mono hBw))).mono ?_;rintro e w2 ⟨rfl,hb2⟩;rw[←HP0.out,hd];have hB2:Below w.heap.size w w2:=hbx.trans (hb2.mono (by omega)))
    go_ret
    exact⟨J2 HF.out,hB2⟩
   ·have hd':Y1 p0 (channel+i)=false:=by simpa using hd
    have HN:=Hd hd'
    go_wp2_with(go_at_call 72;refine(qL4 ⟨kind,view,z,first,pitch,strips,spill,olo,ohi,clo,chi,jitter,least,da,dn,dc,ea,en,ec,ds,es⟩ _ _ B (by omega) (HM.out.below (hbx.mono hBw))).mono ?_;rintro e w2 ⟨rfl,hb2⟩;rw[←HP0.out,hd'];have hB2:Below w.heap.size w w2:=hbx.trans (hb2.mono (by omega));have hz2:w.heap.size+3≤w2.heap.size:=(by have:=hb2.size;omega))
    go_roundw
    case rel=>exact⟨i+1,by omega,by go_num,fun j hj=>by(by_cases e:j=i;subst e;exact HN.out;exact HALL.out j (by omega)),fun j=>(hb2.cell (p:=⟨w.heap.size+1,j,none⟩) (by show w.heap.size+1<_;omega)).trans (hh j),fun j=>(hb2.cell (p:=⟨w.heap.size+2,j,none⟩) (by show w.heap.size+2<_;omega)).trans (hp j),hz2,hB2⟩
    case measure=>simp[intOf];omega
  ·have HE:=Hd (HF3.out i HPRE.out (by show(i:Int)=many;omega) (by rw[←HP0.out];exact HALL.out))
   have hge:many≤(i:Int):=by omega
   by_cases hk2:kind=2
   ·have e2:(kind==2)=true:=by simp[hk2]
    have HK:=Hd hk2
    clear hk2
    by_cases hm1:many=1
    ·have e3:(many==1)=true:=by simp[hm1]
     have HM1:=Hd hm1
     clear hm1
     go_wp2_with(go_at_call 17;refine(L4 _ _ _ _).mono ?_;rintro e w' ⟨rfl,rfl⟩)
     go_ret
     exact⟨J2 (by rw[←HE.out];simp[F9,HK.out,HM1.out]),hbx⟩
    ·have e3:(many==1)=false:=by simp[hm1]
     have HM1:=Hd hm1
     clear hm1
     go_wp2_with(go_at_call 17;refine(L4 _ _ _ _).mono ?_;rintro e w' ⟨rfl,rfl⟩)
     go_ret
     exact⟨J2 (by rw[←HE.out];simp[F9,HK.out,HM1.out]),hbx⟩
   ·have e2:(kind==2)=false:=by simp[hk2]
    have HK:=Hd hk2
    clear hk2
    by_cases hk3:kind=3
    ·have e3:(kind==3)=true:=by simp[hk3]
     have HK3:=Hd hk3
     clear hk3
     by_cases hd0:drift=0
     ·have e4:(drift==0)=true:=by simp[hd0]
      have HD0:=Hd hd0
      clear hd0
      go_wp2
      go_ret
      exact⟨J2 (by rw[←HE.out];simp[F9,HK3.out,HD0.out]),hbx⟩
     ·have e4:(drift==0)=false:=by simp[hd0]
      have HD0:=Hd hd0
      clear hd0
      go_wp2
      go_ret
      exact⟨J2 (by rw[←HE.out];simp[F9,HK3.out,HD0.out]),hbx⟩
    ·have e3:(kind==3)=false:=by simp[hk3]
     have HK3:=Hd hk3
     clear hk3
     go_wp2
     go_ret
     exact⟨J2 (by rw[←HE.out];simp[F9,HK.out,HK3.out]),hbx⟩
end
end Go.Proofs.YtmncaipgefbalaaGreatDoor
