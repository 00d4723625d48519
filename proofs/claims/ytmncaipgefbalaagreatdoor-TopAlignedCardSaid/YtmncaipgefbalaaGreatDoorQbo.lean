/- Part of the proof of the claim. -/
import Derived.Test.YtmncaipgefbalaaGreatDoorQbn
import Derived.Lib.BufferOwn
set_option maxRecDepth 100000
set_option maxHeartbeats 8000000
set_option linter.unusedVariables false
set_option linter.unusedSimpArgs false
namespace Go.Proofs.YtmncaipgefbalaaGreatDoor
section
open Go.RowKit
theorem qZ8(w:World)(b j:Nat)(cur:Array Value)(e:TypeId)(fz:Nat×Nat)(v:Value)(h:w.heap[b]?=some (.cells cur e fz)):(w.setCell ⟨b,j,none⟩ v).heap[b]?=some (.cells (cur.setIfInBounds j v) e fz):=by
 simp[World.setCell,Array.getElem?_modify,h]
structure qF4(cur:Array Value)(o:Nat)(P s h k c:Nat):Prop where
 parts:cur[o]?=some (.int .i64 (P:Int))
 slots:cur[o+1]?=some (.int .i64 (s:Int))
 hits:cur[o+2]?=some (.int .i64 (h:Int))
 rate:cur[o+3]?=some (.int .i64 (k:Int))
 capital:cur[o+4]?=some (.int .i64 (c:Int))
theorem qF4.at{W:World}{b o P s h k c:Nat}{cur:Array Value}{t:TypeId}{fz:Nat×Nat}(hb:W.heap[b]?=some (.cells cur t fz))(hi:qF4 cur o P s h k c):jD9 W b o P s h k c:=
 ⟨(Q0 _ _ _ _ _ _ hb).trans hi.parts,(Q0 _ _ _ _ _ _ hb).trans hi.slots,(Q0 _ _ _ _ _ _ hb).trans hi.hits,(Q0 _ _ _ _ _ _ hb).trans hi.rate,(Q0 _ _ _ _ _ _ hb).trans hi.capital⟩
def A4(cur:Array Value)(o s h c':Nat)(hit:Bool):Array Value:=
 if hit=true then((cur.setIfInBounds (o+4) (.int .i64 (c':Int))).setIfInBounds (o+1) (.int .i64 ((s+1:Nat):Int))).setIfInBounds (o+2) (.int .i64 ((h+1:Nat):Int))
 else(cur.setIfInBounds (o+4) (.int .i64 (c':Int))).setIfInBounds (o+1) (.int .i64 ((s+1:Nat):Int))
def kZ8(b o s h c':Nat)(hit:Bool)(cur:Array Value)(t:TypeId)(w:World)(e:Ending)(w':World):Prop:=e= .returned (.tuple #[])∧w.grownBy w' (some b)∧w'.heap[b]?=some (.cells (A4 cur o s h c' hit) t)
theorem J7(cur:Array Value)(v:Value){i j:Nat}(h:i≠j):(cur.setIfInBounds i v)[j]?=cur[j]? :=by rw[Array.getElem?_setIfInBounds_ne h]
theorem zZ2{w w':World}(h:Below w.heap.size w w')(b:Nat):w.grownBy w' (some b):=⟨h.os,h.tape,h.output,h.size,fun i hi _=>h.block i hi⟩
theorem jU1(b o P s h k c:Nat)(hit:Bool)(cur:Array Value)(w:World)(hb:w.heap[b]?=some (.cells cur 198))(hI:qF4 cur o P s h k c)(hO:zN8 P s h k c):
  Calls Tryz.prog 139 #[.pointer (some ⟨b,o,none⟩),.bool hit] w (kZ8 b o s h (if hit=true then A7 N6 P k c s h else A8 N6 P k c s h) hit cur 198 w):=by
 have hmf:∀(fn:Fn) (first cap:Array Value) (w:World),(Instr.makeFunc fn first cap).run Tryz.prog w= .ok (.func fn first cap) w:=fun _ _ _ _=>rfl
 have HH:=Hd (kK8 b o P s h k c w (qF4.at hb hI) hO)
 have HM:=Hd (jT6 b o P s h k c w (qF4.at hb hI) hO)
 have hs:=hO.slots
 have hh:=hO.hits
 have HB:=Hd hb
 have HI:=Hd hI
 clear hb hI hO
 cases hit with
 |true=>
  rw[if_pos rfl]
  generalize A7 N6 P k c s h=R at*
  clear HM
  go_enter Tryz.func139,Tryz.ntmps139
  go_upto_region 4 with(go_at_call 169;refine HH.out.mono ?_;rintro e W1 ⟨rfl,hb1⟩;(have HB1:=Hd (Y0 HB.out hb1);have HG1:=Hd (zZ2 hb1 b);have y0:W1.cell? ⟨b,o+4,none⟩=some (.int .i64 (c:Int)):=(Q0 _ _ _ _ _ _ HB1.out).trans HI.out.capital;have y1:W1.frozen? ⟨b,o+4,none⟩=false:=Lib.frozen_of_heap HB1.out _;clear hb1))
  have HB2:=Hd (qZ8 W1 b (o+4) cur _ _ (.int .i64 (R:Int)) HB1.out);have HG2:=Hd (Lib.grownBy_trans HG1.out (Lib.grownBy_setCell W1 b (o+4) (.int .i64 (R:Int))));clear y0 y1;generalize World.setCell W1 _ _=W2 at*;have y0:W2.cell? ⟨b,o+1,none⟩=some (.int .i64 (s:Int)):=(Q0 _ _ _ _ _ _ HB2.out).trans (by rw[J7 _ _ (by omega)];exact HI.out.slots);have y1:W2.frozen? ⟨b,o+1,none⟩=false:=Lib.frozen_of_heap HB2.out _
  go_upto_region 5 with(fail)
  have HB3:=Hd (qZ8 W2 b (o+1) _ _ _ (.int .i64 ((s+1:Nat):Int)) HB2.out);have HG3:=Hd (Lib.grownBy_trans HG2.out (Lib.grownBy_setCell W2 b (o+1) (.int .i64 ((s+1:Nat):Int))));clear y0 y1;change Code.wp _ _ _ _ (World.setCell W2 ⟨b,o+1,none⟩ (.int .i64 ((s+1:Nat):Int)));generalize World.setCell W2 _ _=W3 at*
  go_upto_region 6 with(fail)
  have y0:W3.cell? ⟨b,o+2,none⟩=some (.int .i64 (h:Int)):=(Q0 _ _ _ _ _ _ HB3.out).trans (by rw[J7 _ _ (by omega),J7 _ _ (by omega)];exact HI.out.hits)
  have y1:W3.frozen? ⟨b,o+2,none⟩=false:=Lib.frozen_of_heap HB3.out _
  go_wp2
  refine Z2 (results_none rfl _ _ _) rfl ⟨rfl,Lib.grownBy_trans HG3.out (Lib.grownBy_setCell _ _ _ _),?_⟩
  unfold A4
  rw[if_pos rfl]
  exact qZ8 _ _ _ _ _ _ _ HB3.out
 |false=>
  rw[if_neg (by decide)]
  generalize A8 N6 P k c s h=R at*
  clear HH
  go_enter Tryz.func139,Tryz.ntmps139
  go_upto_region 4 with(go_at_call 168;refine HM.out.mono ?_;rintro e W1 ⟨rfl,hb1⟩;(have HB1:=Hd (Y0 HB.out hb1);have HG1:=Hd (zZ2 hb1 b);have y0:W1.cell? ⟨b,o+4,none⟩=some (.int .i64 (c:Int)):=(Q0 _ _ _ _ _ _ HB1.out).trans HI.out.capital;have y1:W1.frozen? ⟨b,o+4,none⟩=false:=Lib.frozen_of_heap HB1.out _;clear hb1))
  have HB2:=Hd (qZ8 W1 b (o+4) cur _ _ (.int .i64 (R:Int)) HB1.out);have HG2:=Hd (Lib.grownBy_trans HG1.out (Lib.grownBy_setCell W1 b (o+4) (.int .i64 (R:Int))));clear y0 y1;generalize World.setCell W1 _ _=W2 at*;have y0:W2.cell? ⟨b,o+1,none⟩=some (.int .i64 (s:Int)):=(Q0 _ _ _ _ _ _ HB2.out).trans (by rw[J7 _ _ (by omega)];exact HI.out.slots);have y1:W2.frozen? ⟨b,o+1,none⟩=false:=Lib.frozen_of_heap HB2.out _
  go_upto_region 5 with(fail)
  have HB3:=Hd (qZ8 W2 b (o+1) _ _ _ (.int .i64 ((s+1:Nat):Int)) HB2.out);have HG3:=Hd (Lib.grownBy_trans HG2.out (Lib.grownBy_setCell W2 b (o+1) (.int .i64 ((s+1:Nat):Int))));clear y0 y1;change Code.wp _ _ _ _ (World.setCell W2 ⟨b,o+1,none⟩ (.int .i64 ((s+1:Nat):Int)));generalize World.setCell W2 _ _=W3 at*
  go_wp2
  refine Z2 (results_none rfl _ _ _) rfl ⟨rfl,HG3.out,?_⟩
  unfold A4
  rw[if_neg (by decide)]
  exact HB3.out
structure zN9(cs:Array Value)(P lv lb cap:Nat)(out:Nat→Bool)(kept:Int):Prop where
 size:cs.size=2006
 parts:cs[0]?=some (.int .i64 (P:Int))
 level:cs[1]?=some (.int .i64 (lv:Int))
 list:cs[2]?=some (.slice (some ⟨lb,0,none⟩) (P+1) cap)
 outs:∀i,i<1001→cs[3+i]?=some (.bool (out i))
 kept:cs[1004]?=some (.int .i64 kept)
 ats:∀i,i<1001→∃z,cs[1005+i]?=some (.int .i64 z)
theorem zN9.drop{cs:Array Value}{P lv lb cap:Nat}{out:Nat→Bool}{kept:Int}(h:zN9 cs P lv lb cap out kept){k:Nat}(hk:k<1001)(z:Int):
  zN9 (((cs.setIfInBounds (3+k) (.bool true)).setIfInBounds (1005+k) (.int .i64 z)).setIfInBounds 1004 (.int .i64 (kept-1))) P lv lb cap (fun i=>if i=k then true else out i) (kept-1):=by
 have hs:=h.size
 refine⟨by simp[hs],?_,?_,?_,fun i hi=> ?_,?_,fun i hi=> ?_⟩
 ·rw[J7 _ _ (by omega),J7 _ _ (by omega),J7 _ _ (by omega)];exact h.parts
 ·rw[J7 _ _ (by omega),J7 _ _ (by omega),J7 _ _ (by omega)];exact h.level
 ·rw[J7 _ _ (by omega),J7 _ _ (by omega),J7 _ _ (by omega)];exact h.list
 ·rw[J7 _ _ (by omega),J7 _ _ (by omega)]
  by_cases e:i=k
  ·subst e
   rw[if_pos rfl,Array.getElem?_setIfInBounds_self,if_pos (by omega)]
  ·rw[if_neg e,J7 _ _ (by omega)]
   exact h.outs i hi
 ·rw[Array.getElem?_setIfInBounds_self,if_pos (by simp[hs])]
 ·rw[J7 _ _ (by omega)]
  by_cases e:i=k
  ·subst e
   exact⟨z,by rw[Array.getElem?_setIfInBounds_self,if_pos (by simp[hs];omega)]⟩
  ·obtain⟨y,hy⟩:=h.ats i hi
   exact⟨y,by rw[J7 _ _ (by omega),J7 _ _ (by omega)];exact hy⟩
structure B8(a b:Nat)(w w':World):Prop where
 os:w'.os=w.os
 tape:w'.tape=w.tape
 output:w'.output=w.output
 size:w.heap.size≤w'.heap.size
 block:∀i,i<w.heap.size→i≠a→i≠b→w'.heap[i]?=w.heap[i]?
theorem B8.trans{a b:Nat}{w1 w2 w3:World}(h:B8 a b w1 w2)(k:B8 a b w2 w3):B8 a b w1 w3:=
 ⟨k.os.trans h.os,k.tape.trans h.tape,k.output.trans h.output,Q5 h.size k.size,fun i hi h1 h2=>(k.block i (Z4 hi h.size) h1 h2).trans (h.block i hi h1 h2)⟩
theorem B8.left{a b:Nat}{w w':World}(h:w.grownBy w' (some a)):B8 a b w w':=⟨h.os,h.tape,h.output,h.size,fun i hi h1 _=>h.block i hi (by simpa using h1)⟩
theorem B8.right{a b:Nat}{w w':World}(h:w.grownBy w' (some b)):B8 a b w w':=⟨h.os,h.tape,h.output,h.size,fun i hi _ h2=>h.block i hi (by simpa using h2)⟩
theorem B8.below{a b:Nat}{w w':World}(h:Below w.heap.size w w'):B8 a b w w':=⟨h.os,h.tape,h.output,h.size,fun i hi _ _=>h.block i hi⟩
theorem xB8{cur:Array Value}{o P s h k c:Nat}(hI:qF4 cur o P s h k c)(hit:Bool)(R:Nat):(A4 cur o s h R hit)[o+1]?=some (.int .i64 ((s+1:Nat):Int))∧(A4 cur o s h R hit)[o+4]?=some (.int .i64 (R:Int)):=by
 have h1:=(J5 hI.slots)
 have h4:=(J5 hI.capital)
 unfold A4
 split
 ·refine⟨?_,?_⟩
  ·rw[J7 _ _ (by omega),Array.getElem?_setIfInBounds_self,if_pos (by simp;exact h1)]
  ·rw[J7 _ _ (by omega),J7 _ _ (by omega),Array.getElem?_setIfInBounds_self,if_pos h4]
 ·refine⟨?_,?_⟩
  ·rw[Array.getElem?_setIfInBounds_self,if_pos (by simp;exact h1)]
  ·rw[J7 _ _ (by omega),Array.getElem?_setIfInBounds_self,if_pos h4]
def xZ3(bb lb P lv cap k:Nat)(out:Nat→Bool)(kept:Int)(s h c':Nat)(hit:Bool)(cur:Array Value)(w:World)(e:Ending)(w':World):Prop:=
 e= .returned (.tuple #[])∧B8 bb lb w w'∧w'.heap[lb]?=some (.cells (A4 cur (5*k) s h c' hit) 198)∧
  ∃cs',w'.heap[bb]?=some (.cells cs' 147)∧zN9 cs' P lv lb cap (fun i=>if i=k then decide (lv*1048576≤c') else out i) (if lv*1048576≤c' then kept-1 else kept)
theorem xX4(x1 x2 bb lb P lv cap k s h c:Nat)(out:Nat→Bool)(kept:Int)(hit:Bool)(cur cs:Array Value)(w:World)
  (hx1:w.heap[x1]?=some (.cells #[.pointer (some ⟨bb,0,none⟩)] 139)) (hx2:w.heap[x2]?=some (.cells #[.bool hit] 4))
  (hbb:w.heap[bb]?=some (.cells cs 147)) (hlb:w.heap[lb]?=some (.cells cur 198))
  (hG:zN9 cs P lv lb cap out kept) (hI:qF4 cur (5*k) P s h k c) (hO:zN8 P s h k c) (hout:out k=false) (hlv:lv≤900000) (hkept: -2000≤kept∧kept≤2000):
  Calls Tryz.prog 138 #[.int .i64 (k:Int),.pointer (some ⟨x1,0,none⟩),.pointer (some ⟨x2,0,none⟩)] w (xZ3 bb lb P lv cap k out kept s h (if hit=true then A7 N6 P k c s h else A8 N6 P k c s h) hit cur w):=by
 have HR0:¬lv*1048576≤(if hit=true then A7 N6 P k c s h else A8 N6 P k c s h)→∀W',B8 bb lb w W'→W'.heap[lb]?=some (.cells (A4 cur (5*k) s h (if hit=true then A7 N6 P k c s h else A8 N6 P k c s h) hit) 198)→W'.heap[bb]?=some (.cells cs 147)→xZ3 bb lb P lv cap k out kept s h (if hit=true then A7 N6 P k c s h else A8 N6 P k c s h) hit cur w (.returned (.tuple #[])) W':=fun hL W' h1 h2 h3=>⟨rfl,h1,h2,cs,h3,by
  rw[if_neg hL,Q7 hL]
  have e:(fun i=>if i=k then false else out i)=out:=by
   funext i
   by_cases h:i=k
   ·subst h;rw[if_pos rfl,hout]
   ·rw[if_neg h]
  rw[e]
  exact hG⟩
 have HR1:lv*1048576≤(if hit=true then A7 N6 P k c s h else A8 N6 P k c s h)→∀W' (z:Int),B8 bb lb w W'→W'.heap[lb]?=some (.cells (A4 cur (5*k) s h (if hit=true then A7 N6 P k c s h else A8 N6 P k c s h) hit) 198)→W'.heap[bb]?=some (.cells (((cs.setIfInBounds (3+k) (.bool true)).setIfInBounds (1005+k) (.int .i64 z)).setIfInBounds 1004 (.int .i64 (kept-1))) 147)→xZ3 bb lb P lv cap k out kept s h (if hit=true then A7 N6 P k c s h else A8 N6 P k c s h) hit cur w (.returned (.tuple #[])) W':=fun hL W' z h1 h2 h3=>⟨rfl,h1,h2,_,h3,by
  rw[if_pos hL,Z0 hL]
  exact hG.drop (by have:=hO.rate;have:=hO.parts;omega) z⟩
 generalize xZ3 bb lb P lv cap k out kept s h (if hit=true then A7 N6 P k c s h else A8 N6 P k c s h) hit cur w=RES at*
 have hk1:=hO.rate
 have hP:=hO.parts
 have hc':(if hit=true then A7 N6 P k c s h else A8 N6 P k c s h)≤N6:=by
  split
  ·exact xA0 hO.capital
  ·exact xA1 hO.capital
 have HN:=Hd (jU1 lb (5*k) P s h k c hit cur w hlb hI hO)
 have HI:=Hd hI
 have HG:=Hd hG
 generalize(if hit=true then A7 N6 P k c s h else A8 N6 P k c s h)=R at*
 have HX1:=Hd hx1
 have HX2:=Hd hx2
 have HBB:=Hd hbb
 have HLB:=Hd hlb
 have n1:bb≠lb:=fun e=>by
  subst e
  rw[hbb] at hlb
  simp only[Option.some.injEq,Obj.cells.injEq] at hlb
  exact absurd hlb.2.1 (by decide)
 have n3:bb≠x1:=fun e=>by
  subst e
  rw[hbb] at hx1
  simp only[Option.some.injEq,Obj.cells.injEq] at hx1
  exact absurd hx1.2.1 (by decide)
 have n2:x1≠lb:=fun e=>by
  subst e
  rw[hx1] at hlb
  simp only[Option.some.injEq,Obj.cells.injEq] at hlb
  exact absurd hlb.2.1 (by decide)
 have d1:w.cell? ⟨x1,0,none⟩=some (.pointer (some ⟨bb,0,none⟩)):=Q0 _ _ 0 _ _ _ hx1
 have d2:w.cell? ⟨x2,0,none⟩=some (.bool hit):=Q0 _ _ 0 _ _ _ hx2
 have d3:w.cell? ⟨bb,2,none⟩=some (.slice (some ⟨lb,0,none⟩) (P+1) cap):=(Q0 _ _ _ _ _ _ hbb).trans hG.list
 have hki:(k:Int)<((P+1:Nat):Int):=by omega
 have hki2:(k:Int)<(P:Int)+1:=by omega
 have h5:k*5=5*k:=Nat.mul_comm _ _
 clear hx1 hx2 hbb hlb hG hI hO
 go_enter Tryz.func138,Tryz.ntmps138
 go_upto_region 1 with(fail)
 go_upto_region 2 with(go_at_call 139;refine HN.out.mono ?_;rintro e W1 ⟨rfl,hg,hl⟩)
 have HB1:=Hd ((hg.block _ (J5 HBB.out) (by simpa using n1)).trans HBB.out)
 have HX3:=Hd ((hg.block _ (J5 HX1.out) (by simpa using n2)).trans HX1.out)
 have HL1:=Hd hl
 have HK1:=Hd (show B8 bb lb w W1 from B8.right hg)
 have HS5:=Hd (xB8 HI.out hit R)
 clear hg hl d1 d2 d3 HX1 HX2 HBB HLB HN
 have d1:W1.cell? ⟨x1,0,none⟩=some (.pointer (some ⟨bb,0,none⟩)):=Q0 _ _ 0 _ _ _ HX3.out
 have d2:W1.cell? ⟨bb,3+k,none⟩=some (.bool false):=(Q0 _ _ _ _ _ _ HB1.out).trans (by rw[←hout];exact HG.out.outs k (by omega))
 have d3:W1.cell? ⟨bb,1,none⟩=some (.int .i64 (lv:Int)):=(Q0 _ _ _ _ _ _ HB1.out).trans HG.out.level
 have d4:W1.cell? ⟨lb,5*k+4,none⟩=some (.int .i64 (R:Int)):=(Q0 _ _ _ _ _ _ HL1.out).trans HS5.out.2
 have hk1001:(k:Int)<1001:=by omega
 have l1:=(J5 HX3.out)
 have l2:=(J5 HB1.out)
 have l3:=(J5 HL1.out)
 by_cases hL:lv*1048576≤R
 case neg=>
  have hL':¬(lv:Int)*1048576≤(R:Int):=by omega
  have HR:=Hd (HR0 hL)
  clear HR0 HR1 hL
  (refine J4 (W1.heap.size) (by kernel_rfl) (by kernel_rfl) ?_;(repeat(first|go_big_quiet_step((fail))|quiet_step((fail))));refine X4 (wqn ?_);intro xq)
  have H2:=Hd (HR.out _ (HK1.out.trans (B8.below xq.below)) ((xq.below.block _ l3).trans HL1.out) ((xq.below.block _ l2).trans HB1.out))
  go_wp2
  exact Z2 (results_none rfl _ _ _) rfl H2.out
 case pos=>
  have hL':(lv:Int)*1048576≤(R:Int):=by omega
  have HR:=Hd (HR1 hL)
  clear HR0 HR1 hL
  (refine J4 (W1.heap.size) (by kernel_rfl) (by kernel_rfl) ?_;(repeat(first|go_big_quiet_step((fail))|quiet_step((fail))));refine X4 (wqn ?_);intro xq)
  go_upto_region 3 with(fail)
  have HK2:=Hd (HK1.out.trans (B8.below xq.below))
  have HB2:=Hd ((xq.below.block _ l2).trans HB1.out)
  have HL2:=Hd ((xq.below.block _ l3).trans HL1.out)
  have HX2:=Hd ((xq.below.block _ l1).trans HX3.out)
  clear d1 d2 d3 d4 HK1 HB1 HL1 HX3 l1 l2 l3
  generalize xq.val=V at*
  obtain⟨z0,hz0⟩:=HG.out.ats k (by omega)
  have e1:V.cell? ⟨x1,0,none⟩=some (.pointer (some ⟨bb,0,none⟩)):=Q0 _ _ 0 _ _ _ HX2.out
  have e2:V.cell? ⟨bb,3+k,none⟩=some (.bool false):=(Q0 _ _ _ _ _ _ HB2.out).trans (by rw[←hout];exact HG.out.outs k (by omega))
  have e3:V.frozen? ⟨bb,3+k,none⟩=false:=Lib.frozen_of_heap HB2.out _
  have e4:V.cell? ⟨bb,1005+k,none⟩=some (.int .i64 z0):=(Q0 _ _ _ _ _ _ HB2.out).trans hz0
  have e5:V.frozen? ⟨bb,1005+k,none⟩=false:=Lib.frozen_of_heap HB2.out _
  have e6:V.cell? ⟨lb,5*k+1,none⟩=some (.int .i64 ((s+1:Nat):Int)):=(Q0 _ _ _ _ _ _ HL2.out).trans HS5.out.1
  have l2:=(J5 HB2.out)
  go_region
  have HB3:=Hd (qZ8 (V.setCell ⟨bb,3+k,none⟩ (.bool true)) bb (1005+k) _ _ _ (.int .i64 ((s+1:Nat):Int)) (qZ8 V bb (3+k) cs _ _ (.bool true) HB2.out))
  have HG3:=Hd (Lib.grownBy_trans (Lib.grownBy_setCell V bb (3+k) (.bool true)) (Lib.grownBy_setCell (V.setCell ⟨bb,3+k,none⟩ (.bool true)) bb (1005+k) (.int .i64 ((s+1:Nat):Int))))
  clear e2 e3 e4 e5 e6 e1
  change Exit.then _ _ Exit.normal _ (World.drew (World.setCell (World.setCell V ⟨bb,3+k,none⟩ (.bool true)) ⟨bb,1005+k,none⟩ (.int .i64 ((s+1:Nat):Int))))
  have HB4:=Hd (show(World.drew (World.setCell (World.setCell V ⟨bb,3+k,none⟩ (.bool true)) ⟨bb,1005+k,none⟩ (.int .i64 ((s+1:Nat):Int)))).heap[bb]?=_ from HB3.out)
  have HK4:=Hd (HK2.out.trans ((B8.left HG3.out).trans (B8.below (Q2 _ _).drew)))
  have HL4:=Hd ((HG3.out.block lb (J5 HL2.out) (by simpa using fun e=>n1 e.symm)).trans HL2.out)
  have HX4:=Hd (show(World.drew (World.setCell (World.setCell V ⟨bb,3+k,none⟩ (.bool true)) ⟨bb,1005+k,none⟩ (.int .i64 ((s+1:Nat):Int)))).heap[x1]?=_ from(HG3.out.block x1 (J5 HX2.out) (by simpa using fun e=>n3 e.symm)).trans HX2.out)
  have HL5:=Hd (show(World.drew (World.setCell (World.setCell V ⟨bb,3+k,none⟩ (.bool true)) ⟨bb,1005+k,none⟩ (.int .i64 ((s+1:Nat):Int)))).heap[lb]?=_ from HL4.out)
  clear HB3 HG3 HL4 HK2 HB2 HL2 HX2
  generalize World.drew (World.setCell (World.setCell V ⟨bb,3+k,none⟩ (.bool true)) ⟨bb,1005+k,none⟩ (.int .i64 ((s+1:Nat):Int)))=Z at*
  have e1:Z.cell? ⟨x1,0,none⟩=some (.pointer (some ⟨bb,0,none⟩)):=Q0 _ _ 0 _ _ _ HX4.out
  have e2:Z.cell? ⟨bb,1004,none⟩=some (.int .i64 kept):=(Q0 _ _ _ _ _ _ HB4.out).trans (by rw[J7 _ _ (by omega),J7 _ _ (by omega)];exact HG.out.kept)
  have e3:Z.frozen? ⟨bb,1004,none⟩=false:=Lib.frozen_of_heap HB4.out _
  go_wp2
  have HB5:=qZ8 Z bb 1004 _ _ _ (.int .i64 (kept-1)) HB4.out
  exact Z2 (results_none rfl _ _ _) rfl (HR.out _ _ (HK4.out.trans (B8.left (Lib.grownBy_setCell Z bb 1004 _))) ((Below.heap_setCell _ _ _ _ (fun e=>n1 e.symm)).trans HL5.out) HB5)
theorem jS2{w:World}{o:Obj}{i:Nat}(h:i<w.heap.size):(w.alloc o).heap[i]?=w.heap[i]? :=Q9 w o i h
theorem zB6{w:World}{o:Obj}{i:Nat}(h:i=w.heap.size):(w.alloc o).heap[i]?=some o:=by subst h;exact Q3 w o
def E4(B:Nat→BS):Nat→Nat
 |0=>0
 |n+1=>E4 B n+(if(B n).out=true then 0 else 1)
theorem qY2{B C:Nat→BS}:∀n,(∀k,k<n→(B k).out=(C k).out)→E4 B n=E4 C n
 |0,_=>rfl
 |n+1,h=>by
  unfold E4
  rw[qY2 n (fun k hk=>h k (by omega)),h n (by omega)]
theorem zB8{B C:Nat→BS}{j:Nat}(hj:(B j).out=false)(hc:(C j).out=true):∀n,(∀k,k<n→k≠j→(B k).out=(C k).out)→j<n→E4 B n=E4 C n+1
 |0,_,h=>by omega
 |n+1,h,hn=>by
  unfold E4
  by_cases e:j=n
  ·subst e
   rw[qY2 j (fun k hk=>h k (by omega) (by omega)),hj,hc]
   simp
  ·rw[zB8 hj hc n (fun k hk=>h k (by omega)) (by omega),h n (by omega) (by omega)]
   omega
theorem xG6(B:Nat→BS):∀n,E4 B n≤n
 |0=>Q1 _
 |n+1=>by
  have:=xG6 B n
  unfold E4
  split<;>omega
theorem zR9{B:Nat→BS}:∀n,E4 B n≠0→∃k,k<n∧(B k).out=false
 |0,h=>absurd rfl h
 |n+1,h=>by
  by_cases e:(B n).out=true
  ·unfold E4 at h
   rw[if_pos e] at h
   obtain⟨k,hk,h2⟩:=zR9 n h
   exact⟨k,by omega,h2⟩
  ·exact⟨n,by omega,by simpa using e⟩
structure N5(W:World)(bb lb P lv cap:Nat)(B:Nat→BS):Prop where
 big:∃(cs:Array Value) (out:Nat→Bool),W.heap[bb]?=some (.cells cs 147)∧zN9 cs P lv lb cap out (E4 B (P+1):Int)∧∀k,k≤P→out k=(B k).out
 row:∃cur:Array Value,W.heap[lb]?=some (.cells cur 198)∧∀k,k≤P→qF4 cur (5*k) P (B k).s (B k).h k (B k).c
structure qX5(B:Nat→BS)(P n:Nat):Prop where
 parts:2≤P∧P≤1000
 all:∀k,k≤P→(B k).s≤n∧(B k).h≤(B k).s∧(B k).c≤N6
theorem qX5.bet{B:Nat→BS}{P n k:Nat}(h:qX5 B P n)(hn:n≤4000)(hk:k≤P):zN8 P (B k).s (B k).h k (B k).c:=by
 obtain⟨h1,h2,h3⟩:=h.all k hk
 exact⟨h.parts,by omega,h2,hk,h3⟩
theorem qX5.next{B:Nat→BS}{P n L:Nat}(h:qX5 B P n)(hit:Bool):qX5 (fun k=>T5 N6 P k L (B k) hit) P (n+1):=
 ⟨h.parts,fun k hk=>by
  obtain⟨h1,h2,h3⟩:=h.all k hk
  have:=jN0 (T:=N6) (P:=P) (k:=k) (L:=L) h2 hit
  exact⟨by omega,this.1,kJ6 h3 hit⟩⟩
def R1(B C:Nat→BS)(j:Nat):Nat→BS:=fun k=>if k<j then C k else B k
theorem xB9(cur:Array Value)(o s h c':Nat)(hit:Bool)(i:Nat)(hi:i<o∨o+5≤i):(A4 cur o s h c' hit)[i]?=cur[i]? :=by
 unfold A4
 split
 ·rw[J7 _ _ (by omega),J7 _ _ (by omega),J7 _ _ (by omega)]
 ·rw[J7 _ _ (by omega),J7 _ _ (by omega)]
theorem jU0{cur:Array Value}{o P s h k c:Nat}(hI:qF4 cur o P s h k c)(hit:Bool)(R:Nat):qF4 (A4 cur o s h R hit) o P (s+1) (if hit=true then h+1 else h) k R:=by
 obtain⟨e1,e4⟩:=xB8 hI hit R
 have h2:=(J5 hI.hits)
 refine⟨?_,e1,?_,?_,e4⟩
 ·rw[show(A4 cur o s h R hit)[o]?=cur[o]? from by unfold A4;split<;>simp[Array.getElem?_setIfInBounds]]
  exact hI.parts
 ·unfold A4
  cases hit with
  |true=>
   rw[if_pos rfl,if_pos rfl,Array.getElem?_setIfInBounds_self,if_pos (by simp;exact h2)]
  |false=>
   rw[if_neg (by decide),if_neg (by decide),J7 _ _ (by omega),J7 _ _ (by omega)]
   exact hI.hits
 ·rw[show(A4 cur o s h R hit)[o+3]?=cur[o+3]? from by unfold A4;split<;>simp[Array.getElem?_setIfInBounds]]
  exact hI.rate
theorem N5.step{w w':World}{bb lb P lv cap j:Nat}{B C:Nat→BS}{hit:Bool}{cur:Array Value}{out:Nat→Bool}{e:Ending}(hj:j≤P)
  (hcur:∀k,k≤P→qF4 cur (5*k) P (R1 B C j k).s (R1 B C j k).h k (R1 B C j k).c) (hout:∀k,k≤P→out k=(R1 B C j k).out) (hB:(B j).out=false)
  (hC:C j=T5 N6 P j (lv*1048576) (B j) hit)
  (h:xZ3 bb lb P lv cap j out (E4 (R1 B C j) (P+1):Int) (B j).s (B j).h (if hit=true then A7 N6 P j (B j).c (B j).s (B j).h else A8 N6 P j (B j).c (B j).s (B j).h) hit cur w e w'):
  N5 w' bb lb P lv cap (R1 B C (j+1)):=by
 obtain⟨_,_,hl,cs',hbb,hI⟩:=h
 have u1:R1 B C (j+1) j=C j:=by unfold R1;rw[if_pos (by omega)]
 have u2:R1 B C j j=B j:=by unfold R1;rw[if_neg (by omega)]
 have u3:∀k,k≠j→R1 B C (j+1) k=R1 B C j k:=fun k hk=>by
  unfold R1
  by_cases h:k<j
  ·rw[if_pos h,if_pos (by omega)]
  ·rw[if_neg h,if_neg (by omega)]
 have c1:(C j).s=(B j).s+1:=by rw[hC];unfold T5;rw[if_neg (by rw[hB];decide)]
 have c2:(C j).h=if hit=true then(B j).h+1 else(B j).h:=by rw[hC];unfold T5;rw[if_neg (by rw[hB];decide)]
 have c3:(C j).c=if hit=true then A7 N6 P j (B j).c (B j).s (B j).h else A8 N6 P j (B j).c (B j).s (B j).h:=by rw[hC];unfold T5;rw[if_neg (by rw[hB];decide)]
 have c4:(C j).out=decide (lv*1048576≤(C j).c):=by rw[c3,hC];unfold T5;rw[if_neg (by rw[hB];decide)]
 rw[←c3] at hl hI
 have hk:(if lv*1048576≤(C j).c then(E4 (R1 B C j) (P+1):Int)-1 else(E4 (R1 B C j) (P+1):Int))=(E4 (R1 B C (j+1)) (P+1):Int):=by
  by_cases hL:lv*1048576≤(C j).c
  ·rw[if_pos hL]
   have:=zB8 (B:=R1 B C j) (C:=R1 B C (j+1)) (j:=j) (by rw[u2,hB]) (by rw[u1,c4,Z0 hL]) (P+1) (fun k _ hk=>by rw[u3 k hk]) (by omega)
   omega
  ·rw[if_neg hL]
   rw[qY2 (B:=R1 B C j) (C:=R1 B C (j+1)) (P+1) (fun k _=>by
    by_cases e:k=j
    ·subst e;rw[u1,u2,hB,c4,Q7 hL]
    ·rw[u3 k e])]
 rw[hk] at hI
 refine⟨⟨cs',_,hbb,hI,fun k hkP=> ?_⟩,⟨_,hl,fun k hkP=> ?_⟩⟩
 ·by_cases e:k=j
  ·subst e;rw[if_pos rfl,u1,c4]
  ·rw[if_neg e,u3 k e];exact hout k hkP
 ·by_cases e:k=j
  ·subst e
   rw[u1,c1,c2]
   have:=hcur k hkP
   rw[u2] at this
   exact jU0 this hit _
  ·have h0:=hcur k hkP
   rw[u3 k e]
   have hn:∀i,i<5→(A4 cur (5*j) (B j).s (B j).h (C j).c hit)[5*k+i]?=cur[5*k+i]? :=fun i hi=>xB9 _ _ _ _ _ _ _ (by omega)
   exact⟨(hn 0 (by omega)).trans h0.parts,(hn 1 (by omega)).trans h0.slots,(hn 2 (by omega)).trans h0.hits,(hn 3 (by omega)).trans h0.rate,(hn 4 (by omega)).trans h0.capital⟩
structure S4(bb lb P lv cap:Nat)(B:Nat→BS)(hit:Bool)(w W:World):Prop where
 bets:N5 W bb lb P lv cap B
 x1:W.heap[w.heap.size]?=some (.cells #[.pointer (some ⟨bb,0,none⟩)] 139)
 x2:W.heap[w.heap.size+1]?=some (.cells #[.bool hit] 4)
 keep:B8 bb lb w W
 bl:bb<w.heap.size∧lb<w.heap.size
theorem N5.mono{w w':World}{bb lb P lv cap:Nat}{B:Nat→BS}(h:N5 w bb lb P lv cap B)(hb:w'.heap[bb]?=w.heap[bb]?)(hl:w'.heap[lb]?=w.heap[lb]?):N5 w' bb lb P lv cap B:=by
 obtain⟨⟨cs,out,h1,h2⟩,⟨cur,h3,h4⟩⟩:=h
 exact⟨⟨cs,out,hb.trans h1,h2⟩,⟨cur,hl.trans h3,h4⟩⟩
theorem N5.lt{w:World}{bb lb P lv cap:Nat}{B:Nat→BS}(h:N5 w bb lb P lv cap B):bb<w.heap.size∧lb<w.heap.size:=by
 obtain⟨⟨cs,out,h1,h2⟩,⟨cur,h3,h4⟩⟩:=h
 exact⟨(J5 h1),(J5 h3)⟩
theorem N5.congr{w:World}{bb lb P lv cap:Nat}{B C:Nat→BS}(h:N5 w bb lb P lv cap B)(he:∀k,k≤P→B k=C k):N5 w bb lb P lv cap C:=by
 obtain⟨⟨cs,out,h1,h2,h5⟩,⟨cur,h3,h4⟩⟩:=h
 refine⟨⟨cs,out,h1,?_,fun k hk=>by rw[h5 k hk,he k hk]⟩,⟨cur,h3,fun k hk=>by rw[←he k hk];exact h4 k hk⟩⟩
 rw[←qY2 (B:=B) (P+1) (fun k hk=>by rw[he k (by omega)])]
 exact h2
theorem S4.start{w:World}{bb lb P lv cap:Nat}{B:Nat→BS}{hit:Bool}(h:N5 w bb lb P lv cap B):S4 bb lb P lv cap B hit w ((w.alloc (.cells #[.pointer (some ⟨bb,0,none⟩)] 139)).alloc (.cells #[.bool hit] 4)):=by
 have hl:=h.lt
 have hB:Below w.heap.size w ((w.alloc (.cells #[.pointer (some ⟨bb,0,none⟩)] 139)).alloc (.cells #[.bool hit] 4)):=((Q2 _ _).alloc (Q1 _) _).alloc (by simp) _
 refine⟨h.mono (hB.block _ hl.1) (hB.block _ hl.2),?_,?_,B8.below hB,hl⟩
 ·exact(jS2 (by simp)).trans (zB6 rfl)
 ·exact zB6 (by simp)
theorem S4.call{bb lb P lv cap j:Nat}{B C:Nat→BS}{hit:Bool}{w W:World}(h:S4 bb lb P lv cap (R1 B C j) hit w W)(hj:j≤P)(hB:(B j).out=false)(hC:C j=T5 N6 P j (lv*1048576) (B j) hit)(hO:zN8 P (B j).s (B j).h j (B j).c)(hlv:lv≤900000):
  Calls Tryz.prog 138 #[.int .i64 (j:Int),.pointer (some ⟨w.heap.size,0,none⟩),.pointer (some ⟨w.heap.size+1,0,none⟩)] W fun e w'=>e= .returned (.tuple #[])∧S4 bb lb P lv cap (R1 B C (j+1)) hit w w':=by
 obtain⟨⟨⟨cs,out,h1,h2,h5⟩,⟨cur,h3,h4⟩⟩,hx1,hx2,hk,hl⟩:=h
 have u2:R1 B C j j=B j:=by unfold R1;rw[if_neg (by omega)]
 have hkept:=xG6 (R1 B C j) (P+1)
 have hP:=hO.parts
 have hx1':=(J5 hx1)
 have hx2':=(J5 hx2)
 have hI:=h4 j hj
 rw[u2] at hI
 refine(xX4 _ _ bb lb P lv cap j (B j).s (B j).h (B j).c out _ hit cur cs W hx1 hx2 h1 h3 h2 hI hO (by rw[h5 j hj,u2,hB]) hlv ⟨by omega,by omega⟩).mono ?_
 intro e w' hr
 have hK:=hr.2.1
 exact⟨hr.1,N5.step hj h4 h5 hB hC hr,(hK.block _ hx1' (by omega) (by omega)).trans hx1,(hK.block _ hx2' (by omega) (by omega)).trans hx2,hk.trans hK,hl⟩
theorem S4.skip{bb lb P lv cap j:Nat}{B C:Nat→BS}{hit:Bool}{w W:World}(h:S4 bb lb P lv cap (R1 B C j) hit w W)(hC:C j=B j):S4 bb lb P lv cap (R1 B C (j+1)) hit w W:=by
 refine⟨h.bets.congr fun k hk=> ?_,h.x1,h.x2,h.keep,h.bl⟩
 unfold R1
 by_cases e:k=j
 ·subst e;rw[if_neg (by omega),if_pos (by omega),hC]
 ·by_cases h:k<j
  ·rw[if_pos h,if_pos (by omega)]
  ·rw[if_neg h,if_neg (by omega)]
theorem S4.drew{bb lb P lv cap:Nat}{B:Nat→BS}{hit:Bool}{w W:World}(h:S4 bb lb P lv cap B hit w W):S4 bb lb P lv cap B hit w W.drew:=
 ⟨h.bets.mono rfl rfl,h.x1,h.x2,h.keep.trans (B8.below (Q2 _ _).drew),h.bl⟩
theorem zW0(bb lb P lv cap n:Nat)(B:Nat→BS)(hit:Bool)(w:World)(hB:N5 w bb lb P lv cap B)(hO:qX5 B P n)(hn:n≤4000)(hlv:lv≤900000):
  Calls Tryz.prog 97 #[.pointer (some ⟨bb,0,none⟩),.bool hit] w fun e w'=>e= .returned (.tuple #[])∧N5 w' bb lb P lv cap (fun k=>T5 N6 P k (lv*1048576) (B k) hit)∧B8 bb lb w w':=by
 have HS:=Hd (S4.start (hit:=hit) hB)
 have hP:=hO.parts
 obtain⟨C,hC⟩:∃C:Nat→BS,∀k,C k=T5 N6 P k (lv*1048576) (B k) hit:=⟨_,fun _=>rfl⟩
 have HC:=Hd hC
 have HO:=Hd hO
 have HR:=Hd (fun(W:World) (h:S4 bb lb P lv cap (R1 B C (P+1)) hit w W)=>show(Ending.returned (.tuple #[])=Ending.returned (.tuple #[]))∧N5 W bb lb P lv cap (fun k=>T5 N6 P k (lv*1048576) (B k) hit)∧B8 bb lb w W from
  ⟨rfl,h.bets.congr (fun k hk=>by unfold R1;rw[if_pos (by omega),hC k]),h.keep⟩)
 have HB0:=Hd (show B=R1 B C 0 from by funext k;unfold R1;rw[if_neg (by omega)])
 clear hC hO
 obtain⟨m,hm⟩:∃m,P+1=m:=⟨_,rfl⟩
 have hmf:∀(fn:Fn) (first cap:Array Value) (w:World),(Instr.makeFunc fn first cap).run Tryz.prog w= .ok (.func fn first cap) w:=fun _ _ _ _=>rfl
 clear hB
 generalize hQ:(fun e w'=>e=Ending.returned (.tuple #[])∧N5 w' bb lb P lv cap (fun k=>T5 N6 P k (lv*1048576) (B k) hit)∧B8 bb lb w w')=Q at*
 have HR2:=Hd (fun(W:World) (h:S4 bb lb P lv cap (R1 B C (P+1)) hit w W)=>show Q (.returned (.tuple #[])) W from by rw[←hQ];exact HR.out W h)
 clear hQ HR
 go_enter Tryz.func97,Tryz.ntmps97
 go_upto_region 1 with(fail)
 generalize World.alloc (World.alloc w _) _=V at*
 rw[HB0.out] at HS
 obtain⟨⟨⟨cs,out,h1,h2,h5⟩,⟨cur,h3,h4⟩⟩,hx1,hx2,hk,hl⟩:=HS.out
 have d1:V.cell? ⟨w.heap.size,0,none⟩=some (.pointer (some ⟨bb,0,none⟩)):=Q0 _ _ 0 _ _ _ hx1
 have d3:V.cell? ⟨bb,2,none⟩=some (.slice (some ⟨lb,0,none⟩) (P+1) cap):=(Q0 _ _ _ _ _ _ h1).trans h2.list
 clear h1 h2 h5 h3 h4 hx1 hx2 hk
 rw[hm] at d3
 go_wp2
 clear d1 d3
 go_loopw [12] (fun t wr=>∃j:Nat,j≤m∧t= .int .i64 (j:Int)∧Hid (S4 bb lb P lv cap (R1 B C j) hit w wr)) (fun t _=>m-(intOf t).toNat)
 case atStart=>exact⟨0,Nat.zero_le _,rfl,HS⟩
 case round=>
  clear HS
  obtain⟨j,hj,rfl,HS⟩:=hrel
  by_cases hlt:j<m
  ·have hlt':(j:Int)<(m:Int):=by omega
   have hm1:(m:Int)≤1001:=by omega
   have hjP:j≤P:=by omega
   obtain⟨⟨⟨cs,out,h1,h2,h5⟩,⟨cur,h3,h4⟩⟩,hx1,hx2,hk,hl2⟩:=HS.out
   have d1:wr.cell? ⟨w.heap.size,0,none⟩=some (.pointer (some ⟨bb,0,none⟩)):=Q0 _ _ 0 _ _ _ hx1
   have d3:wr.cell? ⟨bb,3+j,none⟩=some (.bool (B j).out):=(Q0 _ _ _ _ _ _ h1).trans ((h2.outs j (by omega)).trans (by rw[h5 j hjP];unfold R1;rw[if_neg (by omega)]))
   clear h1 h2 h5 h3 h4 hx1 hx2 hk hl2
   have hCj:=HC.out j
   have hOj:=HO.out.bet hn hjP
   have hj1001:(j:Int)<1001:=by omega
   cases hb:(B j).out with
   |true=>
    have HS2:=Hd (HS.out.skip (by rw[hCj];unfold T5;rw[if_pos hb]))
    rw[hb] at d3
    clear hCj hOj hb HS HR2 HB0
    go_wp2
    go_roundw
    case rel=>exact⟨j+1,by omega,by go_num,HS2⟩
    case measure=>simp[intOf];omega
   |false=>
    have HK:=Hd (HS.out.call hjP hb hCj hOj hlv)
    rw[hb] at d3
    clear hCj hOj hb HS HR2 HB0
    go_upto_region 6 with(fail)
    go_upto_region 7 with(go_at_call 138;refine HK.out.mono ?_;rintro e W1 ⟨rfl,hs⟩;have HS2:=Hd hs;clear hs d1 d3)
    go_wp2
    go_roundw
    case rel=>exact⟨j+1,by omega,by go_num,HS2⟩
    case measure=>simp[intOf];omega
  ·obtain rfl:j=m:=by omega
   have HS2:=Hd (HR2.out wr (by rw[hm];exact HS.out))
   clear HS HR2
   go_wp2
   exact Z2 (results_none rfl _ _ _) rfl HS2.out
def R2(W:World)(a:Option Addr)(l:List Bool):Prop:=l=[]∨∃b cur fz,a=some ⟨b,0,none⟩∧W.heap[b]?=some (.cells cur 4 fz)∧∀i,i<l.length→cur[i]?=some (.bool (l.getD i false))
theorem R2.below{W W':World}{a:Option Addr}{l:List Bool}(h:R2 W a l)(hb:Below W.heap.size W W'):R2 W' a l:=by
 rcases h with h|⟨b,cur,fz,h1,h2,h3⟩
 ·exact Or.inl h
 ·exact Or.inr ⟨b,cur,fz,h1,(hb.block b (J5 h2)).trans h2,h3⟩
theorem R2.keep2{W W':World}{a:Option Addr}{l:List Bool}{bb lb P lv cap:Nat}{B:Nat→BS}(h:R2 W a l)(hB:N5 W bb lb P lv cap B)(hk:B8 bb lb W W'):R2 W' a l:=by
 rcases h with h|⟨b,cur,fz,h1,h2,h3⟩
 ·exact Or.inl h
 ·obtain⟨⟨cs,out,g1,_⟩,⟨cur2,g3,_⟩⟩:=hB
  have n1:b≠bb:=fun e=>by
   subst e
   rw[g1] at h2
   simp only[Option.some.injEq,Obj.cells.injEq] at h2
   exact absurd h2.2.1 (by decide)
  have n2:b≠lb:=fun e=>by
   subst e
   rw[g3] at h2
   simp only[Option.some.injEq,Obj.cells.injEq] at h2
   exact absurd h2.2.1 (by decide)
  exact Or.inr ⟨b,cur,fz,h1,(hk.block b (J5 h2) n1 n2).trans h2,h3⟩
theorem R2.get{W:World}{a:Option Addr}{l:List Bool}(h:R2 W a l){i:Nat}(hi:i<l.length):∃b,a=some ⟨b,0,none⟩∧b<W.heap.size∧W.cell? ⟨b,i,none⟩=some (.bool (l.getD i false)):=by
 rcases h with h|⟨b,cur,fz,h1,h2,h3⟩
 ·subst h;exact absurd hi (by simp)
 ·exact⟨b,h1,(J5 h2),(Q0 _ _ _ _ _ _ h2).trans (h3 i hi)⟩
def qX8(P lv:Nat)(B:Nat→BS)(o:List Bool):Nat→BS:=fun k=>kR1 N6 P k (lv*1048576) (B k) o
theorem xH4{P lv:Nat}{B:Nat→BS}{o:List Bool}{i:Nat}(hi:i<o.length):(fun k=>T5 N6 P k (lv*1048576) (qX8 P lv B (o.take i) k) (o.getD i false))=qX8 P lv B (o.take (i+1)):=by
 funext k
 unfold qX8 kR1
 rw[List.take_add_one,List.foldl_append]
 simp[hi]
theorem jL4{P lv n:Nat}{B:Nat→BS}(h:qX5 B P n):∀o:List Bool,qX5 (qX8 P lv B o) P (n+o.length):=by
 intro o
 induction o generalizing n B with
 |nil=>exact h
 |cons x o ih=>
  have:=ih (h.next (L:=lv*1048576) x)
  rw[show n+(x::o).length=n+1+o.length by simp;omega]
  exact this
theorem B8.refl(a b:Nat)(w:World):B8 a b w w:=⟨rfl,rfl,rfl,Q1 _,fun _ _ _ _=>rfl⟩
theorem kB7(bb lb P lv cap n cp:Nat)(B:Nat→BS)(a:Option Addr)(l:List Bool)(w:World)(hB:N5 w bb lb P lv cap B)(hO:qX5 B P n)(hl:R2 w a l)(hn:n+l.length≤4000)(hlv:lv≤900000):
  Calls Tryz.prog 61 #[.pointer (some ⟨bb,0,none⟩),.slice a l.length cp] w fun e w'=>e= .returned (.pointer (some ⟨bb,0,none⟩))∧N5 w' bb lb P lv cap (qX8 P lv B l)∧B8 bb lb w w':=by
 obtain⟨m,hm⟩:∃m,l.length=m:=⟨_,rfl⟩
 have hOB:=Hd (fun i (h:i≤m)=>show qX5 (qX8 P lv B (l.take i)) P (n+i) from by
  have:=jL4 (lv:=lv) hO (l.take i)
  rw[List.length_take,hm,Nat.min_eq_left h] at this
  exact this)
 have hT:=Hd (fun i (h:i<m)=>xH4 (P:=P) (lv:=lv) (B:=B) (o:=l) (i:=i) (by omega))
 have h0:=Hd (show B=qX8 P lv B (l.take 0) from rfl)
 have hE:=Hd (show qX8 P lv B l=qX8 P lv B (l.take m) from by rw[←hm,List.take_length])
 have HB:=Hd hB
 have HL:=Hd hl
 have HM:=Hd hm
 rw[hm] at hn ⊢
 rw[hE.out]
 clear hB hO hl hm hE
 obtain⟨S,hS⟩:∃S:Nat→Nat→BS,∀i,qX8 P lv B (l.take i)=S i:=⟨_,fun _=>rfl⟩
 simp only[hS] at hOB hT h0 ⊢
 rw[h0.out] at HB
 clear hS h0
 go_enter Tryz.func61,Tryz.ntmps61
 go_wp2
 go_loopw [9] (fun t wr=>∃j:Nat,j≤m∧t= .int .i64 (j:Int)∧Hid (N5 wr bb lb P lv cap (S j)∧R2 wr a l∧B8 bb lb w wr)) (fun t _=>m-(intOf t).toNat)
 case atStart=>exact⟨0,Nat.zero_le _,rfl,Hd ⟨HB.out,HL.out,B8.refl _ _ _⟩⟩
 case round=>
  clear HB HL
  obtain⟨j,hj,rfl,HS⟩:=hrel
  by_cases hlt:j<m
  ·have hlt':(j:Int)<(m:Int):=by omega
   obtain⟨b,rfl,hbz,d1⟩:=HS.out.2.1.get (i:=j) (by rw[HM.out];exact hlt)
   have HN:=Hd (zW0 bb lb P lv cap (n+j) (S j) (l.getD j false) wr HS.out.1 (hOB.out j hj) (by omega) hlv)
   have HTj:=Hd (hT.out j hlt)
   generalize l.getD j false=X at*
   go_wp2_with(go_at_call 97;refine HN.out.mono ?_;rintro e W1 ⟨rfl,hs,hk⟩;have HS2:=Hd (And.intro hs (And.intro (HS.out.2.1.keep2 HS.out.1 hk) (HS.out.2.2.trans hk)));rw[HTj.out] at HS2;clear hs hk d1)
   go_roundw
   case rel=>exact⟨j+1,by omega,by go_num,HS2⟩
   case measure=>simp[intOf];omega
  ·obtain rfl:j=m:=by omega
   go_wp2
   go_ret
   exact⟨rfl,HS.out.1,HS.out.2.2⟩
def isF:Value→Bool
 | .bool false=>true
 |_=>false
def isZ:Value→Bool
 | .int .i64 0=>true
 |_=>false
def isN:Value→Bool
 | .slice none 0 0=>true
 |_=>false
def qN0(p:Value→Bool)(k:List Value→Bool):Nat→List Value→Bool
 |0,l=>k l
 |_+1,[]=>false
 |n+1,v::l=>p v&&qN0 p k n l
theorem qS0{p:Value→Bool}{k:List Value→Bool}:∀(n:Nat) (l:List Value),qN0 p k n l=true→∃a r,l=a++r∧a.length=n∧(∀v∈a,p v=true)∧k r=true
 |0,l,h=>⟨[],l,rfl,rfl,by simp,h⟩
 |n+1,[],h=>by simp[qN0] at h
 |n+1,v::l,h=>by
  simp only[qN0,Q8] at h
  obtain⟨a,r,h1,h2,h3,h4⟩:=qS0 n l h.2
  exact⟨v::a,r,by rw[h1];rfl,by rw[List.length_cons,h2],by
   intro x hx
   rcases List.mem_cons.1 hx with e|e
   ·rw[e];exact h.1
   ·exact h3 x e,h4⟩
def zok(z:List Value):Bool:=match z with
 |a::b::c::r=>isZ a&&isZ b&&isN c&&qN0 isF (fun r=>match r with
  |d::r=>isZ d&&qN0 isZ (fun r=>r.isEmpty) 1001 r
  |[]=>false) 1001 r
 |_=>false
theorem kL3{v:Value}(h:isF v=true):v= .bool false:=by
 unfold isF at h
 split at h
 ·rfl
 ·cases h
theorem kL6{v:Value}(h:isZ v=true):v= .int .i64 0:=by
 unfold isZ at h
 split at h
 ·rfl
 ·cases h
theorem kL5{v:Value}(h:isN v=true):v= .slice none 0 0:=by
 unfold isN at h
 split at h
 ·rfl
 ·cases h
structure jL2(z:Array Value):Prop where
 size:z.size=2006
 list:z[2]?=some (.slice none 0 0)
 outs:∀i,i<1001→z[3+i]?=some (.bool false)
 ats:∀i,i<1001→z[1005+i]?=some (.int .i64 0)
theorem kN3{z:Array Value}(h:zok z.toList=true):jL2 z:=by
 unfold zok at h
 split at h
 ·rename_i a b c r hz
  simp only[Q8] at h
  obtain⟨⟨⟨ha,hb⟩,hc⟩,h⟩:=h
  obtain⟨p,q,rfl,hp,hpf,h⟩:=qS0 _ _ h
  cases q with
  |cons d r2=>
   simp only[Q8] at h
   obtain⟨hd,h⟩:=h
   obtain⟨p2,q2,rfl,hp2,hpf2,h⟩:=qS0 _ _ h
   have hq2:q2=[]:=by simpa using h
   subst hq2
   have hg:∀i,z[i]?=(a::b::c::(p++d::(p2++[])))[i]? :=fun i=>by rw[←hz];exact(Array.getElem?_toList).symm
   refine⟨?_,?_,fun i hi=> ?_,fun i hi=> ?_⟩
   ·have:z.size=z.toList.length:=by simp
    rw[this,hz]
    simp[hp,hp2]
   ·rw[hg]
    simp[kL5 hc]
   ·rw[hg,show 3+i=i+3 by omega]
    simp only[List.getElem?_cons_succ]
    rw[List.getElem?_append_left (by omega),Z5 (by omega)]
    rw[kL3 (hpf _ (List.getElem_mem _))]
   ·rw[hg,show 1005+i=(i+1002)+3 by omega]
    simp only[List.getElem?_cons_succ]
    rw[List.getElem?_append_right (by omega),hp,show i+1002-1001=i+1 by omega]
    simp only[List.getElem?_cons_succ]
    rw[List.getElem?_append_left (by omega),Z5 (by omega)]
    rw[kL6 (hpf2 _ (List.getElem_mem _))]
  |nil=>cases h
 ·cases h
theorem jD2:jL2 Tryz.zeroCells147:=kN3 (by kernel_rfl)
theorem jS5:(Tryz.prog.info? 198).map (fun i=>(i.zero,i.size,i.bytes))=some (some (.agg #[.int .i64 0,.int .i64 0,.int .i64 0,.int .i64 0,.int .i64 0]),5,40):=by kernel_rfl
def zU9(P:Nat)(k:Nat):List Value:=[.int .i64 (P:Int),.int .i64 0,.int .i64 0,.int .i64 (k:Int),.int .i64 1048576]
theorem jM8(P k:Nat):∀u∈zU9 P k,u.oneCell'=true:=by
 intro u hu
 simp[zU9] at hu
 rcases hu with rfl|rfl|rfl|rfl|rfl<;>rfl
structure qT4(cs:Array Value)(P lv:Nat)(v:Value):Prop where
 size:cs.size=2006
 parts:cs[0]?=some (.int .i64 (P:Int))
 level:cs[1]?=some (.int .i64 (lv:Int))
 list:cs[2]?=some v
 outs:∀i,i<1001→cs[3+i]?=some (.bool false)
 kept:cs[1004]?=some (.int .i64 ((P:Int)+1))
 ats:∀i,i<1001→∃z,cs[1005+i]?=some (.int .i64 z)
theorem qT4.start{z:Array Value}(h:jL2 z)(P lv:Nat):qT4 (((z.setIfInBounds 0 (.int .i64 (P:Int))).setIfInBounds 1 (.int .i64 (lv:Int))).setIfInBounds 1004 (.int .i64 ((P:Int)+1))) P lv (.slice none 0 0):=by
 have hs:=h.size
 refine⟨by simp[hs],?_,?_,?_,fun i hi=> ?_,?_,fun i hi=>⟨0,?_⟩⟩
 ·rw[J7 _ _ (by omega),J7 _ _ (by omega),Array.getElem?_setIfInBounds_self,if_pos (by omega)]
 ·rw[J7 _ _ (by omega),Array.getElem?_setIfInBounds_self,if_pos (by simp;omega)]
 ·rw[J7 _ _ (by omega),J7 _ _ (by omega),J7 _ _ (by omega)];exact h.list
 ·rw[J7 _ _ (by omega),J7 _ _ (by omega),J7 _ _ (by omega)];exact h.outs i hi
 ·rw[Array.getElem?_setIfInBounds_self,if_pos (by simp;omega)]
 ·rw[J7 _ _ (by omega),J7 _ _ (by omega),J7 _ _ (by omega)];exact h.ats i hi
theorem qT4.set{cs:Array Value}{P lv:Nat}{v:Value}(h:qT4 cs P lv v)(u:Value):qT4 (cs.setIfInBounds 2 u) P lv u:=by
 have hs:=h.size
 refine⟨by simp[hs],?_,?_,?_,fun i hi=> ?_,?_,fun i hi=> ?_⟩
 ·rw[J7 _ _ (by omega)];exact h.parts
 ·rw[J7 _ _ (by omega)];exact h.level
 ·rw[Array.getElem?_setIfInBounds_self,if_pos (by omega)]
 ·rw[J7 _ _ (by omega)];exact h.outs i hi
 ·rw[J7 _ _ (by omega)];exact h.kept
 ·rw[J7 _ _ (by omega)];exact h.ats i hi
structure Beg(w W:World)(P lv j:Nat)(v:Value):Prop where
 big:∃cs,W.heap[w.heap.size]?=some (.cells cs 147)∧qT4 cs P lv v
 own:W.ownsRow w.heap.size 198 5 v j (F8 (zU9 P) j)
 below:Below w.heap.size w W
theorem Beg.start{w:World}{P lv:Nat}{cs:Array Value}(h:qT4 cs P lv (.slice none 0 0)):Beg w (w.alloc (.cells cs 147)) P lv 0 (.slice none 0 0):=
 ⟨⟨cs,zB6 rfl,h⟩,⟨rfl,Or.inl ⟨rfl,rfl⟩⟩,(Q2 _ _).alloc (Q1 _) _⟩
theorem zX1(P:Nat)(B:Nat→BS)(hB:∀k,k≤P→(B k).out=false):∀n,n≤P+1→E4 B n=n
 |0,_=>rfl
 |n+1,h=>by
  unfold E4
  rw[zX1 P B hB n (by omega),hB n (by omega)]
  simp
theorem Beg.bets{w W:World}{P lv:Nat}{v:Value}(h:Beg w W P lv (P+1) v):∃lb cap,w.heap.size≤lb∧N5 W w.heap.size lb P lv cap (fun _=>⟨1048576,0,0,false⟩):=by
 obtain⟨⟨cs,hcs,hb⟩,hown,hbel⟩:=h
 rcases hown.2 with⟨_,h0⟩|⟨g,cap,cur,hv,hg0,hg,hle,_,hsz,htake⟩
 ·omega
 ·refine⟨g,cap,hg0,⟨cs,fun _=>false,hcs,⟨hb.size,hb.parts,hb.level,by rw[←hv];exact hb.list,hb.outs,?_,hb.ats⟩,fun _ _=>rfl⟩,⟨cur,hg,fun k hk=> ?_⟩⟩
  ·rw[zX1 P _ (fun _ _=>rfl) (P+1) (Q1 _)]
   rw[hb.kept];simp
  ·have hc:∀r,r<5→cur[5*k+r]?=(zU9 P k)[r]? :=fun r hr=>by
    rw[show 5*k+r=k*5+r by omega]
    rw[←qM8 (k:=5) (f:=zU9 P) (fun _=>rfl) (P+1) k r (by omega) hr,←htake]
    have h1:k*5+r<(P+1)*5:=by omega
    rw[List.getElem?_take_of_lt h1]
    simp
   exact⟨hc 0 (by omega),hc 1 (by omega),hc 2 (by omega),hc 3 (by omega),hc 4 (by omega)⟩
theorem Beg.app{w W w6:World}{P lv j:Nat}{va:Option Addr}{vc:Nat}{v':Value}(h:Beg w W P lv j (.slice va j vc)){o:Obj}(hown:w6.ownsRow w.heap.size 198 5 v' (j+1) (F8 (zU9 P) j++zU9 P j))(hg:(W.alloc o).grownBy w6 (Value.slice va j vc).ownBlock):
  (∃cs,w6.heap[w.heap.size]?=some (.cells cs 147)∧qT4 cs P lv (.slice va j vc))∧Beg w (w6.setCell ⟨w.heap.size,2,none⟩ v') P lv (j+1) v':=by
 obtain⟨⟨cs,h1,h2⟩,h3,h4⟩:=h
 have hl:=(J5 h1)
 have hne:some w.heap.size≠(Value.slice va j vc).ownBlock:=by
  rcases h3.2 with⟨hv,_⟩|⟨g,cap,cur,hv,_,hg,_⟩
  ·rw[hv];simp[Value.ownBlock]
  ·rw[hv]
   intro e
   simp only[Value.ownBlock,Option.some.injEq] at e
   rw[←e,h1] at hg
   simp only[Option.some.injEq,Obj.cells.injEq] at hg
   exact absurd hg.2.1 (by decide)
 have h6:w6.heap[w.heap.size]?=some (.cells cs 147):=(hg.block _ (by simp;omega) hne).trans ((jS2 hl).trans h1)
 have hB:Below w.heap.size w w6:=by
  have hA:Below w.heap.size w (W.alloc o):=h4.alloc h4.size _
  refine⟨hg.os.trans hA.os,hg.tape.trans hA.tape,hg.output.trans hA.output,Q5 hA.size hg.size,fun i hi=> ?_⟩
  refine(hg.block i (Z4 hi hA.size) ?_).trans (hA.block i hi)
  rcases h3.2 with⟨hv,_⟩|⟨g,cap,cur,hv,hg0,_⟩
  ·rw[hv];simp[Value.ownBlock]
  ·rw[hv]
   intro e
   simp only[Value.ownBlock,Option.some.injEq] at e
   omega
 have hne2:some w.heap.size≠v'.ownBlock:=by
  rcases hown.2 with⟨hv,h0⟩|⟨g,cap,cur,hv,_,hg,_⟩
  ·omega
  ·rw[hv]
   intro e
   simp only[Value.ownBlock,Option.some.injEq] at e
   rw[←e,h6] at hg
   simp only[Option.some.injEq,Obj.cells.injEq] at hg
   exact absurd hg.2.1 (by decide)
 refine⟨⟨cs,h6,h2⟩,⟨_,qZ8 _ _ _ _ _ _ _ h6,h2.set v'⟩,hown.kept (Lib.grownBy_setCell _ _ _ _) ?_,?_⟩
 ·exact Or.inr (Ne.symm hne2)
 ·exact⟨hB.os,hB.tape,hB.output,by simp[World.setCell];exact hB.size,fun i hi=>(Below.heap_setCell _ _ _ _ (by dsimp only;omega)).trans (hB.block i hi)⟩
theorem jX5(P lv:Nat)(w:World)(hP:2≤P∧P≤1000):
  Calls Tryz.prog 60 #[.int .i64 (P:Int),.int .i64 (lv:Int)] w fun e w'=>∃lb cap,w.heap.size≤lb∧e= .returned (.pointer (some ⟨w.heap.size,0,none⟩))∧N5 w' w.heap.size lb P lv cap (fun _=>⟨1048576,0,0,false⟩)∧Below w.heap.size w w':=by
 have HG:=Hd (Beg.start (w:=w) (qT4.start jD2 P lv))
 have HR:=Hd (fun(W:World) (v:Value) (h:Beg w W P lv (P+1) v)=>show ∃lb cap,w.heap.size≤lb∧(Ending.returned (.pointer (some ⟨w.heap.size,0,none⟩))=Ending.returned (.pointer (some ⟨w.heap.size,0,none⟩)))∧N5 W w.heap.size lb P lv cap (fun _=>⟨1048576,0,0,false⟩)∧Below w.heap.size w W from by
  obtain⟨lb,cap,h1,h2⟩:=h.bets
  exact⟨lb,cap,h1,rfl,h2,h.below⟩)
 obtain⟨m,hm⟩:∃m,P+1=m:=⟨_,rfl⟩
 have hm':(P:Int)+1=(m:Int):=by omega
 go_enter Tryz.func60,Tryz.ntmps60
 go_upto_region 2 with(fail)
 rw[hm'] at HG
 generalize((Tryz.zeroCells147.setIfInBounds 0 (.int .i64 (P:Int))).setIfInBounds 1 (.int .i64 (lv:Int))).setIfInBounds 1004 (.int .i64 (m:Int))=ZB at*
 generalize World.alloc w _=V at*
 go_wp2
 go_loopw [15] (fun t wr=>∃(j:Nat) (v:Value),j≤m∧t= .int .i64 (j:Int)∧Hid (Beg w wr P lv j v)) (fun t _=>m-(intOf t).toNat)
 case atStart=>exact⟨0,_,Nat.zero_le _,rfl,HG⟩
 case round=>
  clear HG
  obtain⟨j,v,hj,rfl,HG⟩:=hrel
  by_cases hlt:j<m
  ·have hlt':(j:Int)<(m:Int):=by omega
   have hm1:(m:Int)≤1001:=by omega
   obtain⟨⟨cs,h1,h2⟩,hown,hbel⟩:=HG.out
   obtain⟨va,vc,rfl⟩:=Y6 hown
   have d1:wr.cell? ⟨w.heap.size,2,none⟩=some (.slice va j vc):=(Q0 _ _ _ _ _ _ h1).trans h2.list
   have hz:=hbel.size
   have hlt0:=(J5 h1)
   clear h1 h2 hown hbel
   obtain⟨j0,hj0,hz0,hz1,hz2⟩:=info_parts jS5
   have hb63:j+1≤maxLen:=by unfold maxLen;omega
   have hb47:(j+1)*40≤140737488355328:=by omega
   have HZ:=Hd hz
   clear hz HR
   go_upto_region 5 with(fail)
   go_upto_region 6 with(at_builtin;refine wpList_append_own _ rfl _ _ 142 rfl w.heap.size 198 j0 _ 5 40 Tryz.underlying142 hj0 hz0 hz1 hz2 rfl (by decide) (.slice va j vc) j (F8 (zU9 P) j) rfl (HG.out.own.alloc _) ⟨wr.heap.size,0,none⟩ 1 1 (zU9 P j) rfl rfl R4 (jM8 P j) hb63 hb47 (by have:=HZ.out;simp;omega) ?_;intro v' w6 hown6 hgrow6 hnil6;obtain⟨a6,c6,rfl⟩:=Y6 hown6;obtain⟨⟨cs6,q1,q2⟩,hq⟩:=HG.out.app hown6 hgrow6;have HQ:=Hd hq;have q3:=(Q0 _ _ 2 _ _ _ q1).trans q2.list;have q4:=Z3 _ _ 2 _ _ q1;clear hown6 hgrow6 hnil6 q1 q2 hq)
   go_wp2
   go_roundw
   case rel=>exact⟨j+1,_,by omega,by go_num,HQ⟩
   case measure=>simp[intOf];omega
  ·obtain rfl:j=m:=by omega
   have HS2:=Hd (HR.out wr v (by rw[hm];exact HG.out))
   clear HG HR
   go_wp2
   go_ret
   obtain⟨lb,cap,h1,h2,h3⟩:=HS2.out
   exact⟨lb,cap,h1,rfl,h3⟩
end
end Go.Proofs.YtmncaipgefbalaaGreatDoor
