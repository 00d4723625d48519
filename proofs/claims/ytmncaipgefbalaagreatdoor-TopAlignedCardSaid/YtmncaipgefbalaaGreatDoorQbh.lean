/- Part of the proof of the claim. -/
import Derived.Test.YtmncaipgefbalaaGreatDoorQbg
set_option maxRecDepth 100000
set_option maxHeartbeats 8000000
set_option linter.unusedVariables false
set_option linter.unusedSimpArgs false
namespace Go.Proofs.YtmncaipgefbalaaGreatDoor
section
open Go Go.RowKit Go.Maps
def kE0(m:Nat)(V:Int)(w:World)(y:Ending)(w':World):Prop:=
 (∃ta tc t,y= .returned (.tuple #[.slice ta 1 tc,.int .i64 0])∧TL w'.heap.size w' V ta [t]∧t.Ok m∧t.n=m)∧Below w.heap.size w w'
theorem xH2(a:Option Addr)(n c:Nat)(ps:Nat→PR)(ha:Option Addr)(m hc:Nat)(hs:Nat→HV)(P:Nat→Nat)(need miss view:Int)(B:Nat)(w:World)(hBw:B≤w.heap.size)(hP:Y2 B w a n ps)(hH:qK7 B w ha m hs)(hC:K7 n ps=true)(h1:1≤need∧need≤16)(h2:0≤miss∧miss≤16)(hm:m≤8)
  (hpl:∀k,k<m→(hs k).plane=(P k:Int)∧P k<n∧C7 (ps (P k)) (hs k)=true∧C2 (ps (P k)) (hs k)=1) (A b0:Int) (Q:Nat→Bool)
  (hg:∀ga gc,EV.Good ⟨a,n,c,ps,ha,m,hc,hs,P,ga,gc,fun k=>U3 (Y5 (ps (P k)) (hs k) 0),need,miss,view⟩ A b0 Q):
  Calls Tryz.prog 39 #[L3 a n c,.agg #[.int .i64 need,.int .i64 miss],.slice ha m hc] w (kE0 m view w):=by
 have HB:=Hd (((Q2 _ w).alloc (Q1 _) (.cells #[.slice a n c] 24)).alloc (by simp) (.cells #[.int .i64 need,.int .i64 miss] 26))
 have hx:=(Q9 (w.alloc (.cells #[.slice a n c] 24)) (.cells #[.int .i64 need,.int .i64 miss] 26) w.heap.size (by simp)).trans (Q3 w _)
 have hr:=Q3 (w.alloc (.cells #[.slice a n c] 24)) (.cells #[.int .i64 need,.int .i64 miss] 26)
 rw[show(w.alloc (.cells #[.slice a n c] 24)).heap.size=w.heap.size+1 from by simp] at hr
 have HX:=Hd hx
 have HR:=Hd hr
 have HLK:=Hd (fun W (hb:Below w.heap.size w W)=>jT2 a n c ps ha m hc hs P need miss view B W (Q5 hBw hb.size) (hP.below (hb.mono hBw)) (hH.below (hb.mono hBw)) hC h1 h2 hm hpl A b0 Q hg)
 unfold L3 at HLK
 unfold L3
 generalize hres:kE0 m view w=RES
 have HRES:=Hd hres
 clear hx hr hP hH hC h1 h2 hpl hg hres
 go_enter Tryz.func39,Tryz.ntmps39
 go_upto_region 1 with(fail)
 generalize World.alloc (World.alloc w _) _=V0 at*
 have x0:=Q0 _ _ 0 _ _ _ HX.out
 obtain⟨r0,r1⟩:=M7 HR.out
 go_upto_region 4 with(go_at_call 77;refine(HLK.out _ HB.out).mono ?_;rintro y W1 ⟨⟨fb,ev,fv,ta,tc,t,rfl,hf,hT,hto,htn⟩,hb1⟩;have HB1:=Hd (HB.out.trans (hb1.mono HB.out.size));have HF:=Hd hf;have HT:=Hd (And.intro hT (And.intro hto htn));clear hf hT hto htn hb1 x0 r0 r1 HLK)
 have f2:=Q0 _ _ 2 _ _ _ HF.out
 have lf:=J5 HF.out
 have HR2:=Hd (show RES (.returned (.tuple #[.slice ta 1 tc,.int .i64 0])) W1 from by
  rw[←HRES.out]
  exact⟨⟨ta,tc,t,rfl,HT.out⟩,HB1.out⟩)
 clear HRES
 go_wp2
 exact HR2.out
theorem xR5{W:World}{mb n:Nat}{D:DataW Unit}{x:Int}(h:qP5 W mb n D)(h0: -1≤x)(h1:x≤10000000)(hno:Maps.has D (.int .i64 x)=false):
  (Instr.lookup 150 (.map (some mb)) (.int .i64 x) false).run Tryz.prog W= .ok (.bool false) W:=by
 obtain⟨es,clock,hb,F,_,rfl⟩:=h
 rcases Maps.fit_look false zI1 Tryz.underlying150 (zU0 W) hb F (xR1 h0 h1) with⟨hrun,_,hat⟩|⟨e0,y,_,_,hrun,hRv,hat,_⟩
 ·exact hrun
 ·rw[Maps.has_true_of_atKey hat] at hno
  cases hno
theorem xM9(v:Int)(hv:v=1∨v=2)(w:World):Calls Tryz.prog 122 #[.int .i64 v] w fun e w'=>e= .returned (.bool true)∧w=w':=by
 rcases hv with rfl|rfl
 ·go_enter Tryz.func122,Tryz.ntmps122
  go_wp2
  go_ret
  exact⟨rfl,rfl⟩
 ·go_enter Tryz.func122,Tryz.ntmps122
  go_wp2
  go_ret
  exact⟨rfl,rfl⟩
theorem xJ8(e:EV)(t:TK)(N eb:Nat)(w:World)(hN:N≤w.heap.size)(hE:e.At N eb w)(hO:e.Ok)(hv:e.view=1∨e.view=2)(ht:t.At N w)(hto:t.Ok e.m)(htn:t.n=e.m)(hP:∀k,k<e.m→e.P k≤100):
  Calls Tryz.prog 80 #[.pointer (some ⟨eb,0,none⟩),t.val e.view] w fun y w'=>y= .returned (.bool true)∧Below w.heap.size w w':=by
 have HB:=Hd (J3 w (.cells #[.int .i64 e.view,.slice t.ja t.n t.jc,.slice t.sa t.n t.sc] 110))
 have HX:=Hd (Q3 w (.cells #[.int .i64 e.view,.slice t.ja t.n t.jc,.slice t.sa t.n t.sc] 110))
 have HOF:=Hd (fun i (hi:i<e.m) W (hb:Below w.heap.size w W)=>xO2 e N eb i W (Q5 hN hb.size) (hE.below (hb.mono hN)) hO hi)
 have HE:=Hd (fun W (hb:Below w.heap.size w W)=>hE.below (hb.mono hN))
 have HJ:=Hd (fun W (hb:Below w.heap.size w W)=>ht.js.below (hb.mono hN))
 have HSS:=Hd (fun W (hb:Below w.heap.size w W)=>ht.ss.below (hb.mono hN))
 have HJJ:=Hd (hto.full htn)
 have HPP:=Hd hP
 have HINC:=Hd hO.inc
 have HPL:=Hd hO.pl
 have hm8:=hO.m8
 have HVW:=Hd (xM9 e.view hv)
 have hmm:= @run_makeMap Tryz.prog
 unfold TK.val
 rw[htn] at HX HB HJ HSS ⊢
 obtain⟨m,hm⟩:∃m,e.m=m:=⟨_,rfl⟩
 rw[hm] at HX HB HOF HJ HSS HJJ HPP HINC HPL hm8 ⊢
 have HM:=Hd hm
 clear hE hO ht hto htn hP hv hm
 go_enter Tryz.func80,Tryz.ntmps80
 go_upto_region 2 with(fail)
 clear hmm
 have hb2:Below w.heap.size w ((w.alloc (.cells #[.int .i64 e.view,.slice t.ja m t.jc,.slice t.sa m t.sc] 110)).alloc (.map #[] 0)):=HB.out.alloc HB.out.size _
 have hx2:=(Q9 (w.alloc (.cells #[.int .i64 e.view,.slice t.ja m t.jc,.slice t.sa m t.sc] 110)) (.map #[] 0) w.heap.size (by simp)).trans HX.out
 have hm2:=Q3 (w.alloc (.cells #[.int .i64 e.view,.slice t.ja m t.jc,.slice t.sa m t.sc] 110)) (.map #[] 0)
 rw[show(w.alloc (.cells #[.int .i64 e.view,.slice t.ja m t.jc,.slice t.sa m t.sc] 110)).heap.size=w.heap.size+1 from by simp] at hm2
 have HB2:=Hd hb2
 have HX2:=Hd hx2
 have HM2:=Hd (qP5.start hm2)
 have HF2:=Hd (show qP4 (.map []) 0∧∀j,0≤j→j<m→(0:Int)≤(e.P j:Int) from⟨qP4.start,fun j _ _=>by omega⟩)
 clear hb2 hx2 hm2 HX HB
 generalize World.alloc (World.alloc w _) _=V at*
 obtain⟨mb,hmb⟩:∃mb,w.heap.size+1=mb:=⟨_,rfl⟩
 rw[hmb] at HM2 ⊢
 have hmw:w.heap.size≠mb:=by omega
 have hmw2:w.heap.size≤mb:=by omega
 clear hmb
 generalize t.ja=tja at*
 generalize t.sa=tsa at*
 have k1:=Q0 _ _ 1 _ _ _ HX2.out
 go_wp2
 clear k1
 go_loopw [12] (fun s12 wr=>∃i:Nat,i≤m∧s12= .int .i64 (i:Int)∧∃D x,Hid (qP5 wr mb i D)∧Hid (qP4 D x∧∀j,i≤j→j<m→x≤(e.P j:Int))∧Hid (wr.heap[w.heap.size]?=some (.cells #[.int .i64 e.view,.slice tja m t.jc,.slice tsa m t.sc] 110))∧Hid (Below w.heap.size w wr)) (fun s12 _=>m-(intOf s12).toNat)
 case atStart=>exact⟨0,Nat.zero_le _,rfl,_,_,HM2,HF2,HX2,HB2⟩
 case round=>
  clear HM2 HF2 HX2 HB2
  obtain⟨i,hi,rfl,D,x,HMp,HF,HX,HB⟩:=hrel
  obtain⟨k0,k1,k2⟩:=U4 HX.out
  by_cases hl:i<m
  ·have hl':(i:Int)<(m:Int):=by omega
   obtain⟨jb,jo,rfl,hjB,c0⟩:=(HJ.out wr HB.out).at' hl
   have hcj:=fun j (h:j<m)=>(HJ.out wr HB.out).at' h
   obtain⟨sb,so,rfl,hsB,s0⟩:=(HSS.out wr HB.out).at' hl
   rw[HJJ.out i hl] at c0
   have hEv:=HE.out wr HB.out
   obtain⟨e0,e1,e2,e3,e4⟩:=hEv.cells
   rw[HM.out] at e1 e2
   obtain⟨hb,ho,hha,hhB,h0,_⟩:=hEv.hits.get (show i<e.m by rw[HM.out];exact hl)
   rw[(HPL.out i hl).1] at h0
   rw[hha] at e1
   rcases hEv.gates with hg|⟨gb,go,hga,hgB,hgc⟩
   ·rw[HM.out] at hg;omega
   obtain⟨xb,xo,xc,g1,_⟩:=hgc i (by rw[HM.out];exact hl)
   rw[hga] at e2
   have hebl:eb<wr.heap.size:=by have:=hEv.lt;have:=HB.out.size;omega
   have hjl:jb<wr.heap.size:=by have:=HB.out.size;omega
   have hsl:sb<wr.heap.size:=by have:=HB.out.size;omega
   have hhl:hb<wr.heap.size:=by have:=HB.out.size;omega
   have hgl:gb<wr.heap.size:=by have:=HB.out.size;omega
   have hPi:=HPP.out i hl
   have hm1:IntKind.i64.wrap ((m:Int)-1)=(m:Int)-1:=Z1 _ (by omega)
   have hw1:=G2 (a:=(i:Int)) (b:=0) (c:=(m:Int)-1) (by omega) (by omega)
   have hw2:=G2 (a:=(0:Int)) (b:=0) (c:=0) (by omega) (by omega)
   have HOi:=Hd (HOF.out i hl)
   have HI1:=Hd (fun W=>show Calls Tryz.prog 120 #[.int .i64 (i:Int),.int .i64 0,.int .i64 ((m:Int)-1)] W fun e w'=>e= .returned (.bool true)∧W=w' from(zG9 _ _ _ W).mono (by rintro y w' ⟨rfl,rfl⟩;rw[hw1];exact⟨rfl,rfl⟩))
   have HI2:=Hd (fun W=>show Calls Tryz.prog 120 #[.int .i64 0,.int .i64 0,.int .i64 0] W fun e w'=>e= .returned (.bool true)∧W=w' from(zG9 _ _ _ W).mono (by rintro y w' ⟨rfl,rfl⟩;rw[hw2];exact⟨rfl,rfl⟩))
   have hvv:(e.view !=e.view)=false:=by simp
   clear e0 e3 e4 hEv hgc hga hha
   have hwz:=HB.out.size
   have hwz0:IntKind.i64.wrap 0=0:=by decide
   have hmi:decide (m≤i)=false:=Q7 (by omega)
   have hwl:w.heap.size<wr.heap.size:=(J5 HX.out)
   have hlk:∀(x:K9 wr.heap.size wr),(Instr.lookup 150 (.map (some mb)) (.int .i64 (e.P i:Int)) false).run Tryz.prog x.val= .ok (.bool false) x.val:=fun x=>xR5 (HMp.out.step x.below) (by omega) (by omega) (HF.out.1.2 _ (HF.out.2 i (Q1 _) hl) (by omega))
   by_cases hi0:i=0
   ·have hgt:¬(0:Int)<(i:Int):=by omega
    have hgd:decide ((0:Int)<(i:Int))=false:=Q7 hgt
    have hgn:decide (0<i)=false:=Q7 (by omega)
    clear hcj hi0
    go_upto_region 5 with(fail)
    (try simp only[List.append_eq,List.cons_append,List.nil_append])
    (refine J4 wr.heap.size (by kernel_rfl) (by kernel_rfl) ?_;(repeat(first|go_big_quiet_step((first|(go_at_call 120;with_reducible exact Calls.calm_same (HI1.out _))|(go_at_call 120;with_reducible exact Calls.calm_same (HI2.out _))|(go_at_call 121;with_reducible exact Calls.calm_of (Q1 _) (HOi.out _ (HB.out.trans ((K9.below _).mono hwz))))))|quiet_step((first|(go_at_call 120;with_reducible exact Calls.calm_same (HI1.out _))|(go_at_call 120;with_reducible exact Calls.calm_same (HI2.out _))|(go_at_call 121;with_reducible exact Calls.calm_of (Q1 _) (HOi.out _ (HB.out.trans ((K9.below _).mono hwz))))))|(rw[hwz0])|(rw[hmi])|(rw[hgn])));refine X4 (wqn ?_);intro xq)
    have hq:=xq.below
    have HMn:=Hd (qP5.step HMp.out hq)
    have HXn:=Hd (J0 HX.out hq)
    have HBn:=Hd (HB.out.trans (hq.mono HB.out.size))
    have hkk:=HE.out _ HBn.out
    obtain⟨_,e1',_,_,_⟩:=hkk.cells
    obtain⟨hb',ho',hha',_,h0',_⟩:=hkk.hits.get (show i<e.m by rw[HM.out];exact hl)
    rw[(HPL.out i hl).1] at h0'
    rw[HM.out,hha'] at e1'
    have HK:=Hd (xR1 (x:=(e.P i:Int)) (by omega) (by omega))
    clear e1 h0 g1 c0 s0 k0 k1 k2 hlk hq HMp HX HB HOi hkk
    generalize K9.val xq=V2 at*
    go_upto_region 8 with(at_mapUpdate;refine wpList_mapUpdate_own _ rfl _ _ _ 150 rfl 3 4 zI1 Tryz.underlying150 kL9 mb i D rfl HMn.out (by have:=hm8.2;unfold maxLen;omega) _ _ (.int .i64 (e.P i:Int)) rfl rfl HK.out (.lit (.int .i64 0)) [] rfl ?_;intro V5 hown hgrow)
    have HM5:=Hd hown
    have HX5:=Hd (xY3 hgrow hmw HXn.out)
    have HB5:=Hd (HBn.out.trans (zR2 hgrow hmw2 HBn.out.size))
    clear hown hgrow
    go_wp2
    go_roundw
    case rel=>exact⟨i+1,hl,by go_num,_,(e.P i:Int)+1,HM5,Hd ⟨(show qP4 D (e.P i:Int) from⟨HF.out.1.1,fun y hy=>HF.out.1.2 y (Int.le_trans (HF.out.2 i (Q1 _) hl) hy)⟩).put (by omega),fun j h1 h2=>by have:=HINC.out i j (by omega) h2;omega⟩,HX5,HB5⟩
    case measure=>simp[intOf];omega
   ·have hgt:(0:Int)<(i:Int):=by omega
    have hgd:decide ((0:Int)<(i:Int))=true:=Z0 hgt
    have hgn:decide (0<i)=true:=Z0 (by omega)
    obtain⟨jb',jo',hja,_,c1⟩:=hcj (i-1) (by omega)
    obtain⟨rfl,rfl⟩:jb=jb'∧jo=jo':=by
     injection hja with hja
     injection hja with q1 q2
     exact⟨q1,q2⟩
    rw[HJJ.out (i-1) (by omega)] at c1
    have hm2:IntKind.i64.wrap ((i:Int)-1)=((i-1:Nat):Int):=by rw[show((i:Int)-1)=((i-1:Nat):Int) by omega];exact Z1 _ (by omega)
    have hj1:((i-1:Nat):Int)<(m:Int):=by omega
    have hle:decide ((i:Int)≤((i-1:Nat):Int))=false:=Q7 (by omega)
    have hle2:¬(i:Int)≤((i-1:Nat):Int):=by omega
    obtain⟨i1,hi1⟩:∃i1,i-1=i1:=⟨_,rfl⟩
    have hln:decide (i≤i-1)=false:=Q7 (by omega)
    rw[hi1] at c1 hm2 hj1 hle hle2 hln
    clear hcj hja hi1 hi0
    go_upto_region 5 with(fail)
    (try simp only[List.append_eq,List.cons_append,List.nil_append])
    (refine J4 wr.heap.size (by kernel_rfl) (by kernel_rfl) ?_;(repeat(first|go_big_quiet_step((first|(go_at_call 120;with_reducible exact Calls.calm_same (HI1.out _))|(go_at_call 120;with_reducible exact Calls.calm_same (HI2.out _))|(go_at_call 121;with_reducible exact Calls.calm_of (Q1 _) (HOi.out _ (HB.out.trans ((K9.below _).mono hwz))))))|quiet_step((first|(go_at_call 120;with_reducible exact Calls.calm_same (HI1.out _))|(go_at_call 120;with_reducible exact Calls.calm_same (HI2.out _))|(go_at_call 121;with_reducible exact Calls.calm_of (Q1 _) (HOi.out _ (HB.out.trans ((K9.below _).mono hwz))))))|(rw[hwz0])|(rw[hmi])|(rw[hgn])|(rw[hln])));refine X4 (wqn ?_);intro xq)
    have hq:=xq.below
    have HMn:=Hd (qP5.step HMp.out hq)
    have HXn:=Hd (J0 HX.out hq)
    have HBn:=Hd (HB.out.trans (hq.mono HB.out.size))
    have hkk:=HE.out _ HBn.out
    obtain⟨_,e1',_,_,_⟩:=hkk.cells
    obtain⟨hb',ho',hha',_,h0',_⟩:=hkk.hits.get (show i<e.m by rw[HM.out];exact hl)
    rw[(HPL.out i hl).1] at h0'
    rw[HM.out,hha'] at e1'
    have HK:=Hd (xR1 (x:=(e.P i:Int)) (by omega) (by omega))
    clear e1 h0 g1 c0 s0 k0 k1 k2 hlk hq HMp HX HB HOi hkk
    clear c1
    generalize K9.val xq=V2 at*
    go_upto_region 8 with(at_mapUpdate;refine wpList_mapUpdate_own _ rfl _ _ _ 150 rfl 3 4 zI1 Tryz.underlying150 kL9 mb i D rfl HMn.out (by have:=hm8.2;unfold maxLen;omega) _ _ (.int .i64 (e.P i:Int)) rfl rfl HK.out (.lit (.int .i64 0)) [] rfl ?_;intro V5 hown hgrow)
    have HM5:=Hd hown
    have HX5:=Hd (xY3 hgrow hmw HXn.out)
    have HB5:=Hd (HBn.out.trans (zR2 hgrow hmw2 HBn.out.size))
    clear hown hgrow
    go_wp2
    go_roundw
    case rel=>exact⟨i+1,hl,by go_num,_,(e.P i:Int)+1,HM5,Hd ⟨(show qP4 D (e.P i:Int) from⟨HF.out.1.1,fun y hy=>HF.out.1.2 y (Int.le_trans (HF.out.2 i (Q1 _) hl) hy)⟩).put (by omega),fun j h1 h2=>by have:=HINC.out i j (by omega) h2;omega⟩,HX5,HB5⟩
    case measure=>simp[intOf];omega
  ·obtain rfl:i=m:=by omega
   have hvv:e.view=e.view:=rfl
   have HVi:=Hd (HVW.out)
   clear HVW
   go_wp2_with(go_at_call 122;refine(HVi.out _).mono ?_;rintro y w' ⟨rfl,rfl⟩)
   have hgn:decide (0<i)=true:=Z0 (by omega)
   exact Z2 (v:= .bool true) (by simp[results,Tryz.results80,go_sem,hgn]) rfl ⟨rfl,HB.out⟩
theorem qJ4{P:Program}{md:Region.Mode}{Q:Exit→Act→World→Prop}{S:World→Prop}{ops:Array Oper}{f:Nat}{listed:Array Bool}{a:Act}{w:World}{v:Value}{oi:Oper}{X:Prop}(i:Nat)(q:X)(hi:ops[i]?=some oi:=by rfl)(hB:TkE md ops listed i=true:=by kernel_rfl)(hQ:∀c a w,Q (.panic c) (a.put oi.dst v) w→Q (.panic c) a w:=by exact fun _ _ _ h=>h)(hy:YieldsIf P ops S oi v a:=by(refine Or.inl ⟨by rfl,?_⟩;intro w' hSw;(try dsimp only at hSw);have cc0:=(J9 hSw).1;(try simp only[hng]);go_simp;(try with_reducible rfl)))(hS:S w:=by assumption)(hx:X→M5 P md ops Q S ops.size (qC3 md ops Q) f (listed.setIfInBounds i true) (a.put oi.dst v) w:=by(intro qq;refine hnm ?_;exact qq)):M5 P md ops Q S ops.size (qC3 md ops Q) (f+1) listed a w:=qY0 hi hB hQ hy hS (hx q)
def jE9(m:Nat)(G:Nat→RW)(w:World)(y:Ending)(w':World):Prop:=
 (∃va vc,y= .returned (.tuple #[.slice va m vc,.int .i64 0])∧S5 w'.heap.size w' va m G∧m≤vc∧vc≤maxLen)∧Below w.heap.size w w'
theorem xZ8(a:Option Addr)(n c:Nat)(ps:Nat→PR)(ha:Option Addr)(m hc:Nat)(hs:Nat→HV)(P:Nat→Nat)(view:Int)(B:Nat)(w:World)(hBw:B≤w.heap.size)(hP:Y2 B w a n ps)(hH:qK7 B w ha m hs)(hC:K7 n ps=true)(hm:m≤8)
  (hpl:∀k,k<m→(hs k).plane=(P k:Int)∧P k<n∧C7 (ps (P k)) (hs k)=true∧C2 (ps (P k)) (hs k)=1)
  (hO:∀ga gc,EV.Ok ⟨a,n,c,ps,ha,m,hc,hs,P,ga,gc,fun k=>U3 (Y5 (ps (P k)) (hs k) 0),1,0,view⟩) (hv:view=1∨view=2) (t:TK) (ht:t.At B w) (hto:t.Ok m) (htn:t.n=m) (hP1:∀k,k<m→P k≤100):
  Calls Tryz.prog 41 #[L3 a n c,.slice ha m hc,t.val view] w (jE9 m (fun i=>U3 (Y5 (ps (P (t.J i))) (hs (t.J i)) 0)) w):=by
 have HB:=Hd (((Q2 _ w).alloc (Q1 _) (.cells #[.slice a n c] 24)).alloc (by simp) (.cells #[.int .i64 view,.slice t.ja t.n t.jc,.slice t.sa t.n t.sc] 110))
 have hx:=(Q9 (w.alloc (.cells #[.slice a n c] 24)) (.cells #[.int .i64 view,.slice t.ja t.n t.jc,.slice t.sa t.n t.sc] 110) w.heap.size (by simp)).trans (Q3 w _)
 have hr:=Q3 (w.alloc (.cells #[.slice a n c] 24)) (.cells #[.int .i64 view,.slice t.ja t.n t.jc,.slice t.sa t.n t.sc] 110)
 rw[show(w.alloc (.cells #[.slice a n c] 24)).heap.size=w.heap.size+1 from by simp] at hr
 have HX:=Hd hx
 have HR:=Hd hr
 have HOP:=Hd (fun W (hb:Below w.heap.size w W)=>xO3 a n c ps ha m hc hs P 1 0 view B W (Q5 hBw hb.size) (hP.below (hb.mono hBw)) (hH.below (hb.mono hBw)) hC (by decide) (by decide) hm hpl)
 have HAR:=Hd zU8
 have hm1:1≤m:=(hO none 0).m8.1
 obtain⟨E,hE⟩:∃E:Option Addr→Nat→EV,E=fun ga gc=>⟨a,n,c,ps,ha,m,hc,hs,P,ga,gc,fun k=>U3 (Y5 (ps (P k)) (hs k) 0),1,0,view⟩:=⟨_,rfl⟩
 have hO2:∀ga gc,(E ga gc).Ok:=fun ga gc=>by rw[hE];exact hO ga gc
 have hEm:∀ga gc,(E ga gc).m=m:=fun ga gc=>by rw[hE]
 have hEv:∀ga gc,(E ga gc).view=view:=fun ga gc=>by rw[hE]
 have hEP:∀ga gc,(E ga gc).P=P:=fun ga gc=>by rw[hE]
 have hEG:∀ga gc,(E ga gc).G=fun k=>U3 (Y5 (ps (P k)) (hs k) 0):=fun ga gc=>by rw[hE]
 have HCF:=Hd (fun ga gc eb W (hb:Below w.heap.size w W) (h:(E ga gc).At W.heap.size eb W)=>show Calls Tryz.prog 80 #[.pointer (some ⟨eb,0,none⟩),t.val view] W (fun y w'=>y= .returned (.bool true)∧Below W.heap.size W w') from by
  have h2:=xJ8 (E ga gc) t W.heap.size eb W (Q1 _) h (hO2 ga gc) (by rw[hEv];exact hv) ((ht.below (hb.mono hBw)).up (Q5 hBw hb.size)) (by rw[hEm];exact hto) (by rw[hEm];exact htn) (fun k hk=>by rw[hEP];rw[hEm] at hk;exact hP1 k hk)
  rw[hEv] at h2
  exact h2)
 have HGO:=Hd (fun ga gc eb W (hb:Below w.heap.size w W) (h:(E ga gc).At W.heap.size eb W)=>show Calls Tryz.prog 81 #[.pointer (some ⟨eb,0,none⟩),t.val view] W (fun y w'=>∃va vc,y= .returned (.slice va m vc)∧(S5 w'.heap.size w' va m (fun i=>U3 (Y5 (ps (P (t.J i))) (hs (t.J i)) 0))∧m≤vc∧vc≤maxLen)∧Below W.heap.size W w') from by
  have h4:=qH2 (E ga gc) t view W.heap.size eb W (Q1 _) h ((ht.below (hb.mono hBw)).up (Q5 hBw hb.size)) (by rw[hEm];exact hto) (by rw[hEm];exact hm)
  rw[hEG,htn] at h4
  refine h4.mono ?_
  rintro y w' ⟨va,vc,rfl,h1,h2,h3⟩
  exact⟨va,vc,rfl,⟨h1,h2 (by omega)⟩,h3⟩)
 rw[←hE] at HOP
 generalize(fun i=>U3 (Y5 (ps (P (t.J i))) (hs (t.J i)) 0))=GG at*
 unfold TK.val at HCF HGO ⊢
 unfold L3 at HOP
 unfold L3
 generalize hres:jE9 m GG w=RES
 have HRES:=Hd hres
 clear hx hr hP hH hC hpl hO hE ht hto htn hP1 hres hO2 hEm hEv hEP hEG
 go_enter Tryz.func41,Tryz.ntmps41
 go_upto_region 1 with(fail)
 generalize World.alloc (World.alloc w _) _=V0 at*
 generalize t.ja=tja at*
 generalize t.sa=tsa at*
 generalize t.n=tn at*
 have x0:=Q0 _ _ 0 _ _ _ HX.out
 have hwl:w.heap.size<V0.heap.size:=(J5 HX.out)
 refine wp_region_any (by kernel_rfl) ?_
 change wpAny _ _ _ _ _ _ _ (World.drew V0)
 have hS0:Below V0.heap.size V0 V0.drew:=(Q2 _ _).drew
 generalize World.drew V0=Vd at*
 refine O3 9 (fun w'=>Below V0.heap.size V0 w') hS0 (fun hS=> ?_)
 refine qJ4 0 ?_
 refine qJ4 2 ?_
 refine V7 1 ?_
 refine V8 rfl (fun K hK=> ?_);(try simp only[hng]);go_simp
 refine(HAR.out _).mono ?_
 rintro y V1 ⟨rfl,hb1⟩
 have hS1:=hS.trans (hb1.mono hS.size)
 refine hK.out _ _ hS1 (fun hS=> ?_)
 have HR1:=Hd (J0 HR.out hS1)
 have HB1:=Hd (HB.out.trans (hS1.mono HB.out.size))
 clear hK K hb1 HX HR HB hwl x0
 refine hnm ?_
 refine V7 3 ?_
 refine V8 rfl (fun K hK=> ?_);(try simp only[hng]);go_simp
 refine(HOP.out _ HB1.out).mono ?_
 rintro y W1 ⟨⟨eb,ga,gc,rfl,hev,hebw⟩,hb1⟩
 refine hK.out _ _ (hS1.trans (hb1.mono hS1.size)) (fun hS=> ?_)
 have HE1:=Hd hev
 have HB2:=Hd (HB1.out.trans (hb1.mono HB1.out.size))
 have HR2:=Hd (J0 HR1.out hb1)
 clear hK K hev hb1 HOP HR1 HB1
 refine hnm ?_
 refine qJ4 4 ?_
 refine qJ4 5 ?_
 refine qJ4 6 ?_
 refine qJ4 7 ?_
 refine qJ4 8 ?_
 change qC3 _ _ _ _ _ _
 refine⟨by kernel_rfl,?_⟩
 clear hS hS0 hS1
 obtain⟨t0,t1,t2⟩:=U4 HR2.out
 go_upto_region 6 with(go_at_call 80;refine(HCF.out ga gc eb _ HB2.out HE1.out).mono ?_;rintro y W2 ⟨rfl,hb1⟩;have HE2:=Hd ((HE1.out.below hb1).up hb1.size);have HB3:=Hd (HB2.out.trans (hb1.mono HB2.out.size));have HR3:=Hd (J0 HR2.out hb1);clear t0 t1 t2 hb1 HE1 HB2 HR2 HCF)
 obtain⟨t0,t1,t2⟩:=U4 HR3.out
 go_upto_region 7 with(go_at_call 81;refine(HGO.out ga gc eb _ HB3.out HE2.out).mono ?_;rintro y W3 ⟨va,vc,rfl,hg,hb1⟩;have HF:=Hd (show RES (.returned (.tuple #[.slice va m vc,.int .i64 0])) W3 from by rw[←HRES.out];exact⟨⟨va,vc,rfl,hg⟩,HB3.out.trans (hb1.mono HB3.out.size)⟩);clear HRES hg hb1 t0 t1 t2)
 go_wp2
 exact HF.out
end
section
open Go Go.RowKit Go.Shelf
theorem zW9{lt:SV→SV→Bool}{d:SV→Int}(hlt:∀p q,lt p q=decide (d p*q.hi<d q*p.hi)){L:Nat→SV}:∀{k:Nat},(∀i,i≤k→0≤d (L i)∧1≤(L i).hi)→(0≤d (F6 lt L k)∧1≤(F6 lt L k).hi)∧((∃i,i≤k∧d (L i)=0)→d (F6 lt L k)=0)
 |0,h=>⟨h 0 (Q1 _),fun⟨i,hi,h0⟩=>by
  obtain rfl:i=0:=by omega
  exact h0⟩
 |k+1,h=>by
  obtain⟨⟨h1,h2⟩,h3⟩:=zW9 hlt (L:=L) (k:=k) (fun i hi=>h i (by omega))
  have h4:=h (k+1) (Q1 _)
  unfold F6
  cases hc:lt (L (k+1)) (F6 lt L k) with
  |true=>
   rw[if_pos rfl]
   refine⟨h4,fun⟨i,hi,h0⟩=> ?_⟩
   rw[hlt] at hc
   have hc:=of_decide_eq_true hc
   by_cases e:i=k+1
   ·rw[←e];exact h0
   ·have h5:=h3 ⟨i,by omega,h0⟩
    rw[h5,Int.zero_mul] at hc
    have:=Int.mul_nonneg h4.1 (show 0≤(F6 lt L k).hi by omega)
    omega
  |false=>
   rw[if_neg (by simp)]
   refine⟨⟨h1,h2⟩,fun⟨i,hi,h0⟩=> ?_⟩
   rw[hlt] at hc
   have hc:=of_decide_eq_false hc
   by_cases e:i=k+1
   ·rw[←e,h0,Int.zero_mul] at hc
    have h6:d (F6 lt L k)*(L i).hi≤0:=by omega
    have h7:1≤(L i).hi:=by rw[e];exact h4.2
    rcases Int.lt_or_eq_of_le h1 with h8|h8
    ·have:=Int.mul_pos h8 (show 0<(L i).hi by omega)
     omega
    ·exact h8.symm
   ·exact h3 ⟨i,by omega,h0⟩
theorem kS0(K:Int)(p q:SV):ltF p q=decide ((p.lo-K*p.hi)*q.hi<(q.lo-K*q.hi)*p.hi):=by
 unfold ltF
 have e:(p.lo-K*p.hi)*q.hi-(q.lo-K*q.hi)*p.hi=p.lo*q.hi-q.lo*p.hi:=by
  rw[Int.sub_mul,Int.sub_mul,Int.mul_right_comm K p.hi q.hi]
  omega
 by_cases h:p.lo*q.hi<q.lo*p.hi
 ·rw[Z0 h,Z0 (by omega)]
 ·rw[Q7 h,Q7 (by omega)]
theorem kR7(K:Int)(p q:SV):gtF p q=decide ((K*p.hi-p.lo)*q.hi<(K*q.hi-q.lo)*p.hi):=by
 unfold gtF
 have e:(K*p.hi-p.lo)*q.hi-(K*q.hi-q.lo)*p.hi=q.lo*p.hi-p.lo*q.hi:=by
  rw[Int.sub_mul,Int.sub_mul,Int.mul_right_comm K p.hi q.hi]
  omega
 by_cases h:q.lo*p.hi<p.lo*q.hi
 ·rw[Z0 h,Z0 (by omega)]
 ·rw[Q7 h,Q7 (by omega)]
theorem xV6{K:Int}{p:SV}(h:p.lo=K*p.hi)(h1:1≤p.hi):frV p=spV K 1:=by
 unfold frV R7 F3
 rw[h]
 have hg:(Nat.gcd (K*p.hi).natAbs p.hi.natAbs:Int)=p.hi:=by
  rw[Int.natAbs_mul,Nat.gcd_mul_left_left]
  omega
 rw[hg,Int.mul_tdiv_cancel _ (by omega),Int.tdiv_self (by omega)]
def tK(i:Nat):RW:=if i=0 then⟨0,0,10⟩ else if i=1 then⟨100,20,30⟩ else⟨200,30,60⟩
theorem kE8:qQ2 3 tK:=⟨by decide,fun i hi=>by
 match i,hi with
 |0,_=>decide
 |1,_=>decide
 |2,_=>decide,fun i hi=>by
 match i,hi with
 |0,_=>decide
 |1,_=>decide
 |2,_=>decide⟩
theorem kC7:R6 tK 3=false:=by kernel_rfl
def slK:ST:=⟨10,1000,100⟩
def shK:ST:=⟨30,0,100⟩
theorem xQ7:∀s,s=slK∨s=shK→s∈G7 tK 3∧qY6 s tK 3=true:=by
 rintro s (rfl|rfl)
 ·exact⟨by decide,by kernel_rfl⟩
 ·exact⟨by decide,by kernel_rfl⟩
def kR3(s:ST):Bool:= !qY6 s tK 3||(decide (40*s.dn≤atN s 300)&&decide (atN s 300≤90*s.dn)&&(!(decide (R7 s.sl s.dn=1)&&decide (F3 s.sl s.dn=10)&&decide (R7 s.st s.dn=10)&&decide (F3 s.st s.dn=1))||decide (atN s 300=40*s.dn))&&(!(decide (R7 s.sl s.dn=3)&&decide (F3 s.sl s.dn=10)&&decide (R7 s.st s.dn=0)&&decide (F3 s.st s.dn=1))||decide (atN s 300=90*s.dn)))
theorem jN6:(G7 tK 3).all kR3=true:=by kernel_rfl
theorem zW2{c:ST}(h1:c∈G7 tK 3)(h2:qY6 c tK 3=true):(40*c.dn≤atN c 300∧atN c 300≤90*c.dn)∧(lnV c=lnV slK→atN c 300=40*c.dn)∧(lnV c=lnV shK→atN c 300=90*c.dn):=by
 have h:=List.all_eq_true.1 jN6 c h1
 unfold kR3 at h
 rw[h2] at h
 simp only[Bool.not_true,Bool.false_or,Q8,Z8,Bool.or_eq_true,Bool.not_eq_true',Bool.and_eq_false_imp] at h
 obtain⟨⟨⟨a1,a2⟩,a3⟩,a4⟩:=h
 refine⟨⟨a1,a2⟩,fun e=> ?_,fun e=> ?_⟩
 ·have e2:lnV slK= .agg #[.int .i64 1,.int .i64 10,.int .i64 10,.int .i64 1]:=by kernel_rfl
  rw[e2] at e
  unfold lnV at e
  simp only[Value.agg.injEq,List.toArray_inj,Array.mk.injEq,List.cons.injEq,Value.int.injEq,true_and,and_true] at e
  obtain⟨b1,b2,b3,b4⟩:=e
  rcases a3 with a3|a3
  ·exfalso
   simp[b1,b2,b3,b4] at a3
  ·exact a3
 ·have e2:lnV shK= .agg #[.int .i64 3,.int .i64 10,.int .i64 0,.int .i64 1]:=by kernel_rfl
  rw[e2] at e
  unfold lnV at e
  simp only[Value.agg.injEq,List.toArray_inj,Array.mk.injEq,List.cons.injEq,Value.int.injEq,true_and,and_true] at e
  obtain⟨b1,b2,b3,b4⟩:=e
  rcases a4 with a4|a4
  ·exfalso
   simp[b1,b2,b3,b4] at a4
  ·exact a4
theorem jW1{C:List ST}{z:Int}{i:Nat}(hi:i<C.length):∃c∈C,plC C z i=⟨atN c z,c.dn⟩:=by
 refine⟨C[i],List.getElem_mem hi,?_⟩
 unfold plC
 rw[X3,Z5 hi]
 rfl
theorem zI0{C:List ST}(h:F7 tK 3 (G7 tK 3) C):frV (loP C 300)=spV 40 1∧frV (hiP C 300)=spV 90 1:=by
 obtain⟨s1,s2⟩:=xQ7 slK (.inl rfl)
 obtain⟨c1,c2,c3⟩:=h.all _ s1 s2
 obtain⟨u1,u2⟩:=xQ7 shK (.inr rfl)
 obtain⟨d1,d2,d3⟩:=h.all _ u1 u2
 have hpos:0<C.length:=by
  cases C with
  |nil=>cases c2
  |cons x l=>simp
 have hch:∀c∈C,(40*c.dn≤atN c 300∧atN c 300≤90*c.dn)∧1≤c.dn:=fun c hc=>⟨(zW2 (h.from' c hc).1 (h.from' c hc).2).1,(E3 kE8 c (h.from' c hc).1).dn.1⟩
 have hix:∀c∈C,∃i,i≤C.length-1∧plC C 300 i=⟨atN c 300,c.dn⟩:=fun c hc=>by
  obtain⟨i,hi,he⟩:=List.getElem_of_mem hc
  refine⟨i,by omega,?_⟩
  unfold plC
  rw[X3,Z5 hi,he]
  rfl
 constructor
 ·obtain⟨i,hi,he⟩:=hix c1 c2
  have hv:=(zW2 (h.from' c1 c2).1 (h.from' c1 c2).2).2.1 c3
  obtain⟨⟨h1,h2⟩,h3⟩:=zW9 (lt:=ltF) (d:=fun p=>p.lo-40*p.hi) (kS0 40) (L:=plC C 300) (k:=C.length-1) (fun j hj=>by
   obtain⟨c,hc,e⟩:=jW1 (C:=C) (z:=300) (i:=j) (by omega)
   rw[e]
   have:=hch c hc
   exact⟨by dsimp only;omega,this.2⟩)
  have h4:=h3 ⟨i,hi,by rw[he];dsimp only;omega⟩
  exact xV6 (show(loP C 300).lo=40*(loP C 300).hi from by unfold loP;omega) h2
 ·obtain⟨i,hi,he⟩:=hix d1 d2
  have hv:=(zW2 (h.from' d1 d2).1 (h.from' d1 d2).2).2.2 d3
  obtain⟨⟨h1,h2⟩,h3⟩:=zW9 (lt:=gtF) (d:=fun p=>90*p.hi-p.lo) (kR7 90) (L:=plC C 300) (k:=C.length-1) (fun j hj=>by
   obtain⟨c,hc,e⟩:=jW1 (C:=C) (z:=300) (i:=j) (by omega)
   rw[e]
   have:=hch c hc
   exact⟨by dsimp only;omega,this.2⟩)
  have h4:=h3 ⟨i,hi,by rw[he];dsimp only;omega⟩
  exact xV6 (show(hiP C 300).lo=90*(hiP C 300).hi from by unfold hiP;omega) h2
theorem jD8(a:Option Addr)(c B:Nat)(w:World)(hBw:B≤w.heap.size)(hT:S5 B w a 3 tK)(hc:3≤c∧c≤maxLen):
  Calls Tryz.prog 19 #[.slice a 3 c,.int .i64 300] w fun e w'=>e= .returned (.tuple #[spV 40 1,spV 90 1,.int .i64 0])∧Below w.heap.size w w':=by
 refine(jD7 300 a 3 c tK B w hBw hT kE8 hc kC7 ⟨slK,xQ7 slK (.inl rfl)⟩ (by decide)).mono ?_
 rintro e w' ⟨⟨C,h1,rfl⟩,hb⟩
 obtain⟨e1,e2⟩:=zI0 h1
 exact⟨by rw[e1,e2],hb⟩
theorem jA8(a b:Nat)(w:World)(ha:a≤1000000000000000)(hb:b≤1000000000000000):
  Calls Tryz.prog 63 #[.int .i64 (a:Int),.int .i64 (b:Int)] w fun e w'=>e= .returned (.int .i64 (Nat.gcd a b:Int))∧Below w.heap.size w w':=by
 have HB0:=Hd (Q2 w.heap.size w)
 have HG0:=Hd (show Nat.gcd a b=Nat.gcd a b from rfl)
 obtain⟨G,hG⟩:∃G,Nat.gcd a b=G:=⟨_,rfl⟩
 rw[hG]
 have HG:=Hd hG
 clear hG HG0
 go_enter Tryz.func63,Tryz.ntmps63
 go_wp2
 go_loopw [0,1] (fun x y wr=>∃p q:Nat,x= .int .i64 (p:Int)∧y= .int .i64 (q:Int)∧p≤1000000000000000∧q≤1000000000000000∧Hid (Nat.gcd p q=G)∧Hid (Below w.heap.size w wr)) (fun _ y _=>(intOf y).toNat)
 case atStart=>exact⟨a,b,rfl,rfl,ha,hb,HG,HB0⟩
 case round=>
  clear HB0
  obtain⟨p,q,rfl,rfl,hp,hq,HE,HB⟩:=hrel
  by_cases h0:0<q
  ·have h0':(0:Int)<(q:Int):=by omega
   have hqz:(q:Int)≠0:=by omega
   have hm:((p:Int)).tmod (q:Int)=((p%q:Nat):Int):=by rw[Int.ofNat_tmod]
   have hm2:(p:Int)%(q:Int)=((p%q:Nat):Int):=by rw[Int.natCast_emod]
   have hlt:=Nat.mod_lt p h0
   have HE2:=Hd (show Nat.gcd q (p%q)=G from by rw[←HE.out,Nat.gcd_comm p q,Nat.gcd_rec q p,Nat.gcd_comm])
   generalize p%q=r at*
   go_upto_region 2 with(fail)
   (refine J4 (wr.heap.size) (by kernel_rfl) (by kernel_rfl) ?_;(repeat(first|go_big_quiet_step(fail)|quiet_step(fail)));refine X4 (wqn ?_);intro xq)
   have HB2:=Hd (HB.out.trans (xq.below.mono HB.out.size))
   generalize K9.val xq=V2 at*
   clear HB HE hm hm2
   go_wp2
   go_roundw
   case rel=>exact⟨q,r,rfl,rfl,hq,by omega,HE2,HB2⟩
   case measure=>simp[intOf];omega
  ·obtain rfl:q=0:=by omega
   have HE2:=Hd (show p=G from by rw[←HE.out,Nat.gcd_zero_right])
   clear HE
   go_wp2
   go_ret
   exact⟨by rw[←HE2.out];rfl,HB.out⟩
theorem zO7(num den:Int)(w:World)(hn: -1000000000000000≤num∧num≤1000000000000000)(hd:1≤den∧den≤1000000000000000):
  Calls Tryz.prog 22 #[.int .i64 num,.int .i64 den] w fun e w'=>e= .returned (spV (R7 num den) (F3 num den))∧Below w.heap.size w w':=by
 have HGC:=Hd (fun W=>jA8 num.natAbs den.natAbs W (by omega) (by omega))
 have hg1:1≤Nat.gcd num.natAbs den.natAbs:=Nat.gcd_pos_of_pos_right _ (by omega)
 have hg2:(Nat.gcd num.natAbs den.natAbs:Int)≤den:=by have:=Nat.gcd_le_right num.natAbs (show 0<den.natAbs by omega);omega
 unfold R7 F3 spV
 have hq1:num.tdiv (Nat.gcd num.natAbs den.natAbs:Int)≤1000000000000000∧-1000000000000000≤num.tdiv (Nat.gcd num.natAbs den.natAbs:Int):=by
  have h1:(num.tdiv (Nat.gcd num.natAbs den.natAbs:Int)).natAbs≤num.natAbs:=by rw[Int.natAbs_tdiv];exact Nat.div_le_self _ _
  omega
 have hq2:den.tdiv (Nat.gcd num.natAbs den.natAbs:Int)≤1000000000000000∧-1000000000000000≤den.tdiv (Nat.gcd num.natAbs den.natAbs:Int):=by
  have h1:(den.tdiv (Nat.gcd num.natAbs den.natAbs:Int)).natAbs≤den.natAbs:=by rw[Int.natAbs_tdiv];exact Nat.div_le_self _ _
  omega
 have hda:((den.natAbs:Nat):Int)=den:=by omega
 have hna:((num.natAbs:Nat):Int)=max num (-num):=by omega
 rw[hda] at HGC
 have hdd:den/(Nat.gcd num.natAbs den.natAbs:Int)=den.tdiv (Nat.gcd num.natAbs den.natAbs:Int):=(Int.tdiv_eq_ediv_of_nonneg (by omega)).symm
 generalize hG:Nat.gcd num.natAbs den.natAbs=G at*
 generalize hN:num.tdiv (G:Int)=N at*
 generalize hD:den.tdiv (G:Int)=D at*
 generalize num.natAbs=na at*
 clear hG hda
 have HB:=Hd (J3 w (.cells #[.int .i64 0,.int .i64 0] 69))
 have HX:=Hd (Q3 w (.cells #[.int .i64 0,.int .i64 0] 69))
 have HGZ:(G:Int)≠0:=by omega
 have hm1:IntKind.i64.wrap (-num)= -num:=Z1 _ (by omega)
 have hm2:IntKind.i64.wrap N=N:=Z1 _ (by omega)
 have hm3:IntKind.i64.wrap D=D:=Z1 _ (by omega)
 rw[hna] at HGC
 clear hna
 go_enter Tryz.func22,Tryz.ntmps22
 go_upto_region 1 with(fail)
 generalize World.alloc w _=V at*
 go_upto_region 2 with(go_at_call 63;with_reducible refine(HGC.out _).mono ?_;rintro e W1 ⟨rfl,hb1⟩;have HB1:=Hd (HB.out.trans (hb1.mono HB.out.size));have HX1:=Hd (J0 HX.out hb1);clear hb1)
 (refine M0 (W1.heap.size) 7 (by kernel_rfl) (by kernel_rfl) ?_;simp only[List.take_succ_cons,List.take_zero,X7,List.drop_zero];(repeat(first|go_big_quiet_step(fail)|quiet_step(fail)));refine X4 (wqn ?_);intro xq)
 have hq:=xq.below
 have HB2:=Hd (HB1.out.trans (hq.mono HB1.out.size))
 have HX2:=Hd (J0 HX1.out hq)
 clear hq
 generalize K9.val xq=V2 at*
 obtain⟨p0,p1⟩:=M7 HX2.out
 obtain⟨f0,f1⟩:=fr2 HX2.out
 simp only[P2] at p0 p1
 go_wp2
 have hrow:=Q4 _ _ 1 _ _ (.int .i64 D) (Q4 V2 _ 0 _ _ (.int .i64 N) HX2.out)
 have hbl:=(HB2.out.setCell (p:=⟨w.heap.size,0,none⟩) (by dsimp only;omega) (.int .i64 N)).setCell (p:=⟨w.heap.size,1,none⟩) (by dsimp only;omega) (.int .i64 D)
 generalize World.setCell (World.setCell V2 _ _) _ _=V5 at*
 obtain⟨q0,q1⟩:=M7 hrow
 exact Z2 (v:= .agg #[.int .i64 N,.int .i64 D]) (by simp[results,Tryz.results22,go_sem,q0,q1]) rfl ⟨rfl,hbl⟩
end
section
open Go Go.RowKit
theorem kZ6(ja:Option Addr)(n jc k:Nat)(J:Nat→Int)(B:Nat)(w:World)(hBw:B≤w.heap.size)(hJ:D0 B w ja n J)(hk:k<n)(hJk:∀i,i<n→J i=(i:Int))(hn:n≤8):
  Calls Tryz.prog 40 #[.slice ja n jc,.int .i64 (k:Int)] w fun e w'=>e= .returned (.bool true)∧w=w':=by
 have HJ:=Hd (fun i (hi:i<n)=>hJ.at' hi)
 have HJK:=Hd hJk
 clear hJ hJk
 go_enter Tryz.func40,Tryz.ntmps40
 go_wp2
 go_loopw [5] (fun s5 wr=>∃i:Nat,i≤k∧s5= .int .i64 (i:Int)∧wr=w) (fun s5 _=>n-(intOf s5).toNat)
 case atStart=>exact⟨0,Nat.zero_le _,rfl,rfl⟩
 case round=>
  obtain⟨i,hi,rfl,rfl⟩:=hrel
  have hin:i<n:=by omega
  have hin':(i:Int)<(n:Int):=by omega
  obtain⟨jb,jo,rfl,hjB,c0⟩:=HJ.out i hin
  rw[HJK.out i hin] at c0
  by_cases he:i=k
  ·have he2:=Hd he
   obtain rfl:=he
   go_wp2
   go_ret
   exact⟨rfl,rfl⟩
  ·have he':¬(i:Int)=(k:Int):=by omega
   go_wp2
   go_roundw
   case rel=>exact⟨i+1,by omega,by go_num,trivial⟩
   case measure=>simp[intOf];omega
theorem zS8(a b c d:Int)(w:World)(ha: -600000000000≤a∧a≤600000000000)(hb:0≤b∧b≤100000)(hc: -600000000000≤c∧c≤600000000000)(hd:0≤d∧d≤100000):
  Calls Tryz.prog 43 #[spV a b,spV c d] w fun e w'=>e= .returned (.bool (decide (a*d<c*b)))∧Below w.heap.size w w':=by
 have key:∀x y:Int,-600000000000≤x∧x≤600000000000→0≤y∧y≤100000→IntKind.i64.wrap (x*y)=x*y:=fun x y hx hy=>by
  have h1:=Z7 hx.2 hy.1
  have h2:=Z7 hx.1 hy.1
  exact Z1 _ (by omega)
 have hw1:=key a d ha hd
 have hw2:=key c b hc hb
 have HB:=Hd (((Q2 _ w).alloc (Q1 _) (.cells #[.int .i64 a,.int .i64 b] 69)).alloc (by simp) (.cells #[.int .i64 c,.int .i64 d] 69))
 have hx:=(Q9 (w.alloc (.cells #[.int .i64 a,.int .i64 b] 69)) (.cells #[.int .i64 c,.int .i64 d] 69) w.heap.size (by simp)).trans (Q3 w _)
 have hr:=Q3 (w.alloc (.cells #[.int .i64 a,.int .i64 b] 69)) (.cells #[.int .i64 c,.int .i64 d] 69)
 rw[show(w.alloc (.cells #[.int .i64 a,.int .i64 b] 69)).heap.size=w.heap.size+1 from by simp] at hr
 have HX:=Hd hx
 have HR:=Hd hr
 clear hx hr key
 unfold spV
 go_enter Tryz.func43,Tryz.ntmps43
 go_upto_region 1 with(fail)
 generalize World.alloc (World.alloc w _) _=V at*
 obtain⟨k0,k1⟩:=M7 HX.out
 obtain⟨l0,l1⟩:=M7 HR.out
 go_wp2
 go_ret
 exact⟨by first|rfl|trivial,HB.out⟩
theorem xN0{p:SV}(h:U1 p):∃g:Int,1≤g∧R7 p.lo p.hi*g=p.lo∧F3 p.lo p.hi*g=p.hi:=by
 have h1:1≤Nat.gcd p.lo.natAbs p.hi.natAbs:=Nat.gcd_pos_of_pos_right _ (by have:=h.dn;omega)
 exact⟨(Nat.gcd p.lo.natAbs p.hi.natAbs:Int),by omega,Int.tdiv_mul_cancel (Int.ofNat_dvd_left.2 (Nat.gcd_dvd_left _ _)),Int.tdiv_mul_cancel (Int.ofNat_dvd_left.2 (Nat.gcd_dvd_right _ _))⟩
theorem jR2{p:SV}(h:U1 p):(-600000000000≤R7 p.lo p.hi∧R7 p.lo p.hi≤600000000000)∧0≤F3 p.lo p.hi∧F3 p.lo p.hi≤100000:=by
 have h1:=qC5 p.lo p.hi
 have h2:=zA4 p.lo p.hi
 have h3:=h.nm
 have h4:=h.dn
 refine⟨by omega,?_,by omega⟩
 obtain⟨g,hg,_,e⟩:=xN0 h
 rcases Int.lt_or_le (F3 p.lo p.hi) 0 with hlt|hle
 ·have:=Int.mul_neg_of_neg_of_pos hlt (show 0<g by omega)
  omega
 ·exact hle
theorem kR6{p:SV}(h:U1 p){a:Int}(ha:p.lo≤a*p.hi):¬a*F3 p.lo p.hi<R7 p.lo p.hi*1:=by
 obtain⟨g,hg,e1,e2⟩:=xN0 h
 rw[←e1] at ha
 have h2:R7 p.lo p.hi*g≤a*F3 p.lo p.hi*g:=by rw[X6,e2];exact ha
 have:=Int.le_of_mul_le_mul_right h2 (by omega)
 omega
theorem kR5{p:SV}(h:U1 p){a:Int}(ha:a*p.hi≤p.lo):¬R7 p.lo p.hi*1<a*F3 p.lo p.hi:=by
 obtain⟨g,hg,e1,e2⟩:=xN0 h
 rw[←e1] at ha
 have h2:a*F3 p.lo p.hi*g≤R7 p.lo p.hi*g:=by rw[X6,e2];exact ha
 have:=Int.le_of_mul_le_mul_right h2 (by omega)
 omega
theorem xA7(a:Int):R7 a 1=a∧F3 a 1=1:=by
 unfold R7 F3
 simp[Nat.gcd_one_right]
theorem P3{P:Program}{md:Region.Mode}{Q:Exit→Act→World→Prop}{S:World→Prop}{ops:Array Oper}{f:Nat}{listed:Array Bool}{a:Act}{w:World}{v:Value}{oi:Oper}{X:Prop}(i:Nat)(q:X)(hi:ops[i]?=some oi:=by rfl)(hB:TkE md ops listed i=true:=by kernel_rfl)(hQ:∀c a w,Q (.panic c) (a.put oi.dst v) w→Q (.panic c) a w:=by exact fun _ _ _ h=>h)(hy:YieldsIf P ops S oi v a:=by(refine Or.inl ⟨by rfl,?_⟩;intro w' hSw;(try dsimp only at hSw);have cc0:=(J9 hSw).1;(try simp only[hng]);go_simp;(try with_reducible rfl)))(hS:S w:=by assumption)(hx:X→M5 P md ops Q S ops.size (qC3 md ops Q) f (listed.setIfInBounds i true) (a.put oi.dst v) w:=by(intro qq;refine hnm ?_;exact qq)):M5 P md ops Q S ops.size (qC3 md ops Q) (f+1) listed a w:=qY0 hi hB hQ hy hS (hx q)
def SlF(A N1 D1 N2 D2:Int):Prop:=((-600000000000≤N1∧N1≤600000000000)∧0≤D1∧D1≤100000)∧((-600000000000≤N2∧N2≤600000000000)∧0≤D2∧D2≤100000)∧¬A*D1<N1*1∧¬N2*1<A*D2
theorem xT9(t:Nat→RW)(m:Nat)(va:Option Addr)(vc:Nat)(A b0:Int)(w:World)(hT:S5 w.heap.size w va m t)(hO:qQ2 m t)(hc:m≤vc∧vc≤maxLen)(hf:R6 t m=false)(hL:qB6 t m A b0):
  Calls Tryz.prog 42 #[.slice va m vc] w fun y w'=>(∃N1 D1 N2 D2,y= .returned (.tuple #[.agg #[.int .i64 N1,.int .i64 D1],.agg #[.int .i64 N2,.int .i64 D2],.int .i64 0])∧SlF A N1 D1 N2 D2)∧Below w.heap.size w w':=by
 refine(xH1 va m vc t w.heap.size w (Q1 _) hT hO hc hf (zX3 hO hf hL)).mono ?_
 rintro y w' ⟨⟨C,hC,h1,rfl⟩,hb⟩
 obtain⟨q1,q2⟩:=xE5 hO hf hL hC h1
 have hok:∀s∈C,s.ok:=fun s hs=>E3 hO s (hC.from' s hs).1
 have hF:=xT8 hok
 have hlo:U1 (zF4 C):=U7 (fun i hi=>hF i (by omega))
 have hhi:U1 (zF3 C):=U7 (fun i hi=>hF i (by omega))
 exact⟨⟨_,_,_,_,rfl,jR2 hlo,jR2 hhi,kR6 hlo q1,kR5 hhi q2⟩,hb⟩
theorem xV3(a:Option Addr)(n c:Nat)(ps:Nat→PR)(ha:Option Addr)(m hc:Nat)(hs:Nat→HV)(P:Nat→Nat)(need miss view:Int)(B:Nat)(w:World)(hBw:B≤w.heap.size)(hP:Y2 B w a n ps)(hH:qK7 B w ha m hs)(hC:K7 n ps=true)(h1:1≤need∧need≤16)(h2:0≤miss∧miss≤16)(hm:m≤8)
  (hpl:∀k,k<m→(hs k).plane=(P k:Int)∧P k<n∧C7 (ps (P k)) (hs k)=true∧C2 (ps (P k)) (hs k)=1) (A b0:Int) (Q:Nat→Bool)
  (hg:∀ga gc,EV.Good ⟨a,n,c,ps,ha,m,hc,hs,P,ga,gc,fun k=>U3 (Y5 (ps (P k)) (hs k) 0),need,miss,view⟩ A b0 Q)
  (hP1:∀k,k<m→P k≤100) (hm2:2≤m) (hA: -5≤A∧A≤5):
  Calls Tryz.prog 16 #[L3 a n c,.agg #[.int .i64 need,.int .i64 miss],.slice ha m hc,.int .i64 (m:Int),.int .i64 view,.int .i64 A] w fun y w'=>y= .returned (.bool true)∧Below w.heap.size w w':=by
 have HB:=Hd (((Q2 _ w).alloc (Q1 _) (.cells #[.slice a n c] 24)).alloc (by simp) (.cells #[.int .i64 need,.int .i64 miss] 26))
 have hx:=(Q9 (w.alloc (.cells #[.slice a n c] 24)) (.cells #[.int .i64 need,.int .i64 miss] 26) w.heap.size (by simp)).trans (Q3 w _)
 have hr:=Q3 (w.alloc (.cells #[.slice a n c] 24)) (.cells #[.int .i64 need,.int .i64 miss] 26)
 rw[show(w.alloc (.cells #[.slice a n c] 24)).heap.size=w.heap.size+1 from by simp] at hr
 have HX:=Hd hx
 have HR:=Hd hr
 have HTR:=Hd (fun W (hb:Below w.heap.size w W)=>xH2 a n c ps ha m hc hs P need miss view B W (Q5 hBw hb.size) (hP.below (hb.mono hBw)) (hH.below (hb.mono hBw)) hC h1 h2 hm hpl A b0 Q hg)
 obtain⟨G,hG⟩:∃G:TK→Nat→RW,G=fun t i=>U3 (Y5 (ps (P (t.J i))) (hs (t.J i)) 0):=⟨_,rfl⟩
 have hok:=(hg none 0).ok
 have hvw:=(hg none 0).vw
 have HFG:=Hd (fun W (hb:Below w.heap.size w W) (t:TK) (ht:t.At W.heap.size W) (hto:t.Ok m) (htn:t.n=m)=>show Calls Tryz.prog 41 #[L3 a n c,.slice ha m hc,t.val view] W (jE9 m (G t) W) from by
  rw[hG]
  exact xZ8 a n c ps ha m hc hs P view W.heap.size W (Q1 _) ((hP.below (hb.mono hBw)).up (Q5 hBw hb.size)) ((hH.below (hb.mono hBw)).up' (Q5 hBw hb.size)) hC hm hpl (fun ga gc=>⟨(hg ga gc).ok.ck,(hg ga gc).ok.m8,(hg ga gc).ok.pl,(hg ga gc).ok.inc,(hg ga gc).ok.vw,(hg ga gc).ok.key,(hg ga gc).ok.cap⟩) hvw t ht hto htn hP1)
 have HSL:=Hd (fun(t:TK) (hto:t.Ok m) (htn:t.n=m) W va vc (hT:S5 W.heap.size W va m (G t)) (hc:m≤vc∧vc≤maxLen)=>show Calls Tryz.prog 42 #[.slice va m vc] W (fun y w'=>(∃N1 D1 N2 D2,y= .returned (.tuple #[.agg #[.int .i64 N1,.int .i64 D1],.agg #[.int .i64 N2,.int .i64 D2],.int .i64 0])∧SlF A N1 D1 N2 D2)∧Below W.heap.size W w') from by
  have hl:=(hg none 0).ln t hto (by omega)
  have hi:=(hg none 0).li t hto (by omega)
  have hlo:=hl.ok
  have hll:=hl.ln
  rw[htn] at hlo hll hi
  rcases hll with h|⟨hf,_⟩
  ·omega
  rw[hG] at hT
  exact xT9 _ m va vc A b0 W hT hlo hc hf hi)
 have HOF:=Hd (fun W=>show Calls Tryz.prog 22 #[.int .i64 A,.int .i64 1] W fun e w'=>e= .returned (.agg #[.int .i64 A,.int .i64 1])∧Below W.heap.size W w' from by
  have h:=zO7 A 1 W (by omega) (by decide)
  rw[(xA7 A).1,(xA7 A).2] at h
  exact h)
 have HL1:=Hd (fun N1 D1 N2 D2 W (h:SlF A N1 D1 N2 D2)=>show Calls Tryz.prog 43 #[.agg #[.int .i64 A,.int .i64 1],.agg #[.int .i64 N1,.int .i64 D1]] W fun e w'=>e= .returned (.bool false)∧Below W.heap.size W w' from by
  have h3:=zS8 A 1 N1 D1 W (by omega) (by decide) h.1.1 h.1.2
  rw[Q7 h.2.2.1] at h3
  exact h3)
 have HL2:=Hd (fun N1 D1 N2 D2 W (h:SlF A N1 D1 N2 D2)=>show Calls Tryz.prog 43 #[.agg #[.int .i64 N2,.int .i64 D2],.agg #[.int .i64 A,.int .i64 1]] W fun e w'=>e= .returned (.bool false)∧Below W.heap.size W w' from by
  have h3:=zS8 N2 D2 A 1 W h.2.1.1 h.2.1.2 (by omega) (by decide)
  rw[Q7 h.2.2.2] at h3
  exact h3)
 unfold L3 at HTR HFG
 unfold TK.val at HFG
 unfold L3
 clear hx hr hP hH hC h1 h2 hpl hg hG hok hvw hP1 hA
 go_enter Tryz.func16,Tryz.ntmps16
 go_upto_region 1 with(fail)
 generalize World.alloc (World.alloc w _) _=V0 at*
 have x0:=Q0 _ _ 0 _ _ _ HX.out
 obtain⟨r0,r1⟩:=M7 HR.out
 go_upto_region 2 with(go_at_call 39;refine(HTR.out _ HB.out).mono ?_;rintro y W1 ⟨⟨ta,tc,t,rfl,hTL,hto,htn⟩,hb1⟩;have HB1:=Hd (HB.out.trans (hb1.mono HB.out.size));have HX1:=Hd (J0 HX.out hb1);have HT:=Hd (And.intro hTL (And.intro hto htn));clear hb1 hTL hto htn x0 r0 r1 HX HR HTR HB)
 obtain⟨b,off,rfl,hbN,hcl⟩:∃b off,ta=some ⟨b,off,none⟩∧b<W1.heap.size∧W1.cell? ⟨b,off,none⟩=some (.int .i64 view)∧W1.cell? ⟨b,off+1,none⟩=some (.slice t.ja m t.jc)∧W1.cell? ⟨b,off+2,none⟩=some (.slice t.sa m t.sc):=by
  rcases HT.out.1.row with h|⟨b,off,e,hb,hc⟩
  ·cases h
  ·have h:=hc 0 t rfl
   rw[HT.out.2.2] at h
   exact⟨b,off,e,hb,by simpa using h.1,by simpa using h.2.1,by simpa using h.2.2⟩
 obtain⟨k0,k1,k2⟩:=hcl
 have HHS:=Hd (fun k (hk:k<m)=>show Calls Tryz.prog 40 #[.slice t.ja m t.jc,.int .i64 (k:Int)] W1 (fun e w'=>e= .returned (.bool true)∧W1=w') from kZ6 t.ja m t.jc k (fun i=>(t.J i:Int)) W1.heap.size W1 (Q1 _) (by
  have h:=(HT.out.1.el t (by simp)).js
  rw[HT.out.2.2] at h
  exact h) hk (fun i hi=>by rw[HT.out.2.1.full HT.out.2.2 i hi]) hm)
 have HFG1:=Hd (fun W (hb:Below W1.heap.size W1 W)=>HFG.out W (HB1.out.trans (hb.mono HB1.out.size)) t (((HT.out.1.el t (by simp)).below hb).up hb.size) HT.out.2.1 HT.out.2.2)
 have HSL1:=Hd (fun W va vc=>HSL.out t HT.out.2.1 HT.out.2.2 W va vc)
 have htn:=HT.out.2.2
 rw[htn] at HFG1
 clear HFG HSL HT htn
 generalize G t=GT at*
 generalize t.ja=tja at*
 generalize t.sa=tsa at*
 generalize t.jc=tjc at*
 generalize t.sc=tsc at*
 clear t
 go_wp2
 go_loopw [15] (fun s15 wr=>s15= .int .i64 0∧W1=wr) (fun s15 _=>0)
 case atStart=>exact⟨rfl,rfl⟩
 case round=>
  obtain⟨rfl,rfl⟩:=hrel
  go_wp2
  go_loopw [16,17] (fun s16 s17 wz=>∃k:Nat,k≤m∧s16= .bool true∧s17= .int .i64 (k:Int)∧W1=wz) (fun _ s17 _=>m-(intOf s17).toNat)
  case atStart=>exact⟨0,Nat.zero_le _,by simp,rfl,rfl⟩
  case round=>
   obtain⟨k,hk,rfl,rfl,rfl⟩:=hrel
   by_cases hl:k<m
   ·have hl':(k:Int)<(m:Int):=by omega
    have HHk:=Hd (HHS.out k hl)
    go_wp2_with(go_at_call 40;refine HHk.out.mono ?_;rintro y w' ⟨rfl,rfl⟩)
    go_roundw
    case rel=>exact⟨k+1,hl,by simp,by go_num,trivial⟩
    case measure=>simp[intOf];omega
   ·obtain rfl:k=m:=by omega
    clear HHS
    go_upto_region 15 with(fail)
    have x0:=Q0 _ _ 0 _ _ _ HX1.out
    have lx:w.heap.size<W1.heap.size:=(J5 HX1.out)
    refine wp_region_any (by kernel_rfl) ?_
    change wpAny _ _ _ _ _ _ _ (World.drew W1)
    have hS0:Below W1.heap.size W1 W1.drew:=(Q2 _ _).drew
    generalize World.drew W1=Wd at*
    refine O3 12 (fun w'=>Below W1.heap.size W1 w') hS0 (fun hS=> ?_)
    refine P3 0 ?_
    refine P3 1 ?_
    refine P3 2 ?_
    refine P3 3 ?_
    refine P3 4 ?_
    refine P3 5 ?_
    refine V7 6 ?_
    refine V8 rfl (fun K hK=> ?_);(try simp only[hng]);go_simp
    refine(HFG1.out _ hS).mono ?_
    rintro y W2 ⟨⟨va,vc,rfl,hrw,hvc⟩,hb2⟩
    have hS2:=hS.trans (hb2.mono hS.size)
    refine hK.out _ _ hS2 (fun hS=> ?_)
    have HSL2:=Hd (HSL1.out W2 va vc hrw hvc)
    have HB2:=Hd (HB1.out.trans (hS2.mono HB1.out.size))
    clear hK K hb2 hrw hvc HFG1 HSL1 x0 k0 k1 k2
    refine hnm ?_
    refine P3 7 ?_
    refine P3 8 ?_
    refine P3 9 ?_
    refine P3 10 ?_
    refine P3 11 ?_
    change qC3 _ _ _ _ _ _
    refine⟨by kernel_rfl,?_⟩
    clear hS hS0 hS2
    go_upto_region 17 with(go_at_call 42;refine HSL2.out.mono ?_;rintro y W3 ⟨⟨N1,D1,N2,D2,rfl,hsf⟩,hb3⟩;have HB3:=Hd (HB2.out.trans (hb3.mono HB2.out.size));have HSF:=Hd hsf;clear hb3 hsf HB2 HSL2)
    have hb4:Below W3.heap.size W3 ((W3.alloc (.cells #[.int .i64 N1,.int .i64 D1] 69)).alloc (.cells #[.int .i64 N2,.int .i64 D2] 69)):=((Q2 _ W3).alloc (Q1 _) _).alloc (by simp) _
    have e1:((W3.alloc (.cells #[.int .i64 N1,.int .i64 D1] 69)).alloc (.cells #[.int .i64 N2,.int .i64 D2] 69)).heap[W3.heap.size]?=some (.cells #[.int .i64 N1,.int .i64 D1] 69):=(Q9 _ _ _ (by simp)).trans (Q3 W3 _)
    have e2:=Q3 (W3.alloc (.cells #[.int .i64 N1,.int .i64 D1] 69)) (.cells #[.int .i64 N2,.int .i64 D2] 69)
    rw[show(W3.alloc (.cells #[.int .i64 N1,.int .i64 D1] 69)).heap.size=W3.heap.size+1 from by simp] at e2
    have HB4:=Hd (HB3.out.trans (hb4.mono HB3.out.size))
    clear hb4 HB3
    generalize World.alloc (World.alloc W3 _) _=W4 at*
    generalize W3.heap.size=y at*
    obtain⟨k0,k1⟩:=M7 e1
    obtain⟨m0,m1⟩:=M7 e2
    have l1:y<W4.heap.size:=(J5 e1)
    have l2:y+1<W4.heap.size:=(J5 e2)
    have HLA:=Hd (fun W=>HL1.out N1 D1 N2 D2 W HSF.out)
    have HLB:=Hd (fun W=>HL2.out N1 D1 N2 D2 W HSF.out)
    clear e1 e2 HL1 HL2 HSF
    (try simp only[List.append_eq,List.cons_append,List.nil_append])
    (refine J4 W4.heap.size (by kernel_rfl) (by kernel_rfl) ?_;(repeat(first|go_big_quiet_step(first|(go_at_call 22;with_reducible exact Calls.calm_of (Q1 _) (HOF.out _))|(go_at_call 43;with_reducible exact Calls.calm_of (Q1 _) (HLA.out _))|(go_at_call 43;with_reducible exact Calls.calm_of (Q1 _) (HLB.out _)))|quiet_step(first|(go_at_call 22;with_reducible exact Calls.calm_of (Q1 _) (HOF.out _))|(go_at_call 43;with_reducible exact Calls.calm_of (Q1 _) (HLA.out _))|(go_at_call 43;with_reducible exact Calls.calm_of (Q1 _) (HLB.out _)))));refine X4 (wqn ?_);intro xq)
    have hq:=xq.below
    have HB5:=Hd (HB4.out.trans (hq.mono HB4.out.size))
    clear hq
    generalize K9.val xq=W5 at*
    go_wp2
    go_ret
    exact⟨rfl,HB5.out⟩
end
end Go.Proofs.YtmncaipgefbalaaGreatDoor
