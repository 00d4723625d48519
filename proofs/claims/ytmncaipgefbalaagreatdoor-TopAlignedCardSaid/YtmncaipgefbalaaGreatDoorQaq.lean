/- Part of the proof of the claim. -/
import Derived.Test.YtmncaipgefbalaaGreatDoorQap
import Derived.Maps.OwnIn
set_option maxRecDepth 100000
set_option maxHeartbeats 8000000
set_option linter.unusedVariables false
set_option linter.unusedSimpArgs false
namespace Go.Proofs.YtmncaipgefbalaaGreatDoor
section
open Go Go.RowKit Go.Maps
theorem qA8:Keyed Tryz.prog 237:=Keyed.of_law (deep_law (m:=4) (by decide) (by kernel_rfl) (by kernel_rfl) (by kernel_rfl))
theorem xB1(d:Nat){n:Int}(h:(Lit.int .i64 n).wf=true):Tryz.prog.keyLits (d+1) 3 [.int .i64 n]=some [.int .i64 n]:=by
 simp[Program.keyLits,Tryz.underlying3,h]
theorem zS0(d:Nat){a b:Int}(h1:(Lit.int .i64 a).wf=true)(h2:(Lit.int .i64 b).wf=true):Tryz.prog.keyLits (d+2) 69 [.int .i64 a,.int .i64 b]=some [.int .i64 a,.int .i64 b]:=by
 have e1:Tryz.prog.cellsOf 69=2:=by kernel_rfl
 have e2:Tryz.prog.cellsOf 3=1:=by kernel_rfl
 simp[Program.keyLits.eq_def _ (d+2),Tryz.underlying69,e1,e2,xB1 d h1,xB1 d h2]
theorem jV5(d:Nat){a b c e:Int}(h1:(Lit.int .i64 a).wf=true)(h2:(Lit.int .i64 b).wf=true)(h3:(Lit.int .i64 c).wf=true)(h4:(Lit.int .i64 e).wf=true):Tryz.prog.keyLits (d+3) 237 [.int .i64 a,.int .i64 b,.int .i64 c,.int .i64 e]=some [.int .i64 a,.int .i64 b,.int .i64 c,.int .i64 e]:=by
 have e1:Tryz.prog.cellsOf 69=2:=by kernel_rfl
 have e2:Tryz.prog.cellsOf 237=4:=by kernel_rfl
 simp[Program.keyLits.eq_def _ (d+3),Tryz.underlying237,e1,e2,zS0 d h1 h2,zS0 d h3 h4]
theorem jS8{a b c e:Int}(h1:(Lit.int .i64 a).wf=true)(h2:(Lit.int .i64 b).wf=true)(h3:(Lit.int .i64 c).wf=true)(h4:(Lit.int .i64 e).wf=true):∃kl,keyOf Tryz.prog 237 (.agg #[.int .i64 a,.int .i64 b,.int .i64 c,.int .i64 e])=some kl:=by
 have e1:Tryz.prog.keyType 237=true:=by kernel_rfl
 have e2:Tryz.prog.cellsOf 237=4:=by kernel_rfl
 refine⟨.string (keyBytes [.int .i64 a,.int .i64 b,.int .i64 c,.int .i64 e]),?_⟩
 simp[keyOf,Tryz.underlying237,e1,Value.formed,e2,Value.cells]
 exact⟨_,jV5 _ h1 h2 h3 h4,rfl⟩
def mkR(v:Value):Option (DataW Unit×List MemPlace):=match v with
 | .bool true=>some (.lit (.bool true),[])
 | .bool false=>some (.lit (.bool false),[])
 |_=>none
theorem qC5(num den:Int):(R7 num den).natAbs≤num.natAbs:=by
 unfold R7
 rw[Int.natAbs_tdiv]
 exact Nat.div_le_self _ _
theorem zA4(num den:Int):(F3 num den).natAbs≤den.natAbs:=by
 unfold F3
 rw[Int.natAbs_tdiv]
 exact Nat.div_le_self _ _
theorem kV7{s:ST}(hs:s.ok):∃kl,keyOf Tryz.prog 237 (lnV s)=some kl:=by
 have b1:=qC5 s.sl s.dn
 have b2:=zA4 s.sl s.dn
 have b3:=qC5 s.st s.dn
 have b4:=zA4 s.st s.dn
 have h1:=hs.sl
 have h2:=hs.st
 have h3:=hs.dn
 exact jS8 (WalkArith.wf_i64 (by omega)) (WalkArith.wf_i64 (by omega)) (WalkArith.wf_i64 (by omega)) (WalkArith.wf_i64 (by omega))
structure A5(W:World)(mb k:Nat)(D:DataW Unit)(C:List ST):Prop where
 own:W.ownsMap Tryz.prog 237 mkR mb k D
 isMap:IsMap D
 keys:∀v kl,keyOf Tryz.prog 237 v=some kl→Maps.has D kl=true→∃c∈C,lnV c=v
 vals:∀v kl,keyOf Tryz.prog 237 v=some kl→Maps.has D kl=true→D.atKey kl (.lit (.bool false))= .lit (.bool true)
theorem A5.start{W:World}{mb:Nat}(h:W.heap[mb]?=some (.map #[] 0)):A5 W mb 0 (.map []) []:=
 ⟨⟨#[],0,h,⟨by simp,MapKept.stamped_empty 0,by simp⟩,Q1 _,rfl⟩,⟨_,rfl⟩,fun _ _ _ h=>(by cases h),fun _ _ _ h=>(by cases h)⟩
theorem zU0(w:World):(zeroValue 4).run Tryz.prog w= .ok (.bool false) w:=by kernel_rfl
theorem xO0{v:Value}{b:Bool}{ps:List MemPlace}(h:mkR v=some (.lit (.bool b),ps)):v= .bool b:=by
 unfold mkR at h
 split at h
 ·simp at h;rw[h.1]
 ·simp at h;rw[h.1]
 ·cases h
theorem A5.look{W:World}{mb k:Nat}{D:DataW Unit}{C:List ST}(h:A5 W mb k D C){v:Value}{kl:Lit}(hk:keyOf Tryz.prog 237 v=some kl):
  (Instr.lookup 233 (.map (some mb)) v false).run Tryz.prog W= .ok (.bool (Maps.has D kl)) W:=by
 obtain⟨x,ps,hr,hx⟩:=h.own.lookup qA8 Tryz.underlying233 (zU0 W) (zd:= .lit (.bool false)) (zp:=[]) rfl hk
 rw[hr]
 cases hh:Maps.has D kl with
 |false=>
  rw[Maps.atKey_of_not_has hh] at hx
  rw[xO0 hx]
 |true=>
  rw[h.vals v kl hk hh] at hx
  rw[xO0 hx]
theorem A5.put{W:World}{mb k:Nat}{D:DataW Unit}{C:List ST}(h:A5 W mb k D C){s:ST}{kl:Lit}(hk:keyOf Tryz.prog 237 (lnV s)=some kl){W':World}(ho:W'.ownsMap Tryz.prog 237 mkR mb (k+1) (D.put kl (.lit (.bool true)))):A5 W' mb (k+1) (D.put kl (.lit (.bool true))) (C++[s]):=by
 refine⟨ho,?_,fun v l hv hl=> ?_,fun v l hv hl=> ?_⟩
 ·obtain⟨es,rfl⟩:=h.isMap
  rw[DataW.put_eq]
  exact⟨_,rfl⟩
 ·by_cases e:l=kl
  ·subst e
   exact⟨s,by simp,(qA8.inj hk hv)⟩
  ·rw[has_put_other e] at hl
   obtain⟨c,hc,he⟩:=h.keys v l hv hl
   exact⟨c,List.mem_append_left _ hc,he⟩
 ·by_cases e:l=kl
  ·subst e
   exact atKey_put_same h.isMap (qA8.key hk) _ _
  ·rw[has_put_other e] at hl
   rw[atKey_put_other e]
   exact h.vals v l hv hl
theorem A5.kept{W W':World}{mb k:Nat}{D:DataW Unit}{C:List ST}(h:A5 W mb k D C)(hb:W'.heap[mb]?=W.heap[mb]?):A5 W' mb k D C:=by
 obtain⟨⟨es,clock,h1,h2⟩,h3,h4,h5⟩:=h
 exact⟨⟨es,clock,hb.trans h1,h2⟩,h3,h4,h5⟩
def stC(C:List ST):List Value:=C.flatMap fun s=>[.int .i64 s.sl,.int .i64 s.st,.int .i64 s.dn]
theorem xU1(C:List ST)(s:ST):stC (C++[s])=stC C++[.int .i64 s.sl,.int .i64 s.st,.int .i64 s.dn]:=by simp[stC,List.flatMap_append]
structure F7(t:Nat→RW)(n:Nat)(E C:List ST):Prop where
 from':∀c∈C,c∈E∧qY6 c t n=true
 all:∀s∈E,qY6 s t n=true→∃c∈C,lnV c=lnV s
theorem F7.start(t:Nat→RW)(n:Nat):F7 t n [] []:=⟨fun c h=>absurd h (by simp),fun c h=>absurd h (by simp)⟩
theorem F7.skip{t:Nat→RW}{n:Nat}{E C:List ST}{x:ST}(h:F7 t n E C)(hx:qY6 x t n=true→∃c∈C,lnV c=lnV x):F7 t n (E++[x]) C:=by
 refine⟨fun c hc=>⟨List.mem_append_left _ (h.from' c hc).1,(h.from' c hc).2⟩,fun s hs ha=> ?_⟩
 rcases List.mem_append.1 hs with hs|hs
 ·exact h.all s hs ha
 ·obtain rfl:s=x:=by simpa using hs
  exact hx ha
theorem F7.add{t:Nat→RW}{n:Nat}{E C:List ST}{x:ST}(h:F7 t n E C)(hx:qY6 x t n=true):F7 t n (E++[x]) (C++[x]):=by
 refine⟨fun c hc=> ?_,fun s hs ha=> ?_⟩
 ·rcases List.mem_append.1 hc with hc|hc
  ·exact⟨List.mem_append_left _ (h.from' c hc).1,(h.from' c hc).2⟩
  ·obtain rfl:c=x:=by simpa using hc
   exact⟨by simp,hx⟩
 ·rcases List.mem_append.1 hs with hs|hs
  ·obtain⟨c,h1,h2⟩:=h.all s hs ha
   exact⟨c,List.mem_append_left _ h1,h2⟩
  ·obtain rfl:s=x:=by simpa using hs
   exact⟨s,by simp,rfl⟩
structure xF7(W:World)(A:Value)(n:Nat)(t:Nat→RW)(N0 ob mb:Nat)(X:Nat→Prop)(pre C:List ST)(v:Value)(k:Nat)(D:DataW Unit):Prop where
 out:W.heap[ob]?=some (.cells #[A,v] 121)
 own:W.ownsRow N0 181 3 v C.length (stC C)
 mine:∀g,v.ownBlock=some g→X g
 seen:A5 W mb k D C
 cnt:k≤pre.length∧C.length≤pre.length
 cor:F7 t n pre C
structure zJ1(A:Value)(n:Nat)(t:Nat→RW)(N0 rb ob sb mb:Nat)(X:Nat→Prop)(pre:List ST)(W:World):Prop where
 xr:X rb
 xo:X ob
 xs:X sb
 xm:X mb
 res:W.heap[rb]?=some (.cells #[.slice none 0 0,.slice none 0 0] 121)
 sbx:W.heap[sb]?=some (.cells #[.map (some mb)] 233)
 st:∃C v k D,xF7 W A n t N0 ob mb X pre C v k D
theorem zJ1.keep{A:Value}{n:Nat}{t:Nat→RW}{N0 rb ob sb mb:Nat}{X:Nat→Prop}{pre:List ST}{W W':World}(h:zJ1 A n t N0 rb ob sb mb X pre W)(hk:∀b,X b→W'.heap[b]?=W.heap[b]?):zJ1 A n t N0 rb ob sb mb X pre W':=by
 obtain⟨xr,xo,xs,xm,h1,h2,C,v,k,D,h3⟩:=h
 exact⟨xr,xo,xs,xm,(hk _ xr).trans h1,(hk _ xs).trans h2,C,v,k,D,(hk _ xo).trans h3.out,L5 h3.own (fun g hg=>hk g (h3.mine g hg)),h3.mine,h3.seen.kept (hk _ xm),h3.cnt,h3.cor⟩
theorem xF7.lt{W:World}{A:Value}{n:Nat}{t:Nat→RW}{N0 ob mb:Nat}{X:Nat→Prop}{pre C:List ST}{v:Value}{k:Nat}{D:DataW Unit}(h:xF7 W A n t N0 ob mb X pre C v k D):mb<W.heap.size:=World.ownsMap.lt h.seen.own
theorem zC0{W:World}{mb k:Nat}{D:DataW Unit}{C:List ST}(h:A5 W mb k D C){b:Nat}{cs:Array Value}{t:TypeId}(hb:W.heap[b]?=some (.cells cs t)):b≠mb:=by
 rintro rfl
 obtain⟨es,clock,h1,_⟩:=h.own
 rw[hb] at h1
 cases h1
theorem xF7.add{A:Value}{n:Nat}{t:Nat→RW}{N0 rb ob sb mb:Nat}{X R O:Nat→Prop}{pre C:List ST}{v v':Value}{k N:Nat}{D:DataW Unit}{W W4 W5 W7:World}{x:ST}{kl:Lit}{tmp:Obj}
  (hm:A3 N R X O W) (hT:zJ1 A n t N0 rb ob sb mb X pre W) (hS:xF7 W A n t N0 ob mb X pre C v k D) (hmb:mb<N) (hro:rb≠ob) (hb4:Below W.heap.size W W4) (hk:keyOf Tryz.prog 237 (lnV x)=some kl)
  (h5:W5.ownsMap Tryz.prog 237 mkR mb (k+1) (D.put kl (.lit (.bool true)))) (hg5:W4.grownBy W5 (some mb))
  (h7:W7.ownsRow N0 181 3 v' (C.length+1) (stC C++[.int .i64 x.sl,.int .i64 x.st,.int .i64 x.dn])) (hg7:(W5.alloc tmp).grownBy W7 v.ownBlock) (hat:v'.ownBlock=v.ownBlock∨v'.ownBlock=some (W5.alloc tmp).heap.size)
  (hall:qY6 x t n=true):
  ∃X',M6 N X W (W7.setCell ⟨ob,1,none⟩ v') X'∧zJ1 A n t N0 rb ob sb mb X' (pre++[x]) (W7.setCell ⟨ob,1,none⟩ v'):=by
 have hl6:(W5.alloc tmp).heap.size=W5.heap.size+1:=by simp
 have s4:=hb4.size
 have s5:=hg5.size
 have s7:=hg7.size
 have hXl:∀b,X b→b<W.heap.size:=fun b hb=>hm.lt hb
 have ob_mb:ob≠mb:=zC0 hS.seen hS.out
 have rb_mb:rb≠mb:=zC0 hS.seen hT.res
 have sb_mb:sb≠mb:=zC0 hS.seen hT.sbx
 have nob:=B0 hS.own hS.out (by decide)
 have nrb:=B0 hS.own hT.res (by decide)
 have nsb:=B0 hS.own hT.sbx (by decide)
 have nmb:v.ownBlock≠some mb:=fun e=>by
  obtain⟨es,clock,h1,_⟩:=hS.seen.own
  rcases hS.own.2 with⟨rfl,_⟩|⟨g,cap,cur,rfl,_,hg,_⟩
  ·cases e
  ·simp only[Value.ownBlock,Option.some.injEq] at e
   subst e
   rw[h1] at hg
   cases hg
 -- a block that is neither the map nor the row's
 have hkeep:∀b,b<W.heap.size→b≠mb→v.ownBlock≠some b→W7.heap[b]?=W.heap[b]? :=fun b hb h1 h2=>
  (hg7.block b (by omega) (fun e=>h2 e.symm)).trans (((J3 W5 tmp).block b (by omega)).trans ((hg5.block b (by omega) (fun e=>h1 (Option.some.inj e))).trans (hb4.block b hb)))
 have hob7:=(hkeep ob (hXl ob hT.xo) ob_mb nob).trans hS.out
 have nob':=B0 h7 hob7 (by decide)
 have hmb7:W7.heap[mb]?=W5.heap[mb]? :=(hg7.block mb (by have:=hS.lt;omega) (fun e=>nmb e.symm)).trans ((J3 W5 tmp).block mb (by have:=hS.lt;omega))
 have hset:∀b,b≠ob→(W7.setCell ⟨ob,1,none⟩ v').heap[b]?=W7.heap[b]? :=fun b hb=>Q6 W7 ⟨ob,1,none⟩ b v' hb
 have own8:(W7.setCell ⟨ob,1,none⟩ v').ownsRow N0 181 3 v' (C.length+1) (stC C++[.int .i64 x.sl,.int .i64 x.st,.int .i64 x.dn]):=L5 h7 (fun g hg=>hset g (fun e=>nob' (by rw[hg,e])))
 have cells7:∀b,v'.ownBlock=some b→∃o,W7.heap[b]?=some o∧o.isCells=true:=fun b hb=>by
  rcases h7.2 with⟨rfl,_⟩|⟨g,cap,cur,rfl,_,hg,_⟩
  ·cases hb
  ·simp only[Value.ownBlock,Option.some.injEq] at hb
   subst hb
   exact⟨_,hg,rfl⟩
 have set8:(W7.setCell ⟨ob,1,none⟩ v').heap[ob]?=some (.cells #[A,v'] 121):=by
  have:=Q4 W7 ob 1 _ _ v' hob7
  simpa using this
 refine⟨fun b=>(X b∧v.ownBlock≠some b)∨v'.ownBlock=some b,⟨hg7.os.trans (hg5.os.trans hb4.os),hg7.tape.trans (hg5.tape.trans hb4.tape),hg7.output.trans (hg5.output.trans hb4.output),by simp[World.setCell];omega,fun b hb hx=> ?_,fun b hb=> ?_,fun b hb=> ?_⟩,?_⟩
 ·have h1:b≠ob:=fun e=>hx (by rw[e];exact hT.xo)
  rw[hset b h1]
  exact hkeep b hb (fun e=>hx (by rw[e];exact hT.xm)) (fun e=>hx (hS.mine b e))
 ·rcases hb with hb|hb
  ·exact .inl hb.1
  ·rcases hat with h|h
   ·exact .inl (hS.mine b (by rw[←h];exact hb))
   ·right
    rw[h] at hb
    injection hb with hb
    omega
 ·by_cases e:b=ob
  ·subst e
   exact⟨_,set8,.inl rfl⟩
  ·rw[hset b e]
   rcases hb with⟨hb,hv⟩|hb
   ·by_cases e2:b=mb
    ·subst e2
     obtain⟨es,clock,h1,_⟩:=h5
     exact⟨_,hmb7.trans h1,.inr hmb⟩
    ·obtain⟨o,h1,h2⟩:=hm.cells b hb
     exact⟨o,(hkeep b (hXl b hb) e2 hv).trans h1,h2⟩
   ·obtain⟨o,h1,h2⟩:=cells7 b hb
    exact⟨o,h1,.inl h2⟩
 ·refine⟨.inl ⟨hT.xr,nrb⟩,.inl ⟨hT.xo,nob⟩,.inl ⟨hT.xs,nsb⟩,.inl ⟨hT.xm,nmb⟩,?_,?_,C++[x],v',k+1,_,set8,?_,fun g hg=> .inr hg,(hS.seen.put hk h5).kept ?_,?_,hS.cor.add hall⟩
  ·rw[hset rb hro,hkeep rb (hXl rb hT.xr) rb_mb nrb]
   exact hT.res
  ·by_cases e:sb=ob
   ·subst e
    exfalso
    have h1:=hT.sbx
    rw[hS.out] at h1
    simp at h1
   ·rw[hset sb e,hkeep sb (hXl sb hT.xs) sb_mb nsb]
    exact hT.sbx
  ·rw[xU1,Z6]
   exact own8
  ·rw[hset mb (Ne.symm ob_mb)]
   exact hmb7
  ·have:=hS.cnt
   simp only[Z6,List.length_cons,List.length_nil]
   omega
theorem zJ1.skip{A:Value}{n:Nat}{t:Nat→RW}{N0 rb ob sb mb:Nat}{X R O:Nat→Prop}{pre C:List ST}{v:Value}{k N:Nat}{D:DataW Unit}{W W4:World}{x:ST}
  (hm:A3 N R X O W) (hT:zJ1 A n t N0 rb ob sb mb X pre W) (hS:xF7 W A n t N0 ob mb X pre C v k D) (hb4:Below W.heap.size W W4) (hx:qY6 x t n=true→∃c∈C,lnV c=lnV x):
  ∃X',M6 N X W W4 X'∧zJ1 A n t N0 rb ob sb mb X' (pre++[x]) W4:=by
 have hk:∀b,X b→W4.heap[b]?=W.heap[b]? :=fun b hb=>hb4.block b (hm.lt hb)
 refine⟨X,M6.below hm hb4,hT.xr,hT.xo,hT.xs,hT.xm,(hk _ hT.xr).trans hT.res,(hk _ hT.xs).trans hT.sbx,C,v,k,D,(hk _ hT.xo).trans hS.out,L5 hS.own (fun g hg=>hk g (hS.mine g hg)),hS.mine,hS.seen.kept (hk _ hT.xm),?_,hS.cor.skip hx⟩
 have:=hS.cnt
 rw[Z6]
 exact⟨by omega,by omega⟩
end
section
open Go Go.RowKit Go.Shelf
attribute [local go_sem] Oper.semAt_some
theorem qP9:(Tryz.prog.info? 181).map (fun i=>(i.zero,i.size,i.bytes))=some (some (.agg #[.int .i64 0,.int .i64 0,.int .i64 0]),3,24):=by kernel_rfl
theorem kC6(W:World)(x y z:Int):∀j u,([.int .i64 x,.int .i64 y,.int .i64 z]:List Value)[j]?=some u→(W.alloc (.cells #[.int .i64 x,.int .i64 y,.int .i64 z] 181)).cell? ((⟨W.heap.size,0,none⟩:Addr).add j)=some u:=by
 intro j u h
 have hr:=Q3 W (.cells #[.int .i64 x,.int .i64 y,.int .i64 z] 181)
 have:=Q0 _ _ j _ _ _ hr
 rw[List.getElem?_toArray,h] at this
 rw[←this]
 cases j with
 |zero=>rfl
 |succ j=>simp[Addr.add]
theorem jO0(x y z:Int):∀u∈([.int .i64 x,.int .i64 y,.int .i64 z]:List Value),u.oneCell'=true:=by
 intro u hu
 simp at hu
 rcases hu with rfl|rfl|rfl<;>rfl
theorem jV3(a:Option Addr)(n c:Nat)(t:Nat→RW)(B:Nat)(w:World)(hBw:B≤w.heap.size)(hT:S5 B w a n t)(hO:qQ2 n t)(hc:n≤c∧c≤maxLen)(hf:R6 t n=false):
  Calls Tryz.prog 86 #[.slice a n c] w fun e w'=>∃C v,e= .returned (.agg #[.slice a n c,v])∧F7 t n (G7 t n) C∧C.length≤2400∧w'.ownsRow w.heap.size 181 3 v C.length (stC C)∧Below w.heap.size w w':=by
 have HF:=Hd (fun W (hb:Below w.heap.size w W)=>qJ2 a n c t B W (Q5 hBw hb.size) (hT.below (hb.mono hBw)) (by have:=hO.len;omega))
 rw[hf] at HF
 have HE:=Hd (fun W=>jP6 a n c W)
 have HSQ:=Hd (fun q W (hb:B≤W.heap.size) (hq:qQ1 B a n c t q W)=>jP7 a n c t B q W hb hq hO hc)
 have HLN:=Hd (fun s W (hs:s.ok)=>xB0 s W hs)
 have HAL:=Hd (fun s cv W (hb:B≤W.heap.size) (hr:S5 B W a n t) (hs:s.ok)=>kX8 s a n c cv t B W hb hr hO hs)
 have HOK:=Hd (E3 hO)
 have HLEN:=Hd (jJ1 t n)
 have HNL:=Hd hO.len
 have HRW:=Hd hT
 have HCM:=Hd hc
 clear hT hO hc hf
 refine(callsIn_wide (n:=6)).1 ?_
 refine callsIn_of_wp_marks Tryz.func86 rfl trivial ?_ rfl
 simp only[Tryz.ntmps86,List.size_toArray,List.length_cons,List.length_nil,Nat.reduceAdd,Nat.reduceSub,Array.replicate_succ,Array.replicate_zero,List.push_toArray,List.append_toArray,List.nil_append,List.cons_append]
 refine wpIn_wide.2 ?_
 go_upto_region 2 with(fail)
 have hV:Below w.heap.size w ((w.alloc (.cells #[.slice none 0 0,.slice none 0 0] 121)).alloc (.cells #[.slice a n c,.slice none 0 0] 121)):=((Q2 _ w).alloc (Q1 _) _).alloc (by simp) _
 have e1:((w.alloc (.cells #[.slice none 0 0,.slice none 0 0] 121)).alloc (.cells #[.slice a n c,.slice none 0 0] 121)).heap[w.heap.size]?=some (.cells #[.slice none 0 0,.slice none 0 0] 121):=(Q9 _ _ _ (by simp)).trans (Q3 w _)
 have e2:=Q3 (w.alloc (.cells #[.slice none 0 0,.slice none 0 0] 121)) (.cells #[.slice a n c,.slice none 0 0] 121)
 rw[show(w.alloc (.cells #[.slice none 0 0,.slice none 0 0] 121)).heap.size=w.heap.size+1 from by simp] at e2
 generalize World.alloc (World.alloc w _) _=V at*
 have HV:=Hd hV
 have HE1:=Hd e1
 have HE2:=Hd e2
 have k0:=Q0 _ _ 0 _ _ _ HE2.out
 clear hV e1 e2
 go_upto_region 4 with(go_at_call 88;refine(HF.out _ HV.out).mono ?_;rintro e W1 ⟨rfl,hb1⟩;have HW1:=Hd (HV.out.trans (hb1.mono HV.out.size));have HR1:=Hd (J0 HE1.out hb1);have HO1:=Hd (J0 HE2.out hb1);clear hb1 HE1 HE2 k0 HV)
 have hmm:= @run_makeMap Tryz.prog
 go_upto_region 5 with(fail)
 clear hmm
 have hb2:Below W1.heap.size W1 ((W1.alloc (.map #[] 0)).alloc (.cells #[.map (some W1.heap.size)] 233)):=((Q2 _ W1).alloc (Q1 _) _).alloc (by simp) _
 have e3:((W1.alloc (.map #[] 0)).alloc (.cells #[.map (some W1.heap.size)] 233)).heap[W1.heap.size]?=some (.map #[] 0):=(Q9 _ _ _ (by simp)).trans (Q3 W1 _)
 have e4:=Q3 (W1.alloc (.map #[] 0)) (.cells #[.map (some W1.heap.size)] 233)
 rw[show(W1.alloc (.map #[] 0)).heap.size=W1.heap.size+1 from by simp] at e4
 have HW2:=Hd (HW1.out.trans (hb2.mono HW1.out.size))
 have HR2:=Hd (J0 HR1.out hb2)
 have HO2:=Hd (J0 HO1.out hb2)
 have l2:=(J5 HO1.out)
 clear hb2 HR1 HO1
 generalize World.alloc (World.alloc W1 _) _=W2 at*
 have HM2:=Hd e3
 have HS2:=Hd e4
 clear e3 e4
 have s1:=HW1.out.size
 generalize W1.heap.size=mb at*
 have k0:=Q0 _ _ 0 _ _ _ HO2.out
 go_wp2_with(go_at_call 128;refine(HE.out _).mono ?_;rintro e W3 ⟨rfl,hbx,hb3⟩;have HBX:=Hd hbx;have HB3:=Hd hb3;clear hbx hb3 k0)
 have hB3:=HB3.out
 have hw3:Below w.heap.size w W3:=HW2.out.trans (hB3.mono HW2.out.size)
 have hm2:=(J5 HM2.out)
 have hs2:=(J5 HS2.out)
 have hr2:=(J5 HR2.out)
 have ho2:=(J5 HO2.out)
 have hz3:=hB3.size
 have hq3:=(J5 HBX.out)
 have hw0:=HW2.out.size
 have hQ3:qQ1 B a n c t W2.heap.size W3:=⟨HBX.out,HRW.out.below (hw3.mono hBw)⟩
 have haB:∀b o,a=some ⟨b,o,none⟩→b<B:=fun b o e=>by
  rcases HRW.out with h|⟨b',o',h1,h2,_⟩
  ·have:=HNL.out;omega
  ·rw[e] at h1;injection h1 with h1;injection h1 with h1;omega
 have hT0:zJ1 (.slice a n c) n t w.heap.size w.heap.size (w.heap.size+1) (mb+1) mb (fun b=>b=w.heap.size∨b=w.heap.size+1∨b=mb+1∨b=mb) [] W3:=
  ⟨.inl rfl,.inr (.inl rfl),.inr (.inr (.inl rfl)),.inr (.inr (.inr rfl)),J0 HR2.out hB3,J0 HS2.out hB3,[],.slice none 0 0,0,.map [],⟨J0 HO2.out hB3,⟨rfl,.inl ⟨rfl,rfl⟩⟩,fun g h=>(by cases h),A5.start (J0 HM2.out hB3),⟨Q1 _,Q1 _⟩,F7.start t n⟩⟩
 have hRlt:∀b,GlR a W2.heap.size b→b<W3.heap.size:=by
  rintro b (h|⟨o,h⟩)
  ·omega
  ·have:=haB b o h;omega
 have hmbs:mb+1<W2.heap.size:=hs2
 refine zV0 (P:=Tryz.prog) rfl (enters_of Tryz.func162 (by kernel_rfl) rfl) (HSQ.out _ W3 (by omega) hQ3) hRlt w hw3 (fun _=>rfl)
  (fun b=>b=w.heap.size∨b=w.heap.size+1∨b=mb+1∨b=mb) (by
   rintro b (h|h|h|h)<;>exact⟨by omega,by
    rintro(h2|⟨o,h2⟩)
    ·omega
    ·have:=haB b o h2;omega,by omega⟩)
  (fun X xs W=>zJ1 (.slice a n c) n t w.heap.size w.heap.size (w.heap.size+1) (mb+1) mb X xs W) (fun _ _ _ _ h hk=>h.keep hk) hT0
  (fun x q=>⟨#[.slice a n c,undef,.pointer (some ⟨w.heap.size,0,none⟩),.pointer (some ⟨w.heap.size+1,0,none⟩),.pointer (some ⟨mb+1,0,none⟩),.pointer (some ⟨q,0,none⟩),undef,.slice a n c,.agg #[.slice a n c],.agg #[.slice a n c,.slice none 0 0],.pointer (some ⟨w.heap.size+1,0,none⟩),.agg #[.slice a n c],.bool false,undef,.map (some mb),.pointer (some ⟨w.heap.size+1,0,none⟩),.agg #[.slice a n c],.func (.func 162) #[] #[.pointer (some ⟨W2.heap.size,0,none⟩)],.agg #[.int .i64 x.sl,.int .i64 x.st,.int .i64 x.dn],undef,undef,undef,undef,undef,undef,undef,undef,undef,undef,undef,undef,undef,undef,undef,undef,undef,undef,undef,undef],[]⟩) (fun x=> .cells #[.int .i64 x.sl,.int .i64 x.st,.int .i64 x.dn] 181) ?hassign ?hbody ?hdone
 case hassign=>
  intro l x W K hK
  unfold ST.val
  gi_wp2
  exact hK
 case hbody=>
  intro l pre x O X W q hz hq hm hT hb hrr hnx
  have hxE:x∈G7 t n:=by
   obtain⟨u,hu⟩:=hnx
   rw[←hu]
   simp
  have hxo:=HOK.out x hxE
  have hpl:pre.length<2400:=by
   have h1:=hnx.length_le
   have h2:=HLEN.out
   have h3:=HNL.out
   have h4:4*n*n≤4*24*24:=X8 (Nat.mul_le_mul_left 4 h3.2) h3.2
   rw[Z6] at h1
   simp at h1
   omega
  obtain⟨C,v,k,D,hS⟩:=hT.st
  obtain⟨kl,hkl⟩:=kV7 hxo
  have HL:=Hd (fun W=>HLN.out x W hxo)
  have HA:=Hd (fun cv W (h1:B≤W.heap.size) (h2:S5 B W a n t)=>HAL.out x cv W h1 h2 hxo)
  have HM:=Hd hm
  have HT:=Hd hT
  have HS:=Hd hS
  have HKL:=Hd hkl
  have HB:=Hd hb
  have HQX:=Hd hq
  obtain⟨l0,l1,l2,l3,hlv⟩:∃l0 l1 l2 l3:Int,lnV x= .agg #[.int .i64 l0,.int .i64 l1,.int .i64 l2,.int .i64 l3]:=⟨_,_,_,_,rfl⟩
  rw[hlv] at HL
  have HLV:=Hd hlv
  clear hlv
  obtain⟨q0,q1,q2⟩:=U4 hq
  simp only[P2] at q0 q1 q2
  clear hT0 hm hT hS hkl hb hq hnx hrr hQ3 hRlt
  gi_upto_region 8 with(refine⟨trivial,?_⟩;refine(CallsIn.inRound l (callsIn_wide.2 (HL.out _))).mono ?_;rintro e W1 ⟨rfl,hb1⟩;have HB1:=Hd hb1;clear hb1 q0 q1 q2)
  have hb2:=J3 W1 (.cells #[.int .i64 l0,.int .i64 l1,.int .i64 l2,.int .i64 l3] 237)
  have HKX:=Hd (Q3 W1 (.cells #[.int .i64 l0,.int .i64 l1,.int .i64 l2,.int .i64 l3] 237))
  have HB2:=Hd (HB1.out.trans (hb2.mono HB1.out.size))
  clear hb2 HB1
  generalize World.alloc W1 _=W4 at*
  generalize W1.heap.size=r at*
  have hkeep:∀b,X b→W4.heap[b]?=W.heap[b]? :=fun b hb=>HB2.out.block b (HM.out.lt hb)
  have hsx:=(hkeep _ HT.out.xs).trans HT.out.sbx
  have hox:=(hkeep _ HT.out.xo).trans HS.out.out
  have hqx:=J0 HQX.out HB2.out
  have m0:=Q0 _ _ 0 _ _ _ hsx
  have o0:=Q0 _ _ 0 _ _ _ hox
  have o1:=(Q0 _ _ 1 _ _ _ hox).trans (show _=some v from rfl)
  obtain⟨q0,q1,q2⟩:=U4 hqx
  obtain⟨r0,r1,r2,r3⟩:=cr4 HKX.out
  have hlk:=(HS.out.seen.kept (hkeep _ HT.out.xm)).look HKL.out
  rw[HLV.out] at hlk
  cases hh:Maps.has D kl with
  |true=>
   rw[hh] at hlk
   gi_wp2
   refine⟨trivial,?_⟩
   gi_wp2
   exact zJ1.skip HM.out HT.out HS.out HB2.out (fun _=>HS.out.seen.keys _ _ HKL.out hh)
  |false=>
   rw[hh] at hlk
   have hbw4:=HB.out.trans (HB2.out.mono HB.out.size)
   have HA4:=Hd (HA.out v W4 (Q5 hBw hbw4.size) (HRW.out.below (hbw4.mono hBw)))
   cases ha:qY6 x t n with
   |false=>
    rw[ha] at HA4
    gi_wp2_with(refine⟨trivial,?_⟩;refine(CallsIn.inRound l (callsIn_wide.2 HA4.out)).mono ?_;rintro e W5 ⟨rfl,hb5⟩;have HB5:=Hd (HB2.out.trans (hb5.mono HB2.out.size));clear hb5 m0 o0 o1 q0 q1 q2 r0 r1 r2 r3)
    exact zJ1.skip HM.out HT.out HS.out HB5.out (fun h=>by rw[ha] at h;cases h)
   |true=>
    rw[ha] at HA4
    gi_upto_region 9 with(refine⟨trivial,?_⟩;refine(CallsIn.inRound l (callsIn_wide.2 HA4.out)).mono ?_;rintro e W5 ⟨rfl,hb5⟩;have HB5:=Hd (HB2.out.trans (hb5.mono HB2.out.size));have HKX5:=Hd (J0 HKX.out hb5);clear hb5 m0 o0 o1 q0 q1 q2 r0 r1 r2 r3)
    clear hkeep hsx hox hqx hlk HKX HB2 HA4
    have hkeep:∀b,X b→W5.heap[b]?=W.heap[b]? :=fun b hb=>HB5.out.block b (HM.out.lt hb)
    have hsx:=(hkeep _ HT.out.xs).trans HT.out.sbx
    have hox:=(hkeep _ HT.out.xo).trans HS.out.out
    have hqx:=J0 HQX.out HB5.out
    have hown:=(HS.out.seen.kept (hkeep _ HT.out.xm)).own
    have m0:=Q0 _ _ 0 _ _ _ hsx
    obtain⟨r0,r1,r2,r3⟩:=cr4 HKX5.out
    have hkl2:=HKL.out
    rw[HLV.out] at hkl2
    have hkm:k<maxLen:=by
     have:=HS.out.cnt
     unfold maxLen
     omega
    obtain⟨W6,hrun,hown6,hg6⟩:=hown.update qA8 Tryz.underlying233 hkm hkl2 (val:= .bool true) (d:= .lit (.bool true)) (ps:=[]) rfl
    gi_upto_region 10 with(fail)
    clear m0 r0 r1 r2 r3 hrun
    have HOW6:=Hd hown6
    have HG6:=Hd hg6
    have lx6:=hg6.size
    have hvo:W6.ownsRow w.heap.size 181 3 v C.length (stC C):=(L5 HS.out.own (fun g hg=>hkeep g (HS.out.mine g hg))).kept hg6 (.inr (fun e=>by
     obtain⟨es,clock,h1,_⟩:=hown
     have hv:=(L5 HS.out.own (fun g hg=>hkeep g (HS.out.mine g hg)):W5.ownsRow _ _ _ _ _ _)
     rcases hv.2 with⟨rfl,_⟩|⟨g,cap,cur,rfl,_,hg,_⟩
     ·cases e
     ·simp only[Value.ownBlock,Option.some.injEq] at e
      subst e
      rw[h1] at hg
      cases hg))
    have hox6:=(hg6.block _ (J5 hox) (fun e=>zC0 (HS.out.seen.kept (hkeep _ HT.out.xm)) hox (Option.some.inj e))).trans hox
    have hqx6:=(hg6.block _ (J5 hqx) (fun e=>zC0 (HS.out.seen.kept (hkeep _ HT.out.xm)) hqx (Option.some.inj e))).trans hqx
    have HVO:=Hd hvo
    have HOX:=Hd hox6
    have o1:=(Q0 _ _ 1 _ _ _ hox6).trans (show _=some v from rfl)
    obtain⟨q0,q1,q2⟩:=U4 hqx6
    have hcn:C.length+1≤maxLen∧(C.length+1)*24≤140737488355328:=by
     have:=HS.out.cnt
     unfold maxLen
     omega
    have hws:w.heap.size≤(W6.alloc (.cells #[.int .i64 x.sl,.int .i64 x.st,.int .i64 x.dn] 181)).heap.size:=by
     have:=HB5.out.size
     have:=HB.out.size
     simp
     omega
    obtain⟨i0,hi0,hz0,hz1,hz2⟩:=info_parts qP9
    have hnob:=B0 HVO.out HOX.out (by decide)
    have hobl:=(J5 HOX.out)
    clear hown6 hg6 hvo hox6 hqx6 hsx hox hqx hown
    gi_wp2_with(gi_at_builtin;refine wpListIn_append_own_at _ rfl _ _ 119 rfl w.heap.size 181 i0 _ 3 24 Tryz.underlying119 hi0 hz0 hz1 hz2 rfl (by decide) v C.length (stC C) rfl (HVO.out.alloc _) ⟨W6.heap.size,0,none⟩ 1 1 [.int .i64 x.sl,.int .i64 x.st,.int .i64 x.dn] rfl rfl (kC6 W6 _ _ _) (jO0 _ _ _) hcn.1 hcn.2 hws ?_;intro v' W7 hown7 hgrow7 _ hat7;obtain⟨a7,c7,hv7⟩:=Y6 hown7;subst hv7;have hob7:=(hgrow7.block (w.heap.size+1) (Z4 hobl (J3 W6 _).size) (fun e=>hnob e.symm)).trans (((J3 W6 _).block (w.heap.size+1) hobl).trans HOX.out);have p1:=Q0 _ _ 1 _ _ _ hob7;have f1:=Z3 _ _ 1 _ _ hob7;have HO7:=Hd hown7;have HG7:=Hd hgrow7;have HA7:=Hd hat7;clear hown7 hgrow7 hat7)
    exact xF7.add HM.out HT.out HS.out (by omega) (by omega) HB5.out HKL.out HOW6.out HG6.out HO7.out HG7.out HA7.out ha
 case hdone=>
  rintro D xs X W hD hDl hDX hxs hT hb hrr hDD
  unfold EqE at hxs
  subst hxs
  obtain⟨xr,xo,xs,xm,res,sbx,C,v,k,D',hS⟩:=hT
  obtain⟨va,vc,rfl⟩:=Y6 hS.own
  obtain⟨o0,o1⟩:=M7 hS.out
  obtain⟨g0,g1⟩:=fr2 res
  obtain⟨r0,r1⟩:=M7 res
  have hdn:w.heap.size≠D:=fun e=>hDX (by rw[←e];exact xr)
  have hrow:=Q4 _ _ 1 _ _ (.slice va C.length vc) (Q4 W _ 0 _ _ (.slice a n c) res)
  have HRX:=Hd hrow
  have HBE:=Hd ((hb.setCell (p:=⟨w.heap.size,0,none⟩) (Q1 _) (.slice a n c)).setCell (p:=⟨w.heap.size,1,none⟩) (Q1 _) (.slice va C.length vc))
  have HDD:=Hd (((Q6 _ ⟨w.heap.size,1,none⟩ D (.slice va C.length vc) (Ne.symm hdn)).trans (Q6 W ⟨w.heap.size,0,none⟩ D (.slice a n c) (Ne.symm hdn))).trans hDD)
  have hDw:w.heap.size≤D:=Q5 hw3.size hD
  have hvr:=B0 hS.own res (by decide)
  have HOW:=Hd (L5 (w':=(W.setCell ⟨w.heap.size,0,none⟩ (.slice a n c)).setCell ⟨w.heap.size,1,none⟩ (.slice va C.length vc)) hS.own (fun g hg=>(Q6 _ ⟨w.heap.size,1,none⟩ g _ (fun e=>hvr (by rw[hg,e]))).trans (Q6 W ⟨w.heap.size,0,none⟩ g _ (fun e=>hvr (by rw[hg,e])))))
  have HMI:=Hd hS.mine
  have HCO:=Hd hS.cor
  have HCL:=Hd (show C.length≤2400 from by
   have h1:=hS.cnt.2
   have h2:=HLEN.out
   have h3:=HNL.out
   have h4:4*n*n≤4*24*24:=X8 (Nat.mul_le_mul_left 4 h3.2) h3.2
   omega)
  clear hrow hDD hb hS res sbx hvr
  go_wp2
  generalize World.setCell (World.setCell W _ _) _ _=V6 at*
  refine qC7 (v:= .agg #[.slice a n c,.slice va C.length vc]) HDD.out (fun o'=>⟨?_,C,.slice va C.length vc,rfl,HCO.out,HCL.out,L5 HOW.out (fun g hg=>World.putObj_heap_other (fun e=>hDX (by rw[←e];exact HMI.out g hg))),zP7 HBE.out hDw o'⟩)
  have hr:(V6.putObj D o').heap[w.heap.size]?=_:=(World.putObj_heap_other hdn).trans HRX.out
  obtain⟨q0,q1⟩:=M7 hr
  simp[results,Tryz.results86,go_sem,q0,q1]
end
section
open Go Go.RowKit Go.Shelf
structure U1(p:SV):Prop where
 nm: -600000000000≤p.lo∧p.lo≤600000000000
 dn:1≤p.hi∧p.hi≤100000
def ltF(p q:SV):Bool:=decide (p.lo*q.hi<q.lo*p.hi)
def gtF(p q:SV):Bool:=decide (q.lo*p.hi<p.lo*q.hi)
theorem xJ1(p q:SV)(w:World)(hp:U1 p)(hq:U1 q):
  Calls Tryz.prog 124 #[.agg #[.int .i64 p.lo,.int .i64 p.hi],.agg #[.int .i64 q.lo,.int .i64 q.hi]] w fun e w'=>e= .returned (.bool (ltF p q))∧Below w.heap.size w w':=by
 unfold ltF
 (have hC:=fun W=>zZ5 p.lo p.hi q.lo q.hi W hp.nm hp.dn hq.nm hq.dn;have HC:=Hd hC;clear hC hp hq;obtain⟨a,b⟩:=p;obtain⟨c,d⟩:=q;dsimp only at*;have HB:=Hd (((Q2 _ w).alloc (Q1 _) (.cells #[.int .i64 a,.int .i64 b] 69)).alloc (by simp) (.cells #[.int .i64 c,.int .i64 d] 69));have e1:=(Q9 (w.alloc (.cells #[.int .i64 a,.int .i64 b] 69)) (.cells #[.int .i64 c,.int .i64 d] 69) w.heap.size (by simp)).trans (Q3 w _);have e2:=Q3 (w.alloc (.cells #[.int .i64 a,.int .i64 b] 69)) (.cells #[.int .i64 c,.int .i64 d] 69);rw[show(w.alloc (.cells #[.int .i64 a,.int .i64 b] 69)).heap.size=w.heap.size+1 from by simp] at e2)
 have HD:=Hd (show ∀x y:Int,decide (x<y)=decide (Lib.compareInt x y<0) from fun x y=>by
  by_cases h:x<y
  ·rw[Z0 h,Z0 (zW4.2 h)]
  ·rw[Q7 h,Q7 (fun h2=>h (zW4.1 h2))])
 rw[HD.out]
 generalize Lib.compareInt (a*d) (c*b)=r at*
 clear HD
 go_enter Tryz.func124,Tryz.ntmps124
 go_upto_region 1 with(fail)
 generalize World.alloc (World.alloc w _) _=V at*
 obtain⟨k0,k1⟩:=M7 e1
 obtain⟨k2,k3⟩:=M7 e2
 clear e1 e2
 go_wp2_with(go_at_call 125;refine(HC.out _).mono ?_;rintro e W1 ⟨rfl,hb1⟩;have HB1:=Hd (HB.out.trans (hb1.mono HB.out.size));clear hb1 k0 k1 k2 k3)
 go_ret
 exact⟨rfl,HB1.out⟩
theorem xJ2(p q:SV)(w:World)(hp:U1 p)(hq:U1 q):
  Calls Tryz.prog 126 #[.agg #[.int .i64 p.lo,.int .i64 p.hi],.agg #[.int .i64 q.lo,.int .i64 q.hi]] w fun e w'=>e= .returned (.bool (gtF p q))∧Below w.heap.size w w':=by
 unfold gtF
 (have hC:=fun W=>zZ5 p.lo p.hi q.lo q.hi W hp.nm hp.dn hq.nm hq.dn;have HC:=Hd hC;clear hC hp hq;obtain⟨a,b⟩:=p;obtain⟨c,d⟩:=q;dsimp only at*;have HB:=Hd (((Q2 _ w).alloc (Q1 _) (.cells #[.int .i64 a,.int .i64 b] 69)).alloc (by simp) (.cells #[.int .i64 c,.int .i64 d] 69));have e1:=(Q9 (w.alloc (.cells #[.int .i64 a,.int .i64 b] 69)) (.cells #[.int .i64 c,.int .i64 d] 69) w.heap.size (by simp)).trans (Q3 w _);have e2:=Q3 (w.alloc (.cells #[.int .i64 a,.int .i64 b] 69)) (.cells #[.int .i64 c,.int .i64 d] 69);rw[show(w.alloc (.cells #[.int .i64 a,.int .i64 b] 69)).heap.size=w.heap.size+1 from by simp] at e2)
 have HD:=Hd (show ∀x y:Int,decide (y<x)=decide (Lib.compareInt x y>0) from fun x y=>by
  by_cases h:y<x
  ·rw[Z0 h,Z0 (zW3.2 h)]
  ·rw[Q7 h,Q7 (fun h2=>h (zW3.1 h2))])
 rw[HD.out]
 generalize Lib.compareInt (a*d) (c*b)=r at*
 clear HD
 go_enter Tryz.func126,Tryz.ntmps126
 go_upto_region 1 with(fail)
 generalize World.alloc (World.alloc w _) _=V at*
 obtain⟨k0,k1⟩:=M7 e1
 obtain⟨k2,k3⟩:=M7 e2
 clear e1 e2
 go_wp2_with(go_at_call 125;refine(HC.out _).mono ?_;rintro e W1 ⟨rfl,hb1⟩;have HB1:=Hd (HB.out.trans (hb1.mono HB.out.size));clear hb1 k0 k1 k2 k3)
 go_ret
 exact⟨rfl,HB1.out⟩
theorem xC8(s:ST)(z:Int)(q:Nat)(w:World)(hs:s.ok)(hz: -100000≤z∧z≤200000)(hq:w.heap[q]?=some (.cells #[.int .i64 z] 3)):
  Calls Tryz.prog 91 #[s.val,.pointer (some ⟨q,0,none⟩)] w fun e w'=>e= .returned (spV (atN s z) s.dn)∧Below w.heap.size w w':=by
 have HC:=Hd (fun W=>kH1 s z W hs hz)
 unfold spV ST.val at*
 generalize atN s z=av at*
 obtain⟨sl,st,dn⟩:=s
 dsimp only at*
 have HB:=Hd (((Q2 _ w).alloc (Q1 _) (.cells #[.int .i64 sl,.int .i64 st,.int .i64 dn] 181)).alloc (by simp) (.cells #[.int .i64 0,.int .i64 0] 69))
 have e1:=(Q9 (w.alloc (.cells #[.int .i64 sl,.int .i64 st,.int .i64 dn] 181)) (.cells #[.int .i64 0,.int .i64 0] 69) w.heap.size (by simp)).trans (Q3 w _)
 have e2:=Q3 (w.alloc (.cells #[.int .i64 sl,.int .i64 st,.int .i64 dn] 181)) (.cells #[.int .i64 0,.int .i64 0] 69)
 rw[show(w.alloc (.cells #[.int .i64 sl,.int .i64 st,.int .i64 dn] 181)).heap.size=w.heap.size+1 from by simp] at e2
 have HQ:=Hd (J0 hq HB.out)
 have HE2:=Hd e2
 clear hs hz hq e2
 go_enter Tryz.func91,Tryz.ntmps91
 go_upto_region 1 with(fail)
 generalize World.alloc (World.alloc w _) _=V at*
 obtain⟨k0,k1,k2⟩:=U4 e1
 have k3:=Q0 _ _ 0 _ _ _ HQ.out
 clear e1
 go_wp2_with(go_at_call 92;refine(HC.out _).mono ?_;rintro e W1 ⟨rfl,hb1⟩;have HB1:=Hd (HB.out.trans (hb1.mono HB.out.size));have HE3:=Hd (J0 HE2.out hb1);obtain⟨f0,f1⟩:=fr2 HE3.out;obtain⟨g0,g1⟩:=M7 HE3.out;clear hb1 k0 k1 k2 k3)
 have hrow:=Q4 _ _ 1 _ _ (.int .i64 dn) (Q4 W1 _ 0 _ _ (.int .i64 av) HE3.out)
 have hbl:=(HB1.out.setCell (p:=⟨w.heap.size+1,0,none⟩) (by dsimp only;omega) (.int .i64 av)).setCell (p:=⟨w.heap.size+1,1,none⟩) (by dsimp only;omega) (.int .i64 dn)
 generalize World.setCell (World.setCell W1 _ _) _ _=V5 at*
 obtain⟨q0,q1⟩:=M7 hrow
 exact Z2 (v:= .agg #[.int .i64 av,.int .i64 dn]) (by simp[results,Tryz.results91,go_sem,q0,q1]) rfl ⟨rfl,hbl⟩
def F6(lt:SV→SV→Bool)(L:Nat→SV):Nat→SV
 |0=>L 0
 |k+1=>if lt (L (k+1)) (F6 lt L k) then L (k+1) else F6 lt L k
theorem U7{lt:SV→SV→Bool}{L:Nat→SV}:∀{k:Nat},(∀i,i≤k→U1 (L i))→U1 (F6 lt L k)
 |0,h=>h 0 (Q1 _)
 |k+1,h=>by
  unfold F6
  split
  ·exact h _ (Q1 _)
  ·exact U7 (fun i hi=>h i (by omega))
def svV(p:SV):Value:= .agg #[.int .i64 p.lo,.int .i64 p.hi]
theorem zZ8(f:Nat)(lt:SV→SV→Bool)(a:Option Addr)(m c:Nat)(L:Nat→SV)(B:Nat)(w:World)(hBw:B≤w.heap.size)(hT:qV3 B w a m L)(hm:1≤m∧m≤c∧c≤maxLen)(hL:∀i,i<m→U1 (L i))
  (eg:∀args W,(callFunc f args).run Tryz.prog W= .ok (.enter f args) W)
  (hC:∀W p q,U1 p→U1 q→Calls Tryz.prog f #[svV p,svV q] W fun e w'=>e= .returned (.bool (lt p q))∧Below W.heap.size W w'):
  Calls Tryz.prog 123 #[.slice a m c,.func (.func f) #[] #[]] w fun e w'=>e= .returned (svV (F6 lt L (m-1)))∧Below w.heap.size w w':=by
 have HC:=Hd hC
 have HT:=Hd hT
 have HL:=Hd hL
 have hn0:(0:Int)<(m:Int):=by omega
 have hn1:(1:Int)≤(m:Int):=by omega
 have hcm:=hm.2.2
 unfold maxLen at hcm
 have HB0:=Hd (J3 w (.cells #[.int .i64 0,.int .i64 0] 69))
 have HR0:=Hd (Q3 w (.cells #[.int .i64 0,.int .i64 0] 69))
 have HT0:=Hd (hT.below (HB0.out.mono hBw))
 obtain⟨b,off,rfl,hbB,c0,c1⟩:=HT0.out.get (show 0<m from hm.1)
 rw[Nat.zero_mul,Nat.add_zero] at c0 c1
 clear hC hL hT HT
 unfold svV at HC
 unfold svV
 obtain⟨RES,hres⟩:∃RES,F6 lt L (m-1)=RES:=⟨_,rfl⟩
 rw[hres]
 go_enter Tryz.func123,Tryz.ntmps123
 go_upto_region 1 with(fail)
 generalize World.alloc w _=V at*
 go_upto_region 2 with(fail)
 clear c0 c1
 have hb1:=J3 V (.cells #[.int .i64 (L 0).lo,.int .i64 (L 0).hi] 69)
 have HX1:=Hd (Q3 V (.cells #[.int .i64 (L 0).lo,.int .i64 (L 0).hi] 69))
 have HB1:=Hd (HB0.out.trans (hb1.mono HB0.out.size))
 have HR1:=Hd (J0 HR0.out hb1)
 have HT1:=Hd (HT0.out.below (hb1.mono (Q5 hBw HB0.out.size)))
 have hrV:=(J5 HR0.out)
 clear hb1 HB0 HR0 HT0
 generalize World.alloc V _=V1 at*
 generalize V.heap.size=x at*
 have hxg:w.heap.size<x:=hrV
 by_cases hce:c=1
 ·obtain rfl:m=1:=by omega
  subst hce
  go_wp2
  go_loopw [14] (fun s wr=>s= .int .i64 0∧Hid (wr.heap[x]?=some (.cells #[.int .i64 (L 0).lo,.int .i64 (L 0).hi] 69))∧Hid (wr.heap[w.heap.size]?=some (.cells #[.int .i64 0,.int .i64 0] 69))∧Hid (Below w.heap.size w wr)) (fun s _=>0)
  case atStart=>exact⟨rfl,HX1,HR1,HB1⟩
  case round=>
   clear HX1 HR1 HB1
   obtain⟨rfl,HX1,HR1,HB1⟩:=hrel
   ((rw[show(L 0)=RES from hres] at HX1;obtain⟨k0,k1⟩:=M7 HX1.out;obtain⟨r0,r1⟩:=M7 HR1.out;obtain⟨f0,f1⟩:=fr2 HR1.out;go_wp2;have hrow:=Q4 _ _ 1 _ _ (.int .i64 RES.hi) (Q4 wr _ 0 _ _ (.int .i64 RES.lo) HR1.out);have hbl:=(HB1.out.setCell (p:=⟨w.heap.size,0,none⟩) (Q1 _) (.int .i64 RES.lo)).setCell (p:=⟨w.heap.size,1,none⟩) (Q1 _) (.int .i64 RES.hi);generalize World.setCell (World.setCell wr _ _) _ _=V5 at*;obtain⟨q0,q1⟩:=M7 hrow;exact Z2 (v:= .agg #[.int .i64 RES.lo,.int .i64 RES.hi]) (by simp[results,Tryz.results123,go_sem,q0,q1]) rfl ⟨rfl,hbl⟩))
 ·have hce':decide (c=1)=false:=by simp[hce]
  go_wp2
  go_loopw [14] (fun s wr=>∃i:Nat,i≤m-1∧s= .int .i64 (i:Int)∧Hid (wr.heap[x]?=some (.cells #[.int .i64 (F6 lt L i).lo,.int .i64 (F6 lt L i).hi] 69))∧Hid (wr.heap[w.heap.size]?=some (.cells #[.int .i64 0,.int .i64 0] 69))∧Hid (qV3 B wr (some ⟨b,off,none⟩) m L)∧Hid (Below w.heap.size w wr)) (fun s _=>m-1-(intOf s).toNat)
  case atStart=>exact⟨0,by omega,rfl,HX1,HR1,HT1,HB1⟩
  case round=>
   clear HX1 HR1 HB1 HT1
   obtain⟨i,hi,rfl,HX1,HR1,HT1,HB1⟩:=hrel
   by_cases hl:i<m-1
   ·have hl':(i:Int)<((m-1:Nat):Int):=by omega
    obtain⟨b',off',hbo,_,c0,c1⟩:=HT1.out.get (show i+1<m by omega)
    obtain⟨rfl,rfl⟩:b=b'∧off=off':=by
     have h:=Option.some.inj hbo
     injection h with h1 h2
     exact⟨h1,h2⟩
    rw[show off+(i+1)*2=off+2+i*2 by omega] at c0 c1
    have hacc:=U7 (lt:=lt) (L:=L) (k:=i) (fun j hj=>HL.out j (by omega))
    have HCi:=Hd (fun W=>HC.out W _ _ (HL.out (i+1) (by omega)) hacc)
    have HSU:=Hd (show F6 lt L (i+1)=if lt (L (i+1)) (F6 lt L i) then L (i+1) else F6 lt L i from rfl)
    obtain⟨nx,hnx⟩:∃nx,F6 lt L (i+1)=nx:=⟨_,rfl⟩
    obtain⟨ac,hac⟩:∃ac,F6 lt L i=ac:=⟨_,rfl⟩
    obtain⟨P,hP⟩:∃P,L (i+1)=P:=⟨_,rfl⟩
    rw[hnx,hac,hP] at HSU
    rw[hac] at HX1
    rw[hP] at c0 c1
    rw[hP,hac] at HCi
    have HNX:=Hd hnx
    clear hbo hacc HC hP hac hnx
    go_upto_region 5 with(fail)
    have hb2:=J3 wr (.cells #[.int .i64 P.lo,.int .i64 P.hi] 69)
    have HP2:=Hd (Q3 wr (.cells #[.int .i64 P.lo,.int .i64 P.hi] 69))
    have HX2:=Hd (J0 HX1.out hb2)
    have HR2:=Hd (J0 HR1.out hb2)
    have HT2:=Hd (HT1.out.below (hb2.mono (Q5 hBw HB1.out.size)))
    have HB2:=Hd (HB1.out.trans (hb2.mono HB1.out.size))
    have hpg:x<wr.heap.size:=(J5 HX1.out)
    clear hb2 HX1 HR1 HT1 HB1 c0 c1
    generalize World.alloc wr _=W2 at*
    generalize wr.heap.size=g at*
    obtain⟨p0,p1⟩:=M7 HP2.out
    obtain⟨k0,k1⟩:=M7 HX2.out
    cases hlt:lt P ac with
    |true=>
     rw[hlt] at HCi HSU
     obtain rfl:nx=P:=by rw[HSU.out];rfl
     go_upto_region 6 with(refine(HCi.out _).mono ?_;rintro e W3 ⟨rfl,hb3⟩;have HP3:=Hd (J0 HP2.out hb3);have HX3:=Hd (J0 HX2.out hb3);have HR3:=Hd (J0 HR2.out hb3);have HT3:=Hd (HT2.out.below (hb3.mono (Q5 hBw HB2.out.size)));have HB3:=Hd (HB2.out.trans (hb3.mono HB2.out.size));clear hb3 p0 p1 k0 k1)
     obtain⟨p0,p1⟩:=M7 HP3.out
     obtain⟨k0,k1⟩:=M7 HX3.out
     obtain⟨f0,f1⟩:=fr2 HX3.out
     have hrow:=Q4 _ _ 1 _ _ (.int .i64 nx.hi) (Q4 W3 _ 0 _ _ (.int .i64 nx.lo) HX3.out)
     have hbl:=(((Q2 x W3).setCell (p:=⟨x,0,none⟩) (Q1 _) (.int .i64 nx.lo)).setCell (p:=⟨x,1,none⟩) (Q1 _) (.int .i64 nx.hi))
     have hxB:B≤x:=by omega
     have HX4:=Hd (show((W3.setCell ⟨x,0,none⟩ (.int .i64 nx.lo)).setCell ⟨x,1,none⟩ (.int .i64 nx.hi)).heap[x]?=some (.cells #[.int .i64 (F6 lt L (i+1)).lo,.int .i64 (F6 lt L (i+1)).hi] 69) from by rw[HNX.out];simpa using hrow)
     have HR4:=Hd ((hbl.block _ hxg).trans HR3.out)
     have HT4:=Hd (HT3.out.below (hbl.mono hxB))
     have HB4:=Hd (HB3.out.trans (hbl.mono (Nat.le_of_lt hxg)))
     clear hrow hbl HP3 HX3 HR3 HT3 HB3
     go_wp2
     go_roundw
     case rel=>first|exact⟨i+1,by omega,by go_num,HX4,HR4,HT4,HB4⟩|((repeat apply Z9);exact⟨⟨i+1,by omega,by go_num,HX4,HR4,HT4,HB4⟩,rfl⟩)
     case measure=>simp[intOf];omega
    |false=>
     rw[hlt] at HCi HSU
     obtain rfl:nx=ac:=by rw[HSU.out];rfl
     go_wp2_with(refine(HCi.out _).mono ?_;rintro e W3 ⟨rfl,hb3⟩;have HX3:=Hd (J0 HX2.out hb3);have HR3:=Hd (J0 HR2.out hb3);have HT3:=Hd (HT2.out.below (hb3.mono (Q5 hBw HB2.out.size)));have HB3:=Hd (HB2.out.trans (hb3.mono HB2.out.size));clear hb3 p0 p1 k0 k1)
     rw[←HNX.out] at HX3
     go_roundw
     case rel=>first|exact⟨i+1,by omega,by go_num,HX3,HR3,HT3,HB3⟩|((repeat apply Z9);exact⟨⟨i+1,by omega,by go_num,HX3,HR3,HT3,HB3⟩,rfl⟩)
     case measure=>simp[intOf];omega
   ·obtain rfl:i=m-1:=by omega
    have hl':¬((m-1:Nat):Int)<((m-1:Nat):Int):=by omega
    ((rw[show(F6 lt L (m-1))=RES from hres] at HX1;obtain⟨k0,k1⟩:=M7 HX1.out;obtain⟨r0,r1⟩:=M7 HR1.out;obtain⟨f0,f1⟩:=fr2 HR1.out;go_wp2;have hrow:=Q4 _ _ 1 _ _ (.int .i64 RES.hi) (Q4 wr _ 0 _ _ (.int .i64 RES.lo) HR1.out);have hbl:=(HB1.out.setCell (p:=⟨w.heap.size,0,none⟩) (Q1 _) (.int .i64 RES.lo)).setCell (p:=⟨w.heap.size,1,none⟩) (Q1 _) (.int .i64 RES.hi);generalize World.setCell (World.setCell wr _ _) _ _=V5 at*;obtain⟨q0,q1⟩:=M7 hrow;exact Z2 (v:= .agg #[.int .i64 RES.lo,.int .i64 RES.hi]) (by simp[results,Tryz.results123,go_sem,q0,q1]) rfl ⟨rfl,hbl⟩))
end
section
open Go.RowKit
theorem qY4{P:Program}{w:World}(base:Nat)(t ty e:TypeId)(i:TypeInfo)(size:Nat)(ht:P.underlying t=some (.slice e))(hi:P.info? e=some i)
  (v:Value) (n:Nat) (xs:List Value) (hown:w.ownsRow base e size v n xs) (c:Nat):(Builtin.append_ #[t,t] ty #[v,.slice none 0 c]).run P w= .ok v w:=by
 rcases hown.2 with⟨rfl,rfl⟩|⟨g,cap,cur,rfl,_,_,hnc,_⟩
 ·simp[Builtin.append_,run_underlying ht,sizeOf,typeInfo,hi,Builtin.lenOf,Builtin.firstCells]
 ·simp[Builtin.append_,run_underlying ht,sizeOf,typeInfo,hi,Builtin.lenOf,Builtin.firstCells,hnc,storeCells]
theorem zN5{P:Program}{w:World}{o:Oper}{a:Act}{K:Act→World→Prop}{Q:Exit→Act→World→Prop}(s x:Operand)(t:TypeId)
  (ho:o.op= .call {callee:= .builtin .append,args:= #[s,x],argTypes:= #[t,t]})
  (base:Nat) (e:TypeId) (i:TypeInfo) (z:Value) (size bytes:Nat) (ht:P.underlying t=some (.slice e)) (hi:P.info? e=some i) (hz:i.zero=some z)
  (hsize:i.size=size) (hby:i.bytes=bytes) (hzs:z.cells.size=size) (hsz:0<size)
  (v:Value) (n:Nat) (xs:List Value) (hs:a.eval s=v) (hown:w.ownsRow base e size v n xs)
  (oa:Option Addr) (m c:Nat) (news:List Value) (hx:a.eval x= .slice oa m c) (hl:news.length=m*size) (hsrc:m=0∨∃ad,oa=some ad∧∀j u,news[j]?=some u→w.cell? (ad.add j)=some u) (h1:∀u∈news,u.oneCell'=true)
  (h63:n+m≤maxLen) (hbytes:(n+m)*bytes≤140737488355328) (hbase:base≤w.heap.size)
  (h:∀v' w',w'.ownsRow base e size v' (n+m) (xs++news)→w.grownBy w' v.ownBlock→K (a.put o.dst v') w'):o.wp P a w K Q:=by
 cases oa with
 |none=>
  rcases hsrc with h0|⟨ad,h0,_⟩
  ·subst h0
   have hn:news=[]:=List.eq_nil_of_length_eq_zero (by omega)
   subst hn
   have hr:=qY4 (P:=P) (w:=w) base t o.type e i size ht hi v n xs hown c
   unfold Oper.wp execOp
   simp only[ho,resolve,invoke,builtin,Sem.run_bind,Sem.run_pure,Result.andThen_ok,List.map_toArray,List.map_cons,List.map_nil,hs,hx,hr]
   exact h v w (by simpa using hown) ⟨rfl,rfl,rfl,Q1 _,fun _ _ _=>rfl⟩
  ·cases h0
 |some ad=>
  refine wp_append_own w s x t ho base e i z size bytes ht hi hz hsize hby hzs hsz v n xs hs hown ad m c news hx hl ?_ h1 h63 hbytes hbase (fun v' w' h2 h3 _=>h v' w' h2 h3)
  rcases hsrc with h0|⟨ad',h0,hc⟩
  ·subst h0
   have hn:news=[]:=List.eq_nil_of_length_eq_zero (by omega)
   subst hn
   intro j u hu
   simp at hu
  ·injection h0 with h0
   subst h0
   exact hc
theorem zK0{P:Program}{w:World}{ops:Array Oper}{o:Oper}{a:Act}{K:Act→World→Prop}{Q:Exit→Act→World→Prop}{E:Prop}(hgd:o.guard=none)(s x:Operand)(t:TypeId)
  (ho:o.op= .call {callee:= .builtin .append,args:= #[s,x],argTypes:= #[t,t]})
  (base:Nat) (e:TypeId) (i:TypeInfo) (z:Value) (size bytes:Nat) (ht:P.underlying t=some (.slice e)) (hi:P.info? e=some i) (hz:i.zero=some z)
  (hsize:i.size=size) (hby:i.bytes=bytes) (hzs:z.cells.size=size) (hsz:0<size)
  (v:Value) (n:Nat) (xs:List Value) (hs:a.eval s=v) (hown:w.ownsRow base e size v n xs)
  (oa:Option Addr) (m c:Nat) (news:List Value) (hx:a.eval x= .slice oa m c) (hl:news.length=m*size) (hsrc:m=0∨∃ad,oa=some ad∧∀j u,news[j]?=some u→w.cell? (ad.add j)=some u) (h1:∀u∈news,u.oneCell'=true)
  (h63:n+m≤maxLen) (hbytes:(n+m)*bytes≤140737488355328) (hbase:base≤w.heap.size)
  (h:∀v' w',w'.ownsRow base e size v' (n+m) (xs++news)→w.grownBy w' v.ownBlock→K (a.put o.dst v') w'):if Region.wanted o (yielded ops a.tmps)=true then Oper.wp P o a w K Q else E:=by
 have hw:Region.wanted o (yielded ops a.tmps)=true:=by simp[Region.wanted,hgd]
 rw[if_pos hw]
 exact zN5 s x t ho base e i z size bytes ht hi hz hsize hby hzs hsz v n xs hs hown oa m c news hx hl hsrc h1 h63 hbytes hbase h
def sC(f:Nat→SV)(n:Nat):List Value:=(List.range (n*2)).map fun j=>if j%2=0 then .int .i64 (f (j/2)).lo else .int .i64 (f (j/2)).hi
theorem T2{f:Nat→SV}{n:Nat}:(sC f n).length=n*2:=by simp[sC]
theorem A0{f:Nat→SV}{n j:Nat}(h:j<n*2):(sC f n)[j]?=some (if j%2=0 then .int .i64 (f (j/2)).lo else .int .i64 (f (j/2)).hi):=by simp[sC,h]
theorem jI2{f:Nat→SV}{n:Nat}:∀u∈sC f n,u.oneCell'=true:=by
 intro u hu
 simp only[sC,List.mem_map] at hu
 obtain⟨i,_,rfl⟩:=hu
 split<;>rfl
theorem kM7{f g:Nat→SV}{a b:Nat}:sC f a++sC g b=sC (fun i=>if i<a then f i else g (i-a)) (a+b):=by
 apply List.ext_getElem?
 intro j
 by_cases h:j<a*2
 ·rw[List.getElem?_append_left (by rw[T2];exact h),A0 h,A0 (by omega),if_pos (by omega:j/2<a)]
 ·rw[List.getElem?_append_right (by rw[T2];omega),T2]
  by_cases h2:j<(a+b)*2
  ·rw[A0 (by omega),A0 h2,if_neg (by omega:¬j/2<a),show(j-a*2)%2=j%2 by omega,show(j-a*2)/2=j/2-a by omega]
  ·rw[List.getElem?_eq_none_iff.2 (by rw[T2];omega),List.getElem?_eq_none_iff.2 (by rw[T2];omega)]
theorem jI1{f g:Nat→SV}{n:Nat}(h:∀i,i<n→f i=g i):sC f n=sC g n:=by
 apply List.ext_getElem?
 intro j
 by_cases hj:j<n*2
 ·rw[A0 hj,A0 hj,h (j/2) (by omega)]
 ·rw[List.getElem?_eq_none_iff.2 (by rw[T2];omega),List.getElem?_eq_none_iff.2 (by rw[T2];omega)]
def zY0(w w':World)(a:Option Addr)(n:Nat)(f:Nat→SV):Prop:=∃b,a=some ⟨b,0,none⟩∧w.heap.size≤b∧b<w'.heap.size∧∀i,i<n→w'.cell? ⟨b,i*2,none⟩=some (.int .i64 (f i).lo)∧w'.cell? ⟨b,i*2+1,none⟩=some (.int .i64 (f i).hi)
theorem zY0.spans{w w':World}{a:Option Addr}{n:Nat}{f:Nat→SV}(h:zY0 w w' a n f)(hn:n≤maxLen):qV3 w'.heap.size w' a n f:=by
 obtain⟨b,ha,h1,h2,h3⟩:=h
 exact⟨hn,.inr ⟨b,0,ha,h2,fun i hi=>by rw[Nat.zero_add];exact h3 i hi⟩⟩
theorem jY7{w w':World}{base:Nat}{a:Option Addr}{n c:Nat}{f:Nat→SV}(h:w'.ownsRow base 47 2 (.slice a n c) n (sC f n))(hb:w.heap.size≤base)(hn:0<n):zY0 w w' a n f:=by
 obtain⟨g,rfl,h1,h2⟩:=qJ6 h hn
 refine⟨g,rfl,by omega,h2,fun i hi=>⟨?_,?_⟩⟩
 ·rw[h.cellAt (i*2) (by omega),A0 (by omega),if_pos (by omega),show i*2/2=i by omega]
 ·rw[h.cellAt (i*2+1) (by omega),A0 (by omega),if_neg (by omega),show(i*2+1)/2=i by omega]
end
end Go.Proofs.YtmncaipgefbalaaGreatDoor
