/- Part of the proof of the claim. -/
import Derived.WalkSpells
import Derived.WalkLawsBesides
import Derived.Lib.Hide
import Derived.BigQuiet
import Derived.Deep.Light
import Derived.Deep.DeepCutAuto
import Derived.Laws.EntriesVeiled
import Derived.Lib.SmallJoins
import Derived.Test.YtmncaipgefbalaaGreatDoorRows
set_option maxRecDepth 100000
set_option maxHeartbeats 8000000
set_option linter.unusedVariables false
set_option linter.unusedSimpArgs false
namespace Go.Proofs.YtmncaipgefbalaaGreatDoor
section
open Go.RowKit
theorem Q0:type_of% @cell_of_row:= @cell_of_row
theorem Q1:type_of% @Nat.le_refl:= @Nat.le_refl
theorem Q2:type_of% @Below.refl:= @Below.refl
theorem Q3:type_of% @heap_alloc_new:= @heap_alloc_new
theorem Q4:type_of% @heap_setCell_same:= @heap_setCell_same
theorem Q5:type_of% @Nat.le_trans:= @Nat.le_trans
theorem Q6:type_of% @heap_setCell_other:= @heap_setCell_other
theorem Q7:type_of% @decide_eq_false:= @decide_eq_false
theorem Q8:type_of% @Bool.and_eq_true:= @Bool.and_eq_true
theorem Q9:type_of% @Below.heap_alloc:= @Below.heap_alloc
theorem Z0:type_of% @decide_eq_true:= @decide_eq_true
theorem Z1:type_of% @IntWalk.i64_in:= @IntWalk.i64_in
theorem Z2:type_of% @bodyPost_ret:= @bodyPost_ret
theorem Z3:type_of% @frozen_of_row:= @frozen_of_row
theorem Z4:type_of% @Nat.lt_of_lt_of_le:= @Nat.lt_of_lt_of_le
theorem Z5:type_of% @List.getElem?_eq_getElem:= @List.getElem?_eq_getElem
theorem Z6:type_of% @List.length_append:= @List.length_append
theorem Z7:type_of% @Int.mul_le_mul_of_nonneg_right:= @Int.mul_le_mul_of_nonneg_right
theorem Z8:type_of% @decide_eq_true_eq:= @decide_eq_true_eq
theorem Z9:type_of% @Exists.intro:= @Exists.intro
theorem X3:type_of% @List.getD_eq_getElem?_getD:= @List.getD_eq_getElem?_getD
theorem X4:type_of% @wpQuiet_nil:= @wpQuiet_nil
theorem X5:type_of% @World.cell?_of_block:= @World.cell?_of_block
theorem X6:type_of% @Int.mul_assoc:= @Int.mul_assoc
theorem X7:type_of% @List.drop_succ_cons:= @List.drop_succ_cons
theorem X8:type_of% @Nat.mul_le_mul:= @Nat.mul_le_mul
theorem hng{α:Type}:(∀(xs:List α) (i:Nat) (h:i<xs.toArray.size),xs.toArray[i]=xs[i]'(by simpa using h))∧(∀(a:α) (l:List α) (h:0<(a::l).length),(a::l)[0]=a)∧(∀(a:α) (l:List α) (i:Nat) (h:i+1<(a::l).length),(a::l)[i+1]=l[i]'(by simpa using h)):=⟨fun _ _ _=>List.getElem_toArray ..,fun _ _ _=>rfl,fun _ _ _ _=>rfl⟩
theorem hns{α:Type}:(∀(l:List α) (i:Nat) (a:α),l.toArray.setIfInBounds i a=(l.set i a).toArray)∧(∀(a b:α) (l:List α),(a::l).set 0 b=b::l)∧(∀(a b:α) (l:List α) (i:Nat),(a::l).set (i+1) b=a::l.set i b):=⟨fun _ _ _=>List.setIfInBounds_toArray ..,fun _ _ _=>rfl,fun _ _ _ _=>rfl⟩
theorem J5{α:Type}{xs:Array α}{i:Nat}{o:α}(h:xs[i]?=some o):i<xs.size:=(Array.getElem?_eq_some_iff.1 h).1
theorem Y0{W W':World}{b:Nat}{o:Obj}(h:W.heap[b]?=some o)(hb:Below W.heap.size W W'):W'.heap[b]?=some o:=(hb.block _ (Array.getElem?_eq_some_iff.1 h).1).trans h
theorem M7{W:World}{b:Nat}{xs:Array Value}{t:TypeId}(h:W.heap[b]?=some (.cells xs t)):W.cell? ⟨b,0,none⟩=xs[0]?∧W.cell? ⟨b,1,none⟩=xs[1]? :=⟨Q0 _ _ 0 _ _ _ h,Q0 _ _ 1 _ _ _ h⟩
theorem U4{W:World}{b:Nat}{xs:Array Value}{t:TypeId}(h:W.heap[b]?=some (.cells xs t)):W.cell? ⟨b,0,none⟩=xs[0]?∧W.cell? ⟨b,1,none⟩=xs[1]?∧W.cell? ⟨b,2,none⟩=xs[2]? :=⟨Q0 _ _ 0 _ _ _ h,Q0 _ _ 1 _ _ _ h,Q0 _ _ 2 _ _ _ h⟩
theorem cr4{W:World}{b:Nat}{xs:Array Value}{t:TypeId}(h:W.heap[b]?=some (.cells xs t)):W.cell? ⟨b,0,none⟩=xs[0]?∧W.cell? ⟨b,1,none⟩=xs[1]?∧W.cell? ⟨b,2,none⟩=xs[2]?∧W.cell? ⟨b,3,none⟩=xs[3]? :=⟨Q0 _ _ 0 _ _ _ h,Q0 _ _ 1 _ _ _ h,Q0 _ _ 2 _ _ _ h,Q0 _ _ 3 _ _ _ h⟩
theorem cr5{W:World}{b:Nat}{xs:Array Value}{t:TypeId}(h:W.heap[b]?=some (.cells xs t)):W.cell? ⟨b,0,none⟩=xs[0]?∧W.cell? ⟨b,1,none⟩=xs[1]?∧W.cell? ⟨b,2,none⟩=xs[2]?∧W.cell? ⟨b,3,none⟩=xs[3]?∧W.cell? ⟨b,4,none⟩=xs[4]? :=⟨Q0 _ _ 0 _ _ _ h,Q0 _ _ 1 _ _ _ h,Q0 _ _ 2 _ _ _ h,Q0 _ _ 3 _ _ _ h,Q0 _ _ 4 _ _ _ h⟩
theorem cr6{W:World}{b:Nat}{xs:Array Value}{t:TypeId}(h:W.heap[b]?=some (.cells xs t)):W.cell? ⟨b,0,none⟩=xs[0]?∧W.cell? ⟨b,1,none⟩=xs[1]?∧W.cell? ⟨b,2,none⟩=xs[2]?∧W.cell? ⟨b,3,none⟩=xs[3]?∧W.cell? ⟨b,4,none⟩=xs[4]?∧W.cell? ⟨b,5,none⟩=xs[5]? :=⟨Q0 _ _ 0 _ _ _ h,Q0 _ _ 1 _ _ _ h,Q0 _ _ 2 _ _ _ h,Q0 _ _ 3 _ _ _ h,Q0 _ _ 4 _ _ _ h,Q0 _ _ 5 _ _ _ h⟩
theorem xM1{W:World}{b:Nat}{xs:Array Value}{t:TypeId}(h:W.heap[b]?=some (.cells xs t)):W.cell? ⟨b,0,none⟩=xs[0]?∧W.cell? ⟨b,1,none⟩=xs[1]?∧W.cell? ⟨b,2,none⟩=xs[2]?∧W.cell? ⟨b,3,none⟩=xs[3]?∧W.cell? ⟨b,4,none⟩=xs[4]?∧W.cell? ⟨b,5,none⟩=xs[5]?∧W.cell? ⟨b,6,none⟩=xs[6]?∧W.cell? ⟨b,7,none⟩=xs[7]?∧W.cell? ⟨b,8,none⟩=xs[8]?∧W.cell? ⟨b,9,none⟩=xs[9]?∧W.cell? ⟨b,10,none⟩=xs[10]?∧W.cell? ⟨b,11,none⟩=xs[11]?∧W.cell? ⟨b,12,none⟩=xs[12]?∧W.cell? ⟨b,13,none⟩=xs[13]? :=⟨Q0 _ _ 0 _ _ _ h,Q0 _ _ 1 _ _ _ h,Q0 _ _ 2 _ _ _ h,Q0 _ _ 3 _ _ _ h,Q0 _ _ 4 _ _ _ h,Q0 _ _ 5 _ _ _ h,Q0 _ _ 6 _ _ _ h,Q0 _ _ 7 _ _ _ h,Q0 _ _ 8 _ _ _ h,Q0 _ _ 9 _ _ _ h,Q0 _ _ 10 _ _ _ h,Q0 _ _ 11 _ _ _ h,Q0 _ _ 12 _ _ _ h,Q0 _ _ 13 _ _ _ h⟩
theorem P2{α:Type}:(∀(l:List α) (i:Nat),l.toArray[i]?=l[i]?)∧(∀(a:α) (l:List α),(a::l)[0]?=some a)∧(∀(a:α) (l:List α) (i:Nat),(a::l)[i+1]?=l[i]?):=⟨fun _ _=>List.getElem?_toArray ..,fun _ _=>rfl,fun _ _ _=>rfl⟩
theorem Hd{p:Prop}(h:p):Hid p:=Lib.hid h
theorem fr2{W:World}{b:Nat}{xs:Array Value}{t:TypeId}(h:W.heap[b]?=some (.cells xs t)):W.frozen? ⟨b,0,none⟩=false∧W.frozen? ⟨b,1,none⟩=false:=⟨Z3 _ _ 0 _ _ h,Z3 _ _ 1 _ _ h⟩
theorem fr3{W:World}{b:Nat}{xs:Array Value}{t:TypeId}(h:W.heap[b]?=some (.cells xs t)):W.frozen? ⟨b,0,none⟩=false∧W.frozen? ⟨b,1,none⟩=false∧W.frozen? ⟨b,2,none⟩=false:=⟨Z3 _ _ 0 _ _ h,Z3 _ _ 1 _ _ h,Z3 _ _ 2 _ _ h⟩
theorem fr4{W:World}{b:Nat}{xs:Array Value}{t:TypeId}(h:W.heap[b]?=some (.cells xs t)):W.frozen? ⟨b,0,none⟩=false∧W.frozen? ⟨b,1,none⟩=false∧W.frozen? ⟨b,2,none⟩=false∧W.frozen? ⟨b,3,none⟩=false:=⟨Z3 _ _ 0 _ _ h,Z3 _ _ 1 _ _ h,Z3 _ _ 2 _ _ h,Z3 _ _ 3 _ _ h⟩
theorem hnm{P Q:Prop}(q:Q)(h:Q→P:=by((try simp only[hng]);(try dsimp only[Act.put]);(try simp only[hns]);exact fun q=>q)):P:=h q
theorem J9{W w1:World}{B:Nat}(hb:Below B W w1):(∀b o,b<B→w1.cell? ⟨b,o,none⟩=W.cell? ⟨b,o,none⟩)∧(∀b o,b<B→w1.frozen? ⟨b,o,none⟩=W.frozen? ⟨b,o,none⟩):=
  ⟨fun b o h=>hb.cell (p:=⟨b,o,none⟩) h,fun b o h=>hb.frozen (p:=⟨b,o,none⟩) h⟩
theorem J2{a b:Bool}(h:a=b):Ending.returned (.bool a)= .returned (.bool b):=by rw[h]
theorem qY3{k:IntKind}{a b:Int}(h:a=b):Ending.returned (.int k a)= .returned (.int k b):=by rw[h]
structure K9(B:Nat)(W:World) where
  val:World
  below:Below B W val
instance {B:Nat} {W:World}:Nonempty (K9 B W):=⟨⟨W,Q2 _ _⟩⟩
theorem K9.cell{B:Nat}{W:World}(x:K9 B W){b o:Nat}(h:b<B):x.val.cell? ⟨b,o,none⟩=W.cell? ⟨b,o,none⟩:=x.below.cell (p:=⟨b,o,none⟩) h
theorem K9.frozen{B:Nat}{W:World}(x:K9 B W){b o:Nat}(h:b<B):x.val.frozen? ⟨b,o,none⟩=W.frozen? ⟨b,o,none⟩:=x.below.frozen (p:=⟨b,o,none⟩) h
attribute [go_sem] K9.cell K9.frozen
theorem J4{P:Program}(B:Nat){id:Nat}{Q:Exit→Act→World→Prop}{a:Act}{w:World}{l:List Oper}(hm:P.follows .mixedOrders=true)(hB:Region.lexB .any l.toArray=true)
    (h:wpQuiet P l.toArray (fun w'=>∃x:K9 B w,w'=x.val) (fun a'=>∀w',(∃x:K9 B w,w'=x.val)→Q .normal a' w') l a):(Code.region id l.toArray true).wp P Q a w:=
  wp_region_quiet (C:=fun w'=>∃x:K9 B w,w'=x.val) hm hB ⟨⟨w.drew,(Q2 _ _).drew⟩,rfl⟩ (by simpa using h)
theorem wqn{B:Nat}{W:World}{R:World→Prop}(h:∀x:K9 B W,R x.val):∀w',(∃x:K9 B W,w'=x.val)→R w':=by
  rintro _ ⟨x,rfl⟩
  exact h x
theorem Calls.calm_of{P:Program}{f:FuncId}{args:Array Value}{B:Nat}{W:World}{x:K9 B W}{v:Value}(hB:B≤W.heap.size)
    (h:Calls P f args x.val fun e w'=>e= .returned v∧Below x.val.heap.size x.val w'):Calls P f args x.val fun e w''=>e= .returned v∧∃y:K9 B W,w''=y.val:=
  h.mono fun _ w1 ⟨he,hb⟩=>⟨he,⟨w1,x.below.trans (hb.mono (Q5 hB x.below.size))⟩,rfl⟩
theorem Calls.calm_same{P:Program}{f:FuncId}{args:Array Value}{B:Nat}{W:World}{x:K9 B W}{v:Value}
    (h:Calls P f args x.val fun e w'=>e= .returned v∧x.val=w'):Calls P f args x.val fun e w''=>e= .returned v∧∃y:K9 B W,w''=y.val:=
  h.mono fun _ w1 ⟨he,hb⟩=>⟨he,x,hb.symm⟩
def M1(n:Nat)(f:Nat→Bool):Bool:=(List.range n).all f
theorem Y3{n:Nat}{f:Nat→Bool}(h:∀j,j<n→f j=true):M1 n f=true:=by simpa [M1] using h
theorem Y7{n:Nat}{f:Nat→Bool}{j:Nat}(hj:j<n)(h:f j=false):M1 n f=false:=by
  simp only[M1,List.all_eq_false,List.mem_range];exact⟨j,hj,by simp[h]⟩
theorem Y9{n:Nat}{f:Nat→Bool}:M1 n f=true↔∀j,j<n→f j=true:=by simp[M1]
def D0(B:Nat)(w:World)(a:Option Addr)(n:Nat)(xs:Nat→Int):Prop:=
  n=0∨∃b off,a=some ⟨b,off,none⟩∧b<B∧∀i,i<n→w.cell? ⟨b,off+i,none⟩=some (.int .i64 (xs i))
theorem D0.below{B:Nat}{w w':World}{a:Option Addr}{n:Nat}{xs:Nat→Int}(h:D0 B w a n xs)(hb:Below B w w'):D0 B w' a n xs:=by
  rcases h with h|⟨b,off,ha,hB,hc⟩
  · exact .inl h
  · exact .inr ⟨b,off,ha,hB,fun i hi=>(hb.cell (p:=⟨b,off+i,none⟩) hB).trans (hc i hi)⟩
theorem D0.up{B B':Nat}{w:World}{a:Option Addr}{n:Nat}{xs:Nat→Int}(h:D0 B w a n xs)(hb:B≤B'):D0 B' w a n xs:=by
  rcases h with h|⟨b,off,ha,hB,hc⟩
  · exact .inl h
  · exact .inr ⟨b,off,ha,by omega,hc⟩
structure DV where
 time:Int
 lo:Int
 hi:Int
structure PR where
 kind:Int
 view:Int
 z:Int
 first:Int
 pitch:Int
 strips:Int
 spill:Int
 olo:Int
 ohi:Int
 clo:Int
 chi:Int
 jitter:Int
 least:Int
 da:Option Addr
 dn:Nat
 dc:Nat
 ea:Option Addr
 en:Nat
 ec:Nat
 ds:Nat→DV
 es:Nat→Int
abbrev PR.plane(p:PR):Value:= .agg #[.int .i64 p.kind,.int .i64 p.view,.int .i64 p.z,.int .i64 p.first,.int .i64 p.pitch,.int .i64 p.strips,.int .i64 p.spill,.int .i64 p.olo,.int .i64 p.ohi,.int .i64 p.clo,.int .i64 p.chi,.int .i64 p.jitter,.int .i64 p.least,.slice p.da p.dn p.dc,.slice p.ea p.en p.ec]
abbrev PR.placed(p:PR)(i:Int):Value:= .agg #[.int .i64 p.kind,.int .i64 p.view,.int .i64 p.z,.int .i64 p.first,.int .i64 p.pitch,.int .i64 p.strips,.int .i64 p.spill,.int .i64 p.olo,.int .i64 p.ohi,.int .i64 p.clo,.int .i64 p.chi,.int .i64 p.jitter,.int .i64 p.least,.slice p.da p.dn p.dc,.slice p.ea p.en p.ec,.int .i64 i]
def PR.at(p:PR)(w:World)(b o:Nat):Prop:=
 w.cell? ⟨b,o,none⟩=some (.int .i64 p.kind)∧w.cell? ⟨b,o+1,none⟩=some (.int .i64 p.view)∧w.cell? ⟨b,o+2,none⟩=some (.int .i64 p.z)∧w.cell? ⟨b,o+3,none⟩=some (.int .i64 p.first)∧
 w.cell? ⟨b,o+4,none⟩=some (.int .i64 p.pitch)∧w.cell? ⟨b,o+5,none⟩=some (.int .i64 p.strips)∧w.cell? ⟨b,o+6,none⟩=some (.int .i64 p.spill)∧w.cell? ⟨b,o+7,none⟩=some (.int .i64 p.olo)∧
 w.cell? ⟨b,o+8,none⟩=some (.int .i64 p.ohi)∧w.cell? ⟨b,o+9,none⟩=some (.int .i64 p.clo)∧w.cell? ⟨b,o+10,none⟩=some (.int .i64 p.chi)∧w.cell? ⟨b,o+11,none⟩=some (.int .i64 p.jitter)∧
 w.cell? ⟨b,o+12,none⟩=some (.int .i64 p.least)∧w.cell? ⟨b,o+13,none⟩=some (.slice p.da p.dn p.dc)∧w.cell? ⟨b,o+14,none⟩=some (.slice p.ea p.en p.ec)
theorem PR.at.below{p:PR}{w w':World}{B b o:Nat}(h:p.at w b o)(hb:Below B w w')(hB:b<B):p.at w' b o:=by
 obtain⟨h0,h1,h2,h3,h4,h5,h6,h7,h8,h9,h10,h11,h12,h13,h14⟩:=h
 have c:=(J9 hb).1
 exact⟨(c _ _ hB).trans h0,(c _ _ hB).trans h1,(c _ _ hB).trans h2,(c _ _ hB).trans h3,(c _ _ hB).trans h4,(c _ _ hB).trans h5,(c _ _ hB).trans h6,(c _ _ hB).trans h7,(c _ _ hB).trans h8,(c _ _ hB).trans h9,(c _ _ hB).trans h10,(c _ _ hB).trans h11,(c _ _ hB).trans h12,(c _ _ hB).trans h13,(c _ _ hB).trans h14⟩
def R8(B:Nat)(w:World)(a:Option Addr)(n:Nat)(ds:Nat→DV):Prop:=
 n=0∨∃b off,a=some ⟨b,off,none⟩∧b<B∧∀i,i<n→w.cell? ⟨b,off+i*3,none⟩=some (.int .i64 (ds i).time)∧w.cell? ⟨b,off+i*3+1,none⟩=some (.int .i64 (ds i).lo)∧w.cell? ⟨b,off+i*3+2,none⟩=some (.int .i64 (ds i).hi)
theorem R8.below{B:Nat}{w w':World}{a:Option Addr}{n:Nat}{ds:Nat→DV}(h:R8 B w a n ds)(hb:Below B w w'):R8 B w' a n ds:=by
 rcases h with h|⟨b,off,ha,hB,hc⟩
 ·exact .inl h
 ·have c:=(J9 hb).1
  exact .inr ⟨b,off,ha,hB,fun i hi=>⟨(c _ _ hB).trans (hc i hi).1,(c _ _ hB).trans (hc i hi).2.1,(c _ _ hB).trans (hc i hi).2.2⟩⟩
theorem R8.up{B B':Nat}{w:World}{a:Option Addr}{n:Nat}{ds:Nat→DV}(h:R8 B w a n ds)(hb:B≤B'):R8 B' w a n ds:=by
 rcases h with h|⟨b,off,ha,hB,hc⟩
 ·exact .inl h
 ·exact .inr ⟨b,off,ha,by omega,hc⟩
def PR.mem(p:PR)(B:Nat)(w:World):Prop:=p.dn≤maxLen∧p.en≤maxLen∧R8 B w p.da p.dn p.ds∧D0 B w p.ea p.en p.es
theorem PR.mem.below{p:PR}{B:Nat}{w w':World}(h:p.mem B w)(hb:Below B w w'):p.mem B w':=⟨h.1,h.2.1,h.2.2.1.below hb,h.2.2.2.below hb⟩
theorem PR.mem.up{p:PR}{B B':Nat}{w:World}(h:p.mem B w)(hb:B≤B'):p.mem B' w:=⟨h.1,h.2.1,h.2.2.1.up hb,h.2.2.2.up hb⟩
def Y2(B:Nat)(w:World)(a:Option Addr)(n:Nat)(ps:Nat→PR):Prop:=
 n≤maxLen∧(n=0∨∃b off,a=some ⟨b,off,none⟩∧b<B∧∀i,i<n→(ps i).at w b (off+i*15)∧(ps i).mem B w)
theorem Y2.below{B:Nat}{w w':World}{a:Option Addr}{n:Nat}{ps:Nat→PR}(h:Y2 B w a n ps)(hb:Below B w w'):Y2 B w' a n ps:=by
 refine⟨h.1,?_⟩
 rcases h.2 with h|⟨b,off,ha,hB,hc⟩
 ·exact .inl h
 ·exact .inr ⟨b,off,ha,hB,fun i hi=>⟨(hc i hi).1.below hb hB,(hc i hi).2.below hb⟩⟩
theorem Y2.up{B B':Nat}{w:World}{a:Option Addr}{n:Nat}{ps:Nat→PR}(h:Y2 B w a n ps)(hb:B≤B'):Y2 B' w a n ps:=by
 refine⟨h.1,?_⟩
 rcases h.2 with h|⟨b,off,ha,hB,hc⟩
 ·exact .inl h
 ·exact .inr ⟨b,off,ha,by omega,fun i hi=>⟨(hc i hi).1,(hc i hi).2.up hb⟩⟩
abbrev L3(a:Option Addr)(n c:Nat):Value:= .agg #[.slice a n c]
theorem Calls.quiet_same{P:Program}{f:FuncId}{args:Array Value}{w:World}{n:Nat}{v:Value}(h:Calls P f args (w.drewN n) fun e w'=>e= .returned v∧w.drewN n=w'):Calls P f args (w.drewN n) fun e w''=>e= .returned v∧∃m,w''=w.drewN m:=
 h.mono fun _ _ ⟨he,hm⟩=>⟨he,n,hm.symm⟩
def J1(a b c:Int):Bool:=decide (b≤a)&&decide (a≤c)
theorem J8{a b c:Int}:J1 a b c=true↔b≤a∧a≤c:=by simp[J1]
theorem J6{a b c:Int}(h:b≤a)(h':a≤c):J1 a b c=true:=J8.2 ⟨h,h'⟩
theorem N9{a b c:Int}(h:¬(b≤a∧a≤c)):J1 a b c=false:=by cases hh:J1 a b c;rfl;exact absurd (J8.1 hh) h
def P7(lo hi most:Int):Bool:=J1 lo (-most) hi&&decide (hi≤most)
theorem qW7{a b c:Int}:P7 a b c=true↔-c≤a∧a≤b∧b≤c:=by simp[P7,J8,and_assoc]
def xQ5(pitch:Int)(d:DV):Bool:=J1 d.time 0 1000000&&(J1 d.lo 0 d.hi&&decide (d.hi≤pitch/2))
def zQ6(c d:DV):Bool:=decide (c.time<d.time)&&(decide (c.lo≤d.lo)&&decide (c.hi≤d.hi))
def I4(pitch:Int)(ds:Nat→DV)(j:Nat):Bool:=xQ5 pitch (ds j)&&(j==0||zQ6 (ds (j-1)) (ds j))
def E6(pitch:Int)(n:Nat)(ds:Nat→DV):Bool:=M1 n (I4 pitch ds)&&J1 n 1 50
theorem qK3{pitch:Int}{ds:Nat→DV}{k:Nat}:I4 pitch ds k=true↔(0≤(ds k).time∧(ds k).time≤1000000)∧(0≤(ds k).lo∧(ds k).lo≤(ds k).hi)∧(ds k).hi≤pitch/2∧(k=0∨((ds (k-1)).time<(ds k).time∧(ds (k-1)).lo≤(ds k).lo∧(ds (k-1)).hi≤(ds k).hi)):=by
 simp[I4,xQ5,zQ6,J8,and_assoc]
theorem qI2{pitch:Int}{ds:Nat→DV}{n k:Nat}(hk:k<n)(h:¬I4 pitch ds k=true):E6 pitch n ds=false:=by
 rw[E6,Y7 hk (by simpa using h),Bool.false_and]
theorem qT1{pitch:Int}{ds:Nat→DV}{n k:Nat}(hk:k=n)(h:∀j,j<k→I4 pitch ds j=true):E6 pitch n ds=J1 n 1 50:=by
 subst hk;rw[E6,Y3 h,Bool.true_and]
def D3(p:PR):Bool:=J1 p.view 1 2&&(J1 p.z 0 100000&&(J1 p.first (-1000000) 1000000&&(J1 p.pitch 2 100000&&(J1 p.strips 1 2000&&(J1 p.spill 0 100000&&(P7 p.olo p.ohi 1000000&&(P7 p.clo p.chi 1000000000&&(J1 p.jitter 0 1000000&&J1 p.least 0 1000000))))))))
def N4(p:PR):Bool:=D3 p&&(decide (-1000000≤p.first-p.pitch-p.spill+p.olo)&&decide (p.first+(p.strips+1)*p.pitch+p.spill+p.ohi≤1000000))
structure S8(p:PR):Prop where
 view:1≤p.view∧p.view≤2
 z:0≤p.z∧p.z≤100000
 first: -1000000≤p.first∧p.first≤1000000
 pitch:2≤p.pitch∧p.pitch≤100000
 strips:1≤p.strips∧p.strips≤2000
 spill:0≤p.spill∧p.spill≤100000
 off: -1000000≤p.olo∧p.olo≤p.ohi∧p.ohi≤1000000
 clock: -1000000000≤p.clo∧p.clo≤p.chi∧p.chi≤1000000000
 jitter:0≤p.jitter∧p.jitter≤1000000
 least:0≤p.least∧p.least≤1000000
 low: -1000000≤p.first-p.pitch-p.spill+p.olo
 high:p.first+(p.strips+1)*p.pitch+p.spill+p.ohi≤1000000
theorem I8{p:PR}:D3 p=true↔(1≤p.view∧p.view≤2)∧(0≤p.z∧p.z≤100000)∧(-1000000≤p.first∧p.first≤1000000)∧(2≤p.pitch∧p.pitch≤100000)∧(1≤p.strips∧p.strips≤2000)∧(0≤p.spill∧p.spill≤100000)∧
  (-1000000≤p.olo∧p.olo≤p.ohi∧p.ohi≤1000000)∧(-1000000000≤p.clo∧p.clo≤p.chi∧p.chi≤1000000000)∧(0≤p.jitter∧p.jitter≤1000000)∧(0≤p.least∧p.least≤1000000):=by
 simp only[D3,Q8,J8,qW7]
theorem E8{p:PR}:N4 p=true↔S8 p:=by
 simp only[N4,Q8,I8,Z8]
 constructor
 ·rintro⟨⟨a,b,c,d,e,f,g,h,i,j⟩,k,l⟩;exact⟨a,b,c,d,e,f,g,h,i,j,k,l⟩
 ·rintro⟨a,b,c,d,e,f,g,h,i,j,k,l⟩;exact⟨⟨a,b,c,d,e,f,g,h,i,j⟩,k,l⟩
theorem qL2{s q:Int}(h1:1≤s)(h2:s≤2000)(h3:2≤q)(h4:q≤100000):0≤(s+1)*q∧(s+1)*q≤200100000:=by
 refine⟨Int.mul_nonneg (by omega) (by omega),?_⟩
 have:=Int.mul_le_mul (a:=s+1) (b:=q) (c:=2001) (d:=100000) (by omega) h4 (by omega) (by omega)
 omega
def U8(p:PR):Bool:=if p.kind=2 then E6 p.pitch p.dn p.ds else(p.dn:Int)==0
def S9(strips:Int)(es:Nat→Int)(j:Nat):Bool:=J1 (es j) 0 (strips-1)&&(j==0||decide (es (j-1)<es j))
theorem E9{s:Int}{es:Nat→Int}{k:Nat}:S9 s es k=true↔(0≤es k∧es k≤s-1)∧(k=0∨es (k-1)<es k):=by simp[S9,J8]
def qF9(p:PR):Bool:=M1 p.en (S9 p.strips p.es)&&decide ((p.en:Int)≤100)
def K6(p:PR):Bool:=J1 p.kind 1 3&&(N4 p&&(U8 p&&qF9 p))
def C8(ps:Nat→PR)(j:Nat):Bool:=K6 (ps j)&&(j==0||decide ((ps (j-1)).z<(ps j).z))
def K7(n:Nat)(ps:Nat→PR):Bool:=M1 n (C8 ps)&&J1 n 1 16
structure HV where
 plane:Int
 channel:Int
 many:Int
 drift:Int
 charge:Int
 time:Int
abbrev HV.val(h:HV):Value:= .agg #[.int .i64 h.plane,.int .i64 h.channel,.int .i64 h.many,.int .i64 h.drift,.int .i64 h.charge,.int .i64 h.time]
def F1(p:PR)(h:HV):Bool:=J1 h.channel 0 (p.strips-1)&&(J1 h.many 1 (p.strips-h.channel)&&(J1 h.charge p.least 1000000&&J1 h.time (-1000000000) 1000000000))
def P6(p:PR)(h:HV)(j:Nat):Bool:= !J1 (p.es j) h.channel (h.channel+h.many-1)
def F9(p:PR)(h:HV):Bool:=if p.kind=2 then(h.many==1)&&J1 h.drift 0 1000000 else(h.drift==0)&&((p.kind !=3)||(h.time==0))
def C7(p:PR)(h:HV):Bool:=F1 p h&&(M1 p.en (P6 p h)&&F9 p h)
def ofB(n:Nat)(ps:Nat→PR)(h:HV):Bool:=J1 h.plane 0 ((n:Int)-1)&&C7 (ps h.plane.toNat) h
theorem qS2{p:PR}{h:HV}:F1 p h=true↔(0≤h.channel∧h.channel≤p.strips-1)∧(1≤h.many∧h.many≤p.strips-h.channel)∧(p.least≤h.charge∧h.charge≤1000000)∧(-1000000000≤h.time∧h.time≤1000000000):=by
 simp only[F1,Q8,J8]
theorem xG1{p:PR}{h:HV}(hh:¬F1 p h=true):C7 p h=false:=by simp[C7,hh]
theorem zR6{p:PR}{h:HV}{k:Nat}(hk:k<p.en)(hh:P6 p h k=false):C7 p h=false:=by simp[C7,Y7 hk hh]
theorem xG0{p:PR}{h:HV}{k:Nat}(h1:F1 p h=true)(hk:k=p.en)(hh:∀j,j<k→P6 p h j=true):C7 p h=F9 p h:=by
 subst hk;simp[C7,h1,Y3 hh]
theorem M3{n:Nat}{ps:Nat→PR}(h:K7 n ps=true){k:Nat}(hk:k<n):K6 (ps k)=true:=by
 simp only[K7,Q8,Y9] at h
 have:=h.1 k hk
 simp only[C8,Q8] at this
 exact this.1
theorem P1{n:Nat}{ps:Nat→PR}(h:K7 n ps=true):1≤n∧n≤16:=by
 simp only[K7,Q8,J8] at h
 omega
theorem G0{p:PR}(h:K6 p=true):S8 p:=by
 simp only[K6,Q8] at h
 exact E8.1 h.2.1
theorem Y2.get{B:Nat}{w:World}{a:Option Addr}{n:Nat}{ps:Nat→PR}(h:Y2 B w a n ps){k:Nat}(hk:k<n):∃b off,a=some ⟨b,off,none⟩∧b<B∧(ps k).at w b (off+k*15)∧(ps k).mem B w:=by
 rcases h.2 with h|⟨b,off,ha,hB,hc⟩
 ·omega
 ·exact⟨b,off,ha,hB,(hc k hk).1,(hc k hk).2⟩
end
section
open Go.ChangeShapes Go.WideShapes Go.ChangeAt Go.RowKit Go.Deep Go.Joins
theorem O4{α:Type}[Nonempty α]{n:Nat}{Q:Nat→α→Prop}(h:∀i,i<n→∃x,Q i x):∃f:Nat→α,∀i,i<n→Q i (f i):=
 ⟨fun i=>Classical.epsilon (Q i),fun i hi=>Classical.epsilon_spec (h i hi)⟩
theorem O5{cs:List Value}{o c:Nat}{v:Value}(h:(cs.drop o).take c=[v]):cs[o]?=some v:=by
 have h0:((cs.drop o).take c)[0]?=some v:=by rw[h];rfl
 rw[List.getElem?_take] at h0
 split at h0
 ·simpa using h0
 ·simp at h0
section
variable {H:Type}{enc:TypeId×Value→H}{P:Program}{w:World}{base:Nat}{spare:Nat→Bool}{held:Bool}
theorem Y8{t:TypeId}{k:IntKind}{n o c:Nat}{cs:List Value}{y:Option (DataW H×List MemPlace)}{z:DataW H×List MemPlace}(ht:P.underlying t=some (.int k))(h:DataW.trod enc P w base spare held n t ((cs.drop o).take c)=y)(hy:y=some z):∃m,cs[o]?=some (.int k m):=by
 subst hy
 obtain⟨m,hm,_⟩:=DataW.trod_int ht h
 exact⟨m,O5 hm⟩
theorem jL3(b off k:Nat):(⟨b,off,none⟩:Addr).add k=⟨b,off+k,none⟩:=by
 unfold Addr.add
 split
 ·rename_i h;subst h;rfl
 ·rfl
theorem qA7{t e:TypeId}{fuel k:Nat}{cs:List Value}{o c:Nat}{y:Option (DataW H×List MemPlace)}{z:DataW H×List MemPlace}(ht:P.underlying t=some (.slice e))(hk:P.cellsOf e=k)(hk0:0<k)(h:DataW.trod enc P w base (fun _=>true) held fuel t ((cs.drop o).take c)=y)(hy:y=some z):
  ∃(a:Option Addr) (len cap:Nat),cs[o]?=some (.slice a len cap)∧len≤maxLen∧len≤cap∧cap≤maxLen∧(len=0∨∃b off,a=some ⟨b,off,none⟩∧b<w.heap.size∧∀i,i<len→∃cs' n x,cs'.length=k∧(∀j,j<k→w.cell? ⟨b,off+i*k+j,none⟩=cs'[j]?)∧DataW.trod enc P w base (fun _=>true) held n e cs'=some x):=by
 subst hy
 rcases open_slice ht h with⟨hcs,_⟩|⟨a,len,cap,m,n,D,Pl,hcs,hb,hl,hm,hmm,hx,hi⟩
 ·exact⟨none,0,0,O5 hcs,by decide,by decide,by decide,.inl rfl⟩
 ·refine⟨some a,len,cap,O5 hcs,by omega,hl,hm,?_⟩
  by_cases h0:len=0
  ·exact .inl h0
  right
  simp only[if_true] at hmm
  obtain⟨cs0,hc0,_⟩:=hi 0 (by omega)
  rw[hk] at hc0
  have hblk:=World.cells?_block hc0 hk0
  obtain⟨_,hl0,hat0⟩:=World.cells?_some hc0
  have hz:=hat0 0 hk0
  rw[Z5 (by omega)] at hz
  have hsp:=World.cell?_spot hz
  obtain⟨b,off,spot⟩:=a
  have hspot:spot=none:=by simpa [Addr.add] using hsp
  subst hspot
  refine⟨b,off,rfl,by simpa [Addr.add] using hblk,fun i hil=> ?_⟩
  obtain⟨cs',hc,ht'⟩:=hi i (by omega)
  rw[hk] at hc
  obtain⟨_,hl',hat⟩:=World.cells?_some hc
  refine⟨cs',n,_,hl',fun j hj=> ?_,ht'⟩
  have:=hat j hj
  rw[jL3,jL3] at this
  exact this
end
end
section
open Go.ChangeShapes Go.WideShapes Go.ChangeAt Go.RowKit Go.Deep Go.Joins
instance:Nonempty DV:=⟨⟨0,0,0⟩⟩
theorem xY2{cs:List Value}{o c i:Nat}{v:Value}(h:((cs.drop o).take c)[i]?=some v):cs[o+i]?=some v:=by
 rw[List.getElem?_take] at h
 split at h
 ·simpa using h
 ·simp at h
section
variable {H:Type}{enc:TypeId×Value→H}{w:World}{base:Nat}{held:Bool}
theorem xQ3{n o c:Nat}{cs:List Value}{y:Option (DataW H×List MemPlace)}{z:DataW H×List MemPlace}(h:DataW.trod enc Tryz.prog w base (fun _=>true) held n 47 ((cs.drop o).take c)=y)(hy:y=some z):
  ∃u v,cs[o]?=some (.int .i64 u)∧cs[o+1]?=some (.int .i64 v):=by
 subst hy
 obtain⟨y0,y1,m,_,_,h0,h1⟩:=trod_struct2 Tryz.underlying47 h
 obtain⟨u,hu⟩:=Y8 Tryz.underlying3 h0 rfl
 obtain⟨v,hv⟩:=Y8 Tryz.underlying3 h1 rfl
 exact⟨u,v,xY2 hu,xY2 hv⟩
theorem jP3{n:Nat}{cs:List Value}{x:DataW H×List MemPlace}(h:DataW.trod enc Tryz.prog w base (fun _=>true) held n 95 cs=some x):
  ∃d:DV,cs[0]?=some (.int .i64 d.time)∧cs[1]?=some (.int .i64 d.lo)∧cs[2]?=some (.int .i64 d.hi):=by
 obtain⟨y0,y1,m,_,_,h0,h1⟩:=trod_struct2 Tryz.underlying95 h
 obtain⟨t,ht⟩:=Y8 Tryz.underlying3 h0 rfl
 obtain⟨u,v,hu,hv⟩:=xQ3 h1 rfl
 exact⟨⟨t,u,v⟩,ht,hu,hv⟩
theorem jJ0{n o c:Nat}{cs:List Value}{y:Option (DataW H×List MemPlace)}{z:DataW H×List MemPlace}(h:DataW.trod enc Tryz.prog w base (fun _=>true) held n 48 ((cs.drop o).take c)=y)(hy:y=some z):
  ∃(a:Option Addr) (len cap:Nat) (ds:Nat→DV),cs[o]?=some (.slice a len cap)∧len≤maxLen∧R8 w.heap.size w a len ds:=by
 obtain⟨a,len,cap,hcs,hl,_,_,hr⟩:=qA7 (k:=3) Tryz.underlying48 (by kernel_rfl) (by decide) h hy
 rcases hr with h0|⟨b,off,ha,hb,hi⟩
 ·exact⟨a,len,cap,fun _=>⟨0,0,0⟩,hcs,hl,.inl h0⟩
 ·obtain⟨ds,hds⟩:=O4 (α:=DV) (n:=len) (Q:=fun i d=>w.cell? ⟨b,off+i*3,none⟩=some (.int .i64 d.time)∧w.cell? ⟨b,off+i*3+1,none⟩=some (.int .i64 d.lo)∧w.cell? ⟨b,off+i*3+2,none⟩=some (.int .i64 d.hi)) (fun i hil=>by
   obtain⟨cs',m,x,hl',hat,ht⟩:=hi i hil
   obtain⟨d,h0,h1,h2⟩:=jP3 ht
   exact⟨d,(hat 0 (by decide)).trans h0,(hat 1 (by decide)).trans h1,(hat 2 (by decide)).trans h2⟩)
  exact⟨a,len,cap,ds,hcs,hl,.inr ⟨b,off,ha,hb,hds⟩⟩
theorem zA8{n o c:Nat}{cs:List Value}{y:Option (DataW H×List MemPlace)}{z:DataW H×List MemPlace}(h:DataW.trod enc Tryz.prog w base (fun _=>true) held n 28 ((cs.drop o).take c)=y)(hy:y=some z):
  ∃(a:Option Addr) (len cap:Nat) (es:Nat→Int),cs[o]?=some (.slice a len cap)∧len≤maxLen∧D0 w.heap.size w a len es:=by
 obtain⟨a,len,cap,hcs,hl,_,_,hr⟩:=qA7 (k:=1) Tryz.underlying28 (by kernel_rfl) (by decide) h hy
 rcases hr with h0|⟨b,off,ha,hb,hi⟩
 ·exact⟨a,len,cap,fun _=>0,hcs,hl,.inl h0⟩
 ·obtain⟨es,hes⟩:=O4 (α:=Int) (n:=len) (Q:=fun i e=>w.cell? ⟨b,off+i,none⟩=some (.int .i64 e)) (fun i hil=>by
   obtain⟨cs',m,x,hl',hat,ht⟩:=hi i hil
   obtain⟨e,he,_⟩:=DataW.trod_int Tryz.underlying3 ht
   have:=hat 0 (by decide)
   rw[he] at this
   exact⟨e,by simpa using this⟩)
  exact⟨a,len,cap,es,hcs,hl,.inr ⟨b,off,ha,hb,hes⟩⟩
theorem jW2{n:Nat}{cs:List Value}{x:DataW H×List MemPlace}(h:DataW.trod enc Tryz.prog w base (fun _=>true) held n 50 cs=some x):
  ∃p:PR,(cs[0]?=some (.int .i64 p.kind)∧cs[1]?=some (.int .i64 p.view)∧cs[2]?=some (.int .i64 p.z)∧cs[3]?=some (.int .i64 p.first)∧cs[4]?=some (.int .i64 p.pitch)∧cs[5]?=some (.int .i64 p.strips)∧cs[6]?=some (.int .i64 p.spill)∧cs[7]?=some (.int .i64 p.olo)∧cs[8]?=some (.int .i64 p.ohi)∧cs[9]?=some (.int .i64 p.clo)∧cs[10]?=some (.int .i64 p.chi)∧cs[11]?=some (.int .i64 p.jitter)∧cs[12]?=some (.int .i64 p.least)∧cs[13]?=some (.slice p.da p.dn p.dc)∧cs[14]?=some (.slice p.ea p.en p.ec))∧p.mem w.heap.size w:=by
 obtain⟨xs,m,_,_,_,hxl,hf⟩:=DataW.trod_struct Tryz.underlying50 h
 have hx:∀i,i<13→∃z,xs[i]?=some z:=fun i hi=>⟨_,Z5 (by rw[hxl];exact hi)⟩
 obtain⟨z0,e0⟩:=hx 0 (by decide)
 obtain⟨z1,e1⟩:=hx 1 (by decide)
 obtain⟨z2,e2⟩:=hx 2 (by decide)
 obtain⟨z3,e3⟩:=hx 3 (by decide)
 obtain⟨z4,e4⟩:=hx 4 (by decide)
 obtain⟨z5,e5⟩:=hx 5 (by decide)
 obtain⟨z6,e6⟩:=hx 6 (by decide)
 obtain⟨z7,e7⟩:=hx 7 (by decide)
 obtain⟨z8,e8⟩:=hx 8 (by decide)
 obtain⟨z9,e9⟩:=hx 9 (by decide)
 obtain⟨z10,e10⟩:=hx 10 (by decide)
 obtain⟨z11,e11⟩:=hx 11 (by decide)
 obtain⟨z12,e12⟩:=hx 12 (by decide)
 obtain⟨kind,k0⟩:=Y8 Tryz.underlying45 (hf 0 _ rfl) e0
 obtain⟨view,k1⟩:=Y8 Tryz.underlying27 (hf 1 _ rfl) e1
 obtain⟨z,k2⟩:=Y8 Tryz.underlying3 (hf 2 _ rfl) e2
 obtain⟨first,k3⟩:=Y8 Tryz.underlying3 (hf 3 _ rfl) e3
 obtain⟨pitch,k4⟩:=Y8 Tryz.underlying3 (hf 4 _ rfl) e4
 obtain⟨strips,k5⟩:=Y8 Tryz.underlying3 (hf 5 _ rfl) e5
 obtain⟨spill,k6⟩:=Y8 Tryz.underlying3 (hf 6 _ rfl) e6
 obtain⟨olo,ohi,k7,k8⟩:=xQ3 (hf 7 _ rfl) e7
 obtain⟨clo,chi,k9,k10⟩:=xQ3 (hf 8 _ rfl) e8
 obtain⟨jitter,k11⟩:=Y8 Tryz.underlying3 (hf 9 _ rfl) e9
 obtain⟨least,k12⟩:=Y8 Tryz.underlying3 (hf 10 _ rfl) e10
 obtain⟨da,dn,dc,ds,k13,hdn,hD⟩:=jJ0 (hf 11 _ rfl) e11
 obtain⟨ea,en,ec,es,k14,hen,hI⟩:=zA8 (hf 12 _ rfl) e12
 exact⟨⟨kind,view,z,first,pitch,strips,spill,olo,ohi,clo,chi,jitter,least,da,dn,dc,ea,en,ec,ds,es⟩,⟨k0,k1,k2,k3,k4,k5,k6,k7,k8,k9,k10,k11,k12,k13,k14⟩,hdn,hen,hD,hI⟩
instance:Nonempty PR:=⟨⟨0,0,0,0,0,0,0,0,0,0,0,0,0,none,0,0,none,0,0,fun _=>⟨0,0,0⟩,fun _=>0⟩⟩
theorem xS0{r:Reach}{b0:Nat}{v:Value}{d:DataW H}{p:List MemPlace}(hv:Value.okWide Tryz.prog w r b0 24 v)(h:DataW.Trod enc Tryz.prog w base (fun _=>true) held 24 v d p):
  ∃(a:Option Addr) (n c:Nat) (ps:Nat→PR),v=L3 a n c∧Y2 w.heap.size w a n ps:=by
 obtain⟨cs,rfl,hsz⟩:=okWide_struct Tryz.underlying24 hv
 have hsz1:cs.size=1:=hsz.trans (by kernel_rfl)
 obtain⟨fuel,hf⟩:=h
 obtain⟨y0,m,_,_,h0⟩:=trod_struct1 Tryz.underlying24 hf
 obtain⟨a,len,cap,hcs,hl,_,_,hr⟩:=qA7 (k:=15) Tryz.underlying22 (by kernel_rfl) (by decide) h0 rfl
 obtain⟨l⟩:=cs
 match l,hsz1 with
 |[c0],_=>
  have hc0:c0= .slice a len cap:=by simpa [Value.cells] using hcs
  subst hc0
  rcases hr with hz|⟨b,off,ha,hb,hi⟩
  ·exact⟨a,len,cap,fun _=>Classical.choice inferInstance,rfl,hl,.inl hz⟩
  ·obtain⟨ps,hps⟩:=O4 (α:=PR) (n:=len) (Q:=fun i p=>p.at w b (off+i*15)∧p.mem w.heap.size w) (fun i hil=>by
    obtain⟨cs',m,x,hl',hat,ht⟩:=hi i hil
    obtain⟨q,⟨k0,k1,k2,k3,k4,k5,k6,k7,k8,k9,k10,k11,k12,k13,k14⟩,hm⟩:=jW2 ht
    exact⟨q,⟨(hat 0 (by decide)).trans k0,(hat 1 (by decide)).trans k1,(hat 2 (by decide)).trans k2,(hat 3 (by decide)).trans k3,(hat 4 (by decide)).trans k4,(hat 5 (by decide)).trans k5,(hat 6 (by decide)).trans k6,(hat 7 (by decide)).trans k7,(hat 8 (by decide)).trans k8,(hat 9 (by decide)).trans k9,(hat 10 (by decide)).trans k10,(hat 11 (by decide)).trans k11,(hat 12 (by decide)).trans k12,(hat 13 (by decide)).trans k13,(hat 14 (by decide)).trans k14⟩,hm⟩)
   exact⟨a,len,cap,ps,rfl,hl,.inr ⟨b,off,ha,hb,hps⟩⟩
end
theorem own:ownKnob Tryz.prog.godebug=none:=by kernel_rfl
theorem qW4:laidOutB Tryz.prog=true:=by kernel_rfl
end
section
structure EG where
 a:Nat
 b:Nat
 c:Int
inductive qE8(E:List EG)(src:Nat→Prop):List Nat→Nat→Int→Prop
 |nil (x:Nat):src x→qE8 E src [x] x 0
 |cons {l:List Nat} {y:Nat} {c:Int} (e:EG):qE8 E src l y c→e∈E→e.a=y→qE8 E src (e.b::l) e.b (c+e.c)
def zV7(E:List EG)(v:Nat→Int):Prop:=∀e∈E,v e.b-v e.a≤e.c
theorem qE8.back{E:List EG}{src:Nat→Prop}{v:Nat→Int}(hv:zV7 E v){l:List Nat}{x:Nat}{c:Int}(h:qE8 E src l x c):∀y,y∈l→∃l' c',qE8 E src l' y c'∧l'<:+l∧c'-v y≤c-v x:=by
 induction h with
 |nil x hx=>
  intro y hy
  obtain rfl:y=x:=by simpa using hy
  exact⟨[y],0,.nil y hx,List.suffix_refl _,Int.le_refl _⟩
 | @cons l z c e hw he ha ih=>
  intro y hy
  rcases List.mem_cons.1 hy with rfl|hy
  ·exact⟨_,_,.cons e hw he ha,List.suffix_refl _,Int.le_refl _⟩
  ·obtain⟨l',c',h1,h2,h3⟩:=ih y hy
   have:=hv e he
   subst ha
   exact⟨l',c',h1,h2.trans (List.suffix_cons _ _),by omega⟩
theorem qE8.head{E:List EG}{src:Nat→Prop}{l:List Nat}{x:Nat}{c:Int}(h:qE8 E src l x c):∃l',l=x::l':=by
 cases h with
 |nil=>exact⟨_,rfl⟩
 |cons=>exact⟨_,rfl⟩
theorem qE8.simple{E:List EG}{src:Nat→Prop}{v:Nat→Int}(hv:zV7 E v){l:List Nat}{x:Nat}{c:Int}(h:qE8 E src l x c):∃l' c',qE8 E src l' x c'∧l'.Nodup∧c'≤c:=by
 induction h with
 |nil x hx=>exact⟨[x],0,.nil x hx,by simp,Int.le_refl _⟩
 | @cons l z c e hw he ha ih=>
  obtain⟨l1,c1,h1,h2,h3⟩:=ih
  by_cases hm:e.b∈l1
  ·obtain⟨l',c',h4,h5,h6⟩:=h1.back hv _ hm
   have:=hv e he
   subst ha
   exact⟨l',c',h4,h2.sublist h5.sublist,by omega⟩
  ·exact⟨_,_,.cons e h1 he ha,List.nodup_cons.2 ⟨hm,h2⟩,by omega⟩
theorem zS2:∀(N:Nat) (l:List Nat),l.Nodup→(∀x∈l,x<N)→l.length≤N
 |0,l,_,h=>by
  cases l with
  |nil=>simp
  |cons a l=>exact absurd (h a (by simp)) (Nat.not_lt_zero _)
 |N+1,l,hn,h=>by
  have h1:=zS2 N (l.erase N) (hn.erase N) (fun x hx=>by
   have h2:=h x (List.mem_of_mem_erase hx)
   have h3:x≠N:=fun e=>by subst e;exact(List.Nodup.mem_erase_iff hn).1 hx|>.1 rfl
   omega)
  by_cases hm:N∈l
  ·have:=List.length_erase_of_mem hm
   omega
  ·rw[List.erase_of_not_mem hm] at h1;omega
theorem qE8.lt{E:List EG}{src:Nat→Prop}{N:Nat}(hE:∀e∈E,e.b<N)(hs:∀x,src x→x<N){l:List Nat}{x:Nat}{c:Int}(h:qE8 E src l x c):∀y∈l,y<N:=by
 induction h with
 |nil x hx=>intro y hy;(obtain rfl:y=x:=(by simpa using hy));exact hs _ hx
 |cons e hw he ha ih=>
  intro y hy
  rcases List.mem_cons.1 hy with rfl|hy
  ·exact hE e he
  ·exact ih y hy
theorem qE8.least{E:List EG}{src:Nat→Prop}{v:Nat→Int}(hv:zV7 E v){B:Int}(hs:∀x,src x→v x≤B){l:List Nat}{x:Nat}{c:Int}(h:qE8 E src l x c):v x-B≤c:=by
 induction h with
 |nil x hx=>have:=hs x hx;omega
 |cons e hw he ha ih=>have:=hv e he;subst ha;omega
def A9(D:Nat→Option Int)(e:EG):Bool:=match D e.a with
 |none=>false
 |some c=>match D e.b with
  |none=>true
  |some c'=>decide (c+e.c<c')
def relax(D:Nat→Option Int)(e:EG):Nat→Option Int:=if A9 D e=true then fun x=>if x=e.b then(D e.a).map (·+e.c) else D x else D
def leO(a:Option Int)(c:Int):Prop:=∃c',a=some c'∧c'≤c
theorem leO.mono{a:Option Int}{c d:Int}(h:leO a c)(hc:c≤d):leO a d:=by obtain⟨c',h1,h2⟩:=h;exact⟨c',h1,by omega⟩
theorem xE0(D:Nat→Option Int)(e:EG){x:Nat}{c:Int}(h:leO (D x) c):leO (relax D e x) c:=by
 unfold relax
 split
 ·rename_i hb
  dsimp only
  split
  ·rename_i hx
   subst hx
   obtain⟨c',h1,h2⟩:=h
   unfold A9 at hb
   cases ha:D e.a with
   |none=>rw[ha] at hb;simp at hb
   |some ca=>
    rw[ha,h1] at hb
    simp at hb
    exact⟨ca+e.c,by simp,by omega⟩
  ·exact h
 ·exact h
theorem jA7(D:Nat→Option Int)(e:EG){c:Int}(h:leO (D e.a) c):leO (relax D e e.b) (c+e.c):=by
 obtain⟨ca,h1,h2⟩:=h
 unfold relax
 split
 ·simp only[if_true]
  rw[h1]
  exact⟨ca+e.c,rfl,by omega⟩
 ·rename_i hb
  unfold A9 at hb
  rw[h1] at hb
  cases he:D e.b with
  |none=>rw[he] at hb;simp at hb
  |some cb=>
   rw[he] at hb
   simp at hb
   exact⟨cb,rfl,by omega⟩
theorem xT3{D:Nat→Option Int}{e:EG}(h:A9 D e=false):relax D e=D:=by unfold relax;rw[h];rfl
def relaxL(D:Nat→Option Int)(l:List EG):Nat→Option Int:=l.foldl relax D
theorem zQ2:∀(l:List EG) (D:Nat→Option Int) {x:Nat} {c:Int},leO (D x) c→leO (relaxL D l x) c
 |[],_,_,_,h=>h
 |e::l,D,_,_,h=>zQ2 l (relax D e) (xE0 D e h)
theorem zS9:∀(l:List EG) (D:Nat→Option Int) (e:EG),e∈l→∀{c:Int},leO (D e.a) c→leO (relaxL D l e.b) (c+e.c)
 |f::l,D,e,he,c,h=>by
  rcases List.mem_cons.1 he with rfl|he
  ·exact zQ2 l _ (jA7 D e h)
  ·exact zS9 l (relax D f) e he (xE0 D f h)
def zV3(E:List EG)(src:Nat→Prop)(r:Nat)(D:Nat→Option Int):Prop:=∀l x c,qE8 E src l x c→l.length≤r+1→leO (D x) c
theorem zV3.zero{E:List EG}{src:Nat→Prop}{D:Nat→Option Int}(h:∀x,src x→leO (D x) 0):zV3 E src 0 D:=by
 intro l x c hw hl
 cases hw with
 |nil x hx=>exact h x hx
 |cons e hw he ha=>
  obtain⟨l',rfl⟩:=hw.head
  simp at hl
theorem zV3.round{E:List EG}{src:Nat→Prop}{r:Nat}{D:Nat→Option Int}(h:zV3 E src r D):zV3 E src (r+1) (relaxL D E):=by
 intro l x c hw hl
 cases hw with
 |nil x hx=>exact zQ2 E D (h _ _ _ (.nil x hx) (by simp))
 |cons e hw he ha=>
  subst ha
  exact zS9 E D e he (h _ _ _ hw (by simp at hl;omega))
def zJ2(E:List EG)(src:Nat→Prop)(D:Nat→Option Int):Prop:=∀x c,D x=some c→∃l,qE8 E src l x c
theorem zJ2.relax{E:List EG}{src:Nat→Prop}{D:Nat→Option Int}(h:zJ2 E src D){e:EG}(he:e∈E):zJ2 E src (relax D e):=by
 intro x c hx
 unfold Proofs.YtmncaipgefbalaaGreatDoor.relax at hx
 split at hx
 ·dsimp only at hx
  split at hx
  ·rename_i e2
   cases ha:D e.a with
   |none=>rw[ha] at hx;simp at hx
   |some ca=>
    rw[ha] at hx
    obtain⟨l,hl⟩:=h _ _ ha
    simp at hx
    subst hx;subst e2
    exact⟨_,.cons e hl he rfl⟩
  ·exact h x c hx
 ·exact h x c hx
theorem zJ2.relaxL{E:List EG}{src:Nat→Prop}:∀(l:List EG) {D:Nat→Option Int},zJ2 E src D→(∀e∈l,e∈E)→zJ2 E src (relaxL D l)
 |[],_,h,_=>h
 |e::l,D,h,hl=>zJ2.relaxL l (h.relax (hl e (by simp))) (fun f hf=>hl f (by simp[hf]))
theorem zV3.still{E:List EG}{src:Nat→Prop}{v:Nat→Int}(hv:zV7 E v){N r:Nat}(hE:∀e∈E,e.b<N)(hs:∀x,src x→x<N){D:Nat→Option Int}(h:zV3 E src r D)(hm:zJ2 E src D)(hr:N≤r+1):∀e∈E,A9 D e=false:=by
 intro e he
 unfold A9
 cases ha:D e.a with
 |none=>rfl
 |some c=>
  obtain⟨l,hw⟩:=hm _ _ ha
  obtain⟨l',c',h1,h2,h3⟩:=(qE8.cons e hw he rfl).simple hv
  obtain⟨c2,h4,h5⟩:=h l' _ c' h1 (Q5 (zS2 N l' h2 (h1.lt hE hs)) hr)
  rw[h4]
  simp
  omega
def chg:(Nat→Option Int)→List EG→Bool
 |_,[]=>false
 |D,e::l=>A9 D e||chg (relax D e) l
theorem qI9:∀(l:List EG) (D:Nat→Option Int),(∀e∈l,A9 D e=false)→chg D l=false
 |[],_,_=>rfl
 |e::l,D,h=>by
  have h1:=h e (by simp)
  rw[chg,h1,xT3 h1,Bool.false_or]
  exact qI9 l D (fun f hf=>h f (by simp[hf]))
structure FV where
 len:Int
 uses:Int
 deriving DecidableEq
def FV.never:FV:=⟨1000000000000,0⟩
def qV8(a b:FV):Bool:=decide (a.len<b.len)||(a.len==b.len&&decide (a.uses<b.uses))
def qP3(d:Nat→FV)(i:Nat)(x:FV):Nat→FV:=fun j=>if j=i then x else d j
def qQ9(d:Nat→FV)(a:Nat)(len:Int):FV:=⟨(d a).len+len,(d a).uses+1⟩
def zQ0(d:Nat→FV)(a b:Nat)(len:Int):Nat→FV:=if d a=FV.never then d else if qV8 (qQ9 d a len) (d b)=true then qP3 d b (qQ9 d a len) else d
def zW1(d:Nat→FV)(a b:Nat)(len:Int):Bool:=if d a=FV.never then false else qV8 (qQ9 d a len) (d b)
def qP0(f:FV):Option Int:=if f=FV.never then none else some (f.len*1000000+f.uses)
structure qI5(U:Int)(f:FV):Prop where
 uses:0≤f.uses∧f.uses≤U
 len: -(f.uses*1000000000)≤f.len∧f.len≤f.uses*1000000000
def FOk(U:Int)(d:Nat→FV):Prop:=∀x,d x=FV.never∨qI5 U (d x)
theorem qI5.mono{U V:Int}{f:FV}(h:qI5 U f)(hv:U≤V):qI5 V f:=⟨⟨h.uses.1,by have:=h.uses.2;omega⟩,h.len⟩
theorem FOk.mono{U V:Int}{d:Nat→FV}(h:FOk U d)(hv:U≤V):FOk V d:=fun x=>(h x).imp id fun h=>h.mono hv
theorem qI5.ne{U:Int}{f:FV}(h:qI5 U f)(hU:U<900):f≠FV.never:=by
 intro e
 have h1:=h.len
 have h2:=h.uses
 rw[e] at h1 h2
 simp only[FV.never] at h1 h2
 omega
theorem qI5.cand{U:Int}{d:Nat→FV}{a:Nat}{len:Int}(h:qI5 U (d a))(hl: -1000000000≤len∧len≤1000000000):qI5 (U+1) (qQ9 d a len):=by
 have h1:=h.len
 have h2:=h.uses
 refine⟨?_,?_⟩
 ·simp only[qQ9];omega
 ·simp only[qQ9];rw[Int.add_mul];omega
theorem xK9{U:Int}{f:FV}(h:qI5 U f)(hU:U<900):qV8 f FV.never=true:=by
 have h1:=h.len
 have h2:=h.uses
 have h3:decide (f.len<1000000000000)=true:=Z0 (by omega)
 show(decide (f.len<1000000000000)||_)=true
 rw[h3];rfl
theorem jJ2{U:Int}{f g:FV}(hf:qI5 U f)(hg:qI5 U g)(hU:U<900):qV8 f g=decide (f.len*1000000+f.uses<g.len*1000000+g.uses):=by
 have h1:=hf.uses
 have h2:=hg.uses
 rw[Bool.eq_iff_iff]
 simp only[qV8,Bool.or_eq_true,Q8,beq_iff_eq,Z8]
 omega
theorem qH0{U:Int}{f:FV}(h:qI5 U f)(hU:U<900):qP0 f=some (f.len*1000000+f.uses):=by rw[qP0,if_neg (h.ne hU)]
theorem xA2{U:Int}{d:Nat→FV}{a b:Nat}{len:Int}(h:FOk U d)(hl: -1000000000≤len∧len≤1000000000)(hU:U+1<900):zW1 d a b len=A9 (fun x=>qP0 (d x)) ⟨a,b,len*1000000+1⟩:=by
 unfold zW1 A9
 rcases h a with ha|ha
 ·rw[if_pos ha];simp[qP0,ha]
 ·have hc:=ha.cand hl
  rw[if_neg (ha.ne (by omega))]
  dsimp only
  rw[qH0 ha (by omega)]
  dsimp only
  rcases h b with hb|hb
  ·rw[hb,xK9 hc hU];simp[qP0]
  ·rw[qH0 hb (by omega),jJ2 hc (hb.mono (by omega)) hU]
   rw[decide_eq_decide]
   simp only[qQ9]
   omega
theorem kG8{U:Int}{d:Nat→FV}{a b:Nat}{len:Int}(h:FOk U d)(hl: -1000000000≤len∧len≤1000000000)(hU:U+1<900):(fun x=>qP0 (zQ0 d a b len x))=relax (fun x=>qP0 (d x)) ⟨a,b,len*1000000+1⟩:=by
 unfold relax
 rw[←xA2 h hl hU]
 unfold zQ0 zW1
 rcases h a with ha|ha
 ·rw[if_pos ha,if_pos ha];simp
 ·rw[if_neg (ha.ne (by omega)),if_neg (ha.ne (by omega))]
  split
  ·funext x
   dsimp only
   unfold qP3
   split
   ·rw[qH0 (ha.cand hl) hU,qH0 ha (by omega)]
    simp only[qQ9,Option.map_some]
    rw[Int.add_mul]
    congr 1
    omega
   ·rfl
  ·rfl
theorem kG9{U:Int}{d:Nat→FV}{a b:Nat}{len:Int}(h:FOk U d)(hl: -1000000000≤len∧len≤1000000000)(hU:U+1<900):FOk (U+1) (zQ0 d a b len):=by
 intro x
 unfold zQ0
 rcases h a with ha|ha
 ·rw[if_pos ha];exact(h.mono (by omega)) x
 ·rw[if_neg (ha.ne (by omega))]
  split
  ·unfold qP3
   split
   ·exact .inr (ha.cand hl)
   ·exact(h.mono (by omega)) x
  ·exact(h.mono (by omega)) x
def qL6(n:Nat):Nat→FV:=qP3 (fun _=>FV.never) n ⟨0,0⟩
theorem jB9(n:Nat):FOk 0 (qL6 n):=by
 intro x
 unfold qL6 qP3
 split
 ·exact .inr ⟨⟨by decide,by decide⟩,by decide,by decide⟩
 ·exact .inl rfl
structure WY where
 a:Nat
 b:Nat
 len:Int
def S2(d:Nat→FV)(l:List WY):Nat→FV:=l.foldl (fun d e=>zQ0 d e.a e.b e.len) d
def R9:(Nat→FV)→List WY→Bool
 |_,[]=>false
 |d,e::l=>zW1 d e.a e.b e.len||R9 (zQ0 d e.a e.b e.len) l
def WY.eg(e:WY):EG:=⟨e.a,e.b,e.len*1000000+1⟩
theorem xT1(d:Nat→FV)(l:List WY)(e:WY):S2 d (l++[e])=zQ0 (S2 d l) e.a e.b e.len:=by simp[S2,List.foldl_append]
theorem zG3:∀(l:List WY) (d:Nat→FV) (e:WY),R9 d (l++[e])=(R9 d l||zW1 (S2 d l) e.a e.b e.len)
 |[],d,e=>by simp[R9,S2]
 |f::l,d,e=>by
  rw[List.cons_append,R9,zG3 l _ e,R9,Bool.or_assoc]
  rfl
def WOk(l:List WY):Prop:=∀e∈l,-1000000000≤e.len∧e.len≤1000000000
theorem qA6:∀(l:List WY) {U:Int} {d:Nat→FV},FOk U d→WOk l→U+l.length<900→
  (fun x=>qP0 (S2 d l x))=relaxL (fun x=>qP0 (d x)) (l.map WY.eg)∧FOk (U+l.length) (S2 d l)∧R9 d l=chg (fun x=>qP0 (d x)) (l.map WY.eg)
 |[],U,d,h,_,_=>⟨rfl,by(show FOk (U+((0:Nat):Int)) d);simpa using h,rfl⟩
 |e::l,U,d,h,hl,hU=>by
  have he:=hl e (by simp)
  simp only[List.length_cons] at hU
  have h1:=kG8 (a:=e.a) (b:=e.b) h he (by omega)
  have h2:=kG9 (a:=e.a) (b:=e.b) h he (by omega)
  obtain⟨h3,h4,h5⟩:=qA6 l h2 (fun f hf=>hl f (by simp[hf])) (by omega)
  refine⟨?_,?_,?_⟩
  ·show(fun x=>qP0 (S2 (zQ0 d e.a e.b e.len) l x))=relaxL (relax _ e.eg) _
   rw[h3,h1];rfl
  ·show FOk _ (S2 (zQ0 d e.a e.b e.len) l)
   simp only[List.length_cons]
   exact h4.mono (by omega)
  ·rw[R9,h5,List.map_cons,chg,xA2 h he (by omega),h1];rfl
theorem jG4{l p:List WY}{U:Int}{d:Nat→FV}(h:FOk U d)(hl:WOk l)(hp:p<+:l)(hU:U+l.length<900):FOk (U+p.length) (S2 d p):=by
 obtain⟨q,rfl⟩:=hp
 simp only[Z6] at hU
 exact(qA6 p h (fun e he=>hl e (by simp[he])) (by omega)).2.1
structure F5(l:List WY)(n N r:Nat)(d:Nat→FV):Prop where
 ok:FOk ((l.length:Int)*r) d
 made:zJ2 (l.map WY.eg) (fun x=>x=n) (fun x=>qP0 (d x))
 done:zV3 (l.map WY.eg) (fun x=>x=n) r (fun x=>qP0 (d x))
theorem F5.start(l:List WY)(n N:Nat):F5 l n N 0 (qL6 n):=by
 refine⟨by simpa using jB9 n,fun x c h=> ?_,zV3.zero fun x hx=> ?_⟩
 ·unfold qL6 qP3 at h
  dsimp only at h
  split at h
  ·rename_i e
   subst e
   simp[qP0,FV.never] at h
   subst h
   exact⟨_,.nil x rfl⟩
  ·simp[qP0] at h
 ·subst hx
  exact⟨0,by simp[qL6,qP3,qP0,FV.never],Int.le_refl _⟩
theorem F5.next{l:List WY}{n N r:Nat}{d:Nat→FV}(h:F5 l n N r d)(hl:WOk l)(hr:l.length*(r+1)<900):F5 l n N (r+1) (S2 d l):=by
 have hr2:(l.length:Int)*r+l.length<900:=by
  have:((l.length*(r+1):Nat):Int)=(l.length:Int)*r+l.length:=by rw[Nat.mul_add];simp
  omega
 obtain⟨h1,h2,h3⟩:=qA6 l h.ok hl hr2
 refine⟨?_,?_,?_⟩
 ·refine h2.mono ?_
  rw[Int.natCast_add,Int.mul_add];simp
 ·rw[h1];exact zJ2.relaxL _ h.made (fun e he=>he)
 ·rw[h1];exact h.done.round
theorem F5.few{l:List WY}{n N r:Nat}{d:Nat→FV}{v:Nat→Int}(h:F5 l n N r d)(hl:WOk l)(hr:l.length*(r+1)<900)(hb:∀e∈l,e.b<N)(hn:n<N)(hv:∀e∈l,v e.b-v e.a≤e.len)(hc:R9 d l=true):r+1<N:=by
 have hr2:(l.length:Int)*r+l.length<900:=by
  have:((l.length*(r+1):Nat):Int)=(l.length:Int)*r+l.length:=by rw[Nat.mul_add];simp
  omega
 rw[(qA6 l h.ok hl hr2).2.2] at hc
 refine Decidable.byContradiction fun hx=> ?_
 have hK:zV7 (l.map WY.eg) (fun x=>v x*1000000):=by
  intro e he
  obtain⟨f,hf,rfl⟩:=List.mem_map.1 he
  have:=hv f hf
  simp only[WY.eg]
  omega
 have hE:∀e∈l.map WY.eg,e.b<N:=by
  intro e he
  obtain⟨f,hf,rfl⟩:=List.mem_map.1 he
  exact hb f hf
 rw[qI9 _ _ (h.done.still hK hE (fun x hx=>by omega) h.made (by omega))] at hc
 cases hc
theorem F5.holds{l:List WY}{n N r:Nat}{d:Nat→FV}{v:Nat→Int}(h:F5 l n N r d)(hr:l.length*r<900)(hv:∀e∈l,v e.b-v e.a≤e.len)(hB:∀x,x<N→-1000000≤v x∧v x≤1000000)(hn:n<N){x:Nat}(hx:x<N):v x-v n≤(d x).len∧-1000000000000≤(d x).len∧(d x).len≤1000000000000:=by
 have hr2:(l.length:Int)*r<900:=by
  have:((l.length*r:Nat):Int)=(l.length:Int)*r:=by simp
  omega
 have hK:zV7 (l.map WY.eg) (fun x=>v x*1000000):=by
  intro e he
  obtain⟨f,hf,rfl⟩:=List.mem_map.1 he
  have:=hv f hf
  simp only[WY.eg]
  omega
 rcases h.ok x with e|e
 ·have h1:=hB x hx
  have h2:=hB n hn
  rw[e]
  simp only[FV.never]
  omega
 ·obtain⟨p,hw⟩:=h.made x _ (qH0 e hr2)
  have:=hw.least hK (B:=v n*1000000) (fun y hy=>by subst hy;exact Int.le_refl _)
  have h3:=e.uses
  have h4:=e.len
  omega
end
end Go.Proofs.YtmncaipgefbalaaGreatDoor
