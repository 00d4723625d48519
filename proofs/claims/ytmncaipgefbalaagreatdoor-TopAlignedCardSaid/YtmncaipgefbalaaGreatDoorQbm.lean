/- Part of the proof of the claim. -/
import Derived.Test.YtmncaipgefbalaaGreatDoorQbl
set_option maxRecDepth 100000
set_option maxHeartbeats 8000000
set_option linter.unusedVariables false
set_option linter.unusedSimpArgs false
namespace Go.Proofs.YtmncaipgefbalaaGreatDoor
section
structure BS where
 c:Nat
 s:Nat
 h:Nat
 out:Bool
def T5(T P k L:Nat)(b:BS)(hit:Bool):BS:=if b.out=true then b else
 ⟨if hit=true then A7 T P k b.c b.s b.h else A8 T P k b.c b.s b.h,b.s+1,if hit=true then b.h+1 else b.h,decide (L≤if hit=true then A7 T P k b.c b.s b.h else A8 T P k b.c b.s b.h)⟩
def kR1(T P k L:Nat)(b:BS)(o:List Bool):BS:=o.foldl (T5 T P k L) b
theorem jN0{T P k L:Nat}{b:BS}(h:b.h≤b.s)(x:Bool):(T5 T P k L b x).h≤(T5 T P k L b x).s∧(T5 T P k L b x).s≤b.s+1:=by
 unfold T5
 split
 ·omega
 ·dsimp only
  split<;>omega
theorem xA0{T P k c s h:Nat}(hc:c≤T):A7 T P k c s h≤T:=by
 unfold A7
 split
 ·omega
 ·split
  ·exact hc
  ·exact Nat.min_le_left _ _
theorem xA1{T P k c s h:Nat}(hc:c≤T):A8 T P k c s h≤T:=by
 unfold A8
 split
 ·exact hc
 ·split
  ·omega
  ·exact Nat.min_le_left _ _
theorem kJ6{T P k L:Nat}{b:BS}(h:b.c≤T)(x:Bool):(T5 T P k L b x).c≤T:=by
 unfold T5
 split
 ·exact h
 ·dsimp only
  split
  ·exact xA0 h
  ·exact xA1 h
end
end Go.Proofs.YtmncaipgefbalaaGreatDoor
