/- slices.Backward over drift steps: its contract as an iterator. -/
import Derived.RangeFuncNested
import Derived.RangeFuncBound
import Derived.RangeFuncCalls
import Derived.RangeFuncLeaves
import Derived.RangeFuncBox
import Derived.Shelf.Abstract
import Derived.Shelf.RegionOpen
import Derived.OwnWalkIn
import Derived.TacticsInMore
import Derived.LoopNIn
import Derived.LoopIn
import Derived.Test.YtegimepmccilfaaGreatDoorPlaneT
import Derived.Test.YtegimepmccilfaaGreatDoorGateData
namespace Go.Proofs.YtegimepmccilfaaGreatDoor
open Go.RowKit Go.Shelf
set_option linter.unusedVariables false
set_option linter.unusedSimpArgs false
attribute [local go_sem] Oper.semAt_some
def upto {α : Type} (f : Nat → α) (k : Nat) : List α := (List.range k).map f
theorem upto_succ {α : Type} (f : Nat → α) (k : Nat) : upto f (k + 1) = upto f k ++ [f k] := by simp [upto, List.range_succ]
theorem upto_length {α : Type} (f : Nat → α) (k : Nat) : (upto f k).length = k := by simp [upto]
/-- what a round keeps: all below n₀, and the cell in which the iterator holds its slice -/
def KeepsBox (n₀ Bs : Nat) (W W' : World) : Prop := Below n₀ W W' ∧ W'.cell? ⟨Bs, 0, none⟩ = W.cell? ⟨Bs, 0, none⟩
theorem KeepsBox.trans {n₀ Bs : Nat} {A B C : World} (h : KeepsBox n₀ Bs A B) (k : KeepsBox n₀ Bs B C) : KeepsBox n₀ Bs A C := ⟨h.1.trans k.1, k.2.trans h.2⟩
/-- what the steps come as, the last one first -/
def backAt (n : Nat) (ds : Nat → DV) (j : Nat) : Nat × DV := (n - 1 - j, ds (n - 1 - j))
abbrev encDV (x : Nat × DV) : Array Value := #[.int .i64 (x.1 : Int), .agg #[.int .i64 x.2.time, .int .i64 x.2.lo, .int .i64 x.2.hi]]
set_option maxRecDepth 100000 in
set_option maxHeartbeats 2000000 in
theorem back1_in (n : Nat) (hn : 1 ≤ n) (l Bs n₀ b off len cap : Nat) (ds : Nat → DV) (hlen : len ≤ 9223372036854775807) (hb : b < n₀) (J Jx : List (Nat × DV) → World → Prop)
    (hY : ∀ pre x W, J pre W → pre.length < len → YieldAt Fence.wide (n - 1) Tryz.prog l (encDV x) W fun e W' =>
      (e = .returned (.bool true) ∧ J (pre ++ [x]) W' ∧ KeepsBox n₀ Bs W W') ∨ (e = .returned (.bool false) ∧ Jx (pre ++ [x]) W'))
    (W : World) (hBs : W.cell? ⟨Bs, 0, none⟩ = some (.slice (some ⟨b, off, none⟩) len cap))
    (hc : ∀ i, i < len → W.cell? ⟨b, off + i * 3, none⟩ = some (.int .i64 (ds i).time) ∧ W.cell? ⟨b, off + i * 3 + 1, none⟩ = some (.int .i64 (ds i).lo) ∧ W.cell? ⟨b, off + i * 3 + 2, none⟩ = some (.int .i64 (ds i).hi)) (h0 : J [] W) :
    CallsIn Fence.wide n Tryz.prog 100 #[.func (.yield l) #[] #[], .pointer (some ⟨Bs, 0, none⟩)] W fun e W' => (∃ v, e = .returned v) ∧
      ((∃ ys, ys = upto (backAt len ds) len ∧ J ys W') ∨ (∃ pre, (∃ k, k ≤ len ∧ pre = upto (backAt len ds) k) ∧ Jx pre W')) := by
  refine callsIn_of_wp Tryz.func100 rfl trivial ?_ rfl
  simp only [Tryz.ntmps100, List.size_toArray, List.length_cons, List.length_nil, Nat.reduceAdd, Nat.reduceSub, Array.replicate_succ, Array.replicate_zero, List.push_toArray, List.append_toArray, List.nil_append, List.cons_append]
  gi_wp2
  gi_loopw [3] (fun t wr => ∃ j m : Nat, j + m = len ∧ t = .int .i64 ((j : Int) - 1) ∧ J (upto (backAt len ds) m) wr ∧ KeepsBox n₀ Bs W wr) (fun t _ => (intOf t + 1).toNat)
  case atStart => exact ⟨len, 0, rfl, rfl, h0, Below.refl _ _, rfl⟩
  case round =>
    obtain ⟨j, m, hjm, rfl, hJs, hnx⟩ := hrel
    have HJ := Lib.hid hjm
    by_cases hlt : 0 < j
    · obtain ⟨c0, c1, c2⟩ := hc (j - 1) (by omega)
      have k0 := (hnx.1.cell (p := ⟨b, off + (j - 1) * 3, none⟩) hb).trans c0
      have k1 := (hnx.1.cell (p := ⟨b, off + (j - 1) * 3 + 1, none⟩) hb).trans c1
      have k2 := (hnx.1.cell (p := ⟨b, off + (j - 1) * 3 + 2, none⟩) hb).trans c2
      have kb := hnx.2.trans hBs
      have hi4 : j - 1 < len := by omega
      have hi1 : (1 : Int) ≤ (j : Int) := by omega
      have hbk : backAt len ds m = (j - 1, ds (j - 1)) := by unfold backAt; rw [show len - 1 - m = j - 1 by omega]
      have HBK := Lib.hid hbk
      obtain ⟨fn, tmps, assign, body, hy, hR⟩ := hY _ (j - 1, ds (j - 1)) wr hJs (by rw [upto_length]; omega)
      unfold encDV at hy
      dsimp only at hy
      rw [show (((j - 1 : Nat) : Int)) = (j : Int) - 1 by omega] at hy
      clear hY hc c0 c1 c2 hbk hjm
      gi_wp2
      refine hR.mono ?_
      rintro e W3 (⟨rfl, hJ3, hk3⟩ | ⟨rfl, hJx3⟩)
      · gi_wp2
        go_roundw
        case rel => exact ⟨j - 1, m + 1, by have := HJ.out; omega, congrArg (Value.int .i64) (by omega), by rw [upto_succ, HBK.out]; exact hJ3, hnx.trans hk3⟩
        case measure => simp [intOf]; omega
      · gi_wp2
        refine bodyPost_ret (results_none rfl _ _ _) rfl ?_
        exact ⟨⟨_, rfl⟩, .inr ⟨_, ⟨m + 1, by have := HJ.out; omega, by rw [upto_succ, HBK.out]⟩, hJx3⟩⟩
    · obtain rfl : j = 0 := by omega
      obtain rfl : m = len := by omega
      gi_wp2
      go_end0
      exact ⟨⟨_, rfl⟩, .inl ⟨_, rfl, hJs⟩⟩
set_option maxRecDepth 100000 in
set_option maxHeartbeats 1000000 in
theorem back0_in (n : Nat) (l Bs cap : Nat) (a : Option Addr) (J : List (Nat × DV) → World → Prop) (W : World) (hBs : W.cell? ⟨Bs, 0, none⟩ = some (.slice a 0 cap)) (h0 : J [] W) :
    CallsIn Fence.wide n Tryz.prog 100 #[.func (.yield l) #[] #[], .pointer (some ⟨Bs, 0, none⟩)] W fun e W' => (∃ v, e = .returned v) ∧ J [] W' := by
  refine callsIn_of_wp Tryz.func100 rfl trivial ?_ rfl
  simp only [Tryz.ntmps100, List.size_toArray, List.length_cons, List.length_nil, Nat.reduceAdd, Nat.reduceSub, Array.replicate_succ, Array.replicate_zero, List.push_toArray, List.append_toArray, List.nil_append, List.cons_append]
  gi_wp2
  gi_loopw [3] (fun t wr => t = .int .i64 (-1) ∧ J [] wr) (fun _ _ => 0)
  case atStart => exact ⟨rfl, h0⟩
  case round =>
    obtain ⟨rfl, hJs⟩ := hrel
    gi_wp2
    go_end0
    exact ⟨⟨_, rfl⟩, hJs⟩
set_option maxHeartbeats 400000 in
theorem back_any (a : Option Addr) (len cap : Nat) (w : World) :
    Calls Tryz.prog 77 #[.slice a len cap] w fun e w' => e = .returned (.func (.func 100) #[] #[.pointer (some ⟨w.heap.size, 0, none⟩)]) ∧ w.alloc (.cells #[.slice a len cap] 39) = w' := by
  go_enter Tryz.func77, Tryz.ntmps77
  go_wp2
  go_ret
  exact ⟨rfl, rfl⟩
theorem back_stops (n : Nat) (hn : 1 ≤ n) (Bs n₀ : Nat) (a : Option Addr) (len cap : Nat) (ds : Nat → DV) (hlen : len ≤ 9223372036854775807) (w : World) (hBs : Bs < w.heap.size) (hn₀ : n₀ ≤ w.heap.size)
    (hc : w.cell? ⟨Bs, 0, none⟩ = some (.slice a len cap)) (hD : Drifts n₀ w a len ds) :
    SeqStopsK Fence.wide n Tryz.prog 100 #[.pointer (some ⟨Bs, 0, none⟩)] encDV (KeepsBox n₀ Bs) (fun ys => ys = upto (backAt len ds) len) (fun pre => ∃ k, k ≤ len ∧ pre = upto (backAt len ds) k) len w := fun l J Jx W hW _ _ hY h0 => by
  have hc' := (hW.cell (p := ⟨Bs, 0, none⟩) hBs).trans hc
  rcases hD.below (hW.mono hn₀) with rfl | ⟨b, off, rfl, hb, hcs⟩
  · exact (back0_in n l Bs cap a J W hc' h0).mono fun e W' ⟨he, hj⟩ => ⟨he, .inl ⟨_, rfl, hj⟩⟩
  · exact back1_in n hn l Bs n₀ b off len cap ds hlen hb J Jx hY W hc' hcs h0
end Go.Proofs.YtegimepmccilfaaGreatDoor
