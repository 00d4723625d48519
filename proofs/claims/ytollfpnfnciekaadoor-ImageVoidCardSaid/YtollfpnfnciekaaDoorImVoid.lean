/- The walk of image.Void. -/
import Derived.Test.YtollfpnfnciekaaDoorImSum
namespace Go.Proofs.YtollfpnfnciekaaDoor
open Go.RowKit
set_option linter.unusedVariables false
set_option linter.unusedSimpArgs false
/-- what Void hands back -/
def VoidRes (n : Nat) (ss : Nat → SV) (m : Nat) (bs : Nat → BM) (k : Nat) (cs : Nat → Int) (most : Int) (w : World) (e : Ending) (w' : World) : Prop :=
  Below w.heap.size w w' ∧
  (if checkF n ss m bs (setB n k cs) = 0 then if allF n ss m bs = [] then e = .returned (.tuple #[.bool false, .int .i64 5])
    else e = .returned (.tuple #[.bool (decide ((bnd (fun f => sumL cs k (fOf f)) (allF n ss m bs)).hi ≤ most)), .int .i64 0])
  else e = .returned (.tuple #[.bool false, .int .i64 (checkF n ss m bs (setB n k cs))]))
set_option maxRecDepth 100000 in
set_option maxHeartbeats 2000000 in
theorem Void_any (a : Option Addr) (n c : Nat) (ba : Option Addr) (m bc : Nat) (ss : Nat → SV) (bs : Nat → BM) (ca : Option Addr) (k cc : Nat) (cs : Nat → Int) (most : Int) (w : World) (B : Nat) (hBw : B ≤ w.heap.size) (hS : Spans B w a n ss) (hM : Beams B w ba m bs) (hC : Ints w.heap.size w ca k cs) (hk : k ≤ maxLen) :
    Calls Tryd.prog 33 #[imageV a n c ba m bc, .slice ca k cc, .int .i64 most] w (VoidRes n ss m bs k cs most w) := by
  have HSU := Lib.hid (fun (W : World) (hb : Below w.heap.size w W) => Sum_any a n c ba m bc ss bs ca k cc cs W B (Nat.le_trans hBw hb.size) (hS.below (hb.mono hBw)) (hM.below (hb.mono hBw)) ((hC.below hb).up hb.size) hk)
  clear hS hM hC
  unfold VoidRes
  by_cases hE : checkF n ss m bs (setB n k cs) = 0
  · by_cases hA : allF n ss m bs = []
    · have HS2 := Lib.hid (fun (W : World) (hb : Below w.heap.size w W) => (HSU.out W hb).mono (R' := fun e w' => e = .returned (.tuple #[.agg #[.int .i64 0, .int .i64 0], .int .i64 5]) ∧ Below W.heap.size W w') fun e w' h => by
        have h2 := h.2
        rw [if_pos hE, if_pos hA] at h2
        exact ⟨h2, h.1⟩)
      simp only [if_pos hE, if_pos hA]
      clear HSU hE hA
      go_enter Tryd.func33, Tryd.ntmps33
      go_upto_region 1 with (fail)
      have HL := Lib.hid (show LI a n c ba m bc w (w.alloc (.cells #[.slice a n c, .slice ba m bc] 25)) from LI_start)
      generalize World.alloc w _ = V at *
      obtain ⟨l0, l1, l2, l3⟩ := HL.out
      go_upto_region 2 with (go_at_call 32; refine (HS2.out _ l3).mono ?_; rintro e w2 ⟨rfl, hb2⟩)
      have HW := Lib.hid ((l3.trans (hb2.mono l3.size)).trans ((alloc_below w2 (.cells #[.int .i64 0, .int .i64 0] 41)).mono (by have := hb2.size; omega)))
      generalize World.alloc w2 _ = V2 at *
      go_wp2
      refine bodyPost_ret (v := .tuple #[.bool false, .int .i64 5]) (by simp [results, Tryd.results33, go_sem]) rfl ?_
      exact ⟨HW.out, rfl⟩
    · have HS2 := Lib.hid (fun (W : World) (hb : Below w.heap.size w W) => (HSU.out W hb).mono (R' := fun e w' => e = .returned (.tuple #[.agg #[.int .i64 (bnd (fun f => sumL cs k (fOf f)) (allF n ss m bs)).lo, .int .i64 (bnd (fun f => sumL cs k (fOf f)) (allF n ss m bs)).hi], .int .i64 0]) ∧ Below W.heap.size W w') fun e w' h => by
        have h2 := h.2
        rw [if_pos hE, if_neg hA] at h2
        exact ⟨h2, h.1⟩)
      simp only [if_pos hE, if_neg hA]
      generalize bnd (fun f => sumL cs k (fOf f)) (allF n ss m bs) = S at *
      clear HSU hE hA
      go_enter Tryd.func33, Tryd.ntmps33
      go_upto_region 1 with (fail)
      have HL := Lib.hid (show LI a n c ba m bc w (w.alloc (.cells #[.slice a n c, .slice ba m bc] 25)) from LI_start)
      generalize World.alloc w _ = V at *
      obtain ⟨l0, l1, l2, l3⟩ := HL.out
      go_upto_region 2 with (go_at_call 32; refine (HS2.out _ l3).mono ?_; rintro e w2 ⟨rfl, hb2⟩)
      have HW := Lib.hid ((l3.trans (hb2.mono l3.size)).trans ((alloc_below w2 (.cells #[.int .i64 S.lo, .int .i64 S.hi] 41)).mono (by have := hb2.size; omega)))
      have hr := heap_alloc_new w2 (.cells #[.int .i64 S.lo, .int .i64 S.hi] 41)
      have c1 := (cell_of_row _ _ 1 _ _ _ hr).trans (show _ = some (Value.int .i64 S.hi) from rfl)
      clear hr
      generalize World.alloc w2 _ = V2 at *
      go_wp2
      refine bodyPost_ret (v := .tuple #[.bool (decide (S.hi ≤ most)), .int .i64 0]) (by simp [results, Tryd.results33, go_sem]) rfl ?_
      exact ⟨HW.out, rfl⟩
  · have HS2 := Lib.hid (fun (W : World) (hb : Below w.heap.size w W) => (HSU.out W hb).mono (R' := fun e w' => e = .returned (.tuple #[.agg #[.int .i64 0, .int .i64 0], .int .i64 (checkF n ss m bs (setB n k cs))]) ∧ Below W.heap.size W w') fun e w' h => by
      have h2 := h.2
      rw [if_neg hE] at h2
      exact ⟨h2, h.1⟩)
    simp only [if_neg hE]
    have hne : (checkF n ss m bs (setB n k cs) == 0) = false := by rw [beq_eq_false_iff_ne]; exact hE
    clear HSU hE
    generalize checkF n ss m bs (setB n k cs) = E at *
    have hne2 : (E != 0) = true := by rw [bne, hne]; rfl
    go_enter Tryd.func33, Tryd.ntmps33
    go_upto_region 1 with (fail)
    have HL := Lib.hid (show LI a n c ba m bc w (w.alloc (.cells #[.slice a n c, .slice ba m bc] 25)) from LI_start)
    generalize World.alloc w _ = V at *
    obtain ⟨l0, l1, l2, l3⟩ := HL.out
    go_upto_region 2 with (go_at_call 32; refine (HS2.out _ l3).mono ?_; rintro e w2 ⟨rfl, hb2⟩)
    have HW := Lib.hid ((l3.trans (hb2.mono l3.size)).trans ((alloc_below w2 (.cells #[.int .i64 0, .int .i64 0] 41)).mono (by have := hb2.size; omega)))
    generalize World.alloc w2 _ = V2 at *
    go_wp2
    refine bodyPost_ret (v := .tuple #[.bool false, .int .i64 E]) (by simp [results, Tryd.results33, go_sem]) rfl ?_
    exact ⟨HW.out, rfl⟩
end Go.Proofs.YtollfpnfnciekaaDoor
