/- The walk of image.Free. -/
import Derived.Test.YtlfegmjdheddjaaDoorImFree
import Derived.Test.YtlfegmjdheddjaaDoorGzA
namespace Go.Proofs.YtlfegmjdheddjaaDoor
open Go.RowKit
set_option linter.unusedVariables false
set_option linter.unusedSimpArgs false
theorem own_frI {W : World} {base : Nat} {oa : Option Addr} {oc n : Nat} {g : Nat → Bool} (h : W.ownsRow base 3 1 (.slice oa (freeL g n).length oc) (freeL g n).length (nC (freeL g n))) : Ints W.heap.size W oa (freeL g n).length (fOf (frI g n)) := by
  by_cases h0 : (freeL g n).length = 0
  · exact .inl h0
  · obtain ⟨b, rfl, _, hb⟩ := own_at h (by omega)
    refine .inr ⟨b, 0, rfl, hb, fun i hi => ?_⟩
    rw [Nat.zero_add, h.cellAt i (by omega)]
    unfold nC fOf frI
    rw [List.getD_eq_getElem?_getD, List.getElem?_map, List.getElem?_map, List.getElem?_eq_getElem hi]
    rfl
/-- what Free hands back -/
def FrRes (n : Nat) (ss : Nat → SV) (m : Nat) (bs : Nat → BM) (w : World) (e : Ending) (w' : World) : Prop :=
  Below w.heap.size w w' ∧
  (if checkN n ss m bs = 0 then if allF n ss m bs = [] then e = .returned (.tuple #[.slice none 0 0, .int .i64 5])
    else ∃ a c, e = .returned (.tuple #[.slice a (freeL (freeC ss m bs (allF n ss m bs)) n).length c, .int .i64 0]) ∧ Ints w'.heap.size w' a (freeL (freeC ss m bs (allF n ss m bs)) n).length (fOf (frI (freeC ss m bs (allF n ss m bs)) n))
  else e = .returned (.tuple #[.slice none 0 0, .int .i64 (checkN n ss m bs)]))
set_option maxRecDepth 100000 in
set_option maxHeartbeats 2000000 in
theorem Free_any (a : Option Addr) (n c : Nat) (ba : Option Addr) (m bc : Nat) (ss : Nat → SV) (bs : Nat → BM) (w : World) (B : Nat) (hBw : B ≤ w.heap.size) (hS : Spans B w a n ss) (hM : Beams B w ba m bs) :
    Calls Tryd.prog 19 #[imageV a n c ba m bc] w (FrRes n ss m bs w) := by
  have HCK := Lib.hid (fun (W : World) (hb : Below w.heap.size w W) => Check_any a n c ba m bc ss bs W B (Nat.le_trans hBw hb.size) (hS.below (hb.mono hBw)) (hM.below (hb.mono hBw)))
  unfold FrRes
  by_cases hC : checkN n ss m bs = 0
  · have HFR := Lib.hid (fun (W : World) (hb : Below w.heap.size w W) => (free_any a n c ba m bc ss bs W B (Nat.le_trans hBw hb.size) (hS.below (hb.mono hBw)) (hM.below (hb.mono hBw)) (checkN_shape hC)).mono (R' := fun e w' => (∃ ra rc, e = .returned (.tuple #[.slice ra (freeL (freeC ss m bs (allF n ss m bs)) n).length rc, .bool (!(allF n ss m bs).isEmpty)]) ∧ Ints w'.heap.size w' ra (freeL (freeC ss m bs (allF n ss m bs)) n).length (fOf (frI (freeC ss m bs (allF n ss m bs)) n))) ∧ Below W.heap.size W w') fun e w' h => by
      obtain ⟨h1, ra, rc, h2, h3⟩ := h
      exact ⟨⟨ra, rc, h2, own_frI h3⟩, h1⟩)
    simp only [if_pos hC]
    rw [hC] at HCK
    clear hS hM hC
    by_cases hA : allF n ss m bs = []
    · simp only [if_pos hA]
      have hfl : (!(allF n ss m bs).isEmpty) = false := by rw [hA]; rfl
      rw [hfl] at HFR
      clear hA hfl
      generalize (freeL (freeC ss m bs (allF n ss m bs)) n).length = K at *
      go_enter Tryd.func19, Tryd.ntmps19; go_upto_region 1 with (fail); have HL := Lib.hid (show LI a n c ba m bc w (w.alloc (.cells #[.slice a n c, .slice ba m bc] 25)) from LI_start); generalize World.alloc w _ = V at *; obtain ⟨l0, l1, l2, l3⟩ := HL.out
      go_wp2_with (first | (go_at_call 54; refine (HCK.out _ l3).mono ?_; rintro e w2 ⟨rfl, hb2⟩; have HLx := Lib.hid (LI_step HL.out hb2); clear HL hb2; have HL := HLx; clear HLx; (try clear l0 l1 l2 l3); obtain ⟨l0, l1, l2, l3⟩ := HL.out) | (go_at_call 55; refine (HFR.out _ l3).mono ?_; rintro e w3 ⟨⟨ra, rc, rfl, hr⟩, hb3⟩; have HI := Lib.hid hr; clear hr; have HLx := Lib.hid (LI_step HL.out hb3); clear HL hb3; have HL := HLx; clear HLx; (try clear l0 l1 l2 l3); obtain ⟨l0, l1, l2, l3⟩ := HL.out))
      refine bodyPost_ret (v := .tuple #[.slice none 0 0, .int .i64 5]) (by simp [results, Tryd.results19, go_sem]) rfl ?_
      exact ⟨l3, rfl⟩
    · simp only [if_neg hA]
      have hfl : (!(allF n ss m bs).isEmpty) = true := by cases e : allF n ss m bs; exact absurd e hA; rfl
      rw [hfl] at HFR
      clear hA hfl
      generalize (freeL (freeC ss m bs (allF n ss m bs)) n).length = K at *
      go_enter Tryd.func19, Tryd.ntmps19; go_upto_region 1 with (fail); have HL := Lib.hid (show LI a n c ba m bc w (w.alloc (.cells #[.slice a n c, .slice ba m bc] 25)) from LI_start); generalize World.alloc w _ = V at *; obtain ⟨l0, l1, l2, l3⟩ := HL.out
      go_wp2_with (first | (go_at_call 54; refine (HCK.out _ l3).mono ?_; rintro e w2 ⟨rfl, hb2⟩; have HLx := Lib.hid (LI_step HL.out hb2); clear HL hb2; have HL := HLx; clear HLx; (try clear l0 l1 l2 l3); obtain ⟨l0, l1, l2, l3⟩ := HL.out) | (go_at_call 55; refine (HFR.out _ l3).mono ?_; rintro e w3 ⟨⟨ra, rc, rfl, hr⟩, hb3⟩; have HI := Lib.hid hr; clear hr; have HLx := Lib.hid (LI_step HL.out hb3); clear HL hb3; have HL := HLx; clear HLx; (try clear l0 l1 l2 l3); obtain ⟨l0, l1, l2, l3⟩ := HL.out))
      refine bodyPost_ret (v := .tuple #[.slice ra K rc, .int .i64 0]) (by simp [results, Tryd.results19, go_sem]) rfl ?_
      exact ⟨l3, _, _, rfl, HI.out⟩
  · simp only [if_neg hC]
    have hne : (checkN n ss m bs == 0) = false := by rw [beq_eq_false_iff_ne]; exact hC
    clear hS hM hC
    generalize checkN n ss m bs = E at *
    have hne2 : (E != 0) = true := by rw [bne, hne]; rfl
    go_enter Tryd.func19, Tryd.ntmps19; go_upto_region 1 with (fail); have HL := Lib.hid (show LI a n c ba m bc w (w.alloc (.cells #[.slice a n c, .slice ba m bc] 25)) from LI_start); generalize World.alloc w _ = V at *; obtain ⟨l0, l1, l2, l3⟩ := HL.out
    go_wp2_with (first | (go_at_call 54; refine (HCK.out _ l3).mono ?_; rintro e w2 ⟨rfl, hb2⟩; have HLx := Lib.hid (LI_step HL.out hb2); clear HL hb2; have HL := HLx; clear HLx; (try clear l0 l1 l2 l3); obtain ⟨l0, l1, l2, l3⟩ := HL.out))
    refine bodyPost_ret (v := .tuple #[.slice none 0 0, .int .i64 E]) (by simp [results, Tryd.results19, go_sem]) rfl ?_
    exact ⟨l3, rfl⟩
end Go.Proofs.YtlfegmjdheddjaaDoor
