/- The walk of the statement ImageHolds. -/
import Derived.Test.YtaocbfhokadppaaDoorGrA
import Derived.Test.YtaocbfhokadppaaDoorGtA
namespace Go.Proofs.YtaocbfhokadppaaDoor
open Go.RowKit
set_option linter.unusedVariables false
set_option linter.unusedSimpArgs false
set_option maxRecDepth 100000 in
set_option maxHeartbeats 4000000 in
theorem ImageHolds_any (a : Option Addr) (n c : Nat) (ba : Option Addr) (m bc : Nat) (ss : Nat → SV) (bs : Nat → BM) (na : Option Addr) (len nc : Nat) (ns : Nat → NM) (w : World) (B : Nat) (hBw : B ≤ w.heap.size) (hS : Spans B w a n ss) (hM : Beams B w ba m bs) (hnc : n ≤ c) (hcm : c ≤ maxLen) (hN : Nodes B w na len ns) (hln : len ≤ maxLen) (ht : Lib.TabIs Tryd.prog w "internal/strconv.uint64pow10" .u64 Lib.pow10Tab) :
    Calls Tryd.prog 3 #[imageV a n c ba m bc, .slice na len nc] w fun e w' => e = .returned (.bool true) ∧ Below w.heap.size w w' := by
  have HI := Lib.hid (show ImIn B a n c ba m bc ss bs w from ⟨hBw, hS, hM, Lib.tabBelow_of_tabIs ht⟩)
  have HKN := Lib.hid (fun (W : World) (hb : Below w.heap.size w W) => HI.out.known hb)
  have HST := Lib.hid (fun (W : World) (hb : Below w.heap.size w W) => short_any a n c ba m bc bs W B (HI.out.B' hb) hS.1 (HI.out.M hb))
  have HNO := Lib.hid (fun (W : World) (hb : Below w.heap.size w W) => nodes_any na len nc ns 200 W B (HI.out.B' hb) (hN.below (hb.mono hBw)) hln)
  have HHO := Lib.hid (fun (W : World) (hb : Below w.heap.size w W) => Holds_any a n c ba m bc ss bs na len nc ns ⟨hnc, hcm⟩ hln W B (HI.out.B' hb) (HI.out.S hb) (HI.out.M hb) (hN.below (hb.mono hBw)))
  have HCH := Lib.hid (fun (W : World) (hb : Below w.heap.size w W) => r8Check_any a n c ba m bc ss bs W B (HI.out.B' hb) (HI.out.S hb) (HI.out.M hb))
  have HRH0 := Lib.hid (fun (hC : checkN n ss m bs = 0) (W : World) (hb : Below w.heap.size w W) => r8Holds_any a n c ba m bc ss bs na len nc ns hln W B (HI.out.B' hb) (HI.out.S hb) (HI.out.M hb) (hN.below (hb.mono hBw)) hC)
  have HNB := Lib.hid (fun (hC : checkN n ss m bs ≠ 0) => show holdsB n ss m bs len ns = false from by unfold holdsB; rw [decide_eq_false hC, Bool.false_and])
  clear hS hM hN ht HI
  cases h1 : shortB n m bs
  · rw [h1] at HST
    go_enter Tryd.func3, Tryd.ntmps3; go_upto_region 1 with (fail); have HL := Lib.hid (show LI a n c ba m bc w (w.alloc (.cells #[.slice a n c, .slice ba m bc] 25)) from LI_start); generalize World.alloc w _ = V at *; obtain ⟨l0, l1, l2, l3⟩ := HL.out
    go_wp2_with (first | (go_at_call 7; refine (HST.out _ l3).mono ?_; rintro e w2 ⟨rfl, hb2⟩; have HLx := Lib.hid (LI_step HL.out hb2); clear HL hb2; have HL := HLx; clear HLx; (try clear l0 l1 l2 l3); obtain ⟨l0, l1, l2, l3⟩ := HL.out) | (go_at_call 9; refine (HKN.out _ l3).mono ?_; rintro e w7 ⟨rfl, hb7⟩; have HLx := Lib.hid (LI_step HL.out hb7); clear HL hb7; have HL := HLx; clear HLx; (try clear l0 l1 l2 l3); obtain ⟨l0, l1, l2, l3⟩ := HL.out))
    go_ret
    exact ⟨rfl, l3⟩
  · rw [h1] at HST
    cases h2 : nodesB len ns 200
    · rw [h2] at HNO
      go_enter Tryd.func3, Tryd.ntmps3; go_upto_region 1 with (fail); have HL := Lib.hid (show LI a n c ba m bc w (w.alloc (.cells #[.slice a n c, .slice ba m bc] 25)) from LI_start); generalize World.alloc w _ = V at *; obtain ⟨l0, l1, l2, l3⟩ := HL.out
      go_wp2_with (first | (go_at_call 7; refine (HST.out _ l3).mono ?_; rintro e w2 ⟨rfl, hb2⟩; have HLx := Lib.hid (LI_step HL.out hb2); clear HL hb2; have HL := HLx; clear HLx; (try clear l0 l1 l2 l3); obtain ⟨l0, l1, l2, l3⟩ := HL.out) | (go_at_call 8; refine (HNO.out _ l3).mono ?_; rintro e w3 ⟨rfl, hb3⟩; have HLx := Lib.hid (LI_step HL.out hb3); clear HL hb3; have HL := HLx; clear HLx; (try clear l0 l1 l2 l3); obtain ⟨l0, l1, l2, l3⟩ := HL.out) | (go_at_call 9; refine (HKN.out _ l3).mono ?_; rintro e w7 ⟨rfl, hb7⟩; have HLx := Lib.hid (LI_step HL.out hb7); clear HL hb7; have HL := HLx; clear HLx; (try clear l0 l1 l2 l3); obtain ⟨l0, l1, l2, l3⟩ := HL.out))
      go_ret
      exact ⟨rfl, l3⟩
    · rw [h2] at HNO
      by_cases hC : checkN n ss m bs = 0
      · have HRH := Lib.hid (HRH0.out hC)
        rw [hC] at HCH
        clear HRH0 HNB hC
        cases h3 : holdsB n ss m bs len ns
        · rw [h3] at HHO HRH
          go_enter Tryd.func3, Tryd.ntmps3; go_upto_region 1 with (fail); have HL := Lib.hid (show LI a n c ba m bc w (w.alloc (.cells #[.slice a n c, .slice ba m bc] 25)) from LI_start); generalize World.alloc w _ = V at *; obtain ⟨l0, l1, l2, l3⟩ := HL.out
          go_wp2_with (first | (go_at_call 7; refine (HST.out _ l3).mono ?_; rintro e w2 ⟨rfl, hb2⟩; have HLx := Lib.hid (LI_step HL.out hb2); clear HL hb2; have HL := HLx; clear HLx; (try clear l0 l1 l2 l3); obtain ⟨l0, l1, l2, l3⟩ := HL.out) | (go_at_call 8; refine (HNO.out _ l3).mono ?_; rintro e w3 ⟨rfl, hb3⟩; have HLx := Lib.hid (LI_step HL.out hb3); clear HL hb3; have HL := HLx; clear HLx; (try clear l0 l1 l2 l3); obtain ⟨l0, l1, l2, l3⟩ := HL.out) | (go_at_call 10; refine (HHO.out _ l3).mono ?_; rintro e w4 ⟨rfl, hb4⟩; have HLx := Lib.hid (LI_step HL.out hb4); clear HL hb4; have HL := HLx; clear HLx; (try clear l0 l1 l2 l3); obtain ⟨l0, l1, l2, l3⟩ := HL.out) | (go_at_call 11; refine (HCH.out _ l3).mono ?_; rintro e w5 ⟨rfl, hb5⟩; have HLx := Lib.hid (LI_step HL.out hb5); clear HL hb5; have HL := HLx; clear HLx; (try clear l0 l1 l2 l3); obtain ⟨l0, l1, l2, l3⟩ := HL.out) | (go_at_call 12; refine (HRH.out _ l3).mono ?_; rintro e w6 ⟨rfl, hb6⟩; have HLx := Lib.hid (LI_step HL.out hb6); clear HL hb6; have HL := HLx; clear HLx; (try clear l0 l1 l2 l3); obtain ⟨l0, l1, l2, l3⟩ := HL.out) | (go_at_call 9; refine (HKN.out _ l3).mono ?_; rintro e w7 ⟨rfl, hb7⟩; have HLx := Lib.hid (LI_step HL.out hb7); clear HL hb7; have HL := HLx; clear HLx; (try clear l0 l1 l2 l3); obtain ⟨l0, l1, l2, l3⟩ := HL.out))
          go_ret
          exact ⟨rfl, l3⟩
        · rw [h3] at HHO HRH
          go_enter Tryd.func3, Tryd.ntmps3; go_upto_region 1 with (fail); have HL := Lib.hid (show LI a n c ba m bc w (w.alloc (.cells #[.slice a n c, .slice ba m bc] 25)) from LI_start); generalize World.alloc w _ = V at *; obtain ⟨l0, l1, l2, l3⟩ := HL.out
          go_wp2_with (first | (go_at_call 7; refine (HST.out _ l3).mono ?_; rintro e w2 ⟨rfl, hb2⟩; have HLx := Lib.hid (LI_step HL.out hb2); clear HL hb2; have HL := HLx; clear HLx; (try clear l0 l1 l2 l3); obtain ⟨l0, l1, l2, l3⟩ := HL.out) | (go_at_call 8; refine (HNO.out _ l3).mono ?_; rintro e w3 ⟨rfl, hb3⟩; have HLx := Lib.hid (LI_step HL.out hb3); clear HL hb3; have HL := HLx; clear HLx; (try clear l0 l1 l2 l3); obtain ⟨l0, l1, l2, l3⟩ := HL.out) | (go_at_call 10; refine (HHO.out _ l3).mono ?_; rintro e w4 ⟨rfl, hb4⟩; have HLx := Lib.hid (LI_step HL.out hb4); clear HL hb4; have HL := HLx; clear HLx; (try clear l0 l1 l2 l3); obtain ⟨l0, l1, l2, l3⟩ := HL.out) | (go_at_call 11; refine (HCH.out _ l3).mono ?_; rintro e w5 ⟨rfl, hb5⟩; have HLx := Lib.hid (LI_step HL.out hb5); clear HL hb5; have HL := HLx; clear HLx; (try clear l0 l1 l2 l3); obtain ⟨l0, l1, l2, l3⟩ := HL.out) | (go_at_call 12; refine (HRH.out _ l3).mono ?_; rintro e w6 ⟨rfl, hb6⟩; have HLx := Lib.hid (LI_step HL.out hb6); clear HL hb6; have HL := HLx; clear HLx; (try clear l0 l1 l2 l3); obtain ⟨l0, l1, l2, l3⟩ := HL.out) | (go_at_call 9; refine (HKN.out _ l3).mono ?_; rintro e w7 ⟨rfl, hb7⟩; have HLx := Lib.hid (LI_step HL.out hb7); clear HL hb7; have HL := HLx; clear HLx; (try clear l0 l1 l2 l3); obtain ⟨l0, l1, l2, l3⟩ := HL.out))
          go_ret
          exact ⟨rfl, l3⟩
      · rw [HNB.out hC] at HHO
        have hne : (checkN n ss m bs == 0) = false := by rw [beq_eq_false_iff_ne]; exact hC
        clear HRH0 HNB hC
        generalize checkN n ss m bs = E at *
        have hne2 : (E != 0) = true := by rw [bne, hne]; rfl
        go_enter Tryd.func3, Tryd.ntmps3; go_upto_region 1 with (fail); have HL := Lib.hid (show LI a n c ba m bc w (w.alloc (.cells #[.slice a n c, .slice ba m bc] 25)) from LI_start); generalize World.alloc w _ = V at *; obtain ⟨l0, l1, l2, l3⟩ := HL.out
        go_wp2_with (first | (go_at_call 7; refine (HST.out _ l3).mono ?_; rintro e w2 ⟨rfl, hb2⟩; have HLx := Lib.hid (LI_step HL.out hb2); clear HL hb2; have HL := HLx; clear HLx; (try clear l0 l1 l2 l3); obtain ⟨l0, l1, l2, l3⟩ := HL.out) | (go_at_call 8; refine (HNO.out _ l3).mono ?_; rintro e w3 ⟨rfl, hb3⟩; have HLx := Lib.hid (LI_step HL.out hb3); clear HL hb3; have HL := HLx; clear HLx; (try clear l0 l1 l2 l3); obtain ⟨l0, l1, l2, l3⟩ := HL.out) | (go_at_call 10; refine (HHO.out _ l3).mono ?_; rintro e w4 ⟨rfl, hb4⟩; have HLx := Lib.hid (LI_step HL.out hb4); clear HL hb4; have HL := HLx; clear HLx; (try clear l0 l1 l2 l3); obtain ⟨l0, l1, l2, l3⟩ := HL.out) | (go_at_call 11; refine (HCH.out _ l3).mono ?_; rintro e w5 ⟨rfl, hb5⟩; have HLx := Lib.hid (LI_step HL.out hb5); clear HL hb5; have HL := HLx; clear HLx; (try clear l0 l1 l2 l3); obtain ⟨l0, l1, l2, l3⟩ := HL.out) | (go_at_call 9; refine (HKN.out _ l3).mono ?_; rintro e w7 ⟨rfl, hb7⟩; have HLx := Lib.hid (LI_step HL.out hb7); clear HL hb7; have HL := HLx; clear HLx; (try clear l0 l1 l2 l3); obtain ⟨l0, l1, l2, l3⟩ := HL.out))
        go_ret
        exact ⟨rfl, l3⟩
end Go.Proofs.YtaocbfhokadppaaDoor
