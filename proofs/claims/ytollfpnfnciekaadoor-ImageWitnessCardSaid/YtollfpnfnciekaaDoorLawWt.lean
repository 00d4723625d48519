/- The walk of the statement ImageWitness. -/
import Derived.Test.YtollfpnfnciekaaDoorGrA
import Derived.Test.YtollfpnfnciekaaDoorRefAl
import Derived.Test.YtollfpnfnciekaaDoorGqA
import Derived.Test.YtollfpnfnciekaaDoorRefWit
import Derived.Test.YtollfpnfnciekaaDoorImWit
namespace Go.Proofs.YtollfpnfnciekaaDoor
open Go.RowKit
set_option linter.unusedVariables false
set_option linter.unusedSimpArgs false
theorem wit_no {a : Option Addr} {n c : Nat} {ba : Option Addr} {m bc : Nat} {ss : Nat → SV} {bs : Nat → BM} {cell d : Int} {w W : World} {B : Nat} (h : ImIn B a n c ba m bc ss bs w) (hb : Below w.heap.size w W) {E : Int} (hE : checkF n ss m bs (inB cell 0 ((n : Int) - 1)) = E) (h0 : E ≠ 0) :
    Calls Tryd.prog 21 #[imageV a n c ba m bc, .int .i64 cell, .int .i64 d] W fun e w' => e = .returned (.tuple #[.slice none 0 0, .int .i64 E]) ∧ Below W.heap.size W w' :=
  (Witness_any a n c ba m bc ss bs cell d W B (h.B' hb) (h.S hb) (h.M hb)).mono fun e w' h => by
    have h2 := h.2
    rw [hE, if_neg h0] at h2
    exact ⟨h2, h.1⟩
theorem wit_none {a : Option Addr} {n c : Nat} {ba : Option Addr} {m bc : Nat} {ss : Nat → SV} {bs : Nat → BM} {cell d : Int} {w W : World} {B : Nat} (h : ImIn B a n c ba m bc ss bs w) (hb : Below w.heap.size w W) (hE : checkF n ss m bs (inB cell 0 ((n : Int) - 1)) = 0) (h0 : witL n ss m bs cell d = []) :
    Calls Tryd.prog 21 #[imageV a n c ba m bc, .int .i64 cell, .int .i64 d] W fun e w' => e = .returned (.tuple #[.slice none 0 0, .int .i64 5]) ∧ Below W.heap.size W w' :=
  (Witness_any a n c ba m bc ss bs cell d W B (h.B' hb) (h.S hb) (h.M hb)).mono fun e w' h => by
    have h2 := h.2
    rw [if_pos hE, h0] at h2
    exact ⟨h2, h.1⟩
theorem wit_some {a : Option Addr} {n c : Nat} {ba : Option Addr} {m bc : Nat} {ss : Nat → SV} {bs : Nat → BM} {cell d : Int} {w W : World} {B : Nat} (h : ImIn B a n c ba m bc ss bs w) (hb : Below w.heap.size w W) (hE : checkF n ss m bs (inB cell 0 ((n : Int) - 1)) = 0) {g : List Int} {t : List (List Int)} (h0 : witL n ss m bs cell d = g :: t) :
    Calls Tryd.prog 21 #[imageV a n c ba m bc, .int .i64 cell, .int .i64 d] W fun e w' => (∃ fa fc, e = .returned (.tuple #[.slice fa n fc, .int .i64 0]) ∧ Ints w'.heap.size w' fa n (fOf g)) ∧ Below W.heap.size W w' :=
  (Witness_any a n c ba m bc ss bs cell d W B (h.B' hb) (h.S hb) (h.M hb)).mono fun e w' h => by
    have h2 := h.2
    rw [if_pos hE, h0] at h2
    obtain ⟨fa, fc, he, b, ha, _, hlt, hc⟩ := h2
    exact ⟨⟨fa, fc, he, .inr ⟨b, 0, ha, hlt, fun i hi => by rw [Nat.zero_add]; exact hc i hi⟩⟩, h.1⟩
theorem all_len {n m : Nat} {ss : Nat → SV} {bs : Nat → BM} (hC : checkN n ss m bs = 0) : (allF n ss m bs).length ≤ 200000 := by
  have h1 : longB n ss 200000 = false := by
    cases e : longB n ss 200000
    · rfl
    · unfold checkN at hC
      rw [if_neg (by rw [shapeB_iff.2 (checkN_shape hC)]; decide), if_pos e] at hC
      cases hC
  have := allF_le (checkN_shape hC) h1
  omega
set_option maxRecDepth 100000 in
set_option maxHeartbeats 4000000 in
theorem ImageWitness_any (a : Option Addr) (n c : Nat) (ba : Option Addr) (m bc : Nat) (ss : Nat → SV) (bs : Nat → BM) (cell d : Int) (w : World) (B : Nat) (hBw : B ≤ w.heap.size) (hS : Spans B w a n ss) (hM : Beams B w ba m bs) (ht : Lib.TabIs Tryd.prog w "internal/strconv.uint64pow10" .u64 Lib.pow10Tab) :
    Calls Tryd.prog 5 #[imageV a n c ba m bc, .int .i64 cell, .int .i64 d] w fun e w' => e = .returned (.bool true) ∧ Below w.heap.size w w' := by
  have HI := Lib.hid (show ImIn B a n c ba m bc ss bs w from ⟨hBw, hS, hM, Lib.tabBelow_of_tabIs ht⟩)
  have HKN := Lib.hid (fun (W : World) (hb : Below w.heap.size w W) => HI.out.known hb)
  have HSM := Lib.hid (fun (W : World) (hb : Below w.heap.size w W) => small_any a n c ba m bc ss bs 3000 W B (HI.out.B' hb) (HI.out.S hb) (HI.out.M hb))
  have HCH := Lib.hid (fun (W : World) (hb : Below w.heap.size w W) => r8Check_any a n c ba m bc ss bs W B (HI.out.B' hb) (HI.out.S hb) (HI.out.M hb))
  have HSP := Lib.hid (fun (W : World) (hb : Below w.heap.size w W) => r8Shape_any a n c ba m bc ss bs W B (HI.out.B' hb) (HI.out.S hb) (HI.out.M hb))
  have hnl := hS.1
  have hnl' := hS.1
  unfold maxLen at hnl'
  clear hS hM ht
  cases hsm : smallB n ss m bs 3000
  · rw [hsm] at HSM
    clear HI
    go_enter Tryd.func5, Tryd.ntmps5; go_upto_region 1 with (fail); have HL := Lib.hid (show LI a n c ba m bc w (w.alloc (.cells #[.slice a n c, .slice ba m bc] 25)) from LI_start); generalize World.alloc w _ = V at *; obtain ⟨l0, l1, l2, l3⟩ := HL.out
    go_wp2_with (first | (go_at_call 22; refine (HSM.out _ l3).mono ?_; rintro e w2 ⟨rfl, hb2⟩; have HLx := Lib.hid (LI_step HL.out hb2); clear HL hb2; have HL := HLx; clear HLx; (try clear l0 l1 l2 l3); obtain ⟨l0, l1, l2, l3⟩ := HL.out) | (go_at_call 13; refine (HKN.out _ l3).mono ?_; rintro e w5 ⟨rfl, hb5⟩; have HLx := Lib.hid (LI_step HL.out hb5); clear HL hb5; have HL := HLx; clear HLx; (try clear l0 l1 l2 l3); obtain ⟨l0, l1, l2, l3⟩ := HL.out))
    go_ret
    exact ⟨rfl, l3⟩
  rw [hsm] at HSM
  cases hs : shapeB n ss m bs
  · rw [hs] at HSP
    have g1 : checkN n ss m bs = 2 := by rw [← checkF_true]; unfold checkF; rw [if_pos (.inl hs)]
    rw [g1] at HCH
    have HWI := Lib.hid (fun (W : World) (hb : Below w.heap.size w W) => wit_no (cell := cell) (d := d) HI.out hb (E := 2) (by unfold checkF; rw [if_pos (.inl hs)]) (by decide))
    clear HI g1
    go_enter Tryd.func5, Tryd.ntmps5; go_upto_region 1 with (fail); have HL := Lib.hid (show LI a n c ba m bc w (w.alloc (.cells #[.slice a n c, .slice ba m bc] 25)) from LI_start); generalize World.alloc w _ = V at *; obtain ⟨l0, l1, l2, l3⟩ := HL.out
    go_wp2_with (first | (go_at_call 22; refine (HSM.out _ l3).mono ?_; rintro e w2 ⟨rfl, hb2⟩; have HLx := Lib.hid (LI_step HL.out hb2); clear HL hb2; have HL := HLx; clear HLx; (try clear l0 l1 l2 l3); obtain ⟨l0, l1, l2, l3⟩ := HL.out) | (go_at_call 21; refine (HWI.out _ l3).mono ?_; rintro e w6 ⟨rfl, hb6⟩; have HLx := Lib.hid (LI_step HL.out hb6); clear HL hb6; have HL := HLx; clear HLx; (try clear l0 l1 l2 l3); obtain ⟨l0, l1, l2, l3⟩ := HL.out) | (go_at_call 10; refine (HCH.out _ l3).mono ?_; rintro e w3 ⟨rfl, hb3⟩; have HLx := Lib.hid (LI_step HL.out hb3); clear HL hb3; have HL := HLx; clear HLx; (try clear l0 l1 l2 l3); obtain ⟨l0, l1, l2, l3⟩ := HL.out) | (go_at_call 23; refine (HSP.out _ l3).mono ?_; rintro e w4 ⟨rfl, hb4⟩; have HLx := Lib.hid (LI_step HL.out hb4); clear HL hb4; have HL := HLx; clear HLx; (try clear l0 l1 l2 l3); obtain ⟨l0, l1, l2, l3⟩ := HL.out) | (go_at_call 13; refine (HKN.out _ l3).mono ?_; rintro e w5 ⟨rfl, hb5⟩; have HLx := Lib.hid (LI_step HL.out hb5); clear HL hb5; have HL := HLx; clear HLx; (try clear l0 l1 l2 l3); obtain ⟨l0, l1, l2, l3⟩ := HL.out))
    go_ret
    exact ⟨rfl, l3⟩
  rw [hs] at HSP
  by_cases hin : 0 ≤ cell ∧ cell < (n : Int)
  · obtain ⟨k1, k2⟩ := hin
    obtain ⟨ci, rfl⟩ : ∃ ci : Nat, cell = (ci : Int) := ⟨cell.toNat, by omega⟩
    have hci : ci < n := by omega
    have k3 : ¬ (ci : Int) < 0 := by omega
    have k4 : ¬ (n : Int) ≤ (ci : Int) := by omega
    have HB1 : inB (ci : Int) 0 ((n : Int) - 1) = true := inB_iff.2 ⟨by omega, by omega⟩
    have hcf : checkF n ss m bs (inB (ci : Int) 0 ((n : Int) - 1)) = checkN n ss m bs := by rw [HB1, checkF_true]
    by_cases hC : checkN n ss m bs = 0
    · have hSh := checkN_shape hC
      have hal := all_len hC
      have HAL := Lib.hid (fun (W : World) (hb : Below w.heap.size w W) => r8All_any a n c ba m bc ss bs W B (HI.out.B' hb) (HI.out.S hb) (HI.out.M hb) hSh (by omega))
      rw [hC] at HCH hcf
      have HRW0 := Lib.hid (fun (W : World) la lc (hF : Flds W.heap.size W la n (allF n ss m bs)) => r8Wit_any la n lc (allF n ss m bs) ci d W hF hci (by omega))
      cases hw : witL n ss m bs (ci : Int) d with
      | nil =>
        have HWI := Lib.hid (fun (W : World) (hb : Below w.heap.size w W) => wit_none HI.out hb hcf hw)
        have HRW := Lib.hid (fun (W : World) la lc (hF : Flds W.heap.size W la n (allF n ss m bs)) => (HRW0.out W la lc hF).mono (R' := fun e w' => e = .returned (.slice none 0 0) ∧ w' = W) fun e w' h => by
          have h2 := h.2
          rw [show (allF n ss m bs).filter (fun g => inB (fOf g ci) d d) = [] from hw] at h2
          exact ⟨h2, h.1⟩)
        generalize allF n ss m bs = l at *
        obtain ⟨N, hN⟩ : ∃ N, l.length = N := ⟨_, rfl⟩
        have HNN := Lib.hid hN
        rw [hN] at HAL HRW
        clear HI hC hSh hw HRW0 HB1 hcf hN hal
        go_enter Tryd.func5, Tryd.ntmps5; go_upto_region 1 with (fail); have HL := Lib.hid (show LI a n c ba m bc w (w.alloc (.cells #[.slice a n c, .slice ba m bc] 25)) from LI_start); generalize World.alloc w _ = V at *; obtain ⟨l0, l1, l2, l3⟩ := HL.out
        go_wp2_with (first | (go_at_call 22; refine (HSM.out _ l3).mono ?_; rintro e w2 ⟨rfl, hb2⟩; have HLx := Lib.hid (LI_step HL.out hb2); clear HL hb2; have HL := HLx; clear HLx; (try clear l0 l1 l2 l3); obtain ⟨l0, l1, l2, l3⟩ := HL.out) | (go_at_call 21; refine (HWI.out _ l3).mono ?_; rintro e w6 ⟨rfl, hb6⟩; have HLx := Lib.hid (LI_step HL.out hb6); clear HL hb6; have HL := HLx; clear HLx; (try clear l0 l1 l2 l3); obtain ⟨l0, l1, l2, l3⟩ := HL.out) | (go_at_call 10; refine (HCH.out _ l3).mono ?_; rintro e w3 ⟨rfl, hb3⟩; have HLx := Lib.hid (LI_step HL.out hb3); clear HL hb3; have HL := HLx; clear HLx; (try clear l0 l1 l2 l3); obtain ⟨l0, l1, l2, l3⟩ := HL.out) | (go_at_call 23; refine (HSP.out _ l3).mono ?_; rintro e w4 ⟨rfl, hb4⟩; have HLx := Lib.hid (LI_step HL.out hb4); clear HL hb4; have HL := HLx; clear HLx; (try clear l0 l1 l2 l3); obtain ⟨l0, l1, l2, l3⟩ := HL.out) | (go_at_call 25; refine (HAL.out _ l3).mono ?_; rintro e w7 ⟨⟨la, lc, rfl, hfl⟩, hb7⟩; have HX := Lib.hid hfl; clear hfl; have HLx := Lib.hid (LI_step HL.out hb7); clear HL hb7; have HL := HLx; clear HLx; (try clear l0 l1 l2 l3); obtain ⟨l0, l1, l2, l3⟩ := HL.out) | (go_at_call 24; refine (HRW.out _ la lc HX.out).mono ?_; rintro e w8 ⟨rfl, rfl⟩) | (go_at_call 13; refine (HKN.out _ l3).mono ?_; rintro e w5 ⟨rfl, hb5⟩; have HLx := Lib.hid (LI_step HL.out hb5); clear HL hb5; have HL := HLx; clear HLx; (try clear l0 l1 l2 l3); obtain ⟨l0, l1, l2, l3⟩ := HL.out))
        go_ret
        exact ⟨rfl, l3⟩
      | cons g t =>
        have HWI := Lib.hid (fun (W : World) (hb : Below w.heap.size w W) => wit_some HI.out hb hcf hw)
        have HRW := Lib.hid (fun (W : World) la lc (hF : Flds W.heap.size W la n (allF n ss m bs)) => (HRW0.out W la lc hF).mono (R' := fun e w' => w' = W ∧ ∃ xa xc, e = .returned (.slice xa n xc) ∧ Ints W.heap.size W xa n (fOf g)) fun e w' h => by
          have h2 := h.2
          rw [show (allF n ss m bs).filter (fun g => inB (fOf g ci) d d) = g :: t from hw] at h2
          exact ⟨h.1, h2⟩)
        have HSA := Lib.hid (fun (W : World) (fa a0 : Option Addr) (fc k0 : Nat) (h1 : Ints W.heap.size W fa n (fOf g)) (h2 : Ints W.heap.size W a0 n (fOf g)) => (Same_any fa a0 n n fc k0 (fOf g) (fOf g) W W.heap.size (Nat.le_refl _) h1 h2 hnl hnl).mono (R' := fun e w' => e = .returned (.bool true) ∧ Below W.heap.size W w') fun e w' h => by
          rw [sameB_iff.2 ⟨rfl, fun i _ => rfl⟩] at h
          exact h)
        have hn0 : ((n : Int) == 0) = false := by rw [beq_eq_false_iff_ne]; omega
        generalize allF n ss m bs = l at *
        obtain ⟨N, hN⟩ : ∃ N, l.length = N := ⟨_, rfl⟩
        have HNN := Lib.hid hN
        rw [hN] at HAL HRW
        clear HI hC hSh hw HRW0 HB1 hcf hN hal
        go_enter Tryd.func5, Tryd.ntmps5; go_upto_region 1 with (fail); have HL := Lib.hid (show LI a n c ba m bc w (w.alloc (.cells #[.slice a n c, .slice ba m bc] 25)) from LI_start); generalize World.alloc w _ = V at *; obtain ⟨l0, l1, l2, l3⟩ := HL.out
        go_wp2_with (first | (go_at_call 22; refine (HSM.out _ l3).mono ?_; rintro e w2 ⟨rfl, hb2⟩; have HLx := Lib.hid (LI_step HL.out hb2); clear HL hb2; have HL := HLx; clear HLx; (try clear l0 l1 l2 l3); obtain ⟨l0, l1, l2, l3⟩ := HL.out) | (go_at_call 21; refine (HWI.out _ l3).mono ?_; rintro e w6 ⟨⟨fa, fc, rfl, hF⟩, hb6⟩; have HF := Lib.hid hF; clear hF; have HLx := Lib.hid (LI_step HL.out hb6); clear HL hb6; have HL := HLx; clear HLx; (try clear l0 l1 l2 l3); obtain ⟨l0, l1, l2, l3⟩ := HL.out) | (go_at_call 10; refine (HCH.out _ l3).mono ?_; rintro e w3 ⟨rfl, hb3⟩; have HFx := Lib.hid ((HF.out.below hb3).up (hb3).size); clear HF; have HF := HFx; clear HFx; have HLx := Lib.hid (LI_step HL.out hb3); clear HL hb3; have HL := HLx; clear HLx; (try clear l0 l1 l2 l3); obtain ⟨l0, l1, l2, l3⟩ := HL.out) | (go_at_call 23; refine (HSP.out _ l3).mono ?_; rintro e w4 ⟨rfl, hb4⟩; have HFx := Lib.hid ((HF.out.below hb4).up (hb4).size); clear HF; have HF := HFx; clear HFx; have HLx := Lib.hid (LI_step HL.out hb4); clear HL hb4; have HL := HLx; clear HLx; (try clear l0 l1 l2 l3); obtain ⟨l0, l1, l2, l3⟩ := HL.out) | (go_at_call 25; refine (HAL.out _ l3).mono ?_; rintro e w7 ⟨⟨la, lc, rfl, hfl⟩, hb7⟩; have HX := Lib.hid hfl; clear hfl; have HFx := Lib.hid ((HF.out.below hb7).up (hb7).size); clear HF; have HF := HFx; clear HFx; have HLx := Lib.hid (LI_step HL.out hb7); clear HL hb7; have HL := HLx; clear HLx; (try clear l0 l1 l2 l3); obtain ⟨l0, l1, l2, l3⟩ := HL.out) | (go_at_call 24; refine (HRW.out _ la lc HX.out).mono ?_; rintro e w8 ⟨rfl, xa, xc, rfl, hxi⟩; have HY := Lib.hid hxi; clear hxi) | (go_at_call 26; refine (HSA.out _ fa xa fc xc HF.out HY.out).mono ?_; rintro e w9 ⟨rfl, hb9⟩; have HLx := Lib.hid (LI_step HL.out hb9); clear HL hb9; have HL := HLx; clear HLx; (try clear l0 l1 l2 l3); obtain ⟨l0, l1, l2, l3⟩ := HL.out) | (go_at_call 13; refine (HKN.out _ l3).mono ?_; rintro e w5 ⟨rfl, hb5⟩; have HLx := Lib.hid (LI_step HL.out hb5); clear HL hb5; have HL := HLx; clear HLx; (try clear l0 l1 l2 l3); obtain ⟨l0, l1, l2, l3⟩ := HL.out))
        go_ret
        exact ⟨rfl, l3⟩
    · have HWI := Lib.hid (fun (W : World) (hb : Below w.heap.size w W) => wit_no (d := d) HI.out hb hcf hC)
      have hne : (checkN n ss m bs == 0) = false := by rw [beq_eq_false_iff_ne]; exact hC
      clear HI hC hcf HB1
      generalize checkN n ss m bs = E at *
      have hne2 : (E != 0) = true := by rw [bne, hne]; rfl
      have hee : (E == E) = true := by simp
      go_enter Tryd.func5, Tryd.ntmps5; go_upto_region 1 with (fail); have HL := Lib.hid (show LI a n c ba m bc w (w.alloc (.cells #[.slice a n c, .slice ba m bc] 25)) from LI_start); generalize World.alloc w _ = V at *; obtain ⟨l0, l1, l2, l3⟩ := HL.out
      go_wp2_with (first | (go_at_call 22; refine (HSM.out _ l3).mono ?_; rintro e w2 ⟨rfl, hb2⟩; have HLx := Lib.hid (LI_step HL.out hb2); clear HL hb2; have HL := HLx; clear HLx; (try clear l0 l1 l2 l3); obtain ⟨l0, l1, l2, l3⟩ := HL.out) | (go_at_call 21; refine (HWI.out _ l3).mono ?_; rintro e w6 ⟨rfl, hb6⟩; have HLx := Lib.hid (LI_step HL.out hb6); clear HL hb6; have HL := HLx; clear HLx; (try clear l0 l1 l2 l3); obtain ⟨l0, l1, l2, l3⟩ := HL.out) | (go_at_call 10; refine (HCH.out _ l3).mono ?_; rintro e w3 ⟨rfl, hb3⟩; have HLx := Lib.hid (LI_step HL.out hb3); clear HL hb3; have HL := HLx; clear HLx; (try clear l0 l1 l2 l3); obtain ⟨l0, l1, l2, l3⟩ := HL.out) | (go_at_call 23; refine (HSP.out _ l3).mono ?_; rintro e w4 ⟨rfl, hb4⟩; have HLx := Lib.hid (LI_step HL.out hb4); clear HL hb4; have HL := HLx; clear HLx; (try clear l0 l1 l2 l3); obtain ⟨l0, l1, l2, l3⟩ := HL.out) | (go_at_call 13; refine (HKN.out _ l3).mono ?_; rintro e w5 ⟨rfl, hb5⟩; have HLx := Lib.hid (LI_step HL.out hb5); clear HL hb5; have HL := HLx; clear HLx; (try clear l0 l1 l2 l3); obtain ⟨l0, l1, l2, l3⟩ := HL.out))
      go_ret
      exact ⟨rfl, l3⟩
  · have HB1 : inB cell 0 ((n : Int) - 1) = false := by
      cases e : inB cell 0 ((n : Int) - 1)
      · rfl
      · have := inB_iff.1 e; omega
    have HWI := Lib.hid (fun (W : World) (hb : Below w.heap.size w W) => wit_no (cell := cell) (d := d) HI.out hb (E := 2) (by rw [HB1]; unfold checkF; rw [if_pos (.inr rfl)]) (by decide))
    clear HI HB1
    generalize checkN n ss m bs = E at *
    by_cases k1 : cell < 0
    · clear hin
      go_enter Tryd.func5, Tryd.ntmps5; go_upto_region 1 with (fail); have HL := Lib.hid (show LI a n c ba m bc w (w.alloc (.cells #[.slice a n c, .slice ba m bc] 25)) from LI_start); generalize World.alloc w _ = V at *; obtain ⟨l0, l1, l2, l3⟩ := HL.out
      go_wp2_with (first | (go_at_call 22; refine (HSM.out _ l3).mono ?_; rintro e w2 ⟨rfl, hb2⟩; have HLx := Lib.hid (LI_step HL.out hb2); clear HL hb2; have HL := HLx; clear HLx; (try clear l0 l1 l2 l3); obtain ⟨l0, l1, l2, l3⟩ := HL.out) | (go_at_call 21; refine (HWI.out _ l3).mono ?_; rintro e w6 ⟨rfl, hb6⟩; have HLx := Lib.hid (LI_step HL.out hb6); clear HL hb6; have HL := HLx; clear HLx; (try clear l0 l1 l2 l3); obtain ⟨l0, l1, l2, l3⟩ := HL.out) | (go_at_call 10; refine (HCH.out _ l3).mono ?_; rintro e w3 ⟨rfl, hb3⟩; have HLx := Lib.hid (LI_step HL.out hb3); clear HL hb3; have HL := HLx; clear HLx; (try clear l0 l1 l2 l3); obtain ⟨l0, l1, l2, l3⟩ := HL.out) | (go_at_call 23; refine (HSP.out _ l3).mono ?_; rintro e w4 ⟨rfl, hb4⟩; have HLx := Lib.hid (LI_step HL.out hb4); clear HL hb4; have HL := HLx; clear HLx; (try clear l0 l1 l2 l3); obtain ⟨l0, l1, l2, l3⟩ := HL.out) | (go_at_call 13; refine (HKN.out _ l3).mono ?_; rintro e w5 ⟨rfl, hb5⟩; have HLx := Lib.hid (LI_step HL.out hb5); clear HL hb5; have HL := HLx; clear HLx; (try clear l0 l1 l2 l3); obtain ⟨l0, l1, l2, l3⟩ := HL.out))
      go_ret
      exact ⟨rfl, l3⟩
    · have k2 : (n : Int) ≤ cell := by omega
      clear hin
      go_enter Tryd.func5, Tryd.ntmps5; go_upto_region 1 with (fail); have HL := Lib.hid (show LI a n c ba m bc w (w.alloc (.cells #[.slice a n c, .slice ba m bc] 25)) from LI_start); generalize World.alloc w _ = V at *; obtain ⟨l0, l1, l2, l3⟩ := HL.out
      go_wp2_with (first | (go_at_call 22; refine (HSM.out _ l3).mono ?_; rintro e w2 ⟨rfl, hb2⟩; have HLx := Lib.hid (LI_step HL.out hb2); clear HL hb2; have HL := HLx; clear HLx; (try clear l0 l1 l2 l3); obtain ⟨l0, l1, l2, l3⟩ := HL.out) | (go_at_call 21; refine (HWI.out _ l3).mono ?_; rintro e w6 ⟨rfl, hb6⟩; have HLx := Lib.hid (LI_step HL.out hb6); clear HL hb6; have HL := HLx; clear HLx; (try clear l0 l1 l2 l3); obtain ⟨l0, l1, l2, l3⟩ := HL.out) | (go_at_call 10; refine (HCH.out _ l3).mono ?_; rintro e w3 ⟨rfl, hb3⟩; have HLx := Lib.hid (LI_step HL.out hb3); clear HL hb3; have HL := HLx; clear HLx; (try clear l0 l1 l2 l3); obtain ⟨l0, l1, l2, l3⟩ := HL.out) | (go_at_call 23; refine (HSP.out _ l3).mono ?_; rintro e w4 ⟨rfl, hb4⟩; have HLx := Lib.hid (LI_step HL.out hb4); clear HL hb4; have HL := HLx; clear HLx; (try clear l0 l1 l2 l3); obtain ⟨l0, l1, l2, l3⟩ := HL.out) | (go_at_call 13; refine (HKN.out _ l3).mono ?_; rintro e w5 ⟨rfl, hb5⟩; have HLx := Lib.hid (LI_step HL.out hb5); clear HL hb5; have HL := HLx; clear HLx; (try clear l0 l1 l2 l3); obtain ⟨l0, l1, l2, l3⟩ := HL.out))
      go_ret
      exact ⟨rfl, l3⟩
end Go.Proofs.YtollfpnfnciekaaDoor
