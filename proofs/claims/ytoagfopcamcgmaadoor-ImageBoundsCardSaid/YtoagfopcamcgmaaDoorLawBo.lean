/- The walk of the statement ImageBounds. -/
import Derived.Test.YtoagfopcamcgmaaDoorLawK
import Derived.Test.YtoagfopcamcgmaaDoorGrA
import Derived.Test.YtoagfopcamcgmaaDoorRefAl
import Derived.Test.YtoagfopcamcgmaaDoorRefBd
namespace Go.Proofs.YtoagfopcamcgmaaDoor
open Go.RowKit
set_option linter.unusedVariables false
set_option linter.unusedSimpArgs false
/-- what all these calls need of the image -/
structure ImIn (B : Nat) (a : Option Addr) (n c : Nat) (ba : Option Addr) (m bc : Nat) (ss : Nat → SV) (bs : Nat → BM) (w : World) : Prop where
  le : B ≤ w.heap.size
  spans : Spans B w a n ss
  beams : Beams B w ba m bs
  tab : Lib.TabBelow Tryd.prog w.heap.size w "internal/strconv.uint64pow10" .u64 Lib.pow10Tab
section
variable {B : Nat} {a : Option Addr} {n c : Nat} {ba : Option Addr} {m bc : Nat} {ss : Nat → SV} {bs : Nat → BM} {w W : World}
theorem ImIn.S (h : ImIn B a n c ba m bc ss bs w) (hb : Below w.heap.size w W) : Spans B W a n ss := h.spans.below (hb.mono h.le)
theorem ImIn.M (h : ImIn B a n c ba m bc ss bs w) (hb : Below w.heap.size w W) : Beams B W ba m bs := h.beams.below (hb.mono h.le)
theorem ImIn.B' (h : ImIn B a n c ba m bc ss bs w) (hb : Below w.heap.size w W) : B ≤ W.heap.size := Nat.le_trans h.le hb.size
theorem ImIn.known (h : ImIn B a n c ba m bc ss bs w) (hb : Below w.heap.size w W) : Calls Tryd.prog 5 #[] W fun e w' => e = .returned (.bool true) ∧ Below W.heap.size W w' := known_any W (h.tab W hb)
end
theorem Flds.stepU {n : Nat} {a : Option Addr} {l : List (List Int)} {W W' : World} (h : Flds W.heap.size W a n l) (hb : Below W.heap.size W W') : Flds W'.heap.size W' a n l := (h.below hb).up hb.size
set_option maxRecDepth 100000 in
set_option maxHeartbeats 4000000 in
theorem ImageBounds_any (a : Option Addr) (n c : Nat) (ba : Option Addr) (m bc : Nat) (ss : Nat → SV) (bs : Nat → BM) (w : World) (B : Nat) (hBw : B ≤ w.heap.size) (hS : Spans B w a n ss) (hM : Beams B w ba m bs) (ht : Lib.TabIs Tryd.prog w "internal/strconv.uint64pow10" .u64 Lib.pow10Tab) :
    Calls Tryd.prog 3 #[imageV a n c ba m bc] w fun e w' => e = .returned (.bool true) ∧ Below w.heap.size w w' := by
  have HI := Lib.hid (show ImIn B a n c ba m bc ss bs w from ⟨hBw, hS, hM, Lib.tabBelow_of_tabIs ht⟩)
  have HKN := Lib.hid (fun (W : World) (hb : Below w.heap.size w W) => HI.out.known hb)
  have HSM := Lib.hid (fun (W : World) (hb : Below w.heap.size w W) => small_any a n c ba m bc ss bs 3000 W B (HI.out.B' hb) (HI.out.S hb) (HI.out.M hb))
  have hnl := hS.1
  clear hS hM ht
  cases hsm : smallB n ss m bs 3000
  · rw [hsm] at HSM
    go_enter Tryd.func3, Tryd.ntmps3
    go_upto_region 1 with (fail)
    have HL := Lib.hid (show LI a n c ba m bc w (w.alloc (.cells #[.slice a n c, .slice ba m bc] 25)) from LI_start)
    generalize World.alloc w _ = V at *
    obtain ⟨l0, l1, l2, l3⟩ := HL.out
    go_wp2_with (first | (go_at_call 4; refine (HSM.out _ l3).mono ?_; rintro e w2 ⟨rfl, hb2⟩; have HLx := Lib.hid (LI_step HL.out hb2); clear HL hb2; have HL := HLx; clear HLx; (try clear l0 l1 l2 l3); obtain ⟨l0, l1, l2, l3⟩ := HL.out) | (go_at_call 5; refine (HKN.out _ l3).mono ?_; rintro e w3 ⟨rfl, hb3⟩; have HLx := Lib.hid (LI_step HL.out hb3); clear HL hb3; have HL := HLx; clear HLx; (try clear l0 l1 l2 l3); obtain ⟨l0, l1, l2, l3⟩ := HL.out))
    go_ret
    exact ⟨rfl, l3⟩
  · rw [hsm] at HSM
    have HCH := Lib.hid (fun (W : World) (hb : Below w.heap.size w W) => r8Check_any a n c ba m bc ss bs W B (HI.out.B' hb) (HI.out.S hb) (HI.out.M hb))
    have HFI := Lib.hid (fun (W : World) (hb : Below w.heap.size w W) => First_any a n c ba m bc ss bs W B (HI.out.B' hb) (HI.out.S hb) (HI.out.M hb))
    have HCO := Lib.hid (fun (W : World) (hb : Below w.heap.size w W) => Count_any a n c ba m bc ss bs W B (HI.out.B' hb) (HI.out.S hb) (HI.out.M hb))
    have HBO := Lib.hid (fun (W : World) (hb : Below w.heap.size w W) => Bounds_any a n c ba m bc ss bs W B (HI.out.B' hb) (HI.out.S hb) (HI.out.M hb))
    by_cases hC : checkN n ss m bs = 0
    · have hSh := checkN_shape hC
      have hn40 := hSh.n40
      have hall : (allF n ss m bs).length ≤ 200000 := by
        have h1 : longB n ss 200000 = false := by
          cases e : longB n ss 200000
          · rfl
          · unfold checkN at hC
            rw [if_neg (by rw [shapeB_iff.2 hSh]; decide), if_pos e] at hC
            cases hC
        have := allF_le hSh h1
        omega
      have HAL := Lib.hid (fun (W : World) (hb : Below w.heap.size w W) => r8All_any a n c ba m bc ss bs W B (HI.out.B' hb) (HI.out.S hb) (HI.out.M hb) hSh (by omega))
      have HCO2 := Lib.hid (fun (W : World) (hb : Below w.heap.size w W) => (HCO.out W hb).mono (R' := fun e w' => e = .returned (.tuple #[.int .i64 ((allF n ss m bs).length : Int), .int .i64 0]) ∧ Below W.heap.size W w') fun e w' h => by
        have := h.2
        rw [hC, if_pos rfl] at this
        exact ⟨this, h.1⟩)
      rw [hC] at HCH
      by_cases hA : allF n ss m bs = []
      · have HFI2 := Lib.hid (fun (W : World) (hb : Below w.heap.size w W) => (HFI.out W hb).mono (R' := fun e w' => e = .returned (.tuple #[.slice none 0 0, .int .i64 5]) ∧ Below W.heap.size W w') fun e w' h => by
          have := h.2
          rw [if_pos hC, hA] at this
          exact ⟨this, h.1⟩)
        have HBO2 := Lib.hid (fun (W : World) (hb : Below w.heap.size w W) => (HBO.out W hb).mono (R' := fun e w' => e = .returned (.tuple #[.slice none 0 0, .int .i64 5]) ∧ Below W.heap.size W w') fun e w' h => by
          have := h.2
          rw [if_pos hC, if_pos hA] at this
          exact ⟨this, h.1⟩)
        rw [hA] at HCO2 HAL
        clear HFI HCO HBO hSh hC hA hall HI
        go_enter Tryd.func3, Tryd.ntmps3
        go_upto_region 1 with (fail)
        have HL := Lib.hid (show LI a n c ba m bc w (w.alloc (.cells #[.slice a n c, .slice ba m bc] 25)) from LI_start)
        generalize World.alloc w _ = V at *
        obtain ⟨l0, l1, l2, l3⟩ := HL.out
        go_wp2_with (first | (go_at_call 4; refine (HSM.out _ l3).mono ?_; rintro e w2 ⟨rfl, hb2⟩; have HLx := Lib.hid (LI_step HL.out hb2); clear HL hb2; have HL := HLx; clear HLx; (try clear l0 l1 l2 l3); obtain ⟨l0, l1, l2, l3⟩ := HL.out) | (go_at_call 6; refine (HFI2.out _ l3).mono ?_; rintro e w3 ⟨rfl, hb3⟩; have HLx := Lib.hid (LI_step HL.out hb3); clear HL hb3; have HL := HLx; clear HLx; (try clear l0 l1 l2 l3); obtain ⟨l0, l1, l2, l3⟩ := HL.out) | (go_at_call 7; refine (HCO2.out _ l3).mono ?_; rintro e w4 ⟨rfl, hb4⟩; have HLx := Lib.hid (LI_step HL.out hb4); clear HL hb4; have HL := HLx; clear HLx; (try clear l0 l1 l2 l3); obtain ⟨l0, l1, l2, l3⟩ := HL.out) | (go_at_call 8; refine (HBO2.out _ l3).mono ?_; rintro e w5 ⟨rfl, hb5⟩; have HLx := Lib.hid (LI_step HL.out hb5); clear HL hb5; have HL := HLx; clear HLx; (try clear l0 l1 l2 l3); obtain ⟨l0, l1, l2, l3⟩ := HL.out) | (go_at_call 9; refine (HCH.out _ l3).mono ?_; rintro e w6 ⟨rfl, hb6⟩; have HLx := Lib.hid (LI_step HL.out hb6); clear HL hb6; have HL := HLx; clear HLx; (try clear l0 l1 l2 l3); obtain ⟨l0, l1, l2, l3⟩ := HL.out) | (go_at_call 10; refine (HAL.out _ l3).mono ?_; rintro e w7 ⟨⟨la, lc, rfl, _⟩, hb7⟩; have HLx := Lib.hid (LI_step HL.out hb7); clear HL hb7; have HL := HLx; clear HLx; (try clear l0 l1 l2 l3); obtain ⟨l0, l1, l2, l3⟩ := HL.out) | (go_at_call 5; refine (HKN.out _ l3).mono ?_; rintro e w8 ⟨rfl, hb8⟩; have HLx := Lib.hid (LI_step HL.out hb8); clear HL hb8; have HL := HLx; clear HLx; (try clear l0 l1 l2 l3); obtain ⟨l0, l1, l2, l3⟩ := HL.out))
        go_ret
        exact ⟨rfl, l3⟩
      · obtain ⟨g, t, hgt⟩ : ∃ g t, allF n ss m bs = g :: t := by
          cases e : allF n ss m bs with
          | nil => exact absurd e hA
          | cons g t => exact ⟨g, t, rfl⟩
        have HFI2 := Lib.hid (fun (W : World) (hb : Below w.heap.size w W) => (HFI.out W hb).mono (R' := fun e w' => (∃ fa fc, e = .returned (.tuple #[.slice fa n fc, .int .i64 0]) ∧ Ints w'.heap.size w' fa n (fOf g)) ∧ Below W.heap.size W w') fun e w' h => by
          have h2 := h.2
          rw [if_pos hC, hgt] at h2
          obtain ⟨fa, fc, he, b, ha, _, hlt, hc⟩ := h2
          exact ⟨⟨fa, fc, he, .inr ⟨b, 0, ha, hlt, fun i hi => by rw [Nat.zero_add]; exact hc i hi⟩⟩, h.1⟩)
        have HBO2 := Lib.hid (fun (W : World) (hb : Below w.heap.size w W) => (HBO.out W hb).mono (R' := fun e w' => (∃ ob, e = .returned (.tuple #[.slice (some ⟨ob, 0, none⟩) n n, .int .i64 0]) ∧ Spans w'.heap.size w' (some ⟨ob, 0, none⟩) n (fun i => bnd (fun f => fOf f i) (allF n ss m bs))) ∧ Below W.heap.size W w') fun e w' h => by
          have h2 := h.2
          rw [if_pos hC, if_neg hA] at h2
          obtain ⟨ob, he, _, hs⟩ := h2
          exact ⟨⟨ob, he, hnl, .inr ⟨ob, 0, rfl, hs.lt, fun i hi => by rw [Nat.zero_add]; exact hs.cell hi⟩⟩, h.1⟩)
        have hg0 : (allF n ss m bs).getD 0 [] = g := by rw [hgt]; rfl
        have hpos : 0 < (allF n ss m bs).length := by rw [hgt]; simp
        generalize allF n ss m bs = l at *
        obtain ⟨N, hN⟩ : ∃ N, l.length = N := ⟨_, rfl⟩
        have HNN := Lib.hid hN
        have HG0 := Lib.hid hg0
        rw [hN] at HCO2 HAL hpos hall
        have hN0 : ((N : Int) == 0) = false := by rw [beq_eq_false_iff_ne]; omega
        have h0N : (0 : Int) < (N : Int) := by omega
        have HNE := Lib.hid hA
        have HSA := Lib.hid (fun (W : World) (fa a0 : Option Addr) (fc k0 : Nat) (h1 : Ints W.heap.size W fa n (fOf g)) (h2 : Ints W.heap.size W a0 n (fOf g)) => (Same_any fa a0 n n fc k0 (fOf g) (fOf g) W W.heap.size (Nat.le_refl _) h1 h2 hnl hnl).mono (R' := fun e w' => e = .returned (.bool true) ∧ Below W.heap.size W w') fun e w' h => by
          rw [sameB_iff.2 ⟨rfl, fun i _ => rfl⟩] at h
          exact h)
        have HSB := Lib.hid (fun (W : World) (la : Option Addr) (lc : Nat) (h1 : Flds W.heap.size W la n l) => show Calls Tryd.prog 13 #[.slice la N lc] W (fun e w' => (∃ ob, e = .returned (.slice (some ⟨ob, 0, none⟩) n n) ∧ Spans w'.heap.size w' (some ⟨ob, 0, none⟩) n (fun i => bnd (fun f => fOf f i) l)) ∧ Below W.heap.size W w') from by
          have := r8Bounds_any la n lc l W h1 HNE.out (by rw [HNN.out]; omega) hn40
          rw [HNN.out] at this
          refine this.mono fun e w' h => ?_
          obtain ⟨⟨ob, he, hs⟩, hb⟩ := h
          exact ⟨⟨ob, he, hnl, .inr ⟨ob, 0, rfl, hs.lt, fun i hi => by rw [Nat.zero_add]; exact hs.cell hi⟩⟩, hb⟩)
        have HSS := Lib.hid (fun (W : World) (x y : Option Addr) (xc yc : Nat) (h1 : Spans W.heap.size W x n (fun i => bnd (fun f => fOf f i) l)) (h2 : Spans W.heap.size W y n (fun i => bnd (fun f => fOf f i) l)) => (SameSpans_any x y n n xc yc (fun i => bnd (fun f => fOf f i) l) (fun i => bnd (fun f => fOf f i) l) W W.heap.size (Nat.le_refl _) h1 h2).mono (R' := fun e w' => e = .returned (.bool true) ∧ Below W.heap.size W w') fun e w' h => by
          rw [sameSB_iff.2 ⟨rfl, fun i _ => ⟨rfl, rfl⟩⟩] at h
          exact h)
        clear HFI HCO HBO hSh hC hA hgt hg0 HI hN
        go_enter Tryd.func3, Tryd.ntmps3
        go_upto_region 1 with (fail)
        have HL := Lib.hid (show LI a n c ba m bc w (w.alloc (.cells #[.slice a n c, .slice ba m bc] 25)) from LI_start)
        generalize World.alloc w _ = V at *
        obtain ⟨l0, l1, l2, l3⟩ := HL.out
        go_wp2_with (first | (go_at_call 4; refine (HSM.out _ l3).mono ?_; rintro e w2 ⟨rfl, hb2⟩; have HLx := Lib.hid (LI_step HL.out hb2); clear HL hb2; have HL := HLx; clear HLx; (try clear l0 l1 l2 l3); obtain ⟨l0, l1, l2, l3⟩ := HL.out) | (go_at_call 6; refine (HFI2.out _ l3).mono ?_; rintro e w3 ⟨⟨fa, fc, rfl, hF⟩, hb3⟩; have HF := Lib.hid hF; clear hF; have HLx := Lib.hid (LI_step HL.out hb3); clear HL hb3; have HL := HLx; clear HLx; (try clear l0 l1 l2 l3); obtain ⟨l0, l1, l2, l3⟩ := HL.out) | (go_at_call 7; refine (HCO2.out _ l3).mono ?_; rintro e w4 ⟨rfl, hb4⟩; have HFx := Lib.hid ((HF.out.below hb4).up (hb4).size); clear HF; have HF := HFx; clear HFx; have HLx := Lib.hid (LI_step HL.out hb4); clear HL hb4; have HL := HLx; clear HLx; (try clear l0 l1 l2 l3); obtain ⟨l0, l1, l2, l3⟩ := HL.out) | (go_at_call 8; refine (HBO2.out _ l3).mono ?_; rintro e w5 ⟨⟨ob, rfl, hO⟩, hb5⟩; have HFx := Lib.hid ((HF.out.below hb5).up (hb5).size); clear HF; have HF := HFx; clear HFx; have HO := Lib.hid hO; clear hO; have HLx := Lib.hid (LI_step HL.out hb5); clear HL hb5; have HL := HLx; clear HLx; (try clear l0 l1 l2 l3); obtain ⟨l0, l1, l2, l3⟩ := HL.out) | (go_at_call 9; refine (HCH.out _ l3).mono ?_; rintro e w6 ⟨rfl, hb6⟩; have HFx := Lib.hid ((HF.out.below hb6).up (hb6).size); clear HF; have HF := HFx; clear HFx; have HOx := Lib.hid ((HO.out.below hb6).up (hb6).size); clear HO; have HO := HOx; clear HOx; have HLx := Lib.hid (LI_step HL.out hb6); clear HL hb6; have HL := HLx; clear HLx; (try clear l0 l1 l2 l3); obtain ⟨l0, l1, l2, l3⟩ := HL.out) | (go_at_call 10; refine (HAL.out _ l3).mono ?_; rintro e w7 ⟨⟨la, lc, rfl, hfl⟩, hb7⟩; have HFx := Lib.hid ((HF.out.below hb7).up (hb7).size); clear HF; have HF := HFx; clear HFx; have HOx := Lib.hid ((HO.out.below hb7).up (hb7).size); clear HO; have HO := HOx; clear HOx; have HX := Lib.hid hfl; obtain ⟨b0, o0, a0, k0, rfl, hb0, x0, y0⟩ := hfl.get (i := 0) (by rw [HNN.out]; exact hpos); rw [Nat.add_zero] at x0; rw [HG0.out] at y0; have HY := Lib.hid y0; clear y0 hfl; have HLx := Lib.hid (LI_step HL.out hb7); clear HL hb7; have HL := HLx; clear HLx; (try clear l0 l1 l2 l3); obtain ⟨l0, l1, l2, l3⟩ := HL.out) | (go_at_call 11; refine (HSA.out _ fa a0 fc k0 HF.out HY.out).mono ?_; rintro e w8 ⟨rfl, hb8⟩; have HOx := Lib.hid ((HO.out.below hb8).up (hb8).size); clear HO; have HO := HOx; clear HOx; have HX1 := Lib.hid (Flds.stepU HX.out hb8); clear HX HY x0 HF; have HX := HX1; clear HX1; have HLx := Lib.hid (LI_step HL.out hb8); clear HL hb8; have HL := HLx; clear HLx; (try clear l0 l1 l2 l3); obtain ⟨l0, l1, l2, l3⟩ := HL.out) | (go_at_call 13; refine (HSB.out _ _ _ HX.out).mono ?_; rintro e w9 ⟨⟨ob2, rfl, hO2⟩, hb9⟩; have HOx := Lib.hid ((HO.out.below hb9).up (hb9).size); clear HO; have HO := HOx; clear HOx; have HO2 := Lib.hid hO2; clear hO2 HX; have HLx := Lib.hid (LI_step HL.out hb9); clear HL hb9; have HL := HLx; clear HLx; (try clear l0 l1 l2 l3); obtain ⟨l0, l1, l2, l3⟩ := HL.out) | (go_at_call 12; refine (HSS.out _ _ _ _ _ HO.out HO2.out).mono ?_; rintro e w10 ⟨rfl, hb10⟩; have HLx := Lib.hid (LI_step HL.out hb10); clear HL hb10; have HL := HLx; clear HLx; (try clear l0 l1 l2 l3); obtain ⟨l0, l1, l2, l3⟩ := HL.out) | (go_at_call 5; refine (HKN.out _ l3).mono ?_; rintro e w11 ⟨rfl, hb11⟩; have HLx := Lib.hid (LI_step HL.out hb11); clear HL hb11; have HL := HLx; clear HLx; (try clear l0 l1 l2 l3); obtain ⟨l0, l1, l2, l3⟩ := HL.out))
        go_ret
        exact ⟨rfl, l3⟩
    · have hne : (checkN n ss m bs == 0) = false := by rw [beq_eq_false_iff_ne]; exact hC
      have HFI2 := Lib.hid (fun (W : World) (hb : Below w.heap.size w W) => (HFI.out W hb).mono (R' := fun e w' => e = .returned (.tuple #[.slice none 0 0, .int .i64 (checkN n ss m bs)]) ∧ Below W.heap.size W w') fun e w' h => by
        have := h.2
        rw [if_neg hC] at this
        exact ⟨this, h.1⟩)
      have HCO2 := Lib.hid (fun (W : World) (hb : Below w.heap.size w W) => (HCO.out W hb).mono (R' := fun e w' => e = .returned (.tuple #[.int .i64 0, .int .i64 (checkN n ss m bs)]) ∧ Below W.heap.size W w') fun e w' h => by
        have := h.2
        rw [if_neg hC] at this
        exact ⟨this, h.1⟩)
      have HBO2 := Lib.hid (fun (W : World) (hb : Below w.heap.size w W) => (HBO.out W hb).mono (R' := fun e w' => e = .returned (.tuple #[.slice none 0 0, .int .i64 (checkN n ss m bs)]) ∧ Below W.heap.size W w') fun e w' h => by
        have := h.2
        rw [if_neg hC] at this
        exact ⟨this, h.1⟩)
      generalize checkN n ss m bs = E at *
      have hne2 : (E != 0) = true := by rw [bne, hne]; rfl
      clear HFI HCO HBO HI hC
      go_enter Tryd.func3, Tryd.ntmps3
      go_upto_region 1 with (fail)
      have HL := Lib.hid (show LI a n c ba m bc w (w.alloc (.cells #[.slice a n c, .slice ba m bc] 25)) from LI_start)
      generalize World.alloc w _ = V at *
      obtain ⟨l0, l1, l2, l3⟩ := HL.out
      go_wp2_with (first | (go_at_call 4; refine (HSM.out _ l3).mono ?_; rintro e w2 ⟨rfl, hb2⟩; have HLx := Lib.hid (LI_step HL.out hb2); clear HL hb2; have HL := HLx; clear HLx; (try clear l0 l1 l2 l3); obtain ⟨l0, l1, l2, l3⟩ := HL.out) | (go_at_call 6; refine (HFI2.out _ l3).mono ?_; rintro e w3 ⟨rfl, hb3⟩; have HLx := Lib.hid (LI_step HL.out hb3); clear HL hb3; have HL := HLx; clear HLx; (try clear l0 l1 l2 l3); obtain ⟨l0, l1, l2, l3⟩ := HL.out) | (go_at_call 7; refine (HCO2.out _ l3).mono ?_; rintro e w4 ⟨rfl, hb4⟩; have HLx := Lib.hid (LI_step HL.out hb4); clear HL hb4; have HL := HLx; clear HLx; (try clear l0 l1 l2 l3); obtain ⟨l0, l1, l2, l3⟩ := HL.out) | (go_at_call 8; refine (HBO2.out _ l3).mono ?_; rintro e w5 ⟨rfl, hb5⟩; have HLx := Lib.hid (LI_step HL.out hb5); clear HL hb5; have HL := HLx; clear HLx; (try clear l0 l1 l2 l3); obtain ⟨l0, l1, l2, l3⟩ := HL.out) | (go_at_call 9; refine (HCH.out _ l3).mono ?_; rintro e w6 ⟨rfl, hb6⟩; have HLx := Lib.hid (LI_step HL.out hb6); clear HL hb6; have HL := HLx; clear HLx; (try clear l0 l1 l2 l3); obtain ⟨l0, l1, l2, l3⟩ := HL.out) | (go_at_call 5; refine (HKN.out _ l3).mono ?_; rintro e w8 ⟨rfl, hb8⟩; have HLx := Lib.hid (LI_step HL.out hb8); clear HL hb8; have HL := HLx; clear HLx; (try clear l0 l1 l2 l3); obtain ⟨l0, l1, l2, l3⟩ := HL.out))
      go_ret
      exact ⟨rfl, l3⟩
end Go.Proofs.YtoagfopcamcgmaaDoor
