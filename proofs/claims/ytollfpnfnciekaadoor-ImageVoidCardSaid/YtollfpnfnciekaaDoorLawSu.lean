/- The walk of the statement ImageSums. -/
import Derived.Test.YtollfpnfnciekaaDoorGrA
import Derived.Test.YtollfpnfnciekaaDoorRefAl
import Derived.Test.YtollfpnfnciekaaDoorEiLaw
import Derived.Test.YtollfpnfnciekaaDoorRefSum
import Derived.Test.YtollfpnfnciekaaDoorImVoid
namespace Go.Proofs.YtollfpnfnciekaaDoor
open Go.RowKit
set_option linter.unusedVariables false
set_option linter.unusedSimpArgs false
/-- what the calls need of the image and the set -/
structure SuIn (a : Option Addr) (n c : Nat) (ba : Option Addr) (m bc : Nat) (ss : Nat → SV) (bs : Nat → BM) (ca : Option Addr) (k : Nat) (cs : Nat → Int) (w : World) : Prop where
  im : ImIn w.heap.size a n c ba m bc ss bs w
  set : Ints w.heap.size w ca k cs
  lk : k ≤ maxLen
section
variable {a : Option Addr} {n c : Nat} {ba : Option Addr} {m bc : Nat} {ss : Nat → SV} {bs : Nat → BM} {ca : Option Addr} {k cc : Nat} {cs : Nat → Int} {most : Int} {w W : World}
theorem SuIn.sumE (h : SuIn a n c ba m bc ss bs ca k cs w) (hb : Below w.heap.size w W) {E : Int} (hE : checkF n ss m bs (setB n k cs) = E) (h0 : E ≠ 0) : Calls Tryd.prog 32 #[imageV a n c ba m bc, .slice ca k cc] W fun e w' => e = .returned (.tuple #[.agg #[.int .i64 0, .int .i64 0], .int .i64 E]) ∧ Below W.heap.size W w' :=
  (Sum_any a n c ba m bc ss bs ca k cc cs W _ (h.im.B' hb) (h.im.S hb) (h.im.M hb) ((h.set.below hb).up hb.size) h.lk).mono fun e w' h => by
    have h2 := h.2
    rw [hE, if_neg h0] at h2
    exact ⟨h2, h.1⟩
theorem SuIn.voidE (h : SuIn a n c ba m bc ss bs ca k cs w) (hb : Below w.heap.size w W) {E : Int} (hE : checkF n ss m bs (setB n k cs) = E) (h0 : E ≠ 0) : Calls Tryd.prog 33 #[imageV a n c ba m bc, .slice ca k cc, .int .i64 most] W fun e w' => e = .returned (.tuple #[.bool false, .int .i64 E]) ∧ Below W.heap.size W w' :=
  (Void_any a n c ba m bc ss bs ca k cc cs most W _ (h.im.B' hb) (h.im.S hb) (h.im.M hb) ((h.set.below hb).up hb.size) h.lk).mono fun e w' h => by
    have h2 := h.2
    rw [hE, if_neg h0] at h2
    exact ⟨h2, h.1⟩
theorem SuIn.sum0 (h : SuIn a n c ba m bc ss bs ca k cs w) (hb : Below w.heap.size w W) (hE : checkF n ss m bs (setB n k cs) = 0) (hA : allF n ss m bs = []) : Calls Tryd.prog 32 #[imageV a n c ba m bc, .slice ca k cc] W fun e w' => e = .returned (.tuple #[.agg #[.int .i64 0, .int .i64 0], .int .i64 5]) ∧ Below W.heap.size W w' :=
  (Sum_any a n c ba m bc ss bs ca k cc cs W _ (h.im.B' hb) (h.im.S hb) (h.im.M hb) ((h.set.below hb).up hb.size) h.lk).mono fun e w' h => by
    have h2 := h.2
    rw [if_pos hE, if_pos hA] at h2
    exact ⟨h2, h.1⟩
theorem SuIn.void0 (h : SuIn a n c ba m bc ss bs ca k cs w) (hb : Below w.heap.size w W) (hE : checkF n ss m bs (setB n k cs) = 0) (hA : allF n ss m bs = []) : Calls Tryd.prog 33 #[imageV a n c ba m bc, .slice ca k cc, .int .i64 most] W fun e w' => e = .returned (.tuple #[.bool false, .int .i64 5]) ∧ Below W.heap.size W w' :=
  (Void_any a n c ba m bc ss bs ca k cc cs most W _ (h.im.B' hb) (h.im.S hb) (h.im.M hb) ((h.set.below hb).up hb.size) h.lk).mono fun e w' h => by
    have h2 := h.2
    rw [if_pos hE, if_pos hA] at h2
    exact ⟨h2, h.1⟩
theorem SuIn.sum1 (h : SuIn a n c ba m bc ss bs ca k cs w) (hb : Below w.heap.size w W) (hE : checkF n ss m bs (setB n k cs) = 0) (hA : allF n ss m bs ≠ []) : Calls Tryd.prog 32 #[imageV a n c ba m bc, .slice ca k cc] W fun e w' => e = .returned (.tuple #[.agg #[.int .i64 (bnd (fun f => sumL cs k (fOf f)) (allF n ss m bs)).lo, .int .i64 (bnd (fun f => sumL cs k (fOf f)) (allF n ss m bs)).hi], .int .i64 0]) ∧ Below W.heap.size W w' :=
  (Sum_any a n c ba m bc ss bs ca k cc cs W _ (h.im.B' hb) (h.im.S hb) (h.im.M hb) ((h.set.below hb).up hb.size) h.lk).mono fun e w' h => by
    have h2 := h.2
    rw [if_pos hE, if_neg hA] at h2
    exact ⟨h2, h.1⟩
theorem SuIn.void1 (h : SuIn a n c ba m bc ss bs ca k cs w) (hb : Below w.heap.size w W) (hE : checkF n ss m bs (setB n k cs) = 0) (hA : allF n ss m bs ≠ []) : Calls Tryd.prog 33 #[imageV a n c ba m bc, .slice ca k cc, .int .i64 most] W fun e w' => e = .returned (.tuple #[.bool (decide ((bnd (fun f => sumL cs k (fOf f)) (allF n ss m bs)).hi ≤ most)), .int .i64 0]) ∧ Below W.heap.size W w' :=
  (Void_any a n c ba m bc ss bs ca k cc cs most W _ (h.im.B' hb) (h.im.S hb) (h.im.M hb) ((h.set.below hb).up hb.size) h.lk).mono fun e w' h => by
    have h2 := h.2
    rw [if_pos hE, if_neg hA] at h2
    exact ⟨h2, h.1⟩
theorem SuIn.setC (h : SuIn a n c ba m bc ss bs ca k cs w) (hb : Below w.heap.size w W) : Calls Tryd.prog 34 #[.slice ca k cc, .int .i64 (n : Int)] W fun e w' => e = .returned (.bool (setB n k cs)) ∧ Below W.heap.size W w' :=
  r8Set_any ca k cc cs n W W.heap.size (Nat.le_refl _) h.im.spans.1 h.lk ((h.set.below hb).up hb.size)
theorem SuIn.rsum (h : SuIn a n c ba m bc ss bs ca k cs w) (hC : checkN n ss m bs = 0) (hl : (allF n ss m bs).length ≤ 1000000) (hs : setB n k cs = true) (hb : Below w.heap.size w W) (la : Option Addr) (lc : Nat) (hF : Flds W.heap.size W la n (allF n ss m bs)) : Calls Tryd.prog 35 #[.slice la (allF n ss m bs).length lc, .slice ca k cc] W fun e w' => e = .returned (.agg #[.int .i64 (bnd (fun f => sumL cs k (fOf f)) (allF n ss m bs)).lo, .int .i64 (bnd (fun f => sumL cs k (fOf f)) (allF n ss m bs)).hi]) ∧ Below W.heap.size W w' :=
  r8Sum_any la n lc (allF n ss m bs) ca k cc cs W hF hl (checkN_shape hC).n40 ((h.set.below hb).up hb.size) hs (fun i hi => inBox_den (checkN_shape hC) (all_field (by rw [List.getD_eq_getElem?_getD, List.getElem?_eq_getElem hi]; exact List.getElem_mem hi)).1)
end
theorem su_len {n m : Nat} {ss : Nat → SV} {bs : Nat → BM} (hC : checkN n ss m bs = 0) : (allF n ss m bs).length ≤ 200000 := by
  have h1 : longB n ss 200000 = false := by
    cases e : longB n ss 200000
    · rfl
    · unfold checkN at hC
      rw [if_neg (by rw [shapeB_iff.2 (checkN_shape hC)]; decide), if_pos e] at hC
      cases hC
  have := allF_le (checkN_shape hC) h1
  omega
set_option maxRecDepth 100000 in
set_option maxHeartbeats 4000000 in
theorem ImageSums_any (a : Option Addr) (n c : Nat) (ba : Option Addr) (m bc : Nat) (ss : Nat → SV) (bs : Nat → BM) (ca : Option Addr) (k cc : Nat) (cs : Nat → Int) (most : Int) (w : World) (B : Nat) (hBw : B ≤ w.heap.size) (hS : Spans B w a n ss) (hM : Beams B w ba m bs) (hF : Ints w.heap.size w ca k cs) (hk : k ≤ maxLen) (ht : Lib.TabIs Tryd.prog w "internal/strconv.uint64pow10" .u64 Lib.pow10Tab) :
    Calls Tryd.prog 7 #[imageV a n c ba m bc, .slice ca k cc, .int .i64 most] w fun e w' => e = .returned (.bool true) ∧ Below w.heap.size w w' := by
  have h : SuIn a n c ba m bc ss bs ca k cs w := ⟨⟨Nat.le_refl _, hS.up hBw, hM.up hBw, Lib.tabBelow_of_tabIs ht⟩, hF, hk⟩
  have HKN := Lib.hid (fun (W : World) (hb : Below w.heap.size w W) => h.im.known hb)
  have HSM := Lib.hid (fun (W : World) (hb : Below w.heap.size w W) => small_any a n c ba m bc ss bs 3000 W _ (h.im.B' hb) (h.im.S hb) (h.im.M hb))
  have HCH := Lib.hid (fun (W : World) (hb : Below w.heap.size w W) => r8Check_any a n c ba m bc ss bs W _ (h.im.B' hb) (h.im.S hb) (h.im.M hb))
  have HSP := Lib.hid (fun (W : World) (hb : Below w.heap.size w W) => r8Shape_any a n c ba m bc ss bs W _ (h.im.B' hb) (h.im.S hb) (h.im.M hb))
  have HSE := Lib.hid (fun (W : World) (hb : Below w.heap.size w W) => h.setC (cc := cc) hb)
  have hkl := hk
  unfold maxLen at hkl
  clear hS hM ht hF hk
  cases hsm : smallB n ss m bs 3000
  · rw [hsm] at HSM
    clear h
    go_enter Tryd.func7, Tryd.ntmps7; go_upto_region 1 with (fail); have HL := Lib.hid (show LI a n c ba m bc w (w.alloc (.cells #[.slice a n c, .slice ba m bc] 25)) from LI_start); generalize World.alloc w _ = V at *; obtain ⟨l0, l1, l2, l3⟩ := HL.out
    go_wp2_with (first | (go_at_call 22; refine (HSM.out _ l3).mono ?_; rintro e w2 ⟨rfl, hb2⟩; have HLx := Lib.hid (LI_step HL.out hb2); clear HL hb2; have HL := HLx; clear HLx; (try clear l0 l1 l2 l3); obtain ⟨l0, l1, l2, l3⟩ := HL.out) | (go_at_call 13; refine (HKN.out _ l3).mono ?_; rintro e wa ⟨rfl, hba⟩; have HLx := Lib.hid (LI_step HL.out hba); clear HL hba; have HL := HLx; clear HLx; (try clear l0 l1 l2 l3); obtain ⟨l0, l1, l2, l3⟩ := HL.out))
    go_ret
    exact ⟨rfl, l3⟩
  rw [hsm] at HSM
  by_cases hk6 : k ≤ 60
  · have hk6' : ¬ 60 < (k : Int) := by omega
    clear hk6
    cases hs : shapeB n ss m bs
    · rw [hs] at HSP
      have g1 : checkN n ss m bs = 2 := by rw [← checkF_true]; unfold checkF; rw [if_pos (.inl hs)]
      have g2 : checkF n ss m bs (setB n k cs) = 2 := by unfold checkF; rw [if_pos (.inl hs)]
      rw [g1] at HCH
      have HSU := Lib.hid (fun (W : World) (hb : Below w.heap.size w W) => h.sumE (cc := cc) hb g2 (by decide))
      have HVO := Lib.hid (fun (W : World) (hb : Below w.heap.size w W) => h.voidE (cc := cc) (most := most) hb g2 (by decide))
      clear h g1 g2
      go_enter Tryd.func7, Tryd.ntmps7; go_upto_region 1 with (fail); have HL := Lib.hid (show LI a n c ba m bc w (w.alloc (.cells #[.slice a n c, .slice ba m bc] 25)) from LI_start); generalize World.alloc w _ = V at *; obtain ⟨l0, l1, l2, l3⟩ := HL.out
      go_upto_region 4 with (first | (go_at_call 22; refine (HSM.out _ l3).mono ?_; rintro e w2 ⟨rfl, hb2⟩; have HLx := Lib.hid (LI_step HL.out hb2); clear HL hb2; have HL := HLx; clear HLx; (try clear l0 l1 l2 l3); obtain ⟨l0, l1, l2, l3⟩ := HL.out) | (go_at_call 32; refine (HSU.out _ l3).mono ?_; rintro e w3 ⟨rfl, hb3⟩; have HLx := Lib.hid (LI_step HL.out hb3); clear HL hb3; have HL := HLx; clear HLx; (try clear l0 l1 l2 l3); obtain ⟨l0, l1, l2, l3⟩ := HL.out)); rename World => W1; have HRB := Lib.hid (heap_alloc_new W1 (.cells #[.int .i64 0, .int .i64 0] 41)); have HL1 := Lib.hid (LI_step HL.out (alloc_below W1 (.cells #[.int .i64 0, .int .i64 0] 41))); clear HL l0 l1 l2 l3; have HL := HL1; clear HL1; obtain ⟨l0, l1, l2, l3⟩ := HL.out
      generalize World.alloc W1 _ = V1 at *
      generalize W1.heap.size = sb at *
      go_upto_region 14 with (first | (go_at_call 33; refine (HVO.out _ l3).mono ?_; rintro e w4 ⟨rfl, hb4⟩; have HRx := Lib.hid (((hb4).block _ (Array.getElem?_eq_some_iff.1 HRB.out).1).trans HRB.out); clear HRB; have HRB := HRx; clear HRx; have HLx := Lib.hid (LI_step HL.out hb4); clear HL hb4; have HL := HLx; clear HLx; (try clear l0 l1 l2 l3); obtain ⟨l0, l1, l2, l3⟩ := HL.out) | (go_at_call 10; refine (HCH.out _ l3).mono ?_; rintro e w5 ⟨rfl, hb5⟩; have HRx := Lib.hid (((hb5).block _ (Array.getElem?_eq_some_iff.1 HRB.out).1).trans HRB.out); clear HRB; have HRB := HRx; clear HRx; have HLx := Lib.hid (LI_step HL.out hb5); clear HL hb5; have HL := HLx; clear HLx; (try clear l0 l1 l2 l3); obtain ⟨l0, l1, l2, l3⟩ := HL.out) | (go_at_call 23; refine (HSP.out _ l3).mono ?_; rintro e w6 ⟨rfl, hb6⟩; have HRx := Lib.hid (((hb6).block _ (Array.getElem?_eq_some_iff.1 HRB.out).1).trans HRB.out); clear HRB; have HRB := HRx; clear HRx; have HLx := Lib.hid (LI_step HL.out hb6); clear HL hb6; have HL := HLx; clear HLx; (try clear l0 l1 l2 l3); obtain ⟨l0, l1, l2, l3⟩ := HL.out) | (go_at_call 34; refine (HSE.out _ l3).mono ?_; rintro e w7 ⟨rfl, hb7⟩; have HRx := Lib.hid (((hb7).block _ (Array.getElem?_eq_some_iff.1 HRB.out).1).trans HRB.out); clear HRB; have HRB := HRx; clear HRx; have HLx := Lib.hid (LI_step HL.out hb7); clear HL hb7; have HL := HLx; clear HLx; (try clear l0 l1 l2 l3); obtain ⟨l0, l1, l2, l3⟩ := HL.out))
      have s0 := (cell_of_row _ _ 0 _ _ _ HRB.out).trans (show _ = some (Value.int .i64 0) from rfl)
      have s1 := (cell_of_row _ _ 1 _ _ _ HRB.out).trans (show _ = some (Value.int .i64 0) from rfl)
      go_wp2_with (first | (go_at_call 13; refine (HKN.out _ l3).mono ?_; rintro e wa ⟨rfl, hba⟩; have HLx := Lib.hid (LI_step HL.out hba); clear HL hba; have HL := HLx; clear HLx; (try clear l0 l1 l2 l3); obtain ⟨l0, l1, l2, l3⟩ := HL.out))
      go_ret
      exact ⟨rfl, l3⟩
    rw [hs] at HSP
    cases hst : setB n k cs
    · rw [hst] at HSE
      have g2 : checkF n ss m bs (setB n k cs) = 2 := by rw [hst]; unfold checkF; rw [if_pos (.inr rfl)]
      have HSU := Lib.hid (fun (W : World) (hb : Below w.heap.size w W) => h.sumE (cc := cc) hb g2 (by decide))
      have HVO := Lib.hid (fun (W : World) (hb : Below w.heap.size w W) => h.voidE (cc := cc) (most := most) hb g2 (by decide))
      clear h g2
      generalize checkN n ss m bs = C at *
      go_enter Tryd.func7, Tryd.ntmps7; go_upto_region 1 with (fail); have HL := Lib.hid (show LI a n c ba m bc w (w.alloc (.cells #[.slice a n c, .slice ba m bc] 25)) from LI_start); generalize World.alloc w _ = V at *; obtain ⟨l0, l1, l2, l3⟩ := HL.out
      go_upto_region 4 with (first | (go_at_call 22; refine (HSM.out _ l3).mono ?_; rintro e w2 ⟨rfl, hb2⟩; have HLx := Lib.hid (LI_step HL.out hb2); clear HL hb2; have HL := HLx; clear HLx; (try clear l0 l1 l2 l3); obtain ⟨l0, l1, l2, l3⟩ := HL.out) | (go_at_call 32; refine (HSU.out _ l3).mono ?_; rintro e w3 ⟨rfl, hb3⟩; have HLx := Lib.hid (LI_step HL.out hb3); clear HL hb3; have HL := HLx; clear HLx; (try clear l0 l1 l2 l3); obtain ⟨l0, l1, l2, l3⟩ := HL.out)); rename World => W1; have HRB := Lib.hid (heap_alloc_new W1 (.cells #[.int .i64 0, .int .i64 0] 41)); have HL1 := Lib.hid (LI_step HL.out (alloc_below W1 (.cells #[.int .i64 0, .int .i64 0] 41))); clear HL l0 l1 l2 l3; have HL := HL1; clear HL1; obtain ⟨l0, l1, l2, l3⟩ := HL.out
      generalize World.alloc W1 _ = V1 at *
      generalize W1.heap.size = sb at *
      go_upto_region 14 with (first | (go_at_call 33; refine (HVO.out _ l3).mono ?_; rintro e w4 ⟨rfl, hb4⟩; have HRx := Lib.hid (((hb4).block _ (Array.getElem?_eq_some_iff.1 HRB.out).1).trans HRB.out); clear HRB; have HRB := HRx; clear HRx; have HLx := Lib.hid (LI_step HL.out hb4); clear HL hb4; have HL := HLx; clear HLx; (try clear l0 l1 l2 l3); obtain ⟨l0, l1, l2, l3⟩ := HL.out) | (go_at_call 10; refine (HCH.out _ l3).mono ?_; rintro e w5 ⟨rfl, hb5⟩; have HRx := Lib.hid (((hb5).block _ (Array.getElem?_eq_some_iff.1 HRB.out).1).trans HRB.out); clear HRB; have HRB := HRx; clear HRx; have HLx := Lib.hid (LI_step HL.out hb5); clear HL hb5; have HL := HLx; clear HLx; (try clear l0 l1 l2 l3); obtain ⟨l0, l1, l2, l3⟩ := HL.out) | (go_at_call 23; refine (HSP.out _ l3).mono ?_; rintro e w6 ⟨rfl, hb6⟩; have HRx := Lib.hid (((hb6).block _ (Array.getElem?_eq_some_iff.1 HRB.out).1).trans HRB.out); clear HRB; have HRB := HRx; clear HRx; have HLx := Lib.hid (LI_step HL.out hb6); clear HL hb6; have HL := HLx; clear HLx; (try clear l0 l1 l2 l3); obtain ⟨l0, l1, l2, l3⟩ := HL.out) | (go_at_call 34; refine (HSE.out _ l3).mono ?_; rintro e w7 ⟨rfl, hb7⟩; have HRx := Lib.hid (((hb7).block _ (Array.getElem?_eq_some_iff.1 HRB.out).1).trans HRB.out); clear HRB; have HRB := HRx; clear HRx; have HLx := Lib.hid (LI_step HL.out hb7); clear HL hb7; have HL := HLx; clear HLx; (try clear l0 l1 l2 l3); obtain ⟨l0, l1, l2, l3⟩ := HL.out))
      have s0 := (cell_of_row _ _ 0 _ _ _ HRB.out).trans (show _ = some (Value.int .i64 0) from rfl)
      have s1 := (cell_of_row _ _ 1 _ _ _ HRB.out).trans (show _ = some (Value.int .i64 0) from rfl)
      go_wp2_with (first | (go_at_call 13; refine (HKN.out _ l3).mono ?_; rintro e wa ⟨rfl, hba⟩; have HLx := Lib.hid (LI_step HL.out hba); clear HL hba; have HL := HLx; clear HLx; (try clear l0 l1 l2 l3); obtain ⟨l0, l1, l2, l3⟩ := HL.out))
      go_ret
      exact ⟨rfl, l3⟩
    rw [hst] at HSE
    by_cases hC : checkN n ss m bs = 0
    · have g2 : checkF n ss m bs (setB n k cs) = 0 := by rw [hst, checkF_true]; exact hC
      have hal := su_len hC
      rw [hC] at HCH
      have HAL := Lib.hid (fun (W : World) (hb : Below w.heap.size w W) => r8All_any a n c ba m bc ss bs W _ (h.im.B' hb) (h.im.S hb) (h.im.M hb) (checkN_shape hC) (by omega))
      by_cases hA : allF n ss m bs = []
      · have HSU := Lib.hid (fun (W : World) (hb : Below w.heap.size w W) => h.sum0 (cc := cc) hb g2 hA)
        have HVO := Lib.hid (fun (W : World) (hb : Below w.heap.size w W) => h.void0 (cc := cc) (most := most) hb g2 hA)
        rw [hA] at HAL
        clear h g2 hC hA hal
        go_enter Tryd.func7, Tryd.ntmps7; go_upto_region 1 with (fail); have HL := Lib.hid (show LI a n c ba m bc w (w.alloc (.cells #[.slice a n c, .slice ba m bc] 25)) from LI_start); generalize World.alloc w _ = V at *; obtain ⟨l0, l1, l2, l3⟩ := HL.out
        go_upto_region 4 with (first | (go_at_call 22; refine (HSM.out _ l3).mono ?_; rintro e w2 ⟨rfl, hb2⟩; have HLx := Lib.hid (LI_step HL.out hb2); clear HL hb2; have HL := HLx; clear HLx; (try clear l0 l1 l2 l3); obtain ⟨l0, l1, l2, l3⟩ := HL.out) | (go_at_call 32; refine (HSU.out _ l3).mono ?_; rintro e w3 ⟨rfl, hb3⟩; have HLx := Lib.hid (LI_step HL.out hb3); clear HL hb3; have HL := HLx; clear HLx; (try clear l0 l1 l2 l3); obtain ⟨l0, l1, l2, l3⟩ := HL.out)); rename World => W1; have HRB := Lib.hid (heap_alloc_new W1 (.cells #[.int .i64 0, .int .i64 0] 41)); have HL1 := Lib.hid (LI_step HL.out (alloc_below W1 (.cells #[.int .i64 0, .int .i64 0] 41))); clear HL l0 l1 l2 l3; have HL := HL1; clear HL1; obtain ⟨l0, l1, l2, l3⟩ := HL.out
        generalize World.alloc W1 _ = V1 at *
        generalize W1.heap.size = sb at *
        go_upto_region 14 with (first | (go_at_call 33; refine (HVO.out _ l3).mono ?_; rintro e w4 ⟨rfl, hb4⟩; have HRx := Lib.hid (((hb4).block _ (Array.getElem?_eq_some_iff.1 HRB.out).1).trans HRB.out); clear HRB; have HRB := HRx; clear HRx; have HLx := Lib.hid (LI_step HL.out hb4); clear HL hb4; have HL := HLx; clear HLx; (try clear l0 l1 l2 l3); obtain ⟨l0, l1, l2, l3⟩ := HL.out) | (go_at_call 10; refine (HCH.out _ l3).mono ?_; rintro e w5 ⟨rfl, hb5⟩; have HRx := Lib.hid (((hb5).block _ (Array.getElem?_eq_some_iff.1 HRB.out).1).trans HRB.out); clear HRB; have HRB := HRx; clear HRx; have HLx := Lib.hid (LI_step HL.out hb5); clear HL hb5; have HL := HLx; clear HLx; (try clear l0 l1 l2 l3); obtain ⟨l0, l1, l2, l3⟩ := HL.out) | (go_at_call 23; refine (HSP.out _ l3).mono ?_; rintro e w6 ⟨rfl, hb6⟩; have HRx := Lib.hid (((hb6).block _ (Array.getElem?_eq_some_iff.1 HRB.out).1).trans HRB.out); clear HRB; have HRB := HRx; clear HRx; have HLx := Lib.hid (LI_step HL.out hb6); clear HL hb6; have HL := HLx; clear HLx; (try clear l0 l1 l2 l3); obtain ⟨l0, l1, l2, l3⟩ := HL.out) | (go_at_call 34; refine (HSE.out _ l3).mono ?_; rintro e w7 ⟨rfl, hb7⟩; have HRx := Lib.hid (((hb7).block _ (Array.getElem?_eq_some_iff.1 HRB.out).1).trans HRB.out); clear HRB; have HRB := HRx; clear HRx; have HLx := Lib.hid (LI_step HL.out hb7); clear HL hb7; have HL := HLx; clear HLx; (try clear l0 l1 l2 l3); obtain ⟨l0, l1, l2, l3⟩ := HL.out) | (go_at_call 25; refine (HAL.out _ l3).mono ?_; rintro e w8 ⟨⟨la, lc, rfl, hfl⟩, hb8⟩; have HX := Lib.hid hfl; clear hfl; have HRx := Lib.hid (((hb8).block _ (Array.getElem?_eq_some_iff.1 HRB.out).1).trans HRB.out); clear HRB; have HRB := HRx; clear HRx; have HLx := Lib.hid (LI_step HL.out hb8); clear HL hb8; have HL := HLx; clear HLx; (try clear l0 l1 l2 l3); obtain ⟨l0, l1, l2, l3⟩ := HL.out))
        have s0 := (cell_of_row _ _ 0 _ _ _ HRB.out).trans (show _ = some (Value.int .i64 0) from rfl)
        have s1 := (cell_of_row _ _ 1 _ _ _ HRB.out).trans (show _ = some (Value.int .i64 0) from rfl)
        go_wp2_with (first | (go_at_call 13; refine (HKN.out _ l3).mono ?_; rintro e wa ⟨rfl, hba⟩; have HLx := Lib.hid (LI_step HL.out hba); clear HL hba; have HL := HLx; clear HLx; (try clear l0 l1 l2 l3); obtain ⟨l0, l1, l2, l3⟩ := HL.out))
        go_ret
        exact ⟨rfl, l3⟩
      · have HSU := Lib.hid (fun (W : World) (hb : Below w.heap.size w W) => h.sum1 (cc := cc) hb g2 hA)
        have HVO := Lib.hid (fun (W : World) (hb : Below w.heap.size w W) => h.void1 (cc := cc) (most := most) hb g2 hA)
        have HRS := Lib.hid (fun (W : World) (hb : Below w.heap.size w W) la lc hF => h.rsum (cc := cc) hC (by omega) hst hb la lc hF)
        have hpos : 0 < (allF n ss m bs).length := List.length_pos_iff.2 hA
        generalize allF n ss m bs = l at *
        generalize bnd (fun f => sumL cs k (fOf f)) l = S at *
        obtain ⟨N, hN⟩ : ∃ N, l.length = N := ⟨_, rfl⟩
        rw [hN] at HAL HRS hpos
        have hN0 : ((N : Int) == 0) = false := by rw [beq_eq_false_iff_ne]; omega
        clear h g2 hC hA hal hN
        have hq1 : (S.lo == S.lo) = true := by simp
        have hq2 : (S.hi == S.hi) = true := by simp
        cases hmo : decide (S.hi ≤ most)
        · rw [hmo] at HVO
          have hmo' := of_decide_eq_false hmo
          have hmo2 : ¬ S.hi ≤ most := hmo'
          go_enter Tryd.func7, Tryd.ntmps7; go_upto_region 1 with (fail); have HL := Lib.hid (show LI a n c ba m bc w (w.alloc (.cells #[.slice a n c, .slice ba m bc] 25)) from LI_start); generalize World.alloc w _ = V at *; obtain ⟨l0, l1, l2, l3⟩ := HL.out
          go_upto_region 4 with (first | (go_at_call 22; refine (HSM.out _ l3).mono ?_; rintro e w2 ⟨rfl, hb2⟩; have HLx := Lib.hid (LI_step HL.out hb2); clear HL hb2; have HL := HLx; clear HLx; (try clear l0 l1 l2 l3); obtain ⟨l0, l1, l2, l3⟩ := HL.out) | (go_at_call 32; refine (HSU.out _ l3).mono ?_; rintro e w3 ⟨rfl, hb3⟩; have HLx := Lib.hid (LI_step HL.out hb3); clear HL hb3; have HL := HLx; clear HLx; (try clear l0 l1 l2 l3); obtain ⟨l0, l1, l2, l3⟩ := HL.out)); rename World => W1; have HRB := Lib.hid (heap_alloc_new W1 (.cells #[.int .i64 S.lo, .int .i64 S.hi] 41)); have HL1 := Lib.hid (LI_step HL.out (alloc_below W1 (.cells #[.int .i64 S.lo, .int .i64 S.hi] 41))); clear HL l0 l1 l2 l3; have HL := HL1; clear HL1; obtain ⟨l0, l1, l2, l3⟩ := HL.out
          generalize World.alloc W1 _ = V1 at *
          generalize W1.heap.size = sb at *
          go_upto_region 16 with (first | (go_at_call 33; refine (HVO.out _ l3).mono ?_; rintro e w4 ⟨rfl, hb4⟩; have HRx := Lib.hid (((hb4).block _ (Array.getElem?_eq_some_iff.1 HRB.out).1).trans HRB.out); clear HRB; have HRB := HRx; clear HRx; have HLx := Lib.hid (LI_step HL.out hb4); clear HL hb4; have HL := HLx; clear HLx; (try clear l0 l1 l2 l3); obtain ⟨l0, l1, l2, l3⟩ := HL.out) | (go_at_call 10; refine (HCH.out _ l3).mono ?_; rintro e w5 ⟨rfl, hb5⟩; have HRx := Lib.hid (((hb5).block _ (Array.getElem?_eq_some_iff.1 HRB.out).1).trans HRB.out); clear HRB; have HRB := HRx; clear HRx; have HLx := Lib.hid (LI_step HL.out hb5); clear HL hb5; have HL := HLx; clear HLx; (try clear l0 l1 l2 l3); obtain ⟨l0, l1, l2, l3⟩ := HL.out) | (go_at_call 23; refine (HSP.out _ l3).mono ?_; rintro e w6 ⟨rfl, hb6⟩; have HRx := Lib.hid (((hb6).block _ (Array.getElem?_eq_some_iff.1 HRB.out).1).trans HRB.out); clear HRB; have HRB := HRx; clear HRx; have HLx := Lib.hid (LI_step HL.out hb6); clear HL hb6; have HL := HLx; clear HLx; (try clear l0 l1 l2 l3); obtain ⟨l0, l1, l2, l3⟩ := HL.out) | (go_at_call 34; refine (HSE.out _ l3).mono ?_; rintro e w7 ⟨rfl, hb7⟩; have HRx := Lib.hid (((hb7).block _ (Array.getElem?_eq_some_iff.1 HRB.out).1).trans HRB.out); clear HRB; have HRB := HRx; clear HRx; have HLx := Lib.hid (LI_step HL.out hb7); clear HL hb7; have HL := HLx; clear HLx; (try clear l0 l1 l2 l3); obtain ⟨l0, l1, l2, l3⟩ := HL.out) | (go_at_call 25; refine (HAL.out _ l3).mono ?_; rintro e w8 ⟨⟨la, lc, rfl, hfl⟩, hb8⟩; have HX := Lib.hid hfl; clear hfl; have HRx := Lib.hid (((hb8).block _ (Array.getElem?_eq_some_iff.1 HRB.out).1).trans HRB.out); clear HRB; have HRB := HRx; clear HRx; have HLx := Lib.hid (LI_step HL.out hb8); clear HL hb8; have HL := HLx; clear HLx; (try clear l0 l1 l2 l3); obtain ⟨l0, l1, l2, l3⟩ := HL.out) | (go_at_call 35; refine (HRS.out _ l3 la lc HX.out).mono ?_; rintro e w9 ⟨rfl, hb9⟩; clear HX; have HRx := Lib.hid (((hb9).block _ (Array.getElem?_eq_some_iff.1 HRB.out).1).trans HRB.out); clear HRB; have HRB := HRx; clear HRx; have HLx := Lib.hid (LI_step HL.out hb9); clear HL hb9; have HL := HLx; clear HLx; (try clear l0 l1 l2 l3); obtain ⟨l0, l1, l2, l3⟩ := HL.out))
          have HRC := Lib.hid (heap_alloc_new w9 (.cells #[.int .i64 S.lo, .int .i64 S.hi] 41))
          have hb2 := alloc_below w9 (.cells #[.int .i64 S.lo, .int .i64 S.hi] 41)
          have HRx := Lib.hid (((hb2).block _ (Array.getElem?_eq_some_iff.1 HRB.out).1).trans HRB.out); clear HRB; have HRB := HRx; clear HRx
          have HL2 := Lib.hid (LI_step HL.out hb2)
          clear HL l0 l1 l2 l3 hb2
          have HL := HL2
          clear HL2
          obtain ⟨l0, l1, l2, l3⟩ := HL.out
          generalize World.alloc w9 _ = V2 at *
          generalize w9.heap.size = xb at *
          have s0 := (cell_of_row _ _ 0 _ _ _ HRB.out).trans (show _ = some (Value.int .i64 S.lo) from rfl)
          have s1 := (cell_of_row _ _ 1 _ _ _ HRB.out).trans (show _ = some (Value.int .i64 S.hi) from rfl)
          have x0 := (cell_of_row _ _ 0 _ _ _ HRC.out).trans (show _ = some (Value.int .i64 S.lo) from rfl)
          have x1 := (cell_of_row _ _ 1 _ _ _ HRC.out).trans (show _ = some (Value.int .i64 S.hi) from rfl)
          go_wp2_with (first | (go_at_call 13; refine (HKN.out _ l3).mono ?_; rintro e wa ⟨rfl, hba⟩; have HLx := Lib.hid (LI_step HL.out hba); clear HL hba; have HL := HLx; clear HLx; (try clear l0 l1 l2 l3); obtain ⟨l0, l1, l2, l3⟩ := HL.out))
          go_ret
          exact ⟨rfl, l3⟩
        · rw [hmo] at HVO
          have hmo' := of_decide_eq_true hmo
          go_enter Tryd.func7, Tryd.ntmps7; go_upto_region 1 with (fail); have HL := Lib.hid (show LI a n c ba m bc w (w.alloc (.cells #[.slice a n c, .slice ba m bc] 25)) from LI_start); generalize World.alloc w _ = V at *; obtain ⟨l0, l1, l2, l3⟩ := HL.out
          go_upto_region 4 with (first | (go_at_call 22; refine (HSM.out _ l3).mono ?_; rintro e w2 ⟨rfl, hb2⟩; have HLx := Lib.hid (LI_step HL.out hb2); clear HL hb2; have HL := HLx; clear HLx; (try clear l0 l1 l2 l3); obtain ⟨l0, l1, l2, l3⟩ := HL.out) | (go_at_call 32; refine (HSU.out _ l3).mono ?_; rintro e w3 ⟨rfl, hb3⟩; have HLx := Lib.hid (LI_step HL.out hb3); clear HL hb3; have HL := HLx; clear HLx; (try clear l0 l1 l2 l3); obtain ⟨l0, l1, l2, l3⟩ := HL.out)); rename World => W1; have HRB := Lib.hid (heap_alloc_new W1 (.cells #[.int .i64 S.lo, .int .i64 S.hi] 41)); have HL1 := Lib.hid (LI_step HL.out (alloc_below W1 (.cells #[.int .i64 S.lo, .int .i64 S.hi] 41))); clear HL l0 l1 l2 l3; have HL := HL1; clear HL1; obtain ⟨l0, l1, l2, l3⟩ := HL.out
          generalize World.alloc W1 _ = V1 at *
          generalize W1.heap.size = sb at *
          go_upto_region 16 with (first | (go_at_call 33; refine (HVO.out _ l3).mono ?_; rintro e w4 ⟨rfl, hb4⟩; have HRx := Lib.hid (((hb4).block _ (Array.getElem?_eq_some_iff.1 HRB.out).1).trans HRB.out); clear HRB; have HRB := HRx; clear HRx; have HLx := Lib.hid (LI_step HL.out hb4); clear HL hb4; have HL := HLx; clear HLx; (try clear l0 l1 l2 l3); obtain ⟨l0, l1, l2, l3⟩ := HL.out) | (go_at_call 10; refine (HCH.out _ l3).mono ?_; rintro e w5 ⟨rfl, hb5⟩; have HRx := Lib.hid (((hb5).block _ (Array.getElem?_eq_some_iff.1 HRB.out).1).trans HRB.out); clear HRB; have HRB := HRx; clear HRx; have HLx := Lib.hid (LI_step HL.out hb5); clear HL hb5; have HL := HLx; clear HLx; (try clear l0 l1 l2 l3); obtain ⟨l0, l1, l2, l3⟩ := HL.out) | (go_at_call 23; refine (HSP.out _ l3).mono ?_; rintro e w6 ⟨rfl, hb6⟩; have HRx := Lib.hid (((hb6).block _ (Array.getElem?_eq_some_iff.1 HRB.out).1).trans HRB.out); clear HRB; have HRB := HRx; clear HRx; have HLx := Lib.hid (LI_step HL.out hb6); clear HL hb6; have HL := HLx; clear HLx; (try clear l0 l1 l2 l3); obtain ⟨l0, l1, l2, l3⟩ := HL.out) | (go_at_call 34; refine (HSE.out _ l3).mono ?_; rintro e w7 ⟨rfl, hb7⟩; have HRx := Lib.hid (((hb7).block _ (Array.getElem?_eq_some_iff.1 HRB.out).1).trans HRB.out); clear HRB; have HRB := HRx; clear HRx; have HLx := Lib.hid (LI_step HL.out hb7); clear HL hb7; have HL := HLx; clear HLx; (try clear l0 l1 l2 l3); obtain ⟨l0, l1, l2, l3⟩ := HL.out) | (go_at_call 25; refine (HAL.out _ l3).mono ?_; rintro e w8 ⟨⟨la, lc, rfl, hfl⟩, hb8⟩; have HX := Lib.hid hfl; clear hfl; have HRx := Lib.hid (((hb8).block _ (Array.getElem?_eq_some_iff.1 HRB.out).1).trans HRB.out); clear HRB; have HRB := HRx; clear HRx; have HLx := Lib.hid (LI_step HL.out hb8); clear HL hb8; have HL := HLx; clear HLx; (try clear l0 l1 l2 l3); obtain ⟨l0, l1, l2, l3⟩ := HL.out) | (go_at_call 35; refine (HRS.out _ l3 la lc HX.out).mono ?_; rintro e w9 ⟨rfl, hb9⟩; clear HX; have HRx := Lib.hid (((hb9).block _ (Array.getElem?_eq_some_iff.1 HRB.out).1).trans HRB.out); clear HRB; have HRB := HRx; clear HRx; have HLx := Lib.hid (LI_step HL.out hb9); clear HL hb9; have HL := HLx; clear HLx; (try clear l0 l1 l2 l3); obtain ⟨l0, l1, l2, l3⟩ := HL.out))
          have HRC := Lib.hid (heap_alloc_new w9 (.cells #[.int .i64 S.lo, .int .i64 S.hi] 41))
          have hb2 := alloc_below w9 (.cells #[.int .i64 S.lo, .int .i64 S.hi] 41)
          have HRx := Lib.hid (((hb2).block _ (Array.getElem?_eq_some_iff.1 HRB.out).1).trans HRB.out); clear HRB; have HRB := HRx; clear HRx
          have HL2 := Lib.hid (LI_step HL.out hb2)
          clear HL l0 l1 l2 l3 hb2
          have HL := HL2
          clear HL2
          obtain ⟨l0, l1, l2, l3⟩ := HL.out
          generalize World.alloc w9 _ = V2 at *
          generalize w9.heap.size = xb at *
          have s0 := (cell_of_row _ _ 0 _ _ _ HRB.out).trans (show _ = some (Value.int .i64 S.lo) from rfl)
          have s1 := (cell_of_row _ _ 1 _ _ _ HRB.out).trans (show _ = some (Value.int .i64 S.hi) from rfl)
          have x0 := (cell_of_row _ _ 0 _ _ _ HRC.out).trans (show _ = some (Value.int .i64 S.lo) from rfl)
          have x1 := (cell_of_row _ _ 1 _ _ _ HRC.out).trans (show _ = some (Value.int .i64 S.hi) from rfl)
          go_wp2_with (first | (go_at_call 13; refine (HKN.out _ l3).mono ?_; rintro e wa ⟨rfl, hba⟩; have HLx := Lib.hid (LI_step HL.out hba); clear HL hba; have HL := HLx; clear HLx; (try clear l0 l1 l2 l3); obtain ⟨l0, l1, l2, l3⟩ := HL.out))
          go_ret
          exact ⟨rfl, l3⟩
    · have g2 : checkF n ss m bs (setB n k cs) = checkN n ss m bs := by rw [hst, checkF_true]
      have HSU := Lib.hid (fun (W : World) (hb : Below w.heap.size w W) => h.sumE (cc := cc) hb g2 hC)
      have HVO := Lib.hid (fun (W : World) (hb : Below w.heap.size w W) => h.voidE (cc := cc) (most := most) hb g2 hC)
      have hne : (checkN n ss m bs == 0) = false := by rw [beq_eq_false_iff_ne]; exact hC
      clear h g2 hC
      generalize checkN n ss m bs = E at *
      have hne2 : (E != 0) = true := by rw [bne, hne]; rfl
      have hee : (E == E) = true := by simp
      go_enter Tryd.func7, Tryd.ntmps7; go_upto_region 1 with (fail); have HL := Lib.hid (show LI a n c ba m bc w (w.alloc (.cells #[.slice a n c, .slice ba m bc] 25)) from LI_start); generalize World.alloc w _ = V at *; obtain ⟨l0, l1, l2, l3⟩ := HL.out
      go_upto_region 4 with (first | (go_at_call 22; refine (HSM.out _ l3).mono ?_; rintro e w2 ⟨rfl, hb2⟩; have HLx := Lib.hid (LI_step HL.out hb2); clear HL hb2; have HL := HLx; clear HLx; (try clear l0 l1 l2 l3); obtain ⟨l0, l1, l2, l3⟩ := HL.out) | (go_at_call 32; refine (HSU.out _ l3).mono ?_; rintro e w3 ⟨rfl, hb3⟩; have HLx := Lib.hid (LI_step HL.out hb3); clear HL hb3; have HL := HLx; clear HLx; (try clear l0 l1 l2 l3); obtain ⟨l0, l1, l2, l3⟩ := HL.out)); rename World => W1; have HRB := Lib.hid (heap_alloc_new W1 (.cells #[.int .i64 0, .int .i64 0] 41)); have HL1 := Lib.hid (LI_step HL.out (alloc_below W1 (.cells #[.int .i64 0, .int .i64 0] 41))); clear HL l0 l1 l2 l3; have HL := HL1; clear HL1; obtain ⟨l0, l1, l2, l3⟩ := HL.out
      generalize World.alloc W1 _ = V1 at *
      generalize W1.heap.size = sb at *
      go_upto_region 14 with (first | (go_at_call 33; refine (HVO.out _ l3).mono ?_; rintro e w4 ⟨rfl, hb4⟩; have HRx := Lib.hid (((hb4).block _ (Array.getElem?_eq_some_iff.1 HRB.out).1).trans HRB.out); clear HRB; have HRB := HRx; clear HRx; have HLx := Lib.hid (LI_step HL.out hb4); clear HL hb4; have HL := HLx; clear HLx; (try clear l0 l1 l2 l3); obtain ⟨l0, l1, l2, l3⟩ := HL.out) | (go_at_call 10; refine (HCH.out _ l3).mono ?_; rintro e w5 ⟨rfl, hb5⟩; have HRx := Lib.hid (((hb5).block _ (Array.getElem?_eq_some_iff.1 HRB.out).1).trans HRB.out); clear HRB; have HRB := HRx; clear HRx; have HLx := Lib.hid (LI_step HL.out hb5); clear HL hb5; have HL := HLx; clear HLx; (try clear l0 l1 l2 l3); obtain ⟨l0, l1, l2, l3⟩ := HL.out) | (go_at_call 23; refine (HSP.out _ l3).mono ?_; rintro e w6 ⟨rfl, hb6⟩; have HRx := Lib.hid (((hb6).block _ (Array.getElem?_eq_some_iff.1 HRB.out).1).trans HRB.out); clear HRB; have HRB := HRx; clear HRx; have HLx := Lib.hid (LI_step HL.out hb6); clear HL hb6; have HL := HLx; clear HLx; (try clear l0 l1 l2 l3); obtain ⟨l0, l1, l2, l3⟩ := HL.out) | (go_at_call 34; refine (HSE.out _ l3).mono ?_; rintro e w7 ⟨rfl, hb7⟩; have HRx := Lib.hid (((hb7).block _ (Array.getElem?_eq_some_iff.1 HRB.out).1).trans HRB.out); clear HRB; have HRB := HRx; clear HRx; have HLx := Lib.hid (LI_step HL.out hb7); clear HL hb7; have HL := HLx; clear HLx; (try clear l0 l1 l2 l3); obtain ⟨l0, l1, l2, l3⟩ := HL.out))
      have s0 := (cell_of_row _ _ 0 _ _ _ HRB.out).trans (show _ = some (Value.int .i64 0) from rfl)
      have s1 := (cell_of_row _ _ 1 _ _ _ HRB.out).trans (show _ = some (Value.int .i64 0) from rfl)
      go_wp2_with (first | (go_at_call 13; refine (HKN.out _ l3).mono ?_; rintro e wa ⟨rfl, hba⟩; have HLx := Lib.hid (LI_step HL.out hba); clear HL hba; have HL := HLx; clear HLx; (try clear l0 l1 l2 l3); obtain ⟨l0, l1, l2, l3⟩ := HL.out))
      go_ret
      exact ⟨rfl, l3⟩
  · have hk6' : 60 < (k : Int) := by omega
    clear hk6 h
    go_enter Tryd.func7, Tryd.ntmps7; go_upto_region 1 with (fail); have HL := Lib.hid (show LI a n c ba m bc w (w.alloc (.cells #[.slice a n c, .slice ba m bc] 25)) from LI_start); generalize World.alloc w _ = V at *; obtain ⟨l0, l1, l2, l3⟩ := HL.out
    go_wp2_with (first | (go_at_call 22; refine (HSM.out _ l3).mono ?_; rintro e w2 ⟨rfl, hb2⟩; have HLx := Lib.hid (LI_step HL.out hb2); clear HL hb2; have HL := HLx; clear HLx; (try clear l0 l1 l2 l3); obtain ⟨l0, l1, l2, l3⟩ := HL.out) | (go_at_call 13; refine (HKN.out _ l3).mono ?_; rintro e wa ⟨rfl, hba⟩; have HLx := Lib.hid (LI_step HL.out hba); clear HL hba; have HL := HLx; clear HLx; (try clear l0 l1 l2 l3); obtain ⟨l0, l1, l2, l3⟩ := HL.out))
    go_ret
    exact ⟨rfl, l3⟩
end Go.Proofs.YtollfpnfnciekaaDoor
