/- The walk of the statement ImageChecks. -/
import Derived.Test.YtaocbfhokadppaaDoorGrA
import Derived.Test.YtaocbfhokadppaaDoorImAgr
namespace Go.Proofs.YtaocbfhokadppaaDoor
open Go.RowKit
set_option linter.unusedVariables false
set_option linter.unusedSimpArgs false
set_option maxRecDepth 100000 in
set_option maxHeartbeats 4000000 in
theorem ImageChecks_any (a : Option Addr) (n c : Nat) (ba : Option Addr) (m bc : Nat) (ss : Nat → SV) (bs : Nat → BM) (fa : Option Addr) (k fc : Nat) (f : Nat → Int) (w : World) (B : Nat) (hBw : B ≤ w.heap.size) (hS : Spans B w a n ss) (hM : Beams B w ba m bs) (hF : Ints w.heap.size w fa k f) (hk : k ≤ maxLen) (ht : Lib.TabIs Tryd.prog w "internal/strconv.uint64pow10" .u64 Lib.pow10Tab) :
    Calls Tryd.prog 6 #[imageV a n c ba m bc, .slice fa k fc] w fun e w' => e = .returned (.bool true) ∧ Below w.heap.size w w' := by
  have HI := Lib.hid (show ImIn B a n c ba m bc ss bs w from ⟨hBw, hS, hM, Lib.tabBelow_of_tabIs ht⟩)
  have HKN := Lib.hid (fun (W : World) (hb : Below w.heap.size w W) => HI.out.known hb)
  have HST := Lib.hid (fun (W : World) (hb : Below w.heap.size w W) => short_any a n c ba m bc bs W B (HI.out.B' hb) hS.1 (HI.out.M hb))
  have HCH := Lib.hid (fun (W : World) (hb : Below w.heap.size w W) => r8Check_any a n c ba m bc ss bs W B (HI.out.B' hb) (HI.out.S hb) (HI.out.M hb))
  have HIC := Lib.hid (fun (W : World) (hb : Below w.heap.size w W) => Check_any a n c ba m bc ss bs W B (HI.out.B' hb) (HI.out.S hb) (HI.out.M hb))
  have HSP := Lib.hid (fun (W : World) (hb : Below w.heap.size w W) => r8Shape_any a n c ba m bc ss bs W B (HI.out.B' hb) (HI.out.S hb) (HI.out.M hb))
  have HIA0 := Lib.hid (fun (W : World) (hb : Below w.heap.size w W) => AgreesI_any a n c ba m bc ss bs fa k fc f W B (HI.out.B' hb) (HI.out.S hb) (HI.out.M hb) ((hF.below hb).up hb.size) hk)
  have HFD := Lib.hid (fun (W : World) (hb : Below w.heap.size w W) => r8Field_any a n c ba m bc ss fa k fc f W B (HI.out.B' hb) (HI.out.S hb) ((hF.below hb).up hb.size) hk)
  have HAG0 := Lib.hid (fun (hC : checkN n ss m bs = 0) (hf : fieldB n ss k f = true) (W : World) (hb : Below w.heap.size w W) => show Calls Tryd.prog 15 #[imageV a n c ba m bc, .slice fa k fc] W (fun e w' => e = .returned (.bool (agreesB m bs f)) ∧ Below W.heap.size W w') from by
    obtain ⟨rfl, h1⟩ := field_den (checkN_shape hC) hf
    exact r8Agrees_any a k c ba m bc ss bs fa fc f W B (HI.out.B' hb) (HI.out.M hb) (checkN_shape hC) ((hF.below hb).up hb.size) h1)
  unfold AgrRes at HIA0
  unfold maxLen at hk
  have HCN := Lib.hid (show checkF n ss m bs true = checkN n ss m bs from checkF_true)
  have HCS := Lib.hid (fun (h : shapeB n ss m bs = false) => show checkN n ss m bs = 2 ∧ ∀ b, checkF n ss m bs b = 2 from ⟨by rw [← checkF_true]; unfold checkF; rw [if_pos (.inl h)], fun b => by unfold checkF; rw [if_pos (.inl h)]⟩)
  have HCX := Lib.hid (show checkF n ss m bs false = 2 from by unfold checkF; rw [if_pos (.inr rfl)])
  clear hS hM ht hF HI
  cases h1 : shortB n m bs
  · rw [h1] at HST
    go_enter Tryd.func6, Tryd.ntmps6; go_upto_region 1 with (fail); have HL := Lib.hid (show LI a n c ba m bc w (w.alloc (.cells #[.slice a n c, .slice ba m bc] 25)) from LI_start); generalize World.alloc w _ = V at *; obtain ⟨l0, l1, l2, l3⟩ := HL.out
    go_wp2_with (first | (go_at_call 7; refine (HST.out _ l3).mono ?_; rintro e w2 ⟨rfl, hb2⟩; have HLx := Lib.hid (LI_step HL.out hb2); clear HL hb2; have HL := HLx; clear HLx; (try clear l0 l1 l2 l3); obtain ⟨l0, l1, l2, l3⟩ := HL.out) | (go_at_call 9; refine (HKN.out _ l3).mono ?_; rintro e w9 ⟨rfl, hb9⟩; have HLx := Lib.hid (LI_step HL.out hb9); clear HL hb9; have HL := HLx; clear HLx; (try clear l0 l1 l2 l3); obtain ⟨l0, l1, l2, l3⟩ := HL.out))
    go_ret
    exact ⟨rfl, l3⟩
  · rw [h1] at HST
    by_cases h5 : k ≤ 60
    · have h5' : ¬ 60 < (k : Int) := by omega
      clear h5
      cases hs : shapeB n ss m bs
      · obtain ⟨g1, g2⟩ := HCS.out hs
        rw [hs] at HSP
        rw [g1] at HCH HIC
        have HIA := Lib.hid (fun (W : World) (hb : Below w.heap.size w W) => show Calls Tryd.prog 23 #[imageV a n c ba m bc, .slice fa k fc] W (fun e w' => e = .returned (.tuple #[.bool false, .int .i64 2]) ∧ Below W.heap.size W w') from by
          have := HIA0.out W hb
          rw [g2] at this
          exact this)
        clear HIA0 HCS HCN HCX HAG0 HFD g1 g2
        go_enter Tryd.func6, Tryd.ntmps6; go_upto_region 1 with (fail); have HL := Lib.hid (show LI a n c ba m bc w (w.alloc (.cells #[.slice a n c, .slice ba m bc] 25)) from LI_start); generalize World.alloc w _ = V at *; obtain ⟨l0, l1, l2, l3⟩ := HL.out
        go_wp2_with (first | (go_at_call 7; refine (HST.out _ l3).mono ?_; rintro e w2 ⟨rfl, hb2⟩; have HLx := Lib.hid (LI_step HL.out hb2); clear HL hb2; have HL := HLx; clear HLx; (try clear l0 l1 l2 l3); obtain ⟨l0, l1, l2, l3⟩ := HL.out) | (go_at_call 11; refine (HCH.out _ l3).mono ?_; rintro e w3 ⟨rfl, hb3⟩; have HLx := Lib.hid (LI_step HL.out hb3); clear HL hb3; have HL := HLx; clear HLx; (try clear l0 l1 l2 l3); obtain ⟨l0, l1, l2, l3⟩ := HL.out) | (go_at_call 22; refine (HIC.out _ l3).mono ?_; rintro e w4 ⟨rfl, hb4⟩; have HLx := Lib.hid (LI_step HL.out hb4); clear HL hb4; have HL := HLx; clear HLx; (try clear l0 l1 l2 l3); obtain ⟨l0, l1, l2, l3⟩ := HL.out) | (go_at_call 23; refine (HIA.out _ l3).mono ?_; rintro e w5 ⟨rfl, hb5⟩; have HLx := Lib.hid (LI_step HL.out hb5); clear HL hb5; have HL := HLx; clear HLx; (try clear l0 l1 l2 l3); obtain ⟨l0, l1, l2, l3⟩ := HL.out) | (go_at_call 24; refine (HSP.out _ l3).mono ?_; rintro e w6 ⟨rfl, hb6⟩; have HLx := Lib.hid (LI_step HL.out hb6); clear HL hb6; have HL := HLx; clear HLx; (try clear l0 l1 l2 l3); obtain ⟨l0, l1, l2, l3⟩ := HL.out) | (go_at_call 9; refine (HKN.out _ l3).mono ?_; rintro e w9 ⟨rfl, hb9⟩; have HLx := Lib.hid (LI_step HL.out hb9); clear HL hb9; have HL := HLx; clear HLx; (try clear l0 l1 l2 l3); obtain ⟨l0, l1, l2, l3⟩ := HL.out))
        go_ret
        exact ⟨rfl, l3⟩
      · rw [hs] at HSP
        cases hf : fieldB n ss k f
        · rw [hf] at HFD
          have HIA := Lib.hid (fun (W : World) (hb : Below w.heap.size w W) => show Calls Tryd.prog 23 #[imageV a n c ba m bc, .slice fa k fc] W (fun e w' => e = .returned (.tuple #[.bool false, .int .i64 2]) ∧ Below W.heap.size W w') from by
            have := HIA0.out W hb
            rw [hf, HCX.out] at this
            exact this)
          clear HIA0 HCS HCN HCX HAG0
          generalize checkN n ss m bs = C at *
          have hcc : (C != C) = false := by simp
          go_enter Tryd.func6, Tryd.ntmps6; go_upto_region 1 with (fail); have HL := Lib.hid (show LI a n c ba m bc w (w.alloc (.cells #[.slice a n c, .slice ba m bc] 25)) from LI_start); generalize World.alloc w _ = V at *; obtain ⟨l0, l1, l2, l3⟩ := HL.out
          go_wp2_with (first | (go_at_call 7; refine (HST.out _ l3).mono ?_; rintro e w2 ⟨rfl, hb2⟩; have HLx := Lib.hid (LI_step HL.out hb2); clear HL hb2; have HL := HLx; clear HLx; (try clear l0 l1 l2 l3); obtain ⟨l0, l1, l2, l3⟩ := HL.out) | (go_at_call 11; refine (HCH.out _ l3).mono ?_; rintro e w3 ⟨rfl, hb3⟩; have HLx := Lib.hid (LI_step HL.out hb3); clear HL hb3; have HL := HLx; clear HLx; (try clear l0 l1 l2 l3); obtain ⟨l0, l1, l2, l3⟩ := HL.out) | (go_at_call 22; refine (HIC.out _ l3).mono ?_; rintro e w4 ⟨rfl, hb4⟩; have HLx := Lib.hid (LI_step HL.out hb4); clear HL hb4; have HL := HLx; clear HLx; (try clear l0 l1 l2 l3); obtain ⟨l0, l1, l2, l3⟩ := HL.out) | (go_at_call 23; refine (HIA.out _ l3).mono ?_; rintro e w5 ⟨rfl, hb5⟩; have HLx := Lib.hid (LI_step HL.out hb5); clear HL hb5; have HL := HLx; clear HLx; (try clear l0 l1 l2 l3); obtain ⟨l0, l1, l2, l3⟩ := HL.out) | (go_at_call 24; refine (HSP.out _ l3).mono ?_; rintro e w6 ⟨rfl, hb6⟩; have HLx := Lib.hid (LI_step HL.out hb6); clear HL hb6; have HL := HLx; clear HLx; (try clear l0 l1 l2 l3); obtain ⟨l0, l1, l2, l3⟩ := HL.out) | (go_at_call 9; refine (HKN.out _ l3).mono ?_; rintro e w9 ⟨rfl, hb9⟩; have HLx := Lib.hid (LI_step HL.out hb9); clear HL hb9; have HL := HLx; clear HLx; (try clear l0 l1 l2 l3); obtain ⟨l0, l1, l2, l3⟩ := HL.out) | (go_at_call 14; refine (HFD.out _ l3).mono ?_; rintro e w7 ⟨rfl, hb7⟩; have HLx := Lib.hid (LI_step HL.out hb7); clear HL hb7; have HL := HLx; clear HLx; (try clear l0 l1 l2 l3); obtain ⟨l0, l1, l2, l3⟩ := HL.out))
          go_ret
          exact ⟨rfl, l3⟩
        · rw [hf] at HFD
          by_cases hC : checkN n ss m bs = 0
          · have HAG := Lib.hid (HAG0.out hC hf)
            have HIA := Lib.hid (fun (W : World) (hb : Below w.heap.size w W) => show Calls Tryd.prog 23 #[imageV a n c ba m bc, .slice fa k fc] W (fun e w' => e = .returned (.tuple #[.bool (agreesB m bs f), .int .i64 0]) ∧ Below W.heap.size W w') from by
              have := HIA0.out W hb
              rw [hf, HCN.out, hC, decide_eq_true rfl, Bool.true_and] at this
              exact this)
            rw [hC] at HCH HIC
            clear HIA0 HCS HCN HCX HAG0 hC
            cases hg : agreesB m bs f
            · rw [hg] at HIA HAG
              go_enter Tryd.func6, Tryd.ntmps6; go_upto_region 1 with (fail); have HL := Lib.hid (show LI a n c ba m bc w (w.alloc (.cells #[.slice a n c, .slice ba m bc] 25)) from LI_start); generalize World.alloc w _ = V at *; obtain ⟨l0, l1, l2, l3⟩ := HL.out
              go_wp2_with (first | (go_at_call 7; refine (HST.out _ l3).mono ?_; rintro e w2 ⟨rfl, hb2⟩; have HLx := Lib.hid (LI_step HL.out hb2); clear HL hb2; have HL := HLx; clear HLx; (try clear l0 l1 l2 l3); obtain ⟨l0, l1, l2, l3⟩ := HL.out) | (go_at_call 11; refine (HCH.out _ l3).mono ?_; rintro e w3 ⟨rfl, hb3⟩; have HLx := Lib.hid (LI_step HL.out hb3); clear HL hb3; have HL := HLx; clear HLx; (try clear l0 l1 l2 l3); obtain ⟨l0, l1, l2, l3⟩ := HL.out) | (go_at_call 22; refine (HIC.out _ l3).mono ?_; rintro e w4 ⟨rfl, hb4⟩; have HLx := Lib.hid (LI_step HL.out hb4); clear HL hb4; have HL := HLx; clear HLx; (try clear l0 l1 l2 l3); obtain ⟨l0, l1, l2, l3⟩ := HL.out) | (go_at_call 23; refine (HIA.out _ l3).mono ?_; rintro e w5 ⟨rfl, hb5⟩; have HLx := Lib.hid (LI_step HL.out hb5); clear HL hb5; have HL := HLx; clear HLx; (try clear l0 l1 l2 l3); obtain ⟨l0, l1, l2, l3⟩ := HL.out) | (go_at_call 24; refine (HSP.out _ l3).mono ?_; rintro e w6 ⟨rfl, hb6⟩; have HLx := Lib.hid (LI_step HL.out hb6); clear HL hb6; have HL := HLx; clear HLx; (try clear l0 l1 l2 l3); obtain ⟨l0, l1, l2, l3⟩ := HL.out) | (go_at_call 9; refine (HKN.out _ l3).mono ?_; rintro e w9 ⟨rfl, hb9⟩; have HLx := Lib.hid (LI_step HL.out hb9); clear HL hb9; have HL := HLx; clear HLx; (try clear l0 l1 l2 l3); obtain ⟨l0, l1, l2, l3⟩ := HL.out) | (go_at_call 14; refine (HFD.out _ l3).mono ?_; rintro e w7 ⟨rfl, hb7⟩; have HLx := Lib.hid (LI_step HL.out hb7); clear HL hb7; have HL := HLx; clear HLx; (try clear l0 l1 l2 l3); obtain ⟨l0, l1, l2, l3⟩ := HL.out) | (go_at_call 15; refine (HAG.out _ l3).mono ?_; rintro e w8 ⟨rfl, hb8⟩; have HLx := Lib.hid (LI_step HL.out hb8); clear HL hb8; have HL := HLx; clear HLx; (try clear l0 l1 l2 l3); obtain ⟨l0, l1, l2, l3⟩ := HL.out))
              go_ret
              exact ⟨rfl, l3⟩
            · rw [hg] at HIA HAG
              go_enter Tryd.func6, Tryd.ntmps6; go_upto_region 1 with (fail); have HL := Lib.hid (show LI a n c ba m bc w (w.alloc (.cells #[.slice a n c, .slice ba m bc] 25)) from LI_start); generalize World.alloc w _ = V at *; obtain ⟨l0, l1, l2, l3⟩ := HL.out
              go_wp2_with (first | (go_at_call 7; refine (HST.out _ l3).mono ?_; rintro e w2 ⟨rfl, hb2⟩; have HLx := Lib.hid (LI_step HL.out hb2); clear HL hb2; have HL := HLx; clear HLx; (try clear l0 l1 l2 l3); obtain ⟨l0, l1, l2, l3⟩ := HL.out) | (go_at_call 11; refine (HCH.out _ l3).mono ?_; rintro e w3 ⟨rfl, hb3⟩; have HLx := Lib.hid (LI_step HL.out hb3); clear HL hb3; have HL := HLx; clear HLx; (try clear l0 l1 l2 l3); obtain ⟨l0, l1, l2, l3⟩ := HL.out) | (go_at_call 22; refine (HIC.out _ l3).mono ?_; rintro e w4 ⟨rfl, hb4⟩; have HLx := Lib.hid (LI_step HL.out hb4); clear HL hb4; have HL := HLx; clear HLx; (try clear l0 l1 l2 l3); obtain ⟨l0, l1, l2, l3⟩ := HL.out) | (go_at_call 23; refine (HIA.out _ l3).mono ?_; rintro e w5 ⟨rfl, hb5⟩; have HLx := Lib.hid (LI_step HL.out hb5); clear HL hb5; have HL := HLx; clear HLx; (try clear l0 l1 l2 l3); obtain ⟨l0, l1, l2, l3⟩ := HL.out) | (go_at_call 24; refine (HSP.out _ l3).mono ?_; rintro e w6 ⟨rfl, hb6⟩; have HLx := Lib.hid (LI_step HL.out hb6); clear HL hb6; have HL := HLx; clear HLx; (try clear l0 l1 l2 l3); obtain ⟨l0, l1, l2, l3⟩ := HL.out) | (go_at_call 9; refine (HKN.out _ l3).mono ?_; rintro e w9 ⟨rfl, hb9⟩; have HLx := Lib.hid (LI_step HL.out hb9); clear HL hb9; have HL := HLx; clear HLx; (try clear l0 l1 l2 l3); obtain ⟨l0, l1, l2, l3⟩ := HL.out) | (go_at_call 14; refine (HFD.out _ l3).mono ?_; rintro e w7 ⟨rfl, hb7⟩; have HLx := Lib.hid (LI_step HL.out hb7); clear HL hb7; have HL := HLx; clear HLx; (try clear l0 l1 l2 l3); obtain ⟨l0, l1, l2, l3⟩ := HL.out) | (go_at_call 15; refine (HAG.out _ l3).mono ?_; rintro e w8 ⟨rfl, hb8⟩; have HLx := Lib.hid (LI_step HL.out hb8); clear HL hb8; have HL := HLx; clear HLx; (try clear l0 l1 l2 l3); obtain ⟨l0, l1, l2, l3⟩ := HL.out))
              go_ret
              exact ⟨rfl, l3⟩
          · have HIA := Lib.hid (fun (W : World) (hb : Below w.heap.size w W) => show Calls Tryd.prog 23 #[imageV a n c ba m bc, .slice fa k fc] W (fun e w' => e = .returned (.tuple #[.bool false, .int .i64 (checkN n ss m bs)]) ∧ Below W.heap.size W w') from by
              have := HIA0.out W hb
              rw [hf, HCN.out, decide_eq_false hC, Bool.false_and] at this
              exact this)
            have hne : (checkN n ss m bs == 0) = false := by rw [beq_eq_false_iff_ne]; exact hC
            clear HIA0 HCS HCN HCX HAG0 hC
            generalize checkN n ss m bs = C at *
            have hne2 : (C != 0) = true := by rw [bne, hne]; rfl
            have hcc : (C != C) = false := by simp
            have hcd : (C == C) = true := by simp
            go_enter Tryd.func6, Tryd.ntmps6; go_upto_region 1 with (fail); have HL := Lib.hid (show LI a n c ba m bc w (w.alloc (.cells #[.slice a n c, .slice ba m bc] 25)) from LI_start); generalize World.alloc w _ = V at *; obtain ⟨l0, l1, l2, l3⟩ := HL.out
            go_wp2_with (first | (go_at_call 7; refine (HST.out _ l3).mono ?_; rintro e w2 ⟨rfl, hb2⟩; have HLx := Lib.hid (LI_step HL.out hb2); clear HL hb2; have HL := HLx; clear HLx; (try clear l0 l1 l2 l3); obtain ⟨l0, l1, l2, l3⟩ := HL.out) | (go_at_call 11; refine (HCH.out _ l3).mono ?_; rintro e w3 ⟨rfl, hb3⟩; have HLx := Lib.hid (LI_step HL.out hb3); clear HL hb3; have HL := HLx; clear HLx; (try clear l0 l1 l2 l3); obtain ⟨l0, l1, l2, l3⟩ := HL.out) | (go_at_call 22; refine (HIC.out _ l3).mono ?_; rintro e w4 ⟨rfl, hb4⟩; have HLx := Lib.hid (LI_step HL.out hb4); clear HL hb4; have HL := HLx; clear HLx; (try clear l0 l1 l2 l3); obtain ⟨l0, l1, l2, l3⟩ := HL.out) | (go_at_call 23; refine (HIA.out _ l3).mono ?_; rintro e w5 ⟨rfl, hb5⟩; have HLx := Lib.hid (LI_step HL.out hb5); clear HL hb5; have HL := HLx; clear HLx; (try clear l0 l1 l2 l3); obtain ⟨l0, l1, l2, l3⟩ := HL.out) | (go_at_call 24; refine (HSP.out _ l3).mono ?_; rintro e w6 ⟨rfl, hb6⟩; have HLx := Lib.hid (LI_step HL.out hb6); clear HL hb6; have HL := HLx; clear HLx; (try clear l0 l1 l2 l3); obtain ⟨l0, l1, l2, l3⟩ := HL.out) | (go_at_call 9; refine (HKN.out _ l3).mono ?_; rintro e w9 ⟨rfl, hb9⟩; have HLx := Lib.hid (LI_step HL.out hb9); clear HL hb9; have HL := HLx; clear HLx; (try clear l0 l1 l2 l3); obtain ⟨l0, l1, l2, l3⟩ := HL.out) | (go_at_call 14; refine (HFD.out _ l3).mono ?_; rintro e w7 ⟨rfl, hb7⟩; have HLx := Lib.hid (LI_step HL.out hb7); clear HL hb7; have HL := HLx; clear HLx; (try clear l0 l1 l2 l3); obtain ⟨l0, l1, l2, l3⟩ := HL.out))
            go_ret
            exact ⟨rfl, l3⟩
    · have h5' : 60 < (k : Int) := by omega
      clear h5
      go_enter Tryd.func6, Tryd.ntmps6; go_upto_region 1 with (fail); have HL := Lib.hid (show LI a n c ba m bc w (w.alloc (.cells #[.slice a n c, .slice ba m bc] 25)) from LI_start); generalize World.alloc w _ = V at *; obtain ⟨l0, l1, l2, l3⟩ := HL.out
      go_wp2_with (first | (go_at_call 7; refine (HST.out _ l3).mono ?_; rintro e w2 ⟨rfl, hb2⟩; have HLx := Lib.hid (LI_step HL.out hb2); clear HL hb2; have HL := HLx; clear HLx; (try clear l0 l1 l2 l3); obtain ⟨l0, l1, l2, l3⟩ := HL.out) | (go_at_call 9; refine (HKN.out _ l3).mono ?_; rintro e w9 ⟨rfl, hb9⟩; have HLx := Lib.hid (LI_step HL.out hb9); clear HL hb9; have HL := HLx; clear HLx; (try clear l0 l1 l2 l3); obtain ⟨l0, l1, l2, l3⟩ := HL.out))
      go_ret
      exact ⟨rfl, l3⟩
end Go.Proofs.YtaocbfhokadppaaDoor
