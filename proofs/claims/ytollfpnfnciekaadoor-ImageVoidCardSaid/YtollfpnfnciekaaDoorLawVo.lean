/- The walk of the statement ImageVoid. (printed by mkvo.py) -/
import Derived.Test.YtollfpnfnciekaaDoorLawSu
import Derived.Test.YtollfpnfnciekaaDoorVoLaw
import Derived.Test.YtollfpnfnciekaaDoorGrA
namespace Go.Proofs.YtollfpnfnciekaaDoor
open Go.RowKit
set_option linter.unusedVariables false
set_option linter.unusedSimpArgs false
def lC (L : List Int) : List Value := L.map fun x => .int .i64 x
theorem lC_len {L : List Int} : (lC L).length = L.length := by simp [lC]
theorem lC_snoc {L : List Int} {x : Int} : lC (L ++ [x]) = lC L ++ [.int .i64 x] := by simp [lC]
theorem lC_get {L : List Int} {j : Nat} (h : j < L.length) : (lC L)[j]? = some (.int .i64 (fOf L j)) := by
  unfold fOf
  rw [List.getD_eq_getElem?_getD, List.getElem?_eq_getElem h]
  simp [lC, h]
theorem own_ints {W : World} {base : Nat} {oa : Option Addr} {oc : Nat} {L : List Int} (h : W.ownsRow base 3 1 (.slice oa L.length oc) L.length (lC L)) : Ints W.heap.size W oa L.length (fOf L) := by
  by_cases h0 : L.length = 0
  · exact .inl h0
  · obtain ⟨g, rfl, _, hg⟩ := own_at h (by omega)
    exact .inr ⟨g, 0, rfl, hg, fun i hi => by rw [Nat.zero_add, h.cellAt i (by omega), lC_get hi]⟩
/-- what the calls need -/
structure VoIn (a : Option Addr) (n c : Nat) (ba : Option Addr) (m bc : Nat) (ss : Nat → SV) (bs : Nat → BM) (ca : Option Addr) (k : Nat) (cs : Nat → Int) (fa : Option Addr) (fk : Nat) (f : Nat → Int) (w : World) : Prop where
  su : SuIn a n c ba m bc ss bs ca k cs w
  field : Ints w.heap.size w fa fk f
  lf : fk ≤ maxLen
/-- the upper bound of the set -/
abbrev S0 (n : Nat) (ss : Nat → SV) (m : Nat) (bs : Nat → BM) (k : Nat) (cs : Nat → Int) : Int := (bnd (fun f => sumL cs k (fOf f)) (allF n ss m bs)).hi
/-- the guards that are held -/
def VoYes (n : Nat) (ss : Nat → SV) (m : Nat) (bs : Nat → BM) (k : Nat) (cs : Nat → Int) (fk : Nat) : Prop := shortB n m bs = true ∧ checkN n ss m bs = 0 ∧ min (prodN ss n) 200001 ≤ 20000 ∧ k ≤ 50 ∧ setB n k cs = true ∧ fk ≤ 60
section
variable {a : Option Addr} {n c : Nat} {ba : Option Addr} {m bc : Nat} {ss : Nat → SV} {bs : Nat → BM} {ca : Option Addr} {k cc : Nat} {cs : Nat → Int} {fa : Option Addr} {fk fc : Nat} {f : Nat → Int} {w W : World}
theorem VoIn.short (h : VoIn a n c ba m bc ss bs ca k cs fa fk f w) (hb : Below w.heap.size w W) : Calls Tryd.prog 9 #[imageV a n c ba m bc] W fun e w' => e = .returned (.bool (shortB n m bs)) ∧ Below W.heap.size W w' := short_any a n c ba m bc bs W _ (h.su.im.B' hb) h.su.im.spans.1 (h.su.im.M hb)
theorem VoIn.check (h : VoIn a n c ba m bc ss bs ca k cs fa fk f w) (hb : Below w.heap.size w W) : Calls Tryd.prog 10 #[imageV a n c ba m bc] W fun e w' => e = .returned (.int .i64 (checkN n ss m bs)) ∧ Below W.heap.size W w' := r8Check_any a n c ba m bc ss bs W _ (h.su.im.B' hb) (h.su.im.S hb) (h.su.im.M hb)
theorem VoIn.fields (h : VoIn a n c ba m bc ss bs ca k cs fa fk f w) (hC : checkN n ss m bs = 0) (hb : Below w.heap.size w W) : Calls Tryd.prog 11 #[imageV a n c ba m bc] W fun e w' => e = .returned (.int .i64 (min (prodN ss n) 200001)) ∧ Below W.heap.size W w' := r8Fields_any a n c ba m bc ss W _ (h.su.im.B' hb) (h.su.im.S hb) (checkN_shape hC).span
theorem VoIn.fieldC (h : VoIn a n c ba m bc ss bs ca k cs fa fk f w) (hb : Below w.heap.size w W) : Calls Tryd.prog 18 #[imageV a n c ba m bc, .slice fa fk fc] W fun e w' => e = .returned (.bool (fieldB n ss fk f)) ∧ Below W.heap.size W w' := r8Field_any a n c ba m bc ss fa fk fc f W _ (h.su.im.B' hb) (h.su.im.S hb) ((h.field.below hb).up hb.size) h.lf
theorem VoIn.agrees (h : VoIn a n c ba m bc ss bs ca k cs fa fk f w) (hC : checkN n ss m bs = 0) (hf : fieldB n ss fk f = true) (hb : Below w.heap.size w W) : Calls Tryd.prog 19 #[imageV a n c ba m bc, .slice fa fk fc] W fun e w' => e = .returned (.bool (agreesB m bs f)) ∧ Below W.heap.size W w' := by
  obtain ⟨rfl, h1⟩ := fieldB_iff.1 hf
  exact r8Agrees_any a fk c ba m bc ss bs fa fc f W _ (h.su.im.B' hb) (h.su.im.M hb) (checkN_shape hC) ((h.field.below hb).up hb.size) (inBox_den (checkN_shape hC) h1)
/-- the sum of a part of the set -/
theorem VoIn.part (h : VoIn a n c ba m bc ss bs ca k cs fa fk f w) (hC : checkN n ss m bs = 0) (hs : setB n k cs = true) (hk : k ≤ 50) (hA : allF n ss m bs ≠ []) (bit : Nat → Bool) (hb : Below w.heap.size w W) (oa : Option Addr) (oc : Nat) (hO : Ints W.heap.size W oa (partL bit cs k).length (fOf (partL bit cs k))) : Calls Tryd.prog 32 #[imageV a n c ba m bc, .slice oa (partL bit cs k).length oc] W fun e w' => (∃ lo hi, e = .returned (.tuple #[.agg #[.int .i64 lo, .int .i64 hi], .int .i64 0]) ∧ hi ≤ (bnd (fun f => sumL cs k (fOf f)) (allF n ss m bs)).hi ∧ lo ≤ (bnd (fun f => sumL cs k (fOf f)) (allF n ss m bs)).lo) ∧ Below W.heap.size W w' :=
  (Sum_any a n c ba m bc ss bs oa (partL bit cs k).length oc (fOf (partL bit cs k)) W _ (h.su.im.B' hb) (h.su.im.S hb) (h.su.im.M hb) hO (by have := partL_len (bit := bit) (cs := cs) (i := k); unfold maxLen; omega)).mono fun e w' h' => by
    have h2 := h'.2
    rw [if_pos (by rw [partL_set hs bit, checkF_true]; exact hC), if_neg hA] at h2
    exact ⟨⟨_, _, h2, part_bnd (checkN_shape hC) hA hs bit⟩, h'.1⟩
end
/-- the bit of a number -/
def voBit (x : Int) (i : Nat) : Bool := bits BinOp.and IntKind.i64 (x / 2 ^ i) 1 == 1
set_option maxRecDepth 100000 in
set_option maxHeartbeats 4000000 in
theorem Void_no (a : Option Addr) (n c : Nat) (ba : Option Addr) (m bc : Nat) (ss : Nat → SV) (bs : Nat → BM) (ca : Option Addr) (k cc : Nat) (cs : Nat → Int) (most : Int) (fa : Option Addr) (fk fc : Nat) (f : Nat → Int) (some_ : Int) (w : World) (h : VoIn a n c ba m bc ss bs ca k cs fa fk f w) (hno : ¬ VoYes n ss m bs k cs fk) :
    Calls Tryd.prog 8 #[imageV a n c ba m bc, .slice ca k cc, .int .i64 most, .slice fa fk fc, .int .i64 some_] w fun e w' => e = .returned (.bool true) ∧ Below w.heap.size w w' := by
  have HKN := Lib.hid (fun (W : World) (hb : Below w.heap.size w W) => h.su.im.known hb)
  have HST := Lib.hid (fun (W : World) (hb : Below w.heap.size w W) => h.short hb)
  have HCH := Lib.hid (fun (W : World) (hb : Below w.heap.size w W) => h.check hb)
  have HSE := Lib.hid (fun (W : World) (hb : Below w.heap.size w W) => h.su.setC (cc := cc) hb)
  have HNN := Lib.hid hno
  have hk := h.su.lk
  have hfk := h.lf
  unfold maxLen at hk hfk
  clear hno
  cases h1 : shortB n m bs
  · rw [h1] at HST
    clear HNN
    go_enter Tryd.func8, Tryd.ntmps8; go_upto_region 1 with (fail); have HL := Lib.hid (show LI a n c ba m bc w (w.alloc (.cells #[.slice a n c, .slice ba m bc] 25)) from LI_start); generalize World.alloc w _ = V at *; obtain ⟨l0, l1, l2, l3⟩ := HL.out
    go_wp2_with (first | (go_at_call 9; refine (HST.out _ l3).mono ?_; rintro e w2 ⟨rfl, hb2⟩; have HLx := Lib.hid (LI_step HL.out hb2); clear HL hb2; have HL := HLx; clear HLx; (try clear l0 l1 l2 l3); obtain ⟨l0, l1, l2, l3⟩ := HL.out) | (go_at_call 13; refine (HKN.out _ l3).mono ?_; rintro e w6 ⟨rfl, hb6⟩; have HLx := Lib.hid (LI_step HL.out hb6); clear HL hb6; have HL := HLx; clear HLx; (try clear l0 l1 l2 l3); obtain ⟨l0, l1, l2, l3⟩ := HL.out))
    go_ret
    exact ⟨rfl, l3⟩
  · rw [h1] at HST
    by_cases hC : checkN n ss m bs = 0
    · have HFS := Lib.hid (fun (W : World) (hb : Below w.heap.size w W) => h.fields hC hb)
      rw [hC] at HCH
      by_cases h3 : min (prodN ss n) 200001 ≤ 20000
      · by_cases h4 : k ≤ 50
        · cases h5 : setB n k cs
          · rw [h5] at HSE
            generalize min (prodN ss n) 200001 = P at *
            have h3' : ¬ 20000 < P := by omega
            have h4' : ¬ 50 < (k : Int) := by omega
            clear HNN hC h3 h4
            go_enter Tryd.func8, Tryd.ntmps8; go_upto_region 1 with (fail); have HL := Lib.hid (show LI a n c ba m bc w (w.alloc (.cells #[.slice a n c, .slice ba m bc] 25)) from LI_start); generalize World.alloc w _ = V at *; obtain ⟨l0, l1, l2, l3⟩ := HL.out
            go_wp2_with (first | (go_at_call 9; refine (HST.out _ l3).mono ?_; rintro e w2 ⟨rfl, hb2⟩; have HLx := Lib.hid (LI_step HL.out hb2); clear HL hb2; have HL := HLx; clear HLx; (try clear l0 l1 l2 l3); obtain ⟨l0, l1, l2, l3⟩ := HL.out) | (go_at_call 10; refine (HCH.out _ l3).mono ?_; rintro e w3 ⟨rfl, hb3⟩; have HLx := Lib.hid (LI_step HL.out hb3); clear HL hb3; have HL := HLx; clear HLx; (try clear l0 l1 l2 l3); obtain ⟨l0, l1, l2, l3⟩ := HL.out) | (go_at_call 11; refine (HFS.out _ l3).mono ?_; rintro e w4 ⟨rfl, hb4⟩; have HLx := Lib.hid (LI_step HL.out hb4); clear HL hb4; have HL := HLx; clear HLx; (try clear l0 l1 l2 l3); obtain ⟨l0, l1, l2, l3⟩ := HL.out) | (go_at_call 34; refine (HSE.out _ l3).mono ?_; rintro e w5 ⟨rfl, hb5⟩; have HLx := Lib.hid (LI_step HL.out hb5); clear HL hb5; have HL := HLx; clear HLx; (try clear l0 l1 l2 l3); obtain ⟨l0, l1, l2, l3⟩ := HL.out) | (go_at_call 13; refine (HKN.out _ l3).mono ?_; rintro e w6 ⟨rfl, hb6⟩; have HLx := Lib.hid (LI_step HL.out hb6); clear HL hb6; have HL := HLx; clear HLx; (try clear l0 l1 l2 l3); obtain ⟨l0, l1, l2, l3⟩ := HL.out))
            go_ret
            exact ⟨rfl, l3⟩
          · rw [h5] at HSE
            have h6 : ¬ fk ≤ 60 := fun h6 => HNN.out ⟨h1, hC, h3, h4, h5, h6⟩
            generalize min (prodN ss n) 200001 = P at *
            have h3' : ¬ 20000 < P := by omega
            have h4' : ¬ 50 < (k : Int) := by omega
            have h6' : 60 < (fk : Int) := by omega
            clear HNN hC h3 h4 h6
            go_enter Tryd.func8, Tryd.ntmps8; go_upto_region 1 with (fail); have HL := Lib.hid (show LI a n c ba m bc w (w.alloc (.cells #[.slice a n c, .slice ba m bc] 25)) from LI_start); generalize World.alloc w _ = V at *; obtain ⟨l0, l1, l2, l3⟩ := HL.out
            go_wp2_with (first | (go_at_call 9; refine (HST.out _ l3).mono ?_; rintro e w2 ⟨rfl, hb2⟩; have HLx := Lib.hid (LI_step HL.out hb2); clear HL hb2; have HL := HLx; clear HLx; (try clear l0 l1 l2 l3); obtain ⟨l0, l1, l2, l3⟩ := HL.out) | (go_at_call 10; refine (HCH.out _ l3).mono ?_; rintro e w3 ⟨rfl, hb3⟩; have HLx := Lib.hid (LI_step HL.out hb3); clear HL hb3; have HL := HLx; clear HLx; (try clear l0 l1 l2 l3); obtain ⟨l0, l1, l2, l3⟩ := HL.out) | (go_at_call 11; refine (HFS.out _ l3).mono ?_; rintro e w4 ⟨rfl, hb4⟩; have HLx := Lib.hid (LI_step HL.out hb4); clear HL hb4; have HL := HLx; clear HLx; (try clear l0 l1 l2 l3); obtain ⟨l0, l1, l2, l3⟩ := HL.out) | (go_at_call 34; refine (HSE.out _ l3).mono ?_; rintro e w5 ⟨rfl, hb5⟩; have HLx := Lib.hid (LI_step HL.out hb5); clear HL hb5; have HL := HLx; clear HLx; (try clear l0 l1 l2 l3); obtain ⟨l0, l1, l2, l3⟩ := HL.out) | (go_at_call 13; refine (HKN.out _ l3).mono ?_; rintro e w6 ⟨rfl, hb6⟩; have HLx := Lib.hid (LI_step HL.out hb6); clear HL hb6; have HL := HLx; clear HLx; (try clear l0 l1 l2 l3); obtain ⟨l0, l1, l2, l3⟩ := HL.out))
            go_ret
            exact ⟨rfl, l3⟩
        · generalize min (prodN ss n) 200001 = P at *
          have h3' : ¬ 20000 < P := by omega
          have h4' : 50 < (k : Int) := by omega
          clear HNN hC h3 h4
          go_enter Tryd.func8, Tryd.ntmps8; go_upto_region 1 with (fail); have HL := Lib.hid (show LI a n c ba m bc w (w.alloc (.cells #[.slice a n c, .slice ba m bc] 25)) from LI_start); generalize World.alloc w _ = V at *; obtain ⟨l0, l1, l2, l3⟩ := HL.out
          go_wp2_with (first | (go_at_call 9; refine (HST.out _ l3).mono ?_; rintro e w2 ⟨rfl, hb2⟩; have HLx := Lib.hid (LI_step HL.out hb2); clear HL hb2; have HL := HLx; clear HLx; (try clear l0 l1 l2 l3); obtain ⟨l0, l1, l2, l3⟩ := HL.out) | (go_at_call 10; refine (HCH.out _ l3).mono ?_; rintro e w3 ⟨rfl, hb3⟩; have HLx := Lib.hid (LI_step HL.out hb3); clear HL hb3; have HL := HLx; clear HLx; (try clear l0 l1 l2 l3); obtain ⟨l0, l1, l2, l3⟩ := HL.out) | (go_at_call 11; refine (HFS.out _ l3).mono ?_; rintro e w4 ⟨rfl, hb4⟩; have HLx := Lib.hid (LI_step HL.out hb4); clear HL hb4; have HL := HLx; clear HLx; (try clear l0 l1 l2 l3); obtain ⟨l0, l1, l2, l3⟩ := HL.out) | (go_at_call 34; refine (HSE.out _ l3).mono ?_; rintro e w5 ⟨rfl, hb5⟩; have HLx := Lib.hid (LI_step HL.out hb5); clear HL hb5; have HL := HLx; clear HLx; (try clear l0 l1 l2 l3); obtain ⟨l0, l1, l2, l3⟩ := HL.out) | (go_at_call 13; refine (HKN.out _ l3).mono ?_; rintro e w6 ⟨rfl, hb6⟩; have HLx := Lib.hid (LI_step HL.out hb6); clear HL hb6; have HL := HLx; clear HLx; (try clear l0 l1 l2 l3); obtain ⟨l0, l1, l2, l3⟩ := HL.out))
          go_ret
          exact ⟨rfl, l3⟩
      · generalize min (prodN ss n) 200001 = P at *
        have h3' : 20000 < P := by omega
        clear HNN hC h3
        go_enter Tryd.func8, Tryd.ntmps8; go_upto_region 1 with (fail); have HL := Lib.hid (show LI a n c ba m bc w (w.alloc (.cells #[.slice a n c, .slice ba m bc] 25)) from LI_start); generalize World.alloc w _ = V at *; obtain ⟨l0, l1, l2, l3⟩ := HL.out
        go_wp2_with (first | (go_at_call 9; refine (HST.out _ l3).mono ?_; rintro e w2 ⟨rfl, hb2⟩; have HLx := Lib.hid (LI_step HL.out hb2); clear HL hb2; have HL := HLx; clear HLx; (try clear l0 l1 l2 l3); obtain ⟨l0, l1, l2, l3⟩ := HL.out) | (go_at_call 10; refine (HCH.out _ l3).mono ?_; rintro e w3 ⟨rfl, hb3⟩; have HLx := Lib.hid (LI_step HL.out hb3); clear HL hb3; have HL := HLx; clear HLx; (try clear l0 l1 l2 l3); obtain ⟨l0, l1, l2, l3⟩ := HL.out) | (go_at_call 11; refine (HFS.out _ l3).mono ?_; rintro e w4 ⟨rfl, hb4⟩; have HLx := Lib.hid (LI_step HL.out hb4); clear HL hb4; have HL := HLx; clear HLx; (try clear l0 l1 l2 l3); obtain ⟨l0, l1, l2, l3⟩ := HL.out) | (go_at_call 34; refine (HSE.out _ l3).mono ?_; rintro e w5 ⟨rfl, hb5⟩; have HLx := Lib.hid (LI_step HL.out hb5); clear HL hb5; have HL := HLx; clear HLx; (try clear l0 l1 l2 l3); obtain ⟨l0, l1, l2, l3⟩ := HL.out) | (go_at_call 13; refine (HKN.out _ l3).mono ?_; rintro e w6 ⟨rfl, hb6⟩; have HLx := Lib.hid (LI_step HL.out hb6); clear HL hb6; have HL := HLx; clear HLx; (try clear l0 l1 l2 l3); obtain ⟨l0, l1, l2, l3⟩ := HL.out))
        go_ret
        exact ⟨rfl, l3⟩
    · have hne : (checkN n ss m bs == 0) = false := by rw [beq_eq_false_iff_ne]; exact hC
      clear HNN hC
      generalize checkN n ss m bs = E at *
      have hne2 : (E != 0) = true := by rw [bne, hne]; rfl
      go_enter Tryd.func8, Tryd.ntmps8; go_upto_region 1 with (fail); have HL := Lib.hid (show LI a n c ba m bc w (w.alloc (.cells #[.slice a n c, .slice ba m bc] 25)) from LI_start); generalize World.alloc w _ = V at *; obtain ⟨l0, l1, l2, l3⟩ := HL.out
      go_wp2_with (first | (go_at_call 9; refine (HST.out _ l3).mono ?_; rintro e w2 ⟨rfl, hb2⟩; have HLx := Lib.hid (LI_step HL.out hb2); clear HL hb2; have HL := HLx; clear HLx; (try clear l0 l1 l2 l3); obtain ⟨l0, l1, l2, l3⟩ := HL.out) | (go_at_call 10; refine (HCH.out _ l3).mono ?_; rintro e w3 ⟨rfl, hb3⟩; have HLx := Lib.hid (LI_step HL.out hb3); clear HL hb3; have HL := HLx; clear HLx; (try clear l0 l1 l2 l3); obtain ⟨l0, l1, l2, l3⟩ := HL.out) | (go_at_call 13; refine (HKN.out _ l3).mono ?_; rintro e w6 ⟨rfl, hb6⟩; have HLx := Lib.hid (LI_step HL.out hb6); clear HL hb6; have HL := HLx; clear HLx; (try clear l0 l1 l2 l3); obtain ⟨l0, l1, l2, l3⟩ := HL.out))
      go_ret
      exact ⟨rfl, l3⟩
set_option maxRecDepth 100000 in
set_option maxHeartbeats 4000000 in
theorem Void_none (a : Option Addr) (n c : Nat) (ba : Option Addr) (m bc : Nat) (ss : Nat → SV) (bs : Nat → BM) (ca : Option Addr) (k cc : Nat) (cs : Nat → Int) (most : Int) (fa : Option Addr) (fk fc : Nat) (f : Nat → Int) (some_ : Int) (w : World) (h : VoIn a n c ba m bc ss bs ca k cs fa fk f w) (hyes : VoYes n ss m bs k cs fk) (hA : allF n ss m bs = []) :
    Calls Tryd.prog 8 #[imageV a n c ba m bc, .slice ca k cc, .int .i64 most, .slice fa fk fc, .int .i64 some_] w fun e w' => e = .returned (.bool true) ∧ Below w.heap.size w w' := by
  have hC := hyes.2.1; have hst := hyes.2.2.2.2.1; have hk5 := hyes.2.2.2.1; have hk := h.su.lk; have hfk := h.lf; unfold maxLen at hk hfk; have g2 : checkF n ss m bs (setB n k cs) = 0 := (by rw [hst, checkF_true]; exact hC); have HKN := Lib.hid (fun (W : World) (hb : Below w.heap.size w W) => h.su.im.known hb); have HST := Lib.hid (fun (W : World) (hb : Below w.heap.size w W) => h.short hb); have HCH := Lib.hid (fun (W : World) (hb : Below w.heap.size w W) => h.check hb); have HFS := Lib.hid (fun (W : World) (hb : Below w.heap.size w W) => h.fields hC hb); have HSE := Lib.hid (fun (W : World) (hb : Below w.heap.size w W) => h.su.setC (cc := cc) hb); have HFD := Lib.hid (fun (W : World) (hb : Below w.heap.size w W) => h.fieldC (fc := fc) hb); have HAG0 := Lib.hid (fun (hf : fieldB n ss fk f = true) (W : World) (hb : Below w.heap.size w W) => h.agrees (fc := fc) hC hf hb); obtain ⟨g1, g3, g4, g5, g6, g7⟩ := hyes; rw [g1] at HST; rw [g3] at HCH; rw [g6] at HSE; generalize min (prodN ss n) 200001 = P at *; have g4' : ¬ 20000 < P := (by omega); have g5' : ¬ 50 < (k : Int) := (by omega); have g7' : ¬ 60 < (fk : Int) := (by omega); clear g1 g4 g5 g3 g6 g7
  have HSU := Lib.hid (fun (W : World) (hb : Below w.heap.size w W) => h.su.sum0 (cc := cc) hb g2 hA)
  have HVO := Lib.hid (fun (W : World) (hb : Below w.heap.size w W) => h.su.void0 (cc := cc) (most := most) hb g2 hA)
  clear h hC hst g2 hA HAG0
  go_enter Tryd.func8, Tryd.ntmps8; go_upto_region 1 with (fail); have HL := Lib.hid (show LI a n c ba m bc w (w.alloc (.cells #[.slice a n c, .slice ba m bc] 25)) from LI_start); generalize World.alloc w _ = V at *; obtain ⟨l0, l1, l2, l3⟩ := HL.out
  go_upto_region 5 with (first | (go_at_call 9; refine (HST.out _ l3).mono ?_; rintro e w2 ⟨rfl, hb2⟩; have HLx := Lib.hid (LI_step HL.out hb2); clear HL hb2; have HL := HLx; clear HLx; (try clear l0 l1 l2 l3); obtain ⟨l0, l1, l2, l3⟩ := HL.out) | (go_at_call 10; refine (HCH.out _ l3).mono ?_; rintro e w3 ⟨rfl, hb3⟩; have HLx := Lib.hid (LI_step HL.out hb3); clear HL hb3; have HL := HLx; clear HLx; (try clear l0 l1 l2 l3); obtain ⟨l0, l1, l2, l3⟩ := HL.out) | (go_at_call 11; refine (HFS.out _ l3).mono ?_; rintro e w4 ⟨rfl, hb4⟩; have HLx := Lib.hid (LI_step HL.out hb4); clear HL hb4; have HL := HLx; clear HLx; (try clear l0 l1 l2 l3); obtain ⟨l0, l1, l2, l3⟩ := HL.out) | (go_at_call 34; refine (HSE.out _ l3).mono ?_; rintro e w5 ⟨rfl, hb5⟩; have HLx := Lib.hid (LI_step HL.out hb5); clear HL hb5; have HL := HLx; clear HLx; (try clear l0 l1 l2 l3); obtain ⟨l0, l1, l2, l3⟩ := HL.out) | (go_at_call 13; refine (HKN.out _ l3).mono ?_; rintro e w6 ⟨rfl, hb6⟩; have HLx := Lib.hid (LI_step HL.out hb6); clear HL hb6; have HL := HLx; clear HLx; (try clear l0 l1 l2 l3); obtain ⟨l0, l1, l2, l3⟩ := HL.out) | (go_at_call 33; refine (HVO.out _ l3).mono ?_; rintro e w7 ⟨rfl, hb7⟩; have HLx := Lib.hid (LI_step HL.out hb7); clear HL hb7; have HL := HLx; clear HLx; (try clear l0 l1 l2 l3); obtain ⟨l0, l1, l2, l3⟩ := HL.out) | (go_at_call 32; refine (HSU.out _ l3).mono ?_; rintro e w8 ⟨rfl, hb8⟩; have HLx := Lib.hid (LI_step HL.out hb8); clear HL hb8; have HL := HLx; clear HLx; (try clear l0 l1 l2 l3); obtain ⟨l0, l1, l2, l3⟩ := HL.out))
  rename World => W1
  have HL1 := Lib.hid (LI_step HL.out (alloc_below W1 (.cells #[.int .i64 0, .int .i64 0] 41)))
  clear HL l0 l1 l2 l3
  have HL := HL1
  clear HL1
  obtain ⟨l0, l1, l2, l3⟩ := HL.out
  generalize World.alloc W1 _ = V1 at *
  go_wp2_with (first | (go_at_call 13; refine (HKN.out _ l3).mono ?_; rintro e w6 ⟨rfl, hb6⟩; have HLx := Lib.hid (LI_step HL.out hb6); clear HL hb6; have HL := HLx; clear HLx; (try clear l0 l1 l2 l3); obtain ⟨l0, l1, l2, l3⟩ := HL.out))
  go_ret
  exact ⟨rfl, l3⟩
set_option maxRecDepth 100000 in
set_option maxHeartbeats 4000000 in
theorem Void_f (a : Option Addr) (n c : Nat) (ba : Option Addr) (m bc : Nat) (ss : Nat → SV) (bs : Nat → BM) (ca : Option Addr) (k cc : Nat) (cs : Nat → Int) (most : Int) (fa : Option Addr) (fk fc : Nat) (f : Nat → Int) (some_ : Int) (w : World) (h : VoIn a n c ba m bc ss bs ca k cs fa fk f w) (hyes : VoYes n ss m bs k cs fk) (hA : allF n ss m bs ≠ []) (hf : fieldB n ss fk f = false) :
    Calls Tryd.prog 8 #[imageV a n c ba m bc, .slice ca k cc, .int .i64 most, .slice fa fk fc, .int .i64 some_] w fun e w' => e = .returned (.bool true) ∧ Below w.heap.size w w' := by
  have hC := hyes.2.1; have hst := hyes.2.2.2.2.1; have hk5 := hyes.2.2.2.1; have hk := h.su.lk; have hfk := h.lf; unfold maxLen at hk hfk; have g2 : checkF n ss m bs (setB n k cs) = 0 := (by rw [hst, checkF_true]; exact hC); have HKN := Lib.hid (fun (W : World) (hb : Below w.heap.size w W) => h.su.im.known hb); have HST := Lib.hid (fun (W : World) (hb : Below w.heap.size w W) => h.short hb); have HCH := Lib.hid (fun (W : World) (hb : Below w.heap.size w W) => h.check hb); have HFS := Lib.hid (fun (W : World) (hb : Below w.heap.size w W) => h.fields hC hb); have HSE := Lib.hid (fun (W : World) (hb : Below w.heap.size w W) => h.su.setC (cc := cc) hb); have HFD := Lib.hid (fun (W : World) (hb : Below w.heap.size w W) => h.fieldC (fc := fc) hb); have HAG0 := Lib.hid (fun (hf : fieldB n ss fk f = true) (W : World) (hb : Below w.heap.size w W) => h.agrees (fc := fc) hC hf hb); obtain ⟨g1, g3, g4, g5, g6, g7⟩ := hyes; rw [g1] at HST; rw [g3] at HCH; rw [g6] at HSE; generalize min (prodN ss n) 200001 = P at *; have g4' : ¬ 20000 < P := (by omega); have g5' : ¬ 50 < (k : Int) := (by omega); have g7' : ¬ 60 < (fk : Int) := (by omega); clear g1 g4 g5 g3 g6 g7
  have hn40 := (checkN_shape hC).n40
  have hkn := setB_len hst
  have HSU := Lib.hid (fun (W : World) (hb : Below w.heap.size w W) => h.su.sum1 (cc := cc) hb g2 hA)
  have HVO := Lib.hid (fun (W : World) (hb : Below w.heap.size w W) => h.su.void1 (cc := cc) (most := most) hb g2 hA)
  have HPT := Lib.hid (fun (bit : Nat → Bool) (W : World) (hb : Below w.heap.size w W) (oa : Option Addr) (oc : Nat) hO => h.part hC hst hk5 hA bit hb oa oc hO)
  obtain ⟨hS1, hS2⟩ := sum_bnd (checkN_shape hC) hA hst
  have HCI := Lib.hid h.su.set
  rw [hf] at HFD
  clear HAG0
  generalize bnd (fun f => sumL cs k (fOf f)) (allF n ss m bs) = S at *
  clear h hA g2
  have hmm : (decide (S.hi ≤ most) != decide (S.hi ≤ most)) = false := by simp
  have hs1 : ¬ S.hi < S.lo := by omega
  have hs2 : ¬ S.lo < 0 := by omega
  obtain ⟨i0, hi0, hz00, hz01, hz02⟩ := info_parts info_int
  go_enter Tryd.func8, Tryd.ntmps8; go_upto_region 1 with (fail); have HL := Lib.hid (show LI a n c ba m bc w (w.alloc (.cells #[.slice a n c, .slice ba m bc] 25)) from LI_start); generalize World.alloc w _ = V at *; obtain ⟨l0, l1, l2, l3⟩ := HL.out
  go_upto_region 5 with (first | (go_at_call 9; refine (HST.out _ l3).mono ?_; rintro e w2 ⟨rfl, hb2⟩; have HLx := Lib.hid (LI_step HL.out hb2); clear HL hb2; have HL := HLx; clear HLx; (try clear l0 l1 l2 l3); obtain ⟨l0, l1, l2, l3⟩ := HL.out) | (go_at_call 10; refine (HCH.out _ l3).mono ?_; rintro e w3 ⟨rfl, hb3⟩; have HLx := Lib.hid (LI_step HL.out hb3); clear HL hb3; have HL := HLx; clear HLx; (try clear l0 l1 l2 l3); obtain ⟨l0, l1, l2, l3⟩ := HL.out) | (go_at_call 11; refine (HFS.out _ l3).mono ?_; rintro e w4 ⟨rfl, hb4⟩; have HLx := Lib.hid (LI_step HL.out hb4); clear HL hb4; have HL := HLx; clear HLx; (try clear l0 l1 l2 l3); obtain ⟨l0, l1, l2, l3⟩ := HL.out) | (go_at_call 34; refine (HSE.out _ l3).mono ?_; rintro e w5 ⟨rfl, hb5⟩; have HLx := Lib.hid (LI_step HL.out hb5); clear HL hb5; have HL := HLx; clear HLx; (try clear l0 l1 l2 l3); obtain ⟨l0, l1, l2, l3⟩ := HL.out) | (go_at_call 13; refine (HKN.out _ l3).mono ?_; rintro e w6 ⟨rfl, hb6⟩; have HLx := Lib.hid (LI_step HL.out hb6); clear HL hb6; have HL := HLx; clear HLx; (try clear l0 l1 l2 l3); obtain ⟨l0, l1, l2, l3⟩ := HL.out) | (go_at_call 33; refine (HVO.out _ l3).mono ?_; rintro e w7 ⟨rfl, hb7⟩; have HLx := Lib.hid (LI_step HL.out hb7); clear HL hb7; have HL := HLx; clear HLx; (try clear l0 l1 l2 l3); obtain ⟨l0, l1, l2, l3⟩ := HL.out) | (go_at_call 32; refine (HSU.out _ l3).mono ?_; rintro e w8 ⟨rfl, hb8⟩; have HLx := Lib.hid (LI_step HL.out hb8); clear HL hb8; have HL := HLx; clear HLx; (try clear l0 l1 l2 l3); obtain ⟨l0, l1, l2, l3⟩ := HL.out))
  rename World => W1
  have HRB := Lib.hid (heap_alloc_new W1 (.cells #[.int .i64 S.lo, .int .i64 S.hi] 41))
  have HL1 := Lib.hid (LI_step HL.out (alloc_below W1 (.cells #[.int .i64 S.lo, .int .i64 S.hi] 41)))
  clear HL l0 l1 l2 l3 HST HCH HFS HSE HVO HSU
  have HL := HL1
  clear HL1
  obtain ⟨l0, l1, l2, l3⟩ := HL.out
  generalize World.alloc W1 _ = V1 at *
  generalize W1.heap.size = sb at *
  have s0 := (cell_of_row _ _ 0 _ _ _ HRB.out).trans (show _ = some (Value.int .i64 S.lo) from rfl)
  have s1 := (cell_of_row _ _ 1 _ _ _ HRB.out).trans (show _ = some (Value.int .i64 S.hi) from rfl)
  go_upto_region 9 with (fail)
  clear s0 s1
  go_upto_region 19 with (first | (go_at_call 18; refine (HFD.out _ l3).mono ?_; rintro e w9 ⟨rfl, hb9⟩; have HRx := Lib.hid (((hb9).block _ (Array.getElem?_eq_some_iff.1 HRB.out).1).trans HRB.out); clear HRB; have HRB := HRx; clear HRx; have HLx := Lib.hid (LI_step HL.out hb9); clear HL hb9; have HL := HLx; clear HLx; (try clear l0 l1 l2 l3); obtain ⟨l0, l1, l2, l3⟩ := HL.out))
  rename World => W2
  go_loopw [17, 18] (fun s17 t wr => ∃ (i q : Nat) (oa : Option Addr) (oc : Nat), i ≤ k ∧ q ≤ i ∧ t = .int .i64 (i : Int) ∧ s17 = .slice oa q oc ∧ Hid (q = (partL (voBit some_) cs i).length ∧ Below W2.heap.size W2 wr ∧ wr.ownsRow W2.heap.size 3 1 (.slice oa q oc) q (lC (partL (voBit some_) cs i)))) (fun _ t _ => k - (intOf t).toNat)
  case atStart => exact ⟨0, 0, none, 0, Nat.zero_le _, Nat.zero_le _, rfl, rfl, Lib.hid ⟨rfl, Below.refl _ _, World.ownsRow_nil _ _ _ _⟩⟩
  case round =>
    obtain ⟨i, q, oa, oc, hil, hqi, rfl, rfl, HX⟩ := hrel
    have hzr := HX.out.2.1.size
    by_cases hlt : i < k
    · have hlt' : (i : Int) < (k : Int) := by omega
      obtain ⟨cb, co, rfl, hcb, c0⟩ := ((HCI.out.below l3).below (HX.out.2.1.mono l3.size)).get hlt
      have hcz : cb < wr.heap.size := by have := l3.size; omega
      have HPS := Lib.hid (partL_succ (bit := voBit some_) (cs := cs) (i := i))
      cases hbt : (bits BinOp.and IntKind.i64 (some_ / 2 ^ i) 1 == 1)
      · have HL2 := Lib.hid (show partL (voBit some_) cs (i + 1) = partL (voBit some_) cs i from by rw [HPS.out, if_neg (by unfold voBit; rw [hbt]; decide)])
        go_wp2
        go_roundw
        case rel => exact ⟨i + 1, q, oa, oc, by omega, by omega, by go_num, rfl, by rw [HL2.out]; exact HX⟩
        case measure => simp [intOf]; omega
      · have HL2 := Lib.hid (show partL (voBit some_) cs (i + 1) = partL (voBit some_) cs i ++ [cs i] from by rw [HPS.out, if_pos (by unfold voBit; exact hbt)])
        have hb63 : q + 1 ≤ maxLen := by unfold maxLen; omega
        have hb47 : (q + 1) * 8 ≤ 140737488355328 := by omega
        go_wp2_with (at_builtin; refine wpList_append_own _ rfl _ _ 26 rfl W2.heap.size 3 i0 (.int .i64 0) 1 8 Tryd.underlying26 hi0 hz00 hz01 hz02 rfl (by decide) _ q (lC (partL (voBit some_) cs i)) rfl (HX.out.2.2.alloc _) ⟨wr.heap.size, 0, none⟩ 1 1 [.int .i64 (cs i)] rfl rfl cells_new int_one (by unfold maxLen; omega) hb47 (by simp; omega) ?_; intro v' w3 hown hgrow hnil; obtain ⟨a3, c3, rfl⟩ := own_len hown)
        go_roundw
        case rel => exact ⟨i + 1, q + 1, a3, c3, by omega, by omega, by go_num, rfl, Lib.hid ⟨by rw [HL2.out, List.length_append, ← HX.out.1]; rfl, (HX.out.2.1.alloc hzr _).grown hgrow (by simp; omega) (fun b hb => own_block_le HX.out.2.2 hb), by rw [HL2.out, lC_snoc]; exact hown⟩⟩
        case measure => simp [intOf]; omega
    · obtain rfl : i = k := by omega
      have hlt' : ¬ (i : Int) < (i : Int) := by omega
      have hq := HX.out.1
      have HPI := Lib.hid (show Ints wr.heap.size wr oa q (fOf (partL (voBit some_) cs i)) from by
        have h8 := HX.out.2.2
        rw [hq] at h8 ⊢
        exact own_ints h8)
      have h9 := HPT.out (voBit some_)
      simp only [← hq] at h9
      have HPS := Lib.hid h9
      clear h9 hq
      have hb3 := HX.out.2.1
      have HRx := Lib.hid (((hb3).block _ (Array.getElem?_eq_some_iff.1 HRB.out).1).trans HRB.out); clear HRB; have HRB := HRx; clear HRx
      have HL2 := Lib.hid (LI_step HL.out hb3)
      clear HL l0 l1 l2 l3 hb3 HX HPT
      have HL := HL2
      clear HL2
      obtain ⟨l0, l1, l2, l3⟩ := HL.out
      go_upto_region 24 with (first | (go_at_call 32; refine (HPS.out _ l3 _ _ HPI.out).mono ?_; rintro e wb ⟨⟨tlo, thi, rfl, ht1, ht2⟩, hbb⟩; have HRx := Lib.hid (((hbb).block _ (Array.getElem?_eq_some_iff.1 HRB.out).1).trans HRB.out); clear HRB; have HRB := HRx; clear HRx; have HLx := Lib.hid (LI_step HL.out hbb); clear HL hbb; have HL := HLx; clear HLx; (try clear l0 l1 l2 l3); obtain ⟨l0, l1, l2, l3⟩ := HL.out))
      have HRC := Lib.hid (heap_alloc_new wb (.cells #[.int .i64 tlo, .int .i64 thi] 41))
      have hb2 := alloc_below wb (.cells #[.int .i64 tlo, .int .i64 thi] 41)
      have HRx := Lib.hid (((hb2).block _ (Array.getElem?_eq_some_iff.1 HRB.out).1).trans HRB.out); clear HRB; have HRB := HRx; clear HRx
      have HL2 := Lib.hid (LI_step HL.out hb2)
      clear HL l0 l1 l2 l3 hb2
      have HL := HL2
      clear HL2
      obtain ⟨l0, l1, l2, l3⟩ := HL.out
      generalize World.alloc wb _ = V2 at *
      generalize wb.heap.size = xb at *
      have s0 := (cell_of_row _ _ 0 _ _ _ HRB.out).trans (show _ = some (Value.int .i64 S.lo) from rfl)
      have s1 := (cell_of_row _ _ 1 _ _ _ HRB.out).trans (show _ = some (Value.int .i64 S.hi) from rfl)
      have x0 := (cell_of_row _ _ 0 _ _ _ HRC.out).trans (show _ = some (Value.int .i64 tlo) from rfl)
      have x1 := (cell_of_row _ _ 1 _ _ _ HRC.out).trans (show _ = some (Value.int .i64 thi) from rfl)
      go_wp2_with (first | (go_at_call 13; refine (HKN.out _ l3).mono ?_; rintro e w6 ⟨rfl, hb6⟩; have HLx := Lib.hid (LI_step HL.out hb6); clear HL hb6; have HL := HLx; clear HLx; (try clear l0 l1 l2 l3); obtain ⟨l0, l1, l2, l3⟩ := HL.out))
      go_ret
      exact ⟨rfl, l3⟩
set_option maxRecDepth 100000 in
set_option maxHeartbeats 4000000 in
theorem Void_tf (a : Option Addr) (n c : Nat) (ba : Option Addr) (m bc : Nat) (ss : Nat → SV) (bs : Nat → BM) (ca : Option Addr) (k cc : Nat) (cs : Nat → Int) (most : Int) (fa : Option Addr) (fk fc : Nat) (f : Nat → Int) (some_ : Int) (w : World) (h : VoIn a n c ba m bc ss bs ca k cs fa fk f w) (hyes : VoYes n ss m bs k cs fk) (hA : allF n ss m bs ≠ []) (hf : fieldB n ss fk f = true) (hg : agreesB m bs f = false) :
    Calls Tryd.prog 8 #[imageV a n c ba m bc, .slice ca k cc, .int .i64 most, .slice fa fk fc, .int .i64 some_] w fun e w' => e = .returned (.bool true) ∧ Below w.heap.size w w' := by
  have hC := hyes.2.1; have hst := hyes.2.2.2.2.1; have hk5 := hyes.2.2.2.1; have hk := h.su.lk; have hfk := h.lf; unfold maxLen at hk hfk; have g2 : checkF n ss m bs (setB n k cs) = 0 := (by rw [hst, checkF_true]; exact hC); have HKN := Lib.hid (fun (W : World) (hb : Below w.heap.size w W) => h.su.im.known hb); have HST := Lib.hid (fun (W : World) (hb : Below w.heap.size w W) => h.short hb); have HCH := Lib.hid (fun (W : World) (hb : Below w.heap.size w W) => h.check hb); have HFS := Lib.hid (fun (W : World) (hb : Below w.heap.size w W) => h.fields hC hb); have HSE := Lib.hid (fun (W : World) (hb : Below w.heap.size w W) => h.su.setC (cc := cc) hb); have HFD := Lib.hid (fun (W : World) (hb : Below w.heap.size w W) => h.fieldC (fc := fc) hb); have HAG0 := Lib.hid (fun (hf : fieldB n ss fk f = true) (W : World) (hb : Below w.heap.size w W) => h.agrees (fc := fc) hC hf hb); obtain ⟨g1, g3, g4, g5, g6, g7⟩ := hyes; rw [g1] at HST; rw [g3] at HCH; rw [g6] at HSE; generalize min (prodN ss n) 200001 = P at *; have g4' : ¬ 20000 < P := (by omega); have g5' : ¬ 50 < (k : Int) := (by omega); have g7' : ¬ 60 < (fk : Int) := (by omega); clear g1 g4 g5 g3 g6 g7
  have hn40 := (checkN_shape hC).n40
  have hkn := setB_len hst
  have HSU := Lib.hid (fun (W : World) (hb : Below w.heap.size w W) => h.su.sum1 (cc := cc) hb g2 hA)
  have HVO := Lib.hid (fun (W : World) (hb : Below w.heap.size w W) => h.su.void1 (cc := cc) (most := most) hb g2 hA)
  have HPT := Lib.hid (fun (bit : Nat → Bool) (W : World) (hb : Below w.heap.size w W) (oa : Option Addr) (oc : Nat) hO => h.part hC hst hk5 hA bit hb oa oc hO)
  obtain ⟨hS1, hS2⟩ := sum_bnd (checkN_shape hC) hA hst
  have HCI := Lib.hid h.su.set
  rw [hf] at HFD
  have HAG := Lib.hid (HAG0.out hf)
  rw [hg] at HAG
  clear HAG0
  generalize bnd (fun f => sumL cs k (fOf f)) (allF n ss m bs) = S at *
  clear h hA g2
  have hmm : (decide (S.hi ≤ most) != decide (S.hi ≤ most)) = false := by simp
  have hs1 : ¬ S.hi < S.lo := by omega
  have hs2 : ¬ S.lo < 0 := by omega
  obtain ⟨i0, hi0, hz00, hz01, hz02⟩ := info_parts info_int
  go_enter Tryd.func8, Tryd.ntmps8; go_upto_region 1 with (fail); have HL := Lib.hid (show LI a n c ba m bc w (w.alloc (.cells #[.slice a n c, .slice ba m bc] 25)) from LI_start); generalize World.alloc w _ = V at *; obtain ⟨l0, l1, l2, l3⟩ := HL.out
  go_upto_region 5 with (first | (go_at_call 9; refine (HST.out _ l3).mono ?_; rintro e w2 ⟨rfl, hb2⟩; have HLx := Lib.hid (LI_step HL.out hb2); clear HL hb2; have HL := HLx; clear HLx; (try clear l0 l1 l2 l3); obtain ⟨l0, l1, l2, l3⟩ := HL.out) | (go_at_call 10; refine (HCH.out _ l3).mono ?_; rintro e w3 ⟨rfl, hb3⟩; have HLx := Lib.hid (LI_step HL.out hb3); clear HL hb3; have HL := HLx; clear HLx; (try clear l0 l1 l2 l3); obtain ⟨l0, l1, l2, l3⟩ := HL.out) | (go_at_call 11; refine (HFS.out _ l3).mono ?_; rintro e w4 ⟨rfl, hb4⟩; have HLx := Lib.hid (LI_step HL.out hb4); clear HL hb4; have HL := HLx; clear HLx; (try clear l0 l1 l2 l3); obtain ⟨l0, l1, l2, l3⟩ := HL.out) | (go_at_call 34; refine (HSE.out _ l3).mono ?_; rintro e w5 ⟨rfl, hb5⟩; have HLx := Lib.hid (LI_step HL.out hb5); clear HL hb5; have HL := HLx; clear HLx; (try clear l0 l1 l2 l3); obtain ⟨l0, l1, l2, l3⟩ := HL.out) | (go_at_call 13; refine (HKN.out _ l3).mono ?_; rintro e w6 ⟨rfl, hb6⟩; have HLx := Lib.hid (LI_step HL.out hb6); clear HL hb6; have HL := HLx; clear HLx; (try clear l0 l1 l2 l3); obtain ⟨l0, l1, l2, l3⟩ := HL.out) | (go_at_call 33; refine (HVO.out _ l3).mono ?_; rintro e w7 ⟨rfl, hb7⟩; have HLx := Lib.hid (LI_step HL.out hb7); clear HL hb7; have HL := HLx; clear HLx; (try clear l0 l1 l2 l3); obtain ⟨l0, l1, l2, l3⟩ := HL.out) | (go_at_call 32; refine (HSU.out _ l3).mono ?_; rintro e w8 ⟨rfl, hb8⟩; have HLx := Lib.hid (LI_step HL.out hb8); clear HL hb8; have HL := HLx; clear HLx; (try clear l0 l1 l2 l3); obtain ⟨l0, l1, l2, l3⟩ := HL.out))
  rename World => W1
  have HRB := Lib.hid (heap_alloc_new W1 (.cells #[.int .i64 S.lo, .int .i64 S.hi] 41))
  have HL1 := Lib.hid (LI_step HL.out (alloc_below W1 (.cells #[.int .i64 S.lo, .int .i64 S.hi] 41)))
  clear HL l0 l1 l2 l3 HST HCH HFS HSE HVO HSU
  have HL := HL1
  clear HL1
  obtain ⟨l0, l1, l2, l3⟩ := HL.out
  generalize World.alloc W1 _ = V1 at *
  generalize W1.heap.size = sb at *
  have s0 := (cell_of_row _ _ 0 _ _ _ HRB.out).trans (show _ = some (Value.int .i64 S.lo) from rfl)
  have s1 := (cell_of_row _ _ 1 _ _ _ HRB.out).trans (show _ = some (Value.int .i64 S.hi) from rfl)
  go_upto_region 9 with (fail)
  clear s0 s1
  go_upto_region 19 with (first | (go_at_call 18; refine (HFD.out _ l3).mono ?_; rintro e w9 ⟨rfl, hb9⟩; have HRx := Lib.hid (((hb9).block _ (Array.getElem?_eq_some_iff.1 HRB.out).1).trans HRB.out); clear HRB; have HRB := HRx; clear HRx; have HLx := Lib.hid (LI_step HL.out hb9); clear HL hb9; have HL := HLx; clear HLx; (try clear l0 l1 l2 l3); obtain ⟨l0, l1, l2, l3⟩ := HL.out) | (go_at_call 19; refine (HAG.out _ l3).mono ?_; rintro e wa ⟨rfl, hba⟩; have HRx := Lib.hid (((hba).block _ (Array.getElem?_eq_some_iff.1 HRB.out).1).trans HRB.out); clear HRB; have HRB := HRx; clear HRx; have HLx := Lib.hid (LI_step HL.out hba); clear HL hba; have HL := HLx; clear HLx; (try clear l0 l1 l2 l3); obtain ⟨l0, l1, l2, l3⟩ := HL.out))
  rename World => W2
  go_loopw [17, 18] (fun s17 t wr => ∃ (i q : Nat) (oa : Option Addr) (oc : Nat), i ≤ k ∧ q ≤ i ∧ t = .int .i64 (i : Int) ∧ s17 = .slice oa q oc ∧ Hid (q = (partL (voBit some_) cs i).length ∧ Below W2.heap.size W2 wr ∧ wr.ownsRow W2.heap.size 3 1 (.slice oa q oc) q (lC (partL (voBit some_) cs i)))) (fun _ t _ => k - (intOf t).toNat)
  case atStart => exact ⟨0, 0, none, 0, Nat.zero_le _, Nat.zero_le _, rfl, rfl, Lib.hid ⟨rfl, Below.refl _ _, World.ownsRow_nil _ _ _ _⟩⟩
  case round =>
    obtain ⟨i, q, oa, oc, hil, hqi, rfl, rfl, HX⟩ := hrel
    have hzr := HX.out.2.1.size
    by_cases hlt : i < k
    · have hlt' : (i : Int) < (k : Int) := by omega
      obtain ⟨cb, co, rfl, hcb, c0⟩ := ((HCI.out.below l3).below (HX.out.2.1.mono l3.size)).get hlt
      have hcz : cb < wr.heap.size := by have := l3.size; omega
      have HPS := Lib.hid (partL_succ (bit := voBit some_) (cs := cs) (i := i))
      cases hbt : (bits BinOp.and IntKind.i64 (some_ / 2 ^ i) 1 == 1)
      · have HL2 := Lib.hid (show partL (voBit some_) cs (i + 1) = partL (voBit some_) cs i from by rw [HPS.out, if_neg (by unfold voBit; rw [hbt]; decide)])
        go_wp2
        go_roundw
        case rel => exact ⟨i + 1, q, oa, oc, by omega, by omega, by go_num, rfl, by rw [HL2.out]; exact HX⟩
        case measure => simp [intOf]; omega
      · have HL2 := Lib.hid (show partL (voBit some_) cs (i + 1) = partL (voBit some_) cs i ++ [cs i] from by rw [HPS.out, if_pos (by unfold voBit; exact hbt)])
        have hb63 : q + 1 ≤ maxLen := by unfold maxLen; omega
        have hb47 : (q + 1) * 8 ≤ 140737488355328 := by omega
        go_wp2_with (at_builtin; refine wpList_append_own _ rfl _ _ 26 rfl W2.heap.size 3 i0 (.int .i64 0) 1 8 Tryd.underlying26 hi0 hz00 hz01 hz02 rfl (by decide) _ q (lC (partL (voBit some_) cs i)) rfl (HX.out.2.2.alloc _) ⟨wr.heap.size, 0, none⟩ 1 1 [.int .i64 (cs i)] rfl rfl cells_new int_one (by unfold maxLen; omega) hb47 (by simp; omega) ?_; intro v' w3 hown hgrow hnil; obtain ⟨a3, c3, rfl⟩ := own_len hown)
        go_roundw
        case rel => exact ⟨i + 1, q + 1, a3, c3, by omega, by omega, by go_num, rfl, Lib.hid ⟨by rw [HL2.out, List.length_append, ← HX.out.1]; rfl, (HX.out.2.1.alloc hzr _).grown hgrow (by simp; omega) (fun b hb => own_block_le HX.out.2.2 hb), by rw [HL2.out, lC_snoc]; exact hown⟩⟩
        case measure => simp [intOf]; omega
    · obtain rfl : i = k := by omega
      have hlt' : ¬ (i : Int) < (i : Int) := by omega
      have hq := HX.out.1
      have HPI := Lib.hid (show Ints wr.heap.size wr oa q (fOf (partL (voBit some_) cs i)) from by
        have h8 := HX.out.2.2
        rw [hq] at h8 ⊢
        exact own_ints h8)
      have h9 := HPT.out (voBit some_)
      simp only [← hq] at h9
      have HPS := Lib.hid h9
      clear h9 hq
      have hb3 := HX.out.2.1
      have HRx := Lib.hid (((hb3).block _ (Array.getElem?_eq_some_iff.1 HRB.out).1).trans HRB.out); clear HRB; have HRB := HRx; clear HRx
      have HL2 := Lib.hid (LI_step HL.out hb3)
      clear HL l0 l1 l2 l3 hb3 HX HPT
      have HL := HL2
      clear HL2
      obtain ⟨l0, l1, l2, l3⟩ := HL.out
      go_upto_region 24 with (first | (go_at_call 32; refine (HPS.out _ l3 _ _ HPI.out).mono ?_; rintro e wb ⟨⟨tlo, thi, rfl, ht1, ht2⟩, hbb⟩; have HRx := Lib.hid (((hbb).block _ (Array.getElem?_eq_some_iff.1 HRB.out).1).trans HRB.out); clear HRB; have HRB := HRx; clear HRx; have HLx := Lib.hid (LI_step HL.out hbb); clear HL hbb; have HL := HLx; clear HLx; (try clear l0 l1 l2 l3); obtain ⟨l0, l1, l2, l3⟩ := HL.out))
      have HRC := Lib.hid (heap_alloc_new wb (.cells #[.int .i64 tlo, .int .i64 thi] 41))
      have hb2 := alloc_below wb (.cells #[.int .i64 tlo, .int .i64 thi] 41)
      have HRx := Lib.hid (((hb2).block _ (Array.getElem?_eq_some_iff.1 HRB.out).1).trans HRB.out); clear HRB; have HRB := HRx; clear HRx
      have HL2 := Lib.hid (LI_step HL.out hb2)
      clear HL l0 l1 l2 l3 hb2
      have HL := HL2
      clear HL2
      obtain ⟨l0, l1, l2, l3⟩ := HL.out
      generalize World.alloc wb _ = V2 at *
      generalize wb.heap.size = xb at *
      have s0 := (cell_of_row _ _ 0 _ _ _ HRB.out).trans (show _ = some (Value.int .i64 S.lo) from rfl)
      have s1 := (cell_of_row _ _ 1 _ _ _ HRB.out).trans (show _ = some (Value.int .i64 S.hi) from rfl)
      have x0 := (cell_of_row _ _ 0 _ _ _ HRC.out).trans (show _ = some (Value.int .i64 tlo) from rfl)
      have x1 := (cell_of_row _ _ 1 _ _ _ HRC.out).trans (show _ = some (Value.int .i64 thi) from rfl)
      go_wp2_with (first | (go_at_call 13; refine (HKN.out _ l3).mono ?_; rintro e w6 ⟨rfl, hb6⟩; have HLx := Lib.hid (LI_step HL.out hb6); clear HL hb6; have HL := HLx; clear HLx; (try clear l0 l1 l2 l3); obtain ⟨l0, l1, l2, l3⟩ := HL.out))
      go_ret
      exact ⟨rfl, l3⟩
set_option maxRecDepth 100000 in
set_option maxHeartbeats 4000000 in
theorem Void_tt1 (a : Option Addr) (n c : Nat) (ba : Option Addr) (m bc : Nat) (ss : Nat → SV) (bs : Nat → BM) (ca : Option Addr) (k cc : Nat) (cs : Nat → Int) (most : Int) (fa : Option Addr) (fk fc : Nat) (f : Nat → Int) (some_ : Int) (w : World) (h : VoIn a n c ba m bc ss bs ca k cs fa fk f w) (hyes : VoYes n ss m bs k cs fk) (hA : allF n ss m bs ≠ []) (hf : fieldB n ss fk f = true) (hg : agreesB m bs f = true) (hmo : S0 n ss m bs k cs ≤ most) :
    Calls Tryd.prog 8 #[imageV a n c ba m bc, .slice ca k cc, .int .i64 most, .slice fa fk fc, .int .i64 some_] w fun e w' => e = .returned (.bool true) ∧ Below w.heap.size w w' := by
  have hC := hyes.2.1; have hst := hyes.2.2.2.2.1; have hk5 := hyes.2.2.2.1; have hk := h.su.lk; have hfk := h.lf; unfold maxLen at hk hfk; have g2 : checkF n ss m bs (setB n k cs) = 0 := (by rw [hst, checkF_true]; exact hC); have HKN := Lib.hid (fun (W : World) (hb : Below w.heap.size w W) => h.su.im.known hb); have HST := Lib.hid (fun (W : World) (hb : Below w.heap.size w W) => h.short hb); have HCH := Lib.hid (fun (W : World) (hb : Below w.heap.size w W) => h.check hb); have HFS := Lib.hid (fun (W : World) (hb : Below w.heap.size w W) => h.fields hC hb); have HSE := Lib.hid (fun (W : World) (hb : Below w.heap.size w W) => h.su.setC (cc := cc) hb); have HFD := Lib.hid (fun (W : World) (hb : Below w.heap.size w W) => h.fieldC (fc := fc) hb); have HAG0 := Lib.hid (fun (hf : fieldB n ss fk f = true) (W : World) (hb : Below w.heap.size w W) => h.agrees (fc := fc) hC hf hb); obtain ⟨g1, g3, g4, g5, g6, g7⟩ := hyes; rw [g1] at HST; rw [g3] at HCH; rw [g6] at HSE; generalize min (prodN ss n) 200001 = P at *; have g4' : ¬ 20000 < P := (by omega); have g5' : ¬ 50 < (k : Int) := (by omega); have g7' : ¬ 60 < (fk : Int) := (by omega); clear g1 g4 g5 g3 g6 g7
  have hn40 := (checkN_shape hC).n40
  have hkn := setB_len hst
  have HSU := Lib.hid (fun (W : World) (hb : Below w.heap.size w W) => h.su.sum1 (cc := cc) hb g2 hA)
  have HVO := Lib.hid (fun (W : World) (hb : Below w.heap.size w W) => h.su.void1 (cc := cc) (most := most) hb g2 hA)
  have HPT := Lib.hid (fun (bit : Nat → Bool) (W : World) (hb : Below w.heap.size w W) (oa : Option Addr) (oc : Nat) hO => h.part hC hst hk5 hA bit hb oa oc hO)
  obtain ⟨hS1, hS2⟩ := sum_bnd (checkN_shape hC) hA hst
  have HCI := Lib.hid h.su.set
  unfold S0 at hmo
  rw [hf] at HFD
  have HAG := Lib.hid (HAG0.out hf)
  rw [hg] at HAG
  clear HAG0
  obtain ⟨hfn, hbox⟩ := fieldB_iff.1 hf
  obtain ⟨v1, v2⟩ := own_sum (checkN_shape hC) hst hbox hg
  have hden := inBox_den (checkN_shape hC) hbox
  have HDN := Lib.hid hden
  have HSA := Lib.hid (fun q (hq : q < k) => setB_at hst hq)
  have HSB := Lib.hid (sumL_bound hst hden)
  have HSTP := Lib.hid (fun q => show sumN (fun i => f (cs i).toNat) (q + 1) = sumN (fun i => f (cs i).toNat) q + f (cs q).toNat from rfl)
  have H0 := Lib.hid (show sumN (fun i => f (cs i).toNat) 0 = 0 from rfl)
  have v3 : sumL cs k f = sumN (fun i => f (cs i).toNat) k := rfl
  rw [v3] at v1 v2
  clear v3
  generalize hsm : sumN (fun i => f (cs i).toNat) = SM at HSB HSTP H0 v1 v2
  have HFL := Lib.hid h.field
  have hfm := hfn.symm
  subst hfm
  clear hsm hden
  rw [decide_eq_true hmo] at HVO
  generalize bnd (fun f => sumL cs k (fOf f)) (allF n ss m bs) = S at *
  clear h hA g2
  have hmm : (decide (S.hi ≤ most) != decide (S.hi ≤ most)) = false := by simp
  have hs1 : ¬ S.hi < S.lo := by omega
  have hs2 : ¬ S.lo < 0 := by omega
  obtain ⟨i0, hi0, hz00, hz01, hz02⟩ := info_parts info_int
  go_enter Tryd.func8, Tryd.ntmps8; go_upto_region 1 with (fail); have HL := Lib.hid (show LI a n c ba m bc w (w.alloc (.cells #[.slice a n c, .slice ba m bc] 25)) from LI_start); generalize World.alloc w _ = V at *; obtain ⟨l0, l1, l2, l3⟩ := HL.out
  go_upto_region 5 with (first | (go_at_call 9; refine (HST.out _ l3).mono ?_; rintro e w2 ⟨rfl, hb2⟩; have HLx := Lib.hid (LI_step HL.out hb2); clear HL hb2; have HL := HLx; clear HLx; (try clear l0 l1 l2 l3); obtain ⟨l0, l1, l2, l3⟩ := HL.out) | (go_at_call 10; refine (HCH.out _ l3).mono ?_; rintro e w3 ⟨rfl, hb3⟩; have HLx := Lib.hid (LI_step HL.out hb3); clear HL hb3; have HL := HLx; clear HLx; (try clear l0 l1 l2 l3); obtain ⟨l0, l1, l2, l3⟩ := HL.out) | (go_at_call 11; refine (HFS.out _ l3).mono ?_; rintro e w4 ⟨rfl, hb4⟩; have HLx := Lib.hid (LI_step HL.out hb4); clear HL hb4; have HL := HLx; clear HLx; (try clear l0 l1 l2 l3); obtain ⟨l0, l1, l2, l3⟩ := HL.out) | (go_at_call 34; refine (HSE.out _ l3).mono ?_; rintro e w5 ⟨rfl, hb5⟩; have HLx := Lib.hid (LI_step HL.out hb5); clear HL hb5; have HL := HLx; clear HLx; (try clear l0 l1 l2 l3); obtain ⟨l0, l1, l2, l3⟩ := HL.out) | (go_at_call 13; refine (HKN.out _ l3).mono ?_; rintro e w6 ⟨rfl, hb6⟩; have HLx := Lib.hid (LI_step HL.out hb6); clear HL hb6; have HL := HLx; clear HLx; (try clear l0 l1 l2 l3); obtain ⟨l0, l1, l2, l3⟩ := HL.out) | (go_at_call 33; refine (HVO.out _ l3).mono ?_; rintro e w7 ⟨rfl, hb7⟩; have HLx := Lib.hid (LI_step HL.out hb7); clear HL hb7; have HL := HLx; clear HLx; (try clear l0 l1 l2 l3); obtain ⟨l0, l1, l2, l3⟩ := HL.out) | (go_at_call 32; refine (HSU.out _ l3).mono ?_; rintro e w8 ⟨rfl, hb8⟩; have HLx := Lib.hid (LI_step HL.out hb8); clear HL hb8; have HL := HLx; clear HLx; (try clear l0 l1 l2 l3); obtain ⟨l0, l1, l2, l3⟩ := HL.out))
  rename World => W1
  have HRB := Lib.hid (heap_alloc_new W1 (.cells #[.int .i64 S.lo, .int .i64 S.hi] 41))
  have HL1 := Lib.hid (LI_step HL.out (alloc_below W1 (.cells #[.int .i64 S.lo, .int .i64 S.hi] 41)))
  clear HL l0 l1 l2 l3 HST HCH HFS HSE HVO HSU
  have HL := HL1
  clear HL1
  obtain ⟨l0, l1, l2, l3⟩ := HL.out
  generalize World.alloc W1 _ = V1 at *
  generalize W1.heap.size = sb at *
  have s0 := (cell_of_row _ _ 0 _ _ _ HRB.out).trans (show _ = some (Value.int .i64 S.lo) from rfl)
  have s1 := (cell_of_row _ _ 1 _ _ _ HRB.out).trans (show _ = some (Value.int .i64 S.hi) from rfl)
  go_upto_region 9 with (fail)
  clear s0 s1
  go_upto_region 12 with (first | (go_at_call 18; refine (HFD.out _ l3).mono ?_; rintro e w9 ⟨rfl, hb9⟩; have HRx := Lib.hid (((hb9).block _ (Array.getElem?_eq_some_iff.1 HRB.out).1).trans HRB.out); clear HRB; have HRB := HRx; clear HRx; have HLx := Lib.hid (LI_step HL.out hb9); clear HL hb9; have HL := HLx; clear HLx; (try clear l0 l1 l2 l3); obtain ⟨l0, l1, l2, l3⟩ := HL.out) | (go_at_call 19; refine (HAG.out _ l3).mono ?_; rintro e wa ⟨rfl, hba⟩; have HRx := Lib.hid (((hba).block _ (Array.getElem?_eq_some_iff.1 HRB.out).1).trans HRB.out); clear HRB; have HRB := HRx; clear HRx; have HLx := Lib.hid (LI_step HL.out hba); clear HL hba; have HL := HLx; clear HLx; (try clear l0 l1 l2 l3); obtain ⟨l0, l1, l2, l3⟩ := HL.out))
  rename World => W9
  go_loopw [15, 16] (fun s t wr => ∃ q : Nat, q ≤ k ∧ t = .int .i64 (q : Int) ∧ s = .int .i64 (SM q) ∧ wr = W9) (fun _ t _ => k - (intOf t).toNat)
  case atStart => exact ⟨0, Nat.zero_le _, rfl, by rw [H0.out], rfl⟩
  case round =>
    obtain ⟨q, hq, rfl, rfl, rfl⟩ := hrel
    by_cases hlt : q < k
    · have hlt' : (q : Int) < (k : Int) := by omega
      obtain ⟨cb, co, rfl, hcb, c0⟩ := (HCI.out.below l3).get hlt
      obtain ⟨g1, g2⟩ := HSA.out q hlt
      have g3 : (cs q).toNat < n := by omega
      obtain ⟨fb, fo, rfl, hfb, d0⟩ := (HFL.out.below l3).get g3
      obtain ⟨r3, r4⟩ := HDN.out _ g3
      obtain ⟨r5, r6⟩ := HSB.out q hq
      have HSI := Lib.hid (HSTP.out q)
      have hcz : cb < wr.heap.size := by have := l3.size; omega
      have hfz : fb < wr.heap.size := by have := l3.size; omega
      generalize f (cs q).toNat = FX at *
      generalize cs q = C at *
      have r7 : SM q ≤ 60000 := by omega
      generalize hSq : SM q = SQ at *
      have HSS := Lib.hid hSq
      clear hSq r6
      go_wp2
      go_roundw
      case rel => exact ⟨q + 1, by omega, by go_num, by rw [HSI.out], by first | trivial | rfl⟩
      case measure => simp [intOf]; omega
    · obtain rfl : k = q := by omega
      have hlt' : ¬ (k : Int) < (k : Int) := by omega
      have s0 := (cell_of_row _ _ 0 _ _ _ HRB.out).trans (show _ = some (Value.int .i64 S.lo) from rfl)
      have s1 := (cell_of_row _ _ 1 _ _ _ HRB.out).trans (show _ = some (Value.int .i64 S.hi) from rfl)
      have u1 : ¬ SM k < S.lo := by omega
      have u2 : ¬ S.hi < SM k := by omega
      have u3 : ¬ most < SM k := by omega
      go_upto_region 19 with (fail)
      clear s0 s1
      rename World => W2
      go_loopw [17, 18] (fun s17 t wr => ∃ (i q : Nat) (oa : Option Addr) (oc : Nat), i ≤ k ∧ q ≤ i ∧ t = .int .i64 (i : Int) ∧ s17 = .slice oa q oc ∧ Hid (q = (partL (voBit some_) cs i).length ∧ Below W2.heap.size W2 wr ∧ wr.ownsRow W2.heap.size 3 1 (.slice oa q oc) q (lC (partL (voBit some_) cs i)))) (fun _ t _ => k - (intOf t).toNat)
      case atStart => exact ⟨0, 0, none, 0, Nat.zero_le _, Nat.zero_le _, rfl, rfl, Lib.hid ⟨rfl, Below.refl _ _, World.ownsRow_nil _ _ _ _⟩⟩
      case round =>
        obtain ⟨i, q, oa, oc, hil, hqi, rfl, rfl, HX⟩ := hrel
        have hzr := HX.out.2.1.size
        by_cases hlt : i < k
        · have hlt' : (i : Int) < (k : Int) := by omega
          obtain ⟨cb, co, rfl, hcb, c0⟩ := ((HCI.out.below l3).below (HX.out.2.1.mono l3.size)).get hlt
          have hcz : cb < wr.heap.size := by have := l3.size; omega
          have HPS := Lib.hid (partL_succ (bit := voBit some_) (cs := cs) (i := i))
          cases hbt : (bits BinOp.and IntKind.i64 (some_ / 2 ^ i) 1 == 1)
          · have HL2 := Lib.hid (show partL (voBit some_) cs (i + 1) = partL (voBit some_) cs i from by rw [HPS.out, if_neg (by unfold voBit; rw [hbt]; decide)])
            go_wp2
            go_roundw
            case rel => exact ⟨i + 1, q, oa, oc, by omega, by omega, by go_num, rfl, by rw [HL2.out]; exact HX⟩
            case measure => simp [intOf]; omega
          · have HL2 := Lib.hid (show partL (voBit some_) cs (i + 1) = partL (voBit some_) cs i ++ [cs i] from by rw [HPS.out, if_pos (by unfold voBit; exact hbt)])
            have hb63 : q + 1 ≤ maxLen := by unfold maxLen; omega
            have hb47 : (q + 1) * 8 ≤ 140737488355328 := by omega
            go_wp2_with (at_builtin; refine wpList_append_own _ rfl _ _ 26 rfl W2.heap.size 3 i0 (.int .i64 0) 1 8 Tryd.underlying26 hi0 hz00 hz01 hz02 rfl (by decide) _ q (lC (partL (voBit some_) cs i)) rfl (HX.out.2.2.alloc _) ⟨wr.heap.size, 0, none⟩ 1 1 [.int .i64 (cs i)] rfl rfl cells_new int_one (by unfold maxLen; omega) hb47 (by simp; omega) ?_; intro v' w3 hown hgrow hnil; obtain ⟨a3, c3, rfl⟩ := own_len hown)
            go_roundw
            case rel => exact ⟨i + 1, q + 1, a3, c3, by omega, by omega, by go_num, rfl, Lib.hid ⟨by rw [HL2.out, List.length_append, ← HX.out.1]; rfl, (HX.out.2.1.alloc hzr _).grown hgrow (by simp; omega) (fun b hb => own_block_le HX.out.2.2 hb), by rw [HL2.out, lC_snoc]; exact hown⟩⟩
            case measure => simp [intOf]; omega
        · obtain rfl : i = k := by omega
          have hlt' : ¬ (i : Int) < (i : Int) := by omega
          have hq := HX.out.1
          have HPI := Lib.hid (show Ints wr.heap.size wr oa q (fOf (partL (voBit some_) cs i)) from by
            have h8 := HX.out.2.2
            rw [hq] at h8 ⊢
            exact own_ints h8)
          have h9 := HPT.out (voBit some_)
          simp only [← hq] at h9
          have HPS := Lib.hid h9
          clear h9 hq
          have hb3 := HX.out.2.1
          have HRx := Lib.hid (((hb3).block _ (Array.getElem?_eq_some_iff.1 HRB.out).1).trans HRB.out); clear HRB; have HRB := HRx; clear HRx
          have HL2 := Lib.hid (LI_step HL.out hb3)
          clear HL l0 l1 l2 l3 hb3 HX HPT
          have HL := HL2
          clear HL2
          obtain ⟨l0, l1, l2, l3⟩ := HL.out
          go_upto_region 24 with (first | (go_at_call 32; refine (HPS.out _ l3 _ _ HPI.out).mono ?_; rintro e wb ⟨⟨tlo, thi, rfl, ht1, ht2⟩, hbb⟩; have HRx := Lib.hid (((hbb).block _ (Array.getElem?_eq_some_iff.1 HRB.out).1).trans HRB.out); clear HRB; have HRB := HRx; clear HRx; have HLx := Lib.hid (LI_step HL.out hbb); clear HL hbb; have HL := HLx; clear HLx; (try clear l0 l1 l2 l3); obtain ⟨l0, l1, l2, l3⟩ := HL.out))
          have HRC := Lib.hid (heap_alloc_new wb (.cells #[.int .i64 tlo, .int .i64 thi] 41))
          have hb2 := alloc_below wb (.cells #[.int .i64 tlo, .int .i64 thi] 41)
          have HRx := Lib.hid (((hb2).block _ (Array.getElem?_eq_some_iff.1 HRB.out).1).trans HRB.out); clear HRB; have HRB := HRx; clear HRx
          have HL2 := Lib.hid (LI_step HL.out hb2)
          clear HL l0 l1 l2 l3 hb2
          have HL := HL2
          clear HL2
          obtain ⟨l0, l1, l2, l3⟩ := HL.out
          generalize World.alloc wb _ = V2 at *
          generalize wb.heap.size = xb at *
          have s0 := (cell_of_row _ _ 0 _ _ _ HRB.out).trans (show _ = some (Value.int .i64 S.lo) from rfl)
          have s1 := (cell_of_row _ _ 1 _ _ _ HRB.out).trans (show _ = some (Value.int .i64 S.hi) from rfl)
          have x0 := (cell_of_row _ _ 0 _ _ _ HRC.out).trans (show _ = some (Value.int .i64 tlo) from rfl)
          have x1 := (cell_of_row _ _ 1 _ _ _ HRC.out).trans (show _ = some (Value.int .i64 thi) from rfl)
          go_wp2_with (first | (go_at_call 13; refine (HKN.out _ l3).mono ?_; rintro e w6 ⟨rfl, hb6⟩; have HLx := Lib.hid (LI_step HL.out hb6); clear HL hb6; have HL := HLx; clear HLx; (try clear l0 l1 l2 l3); obtain ⟨l0, l1, l2, l3⟩ := HL.out))
          go_ret
          exact ⟨rfl, l3⟩
set_option maxRecDepth 100000 in
set_option maxHeartbeats 4000000 in
theorem Void_tt0 (a : Option Addr) (n c : Nat) (ba : Option Addr) (m bc : Nat) (ss : Nat → SV) (bs : Nat → BM) (ca : Option Addr) (k cc : Nat) (cs : Nat → Int) (most : Int) (fa : Option Addr) (fk fc : Nat) (f : Nat → Int) (some_ : Int) (w : World) (h : VoIn a n c ba m bc ss bs ca k cs fa fk f w) (hyes : VoYes n ss m bs k cs fk) (hA : allF n ss m bs ≠ []) (hf : fieldB n ss fk f = true) (hg : agreesB m bs f = true) (hmo : ¬ S0 n ss m bs k cs ≤ most) :
    Calls Tryd.prog 8 #[imageV a n c ba m bc, .slice ca k cc, .int .i64 most, .slice fa fk fc, .int .i64 some_] w fun e w' => e = .returned (.bool true) ∧ Below w.heap.size w w' := by
  have hC := hyes.2.1; have hst := hyes.2.2.2.2.1; have hk5 := hyes.2.2.2.1; have hk := h.su.lk; have hfk := h.lf; unfold maxLen at hk hfk; have g2 : checkF n ss m bs (setB n k cs) = 0 := (by rw [hst, checkF_true]; exact hC); have HKN := Lib.hid (fun (W : World) (hb : Below w.heap.size w W) => h.su.im.known hb); have HST := Lib.hid (fun (W : World) (hb : Below w.heap.size w W) => h.short hb); have HCH := Lib.hid (fun (W : World) (hb : Below w.heap.size w W) => h.check hb); have HFS := Lib.hid (fun (W : World) (hb : Below w.heap.size w W) => h.fields hC hb); have HSE := Lib.hid (fun (W : World) (hb : Below w.heap.size w W) => h.su.setC (cc := cc) hb); have HFD := Lib.hid (fun (W : World) (hb : Below w.heap.size w W) => h.fieldC (fc := fc) hb); have HAG0 := Lib.hid (fun (hf : fieldB n ss fk f = true) (W : World) (hb : Below w.heap.size w W) => h.agrees (fc := fc) hC hf hb); obtain ⟨g1, g3, g4, g5, g6, g7⟩ := hyes; rw [g1] at HST; rw [g3] at HCH; rw [g6] at HSE; generalize min (prodN ss n) 200001 = P at *; have g4' : ¬ 20000 < P := (by omega); have g5' : ¬ 50 < (k : Int) := (by omega); have g7' : ¬ 60 < (fk : Int) := (by omega); clear g1 g4 g5 g3 g6 g7
  have hn40 := (checkN_shape hC).n40
  have hkn := setB_len hst
  have HSU := Lib.hid (fun (W : World) (hb : Below w.heap.size w W) => h.su.sum1 (cc := cc) hb g2 hA)
  have HVO := Lib.hid (fun (W : World) (hb : Below w.heap.size w W) => h.su.void1 (cc := cc) (most := most) hb g2 hA)
  have HPT := Lib.hid (fun (bit : Nat → Bool) (W : World) (hb : Below w.heap.size w W) (oa : Option Addr) (oc : Nat) hO => h.part hC hst hk5 hA bit hb oa oc hO)
  obtain ⟨hS1, hS2⟩ := sum_bnd (checkN_shape hC) hA hst
  have HCI := Lib.hid h.su.set
  unfold S0 at hmo
  rw [hf] at HFD
  have HAG := Lib.hid (HAG0.out hf)
  rw [hg] at HAG
  clear HAG0
  obtain ⟨hfn, hbox⟩ := fieldB_iff.1 hf
  obtain ⟨v1, v2⟩ := own_sum (checkN_shape hC) hst hbox hg
  have hden := inBox_den (checkN_shape hC) hbox
  have HDN := Lib.hid hden
  have HSA := Lib.hid (fun q (hq : q < k) => setB_at hst hq)
  have HSB := Lib.hid (sumL_bound hst hden)
  have HSTP := Lib.hid (fun q => show sumN (fun i => f (cs i).toNat) (q + 1) = sumN (fun i => f (cs i).toNat) q + f (cs q).toNat from rfl)
  have H0 := Lib.hid (show sumN (fun i => f (cs i).toNat) 0 = 0 from rfl)
  have v3 : sumL cs k f = sumN (fun i => f (cs i).toNat) k := rfl
  rw [v3] at v1 v2
  clear v3
  generalize hsm : sumN (fun i => f (cs i).toNat) = SM at HSB HSTP H0 v1 v2
  have HFL := Lib.hid h.field
  have hfm := hfn.symm
  subst hfm
  clear hsm hden
  rw [decide_eq_false hmo] at HVO
  generalize bnd (fun f => sumL cs k (fOf f)) (allF n ss m bs) = S at *
  clear h hA g2
  have hmm : (decide (S.hi ≤ most) != decide (S.hi ≤ most)) = false := by simp
  have hs1 : ¬ S.hi < S.lo := by omega
  have hs2 : ¬ S.lo < 0 := by omega
  obtain ⟨i0, hi0, hz00, hz01, hz02⟩ := info_parts info_int
  go_enter Tryd.func8, Tryd.ntmps8; go_upto_region 1 with (fail); have HL := Lib.hid (show LI a n c ba m bc w (w.alloc (.cells #[.slice a n c, .slice ba m bc] 25)) from LI_start); generalize World.alloc w _ = V at *; obtain ⟨l0, l1, l2, l3⟩ := HL.out
  go_upto_region 5 with (first | (go_at_call 9; refine (HST.out _ l3).mono ?_; rintro e w2 ⟨rfl, hb2⟩; have HLx := Lib.hid (LI_step HL.out hb2); clear HL hb2; have HL := HLx; clear HLx; (try clear l0 l1 l2 l3); obtain ⟨l0, l1, l2, l3⟩ := HL.out) | (go_at_call 10; refine (HCH.out _ l3).mono ?_; rintro e w3 ⟨rfl, hb3⟩; have HLx := Lib.hid (LI_step HL.out hb3); clear HL hb3; have HL := HLx; clear HLx; (try clear l0 l1 l2 l3); obtain ⟨l0, l1, l2, l3⟩ := HL.out) | (go_at_call 11; refine (HFS.out _ l3).mono ?_; rintro e w4 ⟨rfl, hb4⟩; have HLx := Lib.hid (LI_step HL.out hb4); clear HL hb4; have HL := HLx; clear HLx; (try clear l0 l1 l2 l3); obtain ⟨l0, l1, l2, l3⟩ := HL.out) | (go_at_call 34; refine (HSE.out _ l3).mono ?_; rintro e w5 ⟨rfl, hb5⟩; have HLx := Lib.hid (LI_step HL.out hb5); clear HL hb5; have HL := HLx; clear HLx; (try clear l0 l1 l2 l3); obtain ⟨l0, l1, l2, l3⟩ := HL.out) | (go_at_call 13; refine (HKN.out _ l3).mono ?_; rintro e w6 ⟨rfl, hb6⟩; have HLx := Lib.hid (LI_step HL.out hb6); clear HL hb6; have HL := HLx; clear HLx; (try clear l0 l1 l2 l3); obtain ⟨l0, l1, l2, l3⟩ := HL.out) | (go_at_call 33; refine (HVO.out _ l3).mono ?_; rintro e w7 ⟨rfl, hb7⟩; have HLx := Lib.hid (LI_step HL.out hb7); clear HL hb7; have HL := HLx; clear HLx; (try clear l0 l1 l2 l3); obtain ⟨l0, l1, l2, l3⟩ := HL.out) | (go_at_call 32; refine (HSU.out _ l3).mono ?_; rintro e w8 ⟨rfl, hb8⟩; have HLx := Lib.hid (LI_step HL.out hb8); clear HL hb8; have HL := HLx; clear HLx; (try clear l0 l1 l2 l3); obtain ⟨l0, l1, l2, l3⟩ := HL.out))
  rename World => W1
  have HRB := Lib.hid (heap_alloc_new W1 (.cells #[.int .i64 S.lo, .int .i64 S.hi] 41))
  have HL1 := Lib.hid (LI_step HL.out (alloc_below W1 (.cells #[.int .i64 S.lo, .int .i64 S.hi] 41)))
  clear HL l0 l1 l2 l3 HST HCH HFS HSE HVO HSU
  have HL := HL1
  clear HL1
  obtain ⟨l0, l1, l2, l3⟩ := HL.out
  generalize World.alloc W1 _ = V1 at *
  generalize W1.heap.size = sb at *
  have s0 := (cell_of_row _ _ 0 _ _ _ HRB.out).trans (show _ = some (Value.int .i64 S.lo) from rfl)
  have s1 := (cell_of_row _ _ 1 _ _ _ HRB.out).trans (show _ = some (Value.int .i64 S.hi) from rfl)
  go_upto_region 9 with (fail)
  clear s0 s1
  go_upto_region 12 with (first | (go_at_call 18; refine (HFD.out _ l3).mono ?_; rintro e w9 ⟨rfl, hb9⟩; have HRx := Lib.hid (((hb9).block _ (Array.getElem?_eq_some_iff.1 HRB.out).1).trans HRB.out); clear HRB; have HRB := HRx; clear HRx; have HLx := Lib.hid (LI_step HL.out hb9); clear HL hb9; have HL := HLx; clear HLx; (try clear l0 l1 l2 l3); obtain ⟨l0, l1, l2, l3⟩ := HL.out) | (go_at_call 19; refine (HAG.out _ l3).mono ?_; rintro e wa ⟨rfl, hba⟩; have HRx := Lib.hid (((hba).block _ (Array.getElem?_eq_some_iff.1 HRB.out).1).trans HRB.out); clear HRB; have HRB := HRx; clear HRx; have HLx := Lib.hid (LI_step HL.out hba); clear HL hba; have HL := HLx; clear HLx; (try clear l0 l1 l2 l3); obtain ⟨l0, l1, l2, l3⟩ := HL.out))
  rename World => W9
  go_loopw [15, 16] (fun s t wr => ∃ q : Nat, q ≤ k ∧ t = .int .i64 (q : Int) ∧ s = .int .i64 (SM q) ∧ wr = W9) (fun _ t _ => k - (intOf t).toNat)
  case atStart => exact ⟨0, Nat.zero_le _, rfl, by rw [H0.out], rfl⟩
  case round =>
    obtain ⟨q, hq, rfl, rfl, rfl⟩ := hrel
    by_cases hlt : q < k
    · have hlt' : (q : Int) < (k : Int) := by omega
      obtain ⟨cb, co, rfl, hcb, c0⟩ := (HCI.out.below l3).get hlt
      obtain ⟨g1, g2⟩ := HSA.out q hlt
      have g3 : (cs q).toNat < n := by omega
      obtain ⟨fb, fo, rfl, hfb, d0⟩ := (HFL.out.below l3).get g3
      obtain ⟨r3, r4⟩ := HDN.out _ g3
      obtain ⟨r5, r6⟩ := HSB.out q hq
      have HSI := Lib.hid (HSTP.out q)
      have hcz : cb < wr.heap.size := by have := l3.size; omega
      have hfz : fb < wr.heap.size := by have := l3.size; omega
      generalize f (cs q).toNat = FX at *
      generalize cs q = C at *
      have r7 : SM q ≤ 60000 := by omega
      generalize hSq : SM q = SQ at *
      have HSS := Lib.hid hSq
      clear hSq r6
      go_wp2
      go_roundw
      case rel => exact ⟨q + 1, by omega, by go_num, by rw [HSI.out], by first | trivial | rfl⟩
      case measure => simp [intOf]; omega
    · obtain rfl : k = q := by omega
      have hlt' : ¬ (k : Int) < (k : Int) := by omega
      have s0 := (cell_of_row _ _ 0 _ _ _ HRB.out).trans (show _ = some (Value.int .i64 S.lo) from rfl)
      have s1 := (cell_of_row _ _ 1 _ _ _ HRB.out).trans (show _ = some (Value.int .i64 S.hi) from rfl)
      have u1 : ¬ SM k < S.lo := by omega
      have u2 : ¬ S.hi < SM k := by omega
      skip
      go_upto_region 19 with (fail)
      clear s0 s1
      rename World => W2
      go_loopw [17, 18] (fun s17 t wr => ∃ (i q : Nat) (oa : Option Addr) (oc : Nat), i ≤ k ∧ q ≤ i ∧ t = .int .i64 (i : Int) ∧ s17 = .slice oa q oc ∧ Hid (q = (partL (voBit some_) cs i).length ∧ Below W2.heap.size W2 wr ∧ wr.ownsRow W2.heap.size 3 1 (.slice oa q oc) q (lC (partL (voBit some_) cs i)))) (fun _ t _ => k - (intOf t).toNat)
      case atStart => exact ⟨0, 0, none, 0, Nat.zero_le _, Nat.zero_le _, rfl, rfl, Lib.hid ⟨rfl, Below.refl _ _, World.ownsRow_nil _ _ _ _⟩⟩
      case round =>
        obtain ⟨i, q, oa, oc, hil, hqi, rfl, rfl, HX⟩ := hrel
        have hzr := HX.out.2.1.size
        by_cases hlt : i < k
        · have hlt' : (i : Int) < (k : Int) := by omega
          obtain ⟨cb, co, rfl, hcb, c0⟩ := ((HCI.out.below l3).below (HX.out.2.1.mono l3.size)).get hlt
          have hcz : cb < wr.heap.size := by have := l3.size; omega
          have HPS := Lib.hid (partL_succ (bit := voBit some_) (cs := cs) (i := i))
          cases hbt : (bits BinOp.and IntKind.i64 (some_ / 2 ^ i) 1 == 1)
          · have HL2 := Lib.hid (show partL (voBit some_) cs (i + 1) = partL (voBit some_) cs i from by rw [HPS.out, if_neg (by unfold voBit; rw [hbt]; decide)])
            go_wp2
            go_roundw
            case rel => exact ⟨i + 1, q, oa, oc, by omega, by omega, by go_num, rfl, by rw [HL2.out]; exact HX⟩
            case measure => simp [intOf]; omega
          · have HL2 := Lib.hid (show partL (voBit some_) cs (i + 1) = partL (voBit some_) cs i ++ [cs i] from by rw [HPS.out, if_pos (by unfold voBit; exact hbt)])
            have hb63 : q + 1 ≤ maxLen := by unfold maxLen; omega
            have hb47 : (q + 1) * 8 ≤ 140737488355328 := by omega
            go_wp2_with (at_builtin; refine wpList_append_own _ rfl _ _ 26 rfl W2.heap.size 3 i0 (.int .i64 0) 1 8 Tryd.underlying26 hi0 hz00 hz01 hz02 rfl (by decide) _ q (lC (partL (voBit some_) cs i)) rfl (HX.out.2.2.alloc _) ⟨wr.heap.size, 0, none⟩ 1 1 [.int .i64 (cs i)] rfl rfl cells_new int_one (by unfold maxLen; omega) hb47 (by simp; omega) ?_; intro v' w3 hown hgrow hnil; obtain ⟨a3, c3, rfl⟩ := own_len hown)
            go_roundw
            case rel => exact ⟨i + 1, q + 1, a3, c3, by omega, by omega, by go_num, rfl, Lib.hid ⟨by rw [HL2.out, List.length_append, ← HX.out.1]; rfl, (HX.out.2.1.alloc hzr _).grown hgrow (by simp; omega) (fun b hb => own_block_le HX.out.2.2 hb), by rw [HL2.out, lC_snoc]; exact hown⟩⟩
            case measure => simp [intOf]; omega
        · obtain rfl : i = k := by omega
          have hlt' : ¬ (i : Int) < (i : Int) := by omega
          have hq := HX.out.1
          have HPI := Lib.hid (show Ints wr.heap.size wr oa q (fOf (partL (voBit some_) cs i)) from by
            have h8 := HX.out.2.2
            rw [hq] at h8 ⊢
            exact own_ints h8)
          have h9 := HPT.out (voBit some_)
          simp only [← hq] at h9
          have HPS := Lib.hid h9
          clear h9 hq
          have hb3 := HX.out.2.1
          have HRx := Lib.hid (((hb3).block _ (Array.getElem?_eq_some_iff.1 HRB.out).1).trans HRB.out); clear HRB; have HRB := HRx; clear HRx
          have HL2 := Lib.hid (LI_step HL.out hb3)
          clear HL l0 l1 l2 l3 hb3 HX HPT
          have HL := HL2
          clear HL2
          obtain ⟨l0, l1, l2, l3⟩ := HL.out
          go_upto_region 24 with (first | (go_at_call 32; refine (HPS.out _ l3 _ _ HPI.out).mono ?_; rintro e wb ⟨⟨tlo, thi, rfl, ht1, ht2⟩, hbb⟩; have HRx := Lib.hid (((hbb).block _ (Array.getElem?_eq_some_iff.1 HRB.out).1).trans HRB.out); clear HRB; have HRB := HRx; clear HRx; have HLx := Lib.hid (LI_step HL.out hbb); clear HL hbb; have HL := HLx; clear HLx; (try clear l0 l1 l2 l3); obtain ⟨l0, l1, l2, l3⟩ := HL.out))
          have HRC := Lib.hid (heap_alloc_new wb (.cells #[.int .i64 tlo, .int .i64 thi] 41))
          have hb2 := alloc_below wb (.cells #[.int .i64 tlo, .int .i64 thi] 41)
          have HRx := Lib.hid (((hb2).block _ (Array.getElem?_eq_some_iff.1 HRB.out).1).trans HRB.out); clear HRB; have HRB := HRx; clear HRx
          have HL2 := Lib.hid (LI_step HL.out hb2)
          clear HL l0 l1 l2 l3 hb2
          have HL := HL2
          clear HL2
          obtain ⟨l0, l1, l2, l3⟩ := HL.out
          generalize World.alloc wb _ = V2 at *
          generalize wb.heap.size = xb at *
          have s0 := (cell_of_row _ _ 0 _ _ _ HRB.out).trans (show _ = some (Value.int .i64 S.lo) from rfl)
          have s1 := (cell_of_row _ _ 1 _ _ _ HRB.out).trans (show _ = some (Value.int .i64 S.hi) from rfl)
          have x0 := (cell_of_row _ _ 0 _ _ _ HRC.out).trans (show _ = some (Value.int .i64 tlo) from rfl)
          have x1 := (cell_of_row _ _ 1 _ _ _ HRC.out).trans (show _ = some (Value.int .i64 thi) from rfl)
          go_wp2_with (first | (go_at_call 13; refine (HKN.out _ l3).mono ?_; rintro e w6 ⟨rfl, hb6⟩; have HLx := Lib.hid (LI_step HL.out hb6); clear HL hb6; have HL := HLx; clear HLx; (try clear l0 l1 l2 l3); obtain ⟨l0, l1, l2, l3⟩ := HL.out))
          go_ret
          exact ⟨rfl, l3⟩
theorem ImageVoid_any (a : Option Addr) (n c : Nat) (ba : Option Addr) (m bc : Nat) (ss : Nat → SV) (bs : Nat → BM) (ca : Option Addr) (k cc : Nat) (cs : Nat → Int) (most : Int) (fa : Option Addr) (fk fc : Nat) (f : Nat → Int) (some_ : Int) (w : World) (B : Nat) (hBw : B ≤ w.heap.size) (hS : Spans B w a n ss) (hM : Beams B w ba m bs) (hF : Ints w.heap.size w ca k cs) (hk : k ≤ maxLen) (hG : Ints w.heap.size w fa fk f) (hfk : fk ≤ maxLen) (ht : Lib.TabIs Tryd.prog w "internal/strconv.uint64pow10" .u64 Lib.pow10Tab) :
    Calls Tryd.prog 8 #[imageV a n c ba m bc, .slice ca k cc, .int .i64 most, .slice fa fk fc, .int .i64 some_] w fun e w' => e = .returned (.bool true) ∧ Below w.heap.size w w' := by
  have h : VoIn a n c ba m bc ss bs ca k cs fa fk f w := ⟨⟨⟨Nat.le_refl _, hS.up hBw, hM.up hBw, Lib.tabBelow_of_tabIs ht⟩, hF, hk⟩, hG, hfk⟩
  by_cases hy : VoYes n ss m bs k cs fk
  · by_cases hA : allF n ss m bs = []
    · exact Void_none a n c ba m bc ss bs ca k cc cs most fa fk fc f some_ w h hy hA
    · cases hf : fieldB n ss fk f
      · exact Void_f a n c ba m bc ss bs ca k cc cs most fa fk fc f some_ w h hy hA hf
      · cases hg : agreesB m bs f
        · exact Void_tf a n c ba m bc ss bs ca k cc cs most fa fk fc f some_ w h hy hA hf hg
        · by_cases hmo : S0 n ss m bs k cs ≤ most
          · exact Void_tt1 a n c ba m bc ss bs ca k cc cs most fa fk fc f some_ w h hy hA hf hg hmo
          · exact Void_tt0 a n c ba m bc ss bs ca k cc cs most fa fk fc f some_ w h hy hA hf hg hmo
  · exact Void_no a n c ba m bc ss bs ca k cc cs most fa fk fc f some_ w h hy
end Go.Proofs.YtollfpnfnciekaaDoor
