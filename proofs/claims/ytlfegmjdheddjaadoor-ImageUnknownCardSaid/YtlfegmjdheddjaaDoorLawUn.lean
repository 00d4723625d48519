/- The walk of the statement ImageUnknown. -/
import Derived.Test.YtlfegmjdheddjaaDoorGrA
import Derived.Test.YtlfegmjdheddjaaDoorRefFd
import Derived.Test.YtlfegmjdheddjaaDoorImFreeW
import Derived.Test.YtlfegmjdheddjaaDoorGzA
import Derived.Test.YtlfegmjdheddjaaDoorGcA
namespace Go.Proofs.YtlfegmjdheddjaaDoor
open Go.RowKit
set_option linter.unusedVariables false
set_option linter.unusedSimpArgs false
/-- what the calls need -/
structure UnIn (a : Option Addr) (n c : Nat) (ba : Option Addr) (m bc : Nat) (ss : Nat → SV) (bs : Nat → BM) (fa : Option Addr) (fk : Nat) (f : Nat → Int) (w : World) : Prop where
  im : ImIn w.heap.size a n c ba m bc ss bs w
  field : Ints w.heap.size w fa fk f
  lf : fk ≤ maxLen
/-- the guards that are held -/
def UnYes (n : Nat) (ss : Nat → SV) (m : Nat) (bs : Nat → BM) (fk : Nat) (ci : Int) : Prop := shortB n m bs = true ∧ checkN n ss m bs = 0 ∧ min (prodN ss n) 200001 ≤ 20000 ∧ fk ≤ 60 ∧ 0 ≤ ci ∧ ci < (n : Int)
section
variable {a : Option Addr} {n c : Nat} {ba : Option Addr} {m bc : Nat} {ss : Nat → SV} {bs : Nat → BM} {fa : Option Addr} {fk fc : Nat} {f : Nat → Int} {w W : World}
theorem UnIn.short (h : UnIn a n c ba m bc ss bs fa fk f w) (hb : Below w.heap.size w W) : Calls Tryd.prog 17 #[imageV a n c ba m bc] W fun e w' => e = .returned (.bool (shortB n m bs)) ∧ Below W.heap.size W w' := short_any a n c ba m bc bs W _ (h.im.B' hb) h.im.spans.1 (h.im.M hb)
theorem UnIn.check (h : UnIn a n c ba m bc ss bs fa fk f w) (hb : Below w.heap.size w W) : Calls Tryd.prog 13 #[imageV a n c ba m bc] W fun e w' => e = .returned (.int .i64 (checkN n ss m bs)) ∧ Below W.heap.size W w' := r8Check_any a n c ba m bc ss bs W _ (h.im.B' hb) (h.im.S hb) (h.im.M hb)
theorem UnIn.fields (h : UnIn a n c ba m bc ss bs fa fk f w) (hC : checkN n ss m bs = 0) (hb : Below w.heap.size w W) : Calls Tryd.prog 18 #[imageV a n c ba m bc] W fun e w' => e = .returned (.int .i64 (min (prodN ss n) 200001)) ∧ Below W.heap.size W w' := r8Fields_any a n c ba m bc ss W _ (h.im.B' hb) (h.im.S hb) (checkN_shape hC).span
theorem UnIn.fieldC (h : UnIn a n c ba m bc ss bs fa fk f w) (hb : Below w.heap.size w W) : Calls Tryd.prog 22 #[imageV a n c ba m bc, .slice fa fk fc] W fun e w' => e = .returned (.bool (fieldB n ss fk f)) ∧ Below W.heap.size W w' := r8Field_any a n c ba m bc ss fa fk fc f W _ (h.im.B' hb) (h.im.S hb) ((h.field.below hb).up hb.size) h.lf
theorem UnIn.agrees (h : UnIn a n c ba m bc ss bs fa fk f w) (hC : checkN n ss m bs = 0) (hf : fieldB n ss fk f = true) (hb : Below w.heap.size w W) : Calls Tryd.prog 23 #[imageV a n c ba m bc, .slice fa fk fc] W fun e w' => e = .returned (.bool (agreesB m bs f)) ∧ Below W.heap.size W w' := by
  obtain ⟨rfl, h1⟩ := fieldB_iff.1 hf
  exact r8Agrees_any a fk c ba m bc ss bs fa fc f W _ (h.im.B' hb) (h.im.M hb) (checkN_shape hC) ((h.field.below hb).up hb.size) (inBox_den (checkN_shape hC) h1)
theorem UnIn.free (h : UnIn a n c ba m bc ss bs fa fk f w) (hC : checkN n ss m bs = 0) (hA : allF n ss m bs ≠ []) (hb : Below w.heap.size w W) : Calls Tryd.prog 19 #[imageV a n c ba m bc] W fun e w' => (∃ ga gc, e = .returned (.tuple #[.slice ga (freeL (freeC ss m bs (allF n ss m bs)) n).length gc, .int .i64 0]) ∧ Ints w'.heap.size w' ga (freeL (freeC ss m bs (allF n ss m bs)) n).length (fOf (frI (freeC ss m bs (allF n ss m bs)) n))) ∧ Below W.heap.size W w' :=
  (Free_any a n c ba m bc ss bs W _ (h.im.B' hb) (h.im.S hb) (h.im.M hb)).mono fun e w' h' => by
    have h2 := h'.2
    rw [if_pos hC, if_neg hA] at h2
    exact ⟨h2, h'.1⟩
theorem UnIn.free0 (h : UnIn a n c ba m bc ss bs fa fk f w) (hC : checkN n ss m bs = 0) (hA : allF n ss m bs = []) (hb : Below w.heap.size w W) : Calls Tryd.prog 19 #[imageV a n c ba m bc] W fun e w' => e = .returned (.tuple #[.slice none 0 0, .int .i64 5]) ∧ Below W.heap.size W w' :=
  (Free_any a n c ba m bc ss bs W _ (h.im.B' hb) (h.im.S hb) (h.im.M hb)).mono fun e w' h' => by
    have h2 := h'.2
    rw [if_pos hC, if_pos hA] at h2
    exact ⟨h2, h'.1⟩
theorem UnIn.bounds (h : UnIn a n c ba m bc ss bs fa fk f w) (hC : checkN n ss m bs = 0) (hA : allF n ss m bs ≠ []) (hb : Below w.heap.size w W) : Calls Tryd.prog 20 #[imageV a n c ba m bc] W fun e w' => (∃ ob, e = .returned (.tuple #[.slice (some ⟨ob, 0, none⟩) n n, .int .i64 0]) ∧ Spans w'.heap.size w' (some ⟨ob, 0, none⟩) n (fun i => bnd (fun f => fOf f i) (allF n ss m bs))) ∧ Below W.heap.size W w' :=
  (Bounds_any a n c ba m bc ss bs W _ (h.im.B' hb) (h.im.S hb) (h.im.M hb)).mono fun e w' h' => by
    have h2 := h'.2
    rw [if_pos hC, if_neg hA] at h2
    obtain ⟨ob, he, _, hs⟩ := h2
    exact ⟨⟨ob, he, h.im.spans.1, .inr ⟨ob, 0, rfl, hs.lt, fun i hi => by rw [Nat.zero_add]; exact hs.cell hi⟩⟩, h'.1⟩
theorem UnIn.bounds0 (h : UnIn a n c ba m bc ss bs fa fk f w) (hC : checkN n ss m bs = 0) (hA : allF n ss m bs = []) (hb : Below w.heap.size w W) : Calls Tryd.prog 20 #[imageV a n c ba m bc] W fun e w' => e = .returned (.tuple #[.slice none 0 0, .int .i64 5]) ∧ Below W.heap.size W w' :=
  (Bounds_any a n c ba m bc ss bs W _ (h.im.B' hb) (h.im.S hb) (h.im.M hb)).mono fun e w' h' => by
    have h2 := h'.2
    rw [if_pos hC, if_pos hA] at h2
    exact ⟨h2, h'.1⟩
theorem UnIn.repl (h : UnIn a n c ba m bc ss bs fa fk f w) (hC : checkN n ss m bs = 0) {ci : Nat} (hci : ci < n) {de : Int} (hf : fieldB n ss fk f = true) (hb : Below w.heap.size w W) : Calls Tryd.prog 24 #[.slice fa fk fc, .int .i64 (ci : Int), .int .i64 de] W fun e w' => (∃ ga gc, e = .returned (.slice ga fk gc) ∧ Ints w'.heap.size w' ga fk (repF f ci de)) ∧ Below W.heap.size W w' := by
  obtain ⟨rfl, h1⟩ := fieldB_iff.1 hf
  have hn := (checkN_shape hC).n40
  exact r8Replaced_any fa fk fc f ci de hci (by omega) W ((h.field.below hb).up hb.size)
theorem UnIn.agrees2 (h : UnIn a n c ba m bc ss bs fa fk f w) (hC : checkN n ss m bs = 0) {ci : Nat} (hci : ci < n) {de : Int} (hf : fieldB n ss fk f = true) (h1 : (ss ci).lo ≤ de) (h2 : de ≤ (ss ci).hi) (hb : Below w.heap.size w W) (ga : Option Addr) (gc : Nat) (hI : Ints W.heap.size W ga fk (repF f ci de)) : Calls Tryd.prog 23 #[imageV a n c ba m bc, .slice ga fk gc] W fun e w' => e = .returned (.bool (agreesB m bs (repF f ci de))) ∧ Below W.heap.size W w' := by
  obtain ⟨rfl, h3⟩ := fieldB_iff.1 hf
  refine r8Agrees_any a fk c ba m bc ss bs ga gc (repF f ci de) W _ (h.im.B' hb) (h.im.M hb) (checkN_shape hC) hI (inBox_den (checkN_shape hC) (fun i hi => ?_))
  unfold repF
  by_cases e : i = ci
  · subst e; rw [if_pos rfl]; exact ⟨h1, h2⟩
  · rw [if_neg e]; exact h3 i hi
theorem hasP_succ {i k : Nat} {ci : Int} : (hasB bs i ci || hasC (bs i) (k + 1) ci) = ((hasB bs i ci || hasC (bs i) k ci) || (bs i).cs k == ci) := by rw [hasC_succ, Bool.or_assoc]
end
set_option maxRecDepth 100000 in
set_option maxHeartbeats 4000000 in
theorem Un_no (a : Option Addr) (n c : Nat) (ba : Option Addr) (m bc : Nat) (ss : Nat → SV) (bs : Nat → BM) (fa : Option Addr) (fk fc : Nat) (f : Nat → Int) (ci de : Int) (w : World) (h : UnIn a n c ba m bc ss bs fa fk f w) (hno : ¬ UnYes n ss m bs fk ci) :
    Calls Tryd.prog 4 #[imageV a n c ba m bc, .slice fa fk fc, .int .i64 ci, .int .i64 de] w fun e w' => e = .returned (.bool true) ∧ Below w.heap.size w w' := by
  have HKN := Lib.hid (fun (W : World) (hb : Below w.heap.size w W) => h.im.known hb)
  have HST := Lib.hid (fun (W : World) (hb : Below w.heap.size w W) => h.short hb)
  have HCH := Lib.hid (fun (W : World) (hb : Below w.heap.size w W) => h.check hb)
  have HFS0 := Lib.hid (fun (hC : checkN n ss m bs = 0) (W : World) (hb : Below w.heap.size w W) => h.fields hC hb)
  have HNN := Lib.hid hno
  have hfk := h.lf
  have hnn := h.im.spans.1
  unfold maxLen at hfk hnn
  unfold UnYes at HNN
  clear hno h
  cases h1 : shortB n m bs
  · rw [h1] at HST
    clear HNN
    go_enter Tryd.func4, Tryd.ntmps4; go_upto_region 1 with (fail); have HL := Lib.hid (show LI a n c ba m bc w (w.alloc (.cells #[.slice a n c, .slice ba m bc] 25)) from LI_start); generalize World.alloc w _ = V at *; obtain ⟨l0, l1, l2, l3⟩ := HL.out
    go_wp2_with (first | (go_at_call 17; refine (HST.out _ l3).mono ?_; rintro e w2 ⟨rfl, hb2⟩; have HLx := Lib.hid (LI_step HL.out hb2); clear HL hb2; have HL := HLx; clear HLx; (try clear l0 l1 l2 l3); obtain ⟨l0, l1, l2, l3⟩ := HL.out) | (go_at_call 13; refine (HCH.out _ l3).mono ?_; rintro e w3 ⟨rfl, hb3⟩; have HLx := Lib.hid (LI_step HL.out hb3); clear HL hb3; have HL := HLx; clear HLx; (try clear l0 l1 l2 l3); obtain ⟨l0, l1, l2, l3⟩ := HL.out) | (go_at_call 18; refine (HFS.out _ l3).mono ?_; rintro e w4 ⟨rfl, hb4⟩; have HLx := Lib.hid (LI_step HL.out hb4); clear HL hb4; have HL := HLx; clear HLx; (try clear l0 l1 l2 l3); obtain ⟨l0, l1, l2, l3⟩ := HL.out) | (go_at_call 11; refine (HKN.out _ l3).mono ?_; rintro e w5 ⟨rfl, hb5⟩; have HLx := Lib.hid (LI_step HL.out hb5); clear HL hb5; have HL := HLx; clear HLx; (try clear l0 l1 l2 l3); obtain ⟨l0, l1, l2, l3⟩ := HL.out))
    go_ret
    exact ⟨rfl, l3⟩
  rw [h1] at HST
  by_cases hC : checkN n ss m bs = 0
  · have HFS := Lib.hid (HFS0.out hC)
    rw [hC] at HCH
    by_cases h3 : min (prodN ss n) 200001 ≤ 20000
    · by_cases h4 : fk ≤ 60
      · by_cases h5 : 0 ≤ ci
        · have h6 : ¬ ci < (n : Int) := fun e => HNN.out ⟨h1, hC, h3, h4, h5, e⟩
          generalize min (prodN ss n) 200001 = P at *
          have h3' : ¬ 20000 < P := by omega
          have h4' : ¬ 60 < (fk : Int) := by omega
          have h5' : ¬ ci < 0 := by omega
          have h6' : (n : Int) ≤ ci := by omega
          clear HNN hC h3 h4 h5 h6 HFS0
          go_enter Tryd.func4, Tryd.ntmps4; go_upto_region 1 with (fail); have HL := Lib.hid (show LI a n c ba m bc w (w.alloc (.cells #[.slice a n c, .slice ba m bc] 25)) from LI_start); generalize World.alloc w _ = V at *; obtain ⟨l0, l1, l2, l3⟩ := HL.out
          go_wp2_with (first | (go_at_call 17; refine (HST.out _ l3).mono ?_; rintro e w2 ⟨rfl, hb2⟩; have HLx := Lib.hid (LI_step HL.out hb2); clear HL hb2; have HL := HLx; clear HLx; (try clear l0 l1 l2 l3); obtain ⟨l0, l1, l2, l3⟩ := HL.out) | (go_at_call 13; refine (HCH.out _ l3).mono ?_; rintro e w3 ⟨rfl, hb3⟩; have HLx := Lib.hid (LI_step HL.out hb3); clear HL hb3; have HL := HLx; clear HLx; (try clear l0 l1 l2 l3); obtain ⟨l0, l1, l2, l3⟩ := HL.out) | (go_at_call 18; refine (HFS.out _ l3).mono ?_; rintro e w4 ⟨rfl, hb4⟩; have HLx := Lib.hid (LI_step HL.out hb4); clear HL hb4; have HL := HLx; clear HLx; (try clear l0 l1 l2 l3); obtain ⟨l0, l1, l2, l3⟩ := HL.out) | (go_at_call 11; refine (HKN.out _ l3).mono ?_; rintro e w5 ⟨rfl, hb5⟩; have HLx := Lib.hid (LI_step HL.out hb5); clear HL hb5; have HL := HLx; clear HLx; (try clear l0 l1 l2 l3); obtain ⟨l0, l1, l2, l3⟩ := HL.out))
          go_ret
          exact ⟨rfl, l3⟩
        · generalize min (prodN ss n) 200001 = P at *
          have h3' : ¬ 20000 < P := by omega
          have h4' : ¬ 60 < (fk : Int) := by omega
          have h5' : ci < 0 := by omega
          clear HNN hC h3 h4 h5 HFS0
          go_enter Tryd.func4, Tryd.ntmps4; go_upto_region 1 with (fail); have HL := Lib.hid (show LI a n c ba m bc w (w.alloc (.cells #[.slice a n c, .slice ba m bc] 25)) from LI_start); generalize World.alloc w _ = V at *; obtain ⟨l0, l1, l2, l3⟩ := HL.out
          go_wp2_with (first | (go_at_call 17; refine (HST.out _ l3).mono ?_; rintro e w2 ⟨rfl, hb2⟩; have HLx := Lib.hid (LI_step HL.out hb2); clear HL hb2; have HL := HLx; clear HLx; (try clear l0 l1 l2 l3); obtain ⟨l0, l1, l2, l3⟩ := HL.out) | (go_at_call 13; refine (HCH.out _ l3).mono ?_; rintro e w3 ⟨rfl, hb3⟩; have HLx := Lib.hid (LI_step HL.out hb3); clear HL hb3; have HL := HLx; clear HLx; (try clear l0 l1 l2 l3); obtain ⟨l0, l1, l2, l3⟩ := HL.out) | (go_at_call 18; refine (HFS.out _ l3).mono ?_; rintro e w4 ⟨rfl, hb4⟩; have HLx := Lib.hid (LI_step HL.out hb4); clear HL hb4; have HL := HLx; clear HLx; (try clear l0 l1 l2 l3); obtain ⟨l0, l1, l2, l3⟩ := HL.out) | (go_at_call 11; refine (HKN.out _ l3).mono ?_; rintro e w5 ⟨rfl, hb5⟩; have HLx := Lib.hid (LI_step HL.out hb5); clear HL hb5; have HL := HLx; clear HLx; (try clear l0 l1 l2 l3); obtain ⟨l0, l1, l2, l3⟩ := HL.out))
          go_ret
          exact ⟨rfl, l3⟩
      · generalize min (prodN ss n) 200001 = P at *
        have h3' : ¬ 20000 < P := by omega
        have h4' : 60 < (fk : Int) := by omega
        clear HNN hC h3 h4 HFS0
        go_enter Tryd.func4, Tryd.ntmps4; go_upto_region 1 with (fail); have HL := Lib.hid (show LI a n c ba m bc w (w.alloc (.cells #[.slice a n c, .slice ba m bc] 25)) from LI_start); generalize World.alloc w _ = V at *; obtain ⟨l0, l1, l2, l3⟩ := HL.out
        go_wp2_with (first | (go_at_call 17; refine (HST.out _ l3).mono ?_; rintro e w2 ⟨rfl, hb2⟩; have HLx := Lib.hid (LI_step HL.out hb2); clear HL hb2; have HL := HLx; clear HLx; (try clear l0 l1 l2 l3); obtain ⟨l0, l1, l2, l3⟩ := HL.out) | (go_at_call 13; refine (HCH.out _ l3).mono ?_; rintro e w3 ⟨rfl, hb3⟩; have HLx := Lib.hid (LI_step HL.out hb3); clear HL hb3; have HL := HLx; clear HLx; (try clear l0 l1 l2 l3); obtain ⟨l0, l1, l2, l3⟩ := HL.out) | (go_at_call 18; refine (HFS.out _ l3).mono ?_; rintro e w4 ⟨rfl, hb4⟩; have HLx := Lib.hid (LI_step HL.out hb4); clear HL hb4; have HL := HLx; clear HLx; (try clear l0 l1 l2 l3); obtain ⟨l0, l1, l2, l3⟩ := HL.out) | (go_at_call 11; refine (HKN.out _ l3).mono ?_; rintro e w5 ⟨rfl, hb5⟩; have HLx := Lib.hid (LI_step HL.out hb5); clear HL hb5; have HL := HLx; clear HLx; (try clear l0 l1 l2 l3); obtain ⟨l0, l1, l2, l3⟩ := HL.out))
        go_ret
        exact ⟨rfl, l3⟩
    · generalize min (prodN ss n) 200001 = P at *
      have h3' : 20000 < P := by omega
      clear HNN hC h3 HFS0
      go_enter Tryd.func4, Tryd.ntmps4; go_upto_region 1 with (fail); have HL := Lib.hid (show LI a n c ba m bc w (w.alloc (.cells #[.slice a n c, .slice ba m bc] 25)) from LI_start); generalize World.alloc w _ = V at *; obtain ⟨l0, l1, l2, l3⟩ := HL.out
      go_wp2_with (first | (go_at_call 17; refine (HST.out _ l3).mono ?_; rintro e w2 ⟨rfl, hb2⟩; have HLx := Lib.hid (LI_step HL.out hb2); clear HL hb2; have HL := HLx; clear HLx; (try clear l0 l1 l2 l3); obtain ⟨l0, l1, l2, l3⟩ := HL.out) | (go_at_call 13; refine (HCH.out _ l3).mono ?_; rintro e w3 ⟨rfl, hb3⟩; have HLx := Lib.hid (LI_step HL.out hb3); clear HL hb3; have HL := HLx; clear HLx; (try clear l0 l1 l2 l3); obtain ⟨l0, l1, l2, l3⟩ := HL.out) | (go_at_call 18; refine (HFS.out _ l3).mono ?_; rintro e w4 ⟨rfl, hb4⟩; have HLx := Lib.hid (LI_step HL.out hb4); clear HL hb4; have HL := HLx; clear HLx; (try clear l0 l1 l2 l3); obtain ⟨l0, l1, l2, l3⟩ := HL.out) | (go_at_call 11; refine (HKN.out _ l3).mono ?_; rintro e w5 ⟨rfl, hb5⟩; have HLx := Lib.hid (LI_step HL.out hb5); clear HL hb5; have HL := HLx; clear HLx; (try clear l0 l1 l2 l3); obtain ⟨l0, l1, l2, l3⟩ := HL.out))
      go_ret
      exact ⟨rfl, l3⟩
  · have hne : (checkN n ss m bs == 0) = false := by rw [beq_eq_false_iff_ne]; exact hC
    clear HNN hC HFS0
    generalize checkN n ss m bs = E at *
    have hne2 : (E != 0) = true := by rw [bne, hne]; rfl
    go_enter Tryd.func4, Tryd.ntmps4; go_upto_region 1 with (fail); have HL := Lib.hid (show LI a n c ba m bc w (w.alloc (.cells #[.slice a n c, .slice ba m bc] 25)) from LI_start); generalize World.alloc w _ = V at *; obtain ⟨l0, l1, l2, l3⟩ := HL.out
    go_wp2_with (first | (go_at_call 17; refine (HST.out _ l3).mono ?_; rintro e w2 ⟨rfl, hb2⟩; have HLx := Lib.hid (LI_step HL.out hb2); clear HL hb2; have HL := HLx; clear HLx; (try clear l0 l1 l2 l3); obtain ⟨l0, l1, l2, l3⟩ := HL.out) | (go_at_call 13; refine (HCH.out _ l3).mono ?_; rintro e w3 ⟨rfl, hb3⟩; have HLx := Lib.hid (LI_step HL.out hb3); clear HL hb3; have HL := HLx; clear HLx; (try clear l0 l1 l2 l3); obtain ⟨l0, l1, l2, l3⟩ := HL.out) | (go_at_call 11; refine (HKN.out _ l3).mono ?_; rintro e w5 ⟨rfl, hb5⟩; have HLx := Lib.hid (LI_step HL.out hb5); clear HL hb5; have HL := HLx; clear HLx; (try clear l0 l1 l2 l3); obtain ⟨l0, l1, l2, l3⟩ := HL.out))
    go_ret
    exact ⟨rfl, l3⟩
set_option maxRecDepth 100000 in
set_option maxHeartbeats 4000000 in
theorem Un_none (a : Option Addr) (n c : Nat) (ba : Option Addr) (m bc : Nat) (ss : Nat → SV) (bs : Nat → BM) (fa : Option Addr) (fk fc : Nat) (f : Nat → Int) (ci de : Int) (w : World) (h : UnIn a n c ba m bc ss bs fa fk f w) (hyes : UnYes n ss m bs fk ci) (hA : allF n ss m bs = []) :
    Calls Tryd.prog 4 #[imageV a n c ba m bc, .slice fa fk fc, .int .i64 ci, .int .i64 de] w fun e w' => e = .returned (.bool true) ∧ Below w.heap.size w w' := by
  have hC := hyes.2.1; have hfk := h.lf; unfold maxLen at hfk; have HKN := Lib.hid (fun (W : World) (hb : Below w.heap.size w W) => h.im.known hb); have HST := Lib.hid (fun (W : World) (hb : Below w.heap.size w W) => h.short hb); have HCH := Lib.hid (fun (W : World) (hb : Below w.heap.size w W) => h.check hb); have HFS := Lib.hid (fun (W : World) (hb : Below w.heap.size w W) => h.fields hC hb); obtain ⟨g1, g3, g4, g5, g6, g7⟩ := hyes; rw [g1] at HST; rw [g3] at HCH; generalize min (prodN ss n) 200001 = P at *; have g4' : ¬ 20000 < P := (by omega); have g5' : ¬ 60 < (fk : Int) := (by omega); clear g1 g4 g5 g3
  have HFR := Lib.hid (fun (W : World) (hb : Below w.heap.size w W) => h.free0 hC hA hb)
  have HBO := Lib.hid (fun (W : World) (hb : Below w.heap.size w W) => h.bounds0 hC hA hb)
  have g6' : ¬ ci < 0 := by omega
  have g7' : ¬ (n : Int) ≤ ci := by omega
  clear h hC hA g6 g7
  go_enter Tryd.func4, Tryd.ntmps4; go_upto_region 1 with (fail); have HL := Lib.hid (show LI a n c ba m bc w (w.alloc (.cells #[.slice a n c, .slice ba m bc] 25)) from LI_start); generalize World.alloc w _ = V at *; obtain ⟨l0, l1, l2, l3⟩ := HL.out
  go_wp2_with (first | (go_at_call 17; refine (HST.out _ l3).mono ?_; rintro e w2 ⟨rfl, hb2⟩; have HLx := Lib.hid (LI_step HL.out hb2); clear HL hb2; have HL := HLx; clear HLx; (try clear l0 l1 l2 l3); obtain ⟨l0, l1, l2, l3⟩ := HL.out) | (go_at_call 13; refine (HCH.out _ l3).mono ?_; rintro e w3 ⟨rfl, hb3⟩; have HLx := Lib.hid (LI_step HL.out hb3); clear HL hb3; have HL := HLx; clear HLx; (try clear l0 l1 l2 l3); obtain ⟨l0, l1, l2, l3⟩ := HL.out) | (go_at_call 18; refine (HFS.out _ l3).mono ?_; rintro e w4 ⟨rfl, hb4⟩; have HLx := Lib.hid (LI_step HL.out hb4); clear HL hb4; have HL := HLx; clear HLx; (try clear l0 l1 l2 l3); obtain ⟨l0, l1, l2, l3⟩ := HL.out) | (go_at_call 11; refine (HKN.out _ l3).mono ?_; rintro e w5 ⟨rfl, hb5⟩; have HLx := Lib.hid (LI_step HL.out hb5); clear HL hb5; have HL := HLx; clear HLx; (try clear l0 l1 l2 l3); obtain ⟨l0, l1, l2, l3⟩ := HL.out) | (go_at_call 19; refine (HFR.out _ l3).mono ?_; rintro e w6 ⟨rfl, hb6⟩; have HLx := Lib.hid (LI_step HL.out hb6); clear HL hb6; have HL := HLx; clear HLx; (try clear l0 l1 l2 l3); obtain ⟨l0, l1, l2, l3⟩ := HL.out) | (go_at_call 20; refine (HBO.out _ l3).mono ?_; rintro e w7 ⟨rfl, hb7⟩; have HLx := Lib.hid (LI_step HL.out hb7); clear HL hb7; have HL := HLx; clear HLx; (try clear l0 l1 l2 l3); obtain ⟨l0, l1, l2, l3⟩ := HL.out))
  go_ret
  exact ⟨rfl, l3⟩
set_option maxRecDepth 100000 in
set_option maxHeartbeats 4000000 in
theorem Un_ok (a : Option Addr) (n c : Nat) (ba : Option Addr) (m bc : Nat) (ss : Nat → SV) (bs : Nat → BM) (fa : Option Addr) (fk fc : Nat) (f : Nat → Int) (ci : Nat) (de : Int) (w : World) (h : UnIn a n c ba m bc ss bs fa fk f w) (hyes : UnYes n ss m bs fk (ci : Int)) (hA : allF n ss m bs ≠ []) :
    Calls Tryd.prog 4 #[imageV a n c ba m bc, .slice fa fk fc, .int .i64 (ci : Int), .int .i64 de] w fun e w' => e = .returned (.bool true) ∧ Below w.heap.size w w' := by
  have hC := hyes.2.1; have hfk := h.lf; unfold maxLen at hfk; have HKN := Lib.hid (fun (W : World) (hb : Below w.heap.size w W) => h.im.known hb); have HST := Lib.hid (fun (W : World) (hb : Below w.heap.size w W) => h.short hb); have HCH := Lib.hid (fun (W : World) (hb : Below w.heap.size w W) => h.check hb); have HFS := Lib.hid (fun (W : World) (hb : Below w.heap.size w W) => h.fields hC hb); obtain ⟨g1, g3, g4, g5, g6, g7⟩ := hyes; rw [g1] at HST; rw [g3] at HCH; generalize min (prodN ss n) 200001 = P at *; have g4' : ¬ 20000 < P := (by omega); have g5' : ¬ 60 < (fk : Int) := (by omega); clear g1 g4 g5 g3
  have hci : ci < n := by omega
  have HFR := Lib.hid (fun (W : World) (hb : Below w.heap.size w W) => h.free hC hA hb)
  have HBO := Lib.hid (fun (W : World) (hb : Below w.heap.size w W) => h.bounds hC hA hb)
  obtain ⟨BN, hBN⟩ : ∃ BN : Nat → SV, BN = fun i => bnd (fun f => fOf f i) (allF n ss m bs) := ⟨_, rfl⟩
  rw [← hBN] at HBO
  have HFD := Lib.hid (fun (W : World) (hb : Below w.heap.size w W) => h.fieldC (fc := fc) hb)
  have HAG0 := Lib.hid (fun (hf : fieldB n ss fk f = true) (W : World) (hb : Below w.heap.size w W) => h.agrees (fc := fc) hC hf hb)
  have HSM := Lib.hid (fun (W : World) (hb : Below w.heap.size w W) => h.im.S hb)
  have HBM := Lib.hid (fun (W : World) (hb : Below w.heap.size w W) => h.im.M hb)
  have hn40 := (checkN_shape hC).n40
  have hm20 := (checkN_shape hC).m20
  have hK := freeL_len (freeC ss m bs (allF n ss m bs)) n
  have HAM := Lib.hid (among_free (g := freeC ss m bs (allF n ss m bs)) hci)
  have HSE := Lib.hid (fun (ca : Option Addr) (cc : Nat) (W : World) (hI : Ints W.heap.size W ca (freeL (freeC ss m bs (allF n ss m bs)) n).length (fOf (frI (freeC ss m bs (allF n ss m bs)) n))) => (r8Set_any ca (freeL (freeC ss m bs (allF n ss m bs)) n).length cc (fOf (frI (freeC ss m bs (allF n ss m bs)) n)) n W _ (Nat.le_refl _) (by unfold maxLen; omega) (by unfold maxLen; omega) hI).mono (R' := fun e w' => e = .returned (.bool true) ∧ Below W.heap.size W w') fun e w' h => by
    have h1 := h.1
    rw [show setB n (freeL (freeC ss m bs (allF n ss m bs)) n).length (fOf (frI (freeC ss m bs (allF n ss m bs)) n)) = true from by rw [← frI_len]; exact frI_set] at h1
    exact ⟨h1, h.2⟩)
  have HFB := Lib.hid (fun (e : freeC ss m bs (allF n ss m bs) ci = true) => show (BN ci).lo = (ss ci).lo ∧ (BN ci).hi = (ss ci).hi from by rw [hBN]; exact free_bnd (checkN_shape hC) hA hci e)
  have HRP := Lib.hid (fun (hf : fieldB n ss fk f = true) (W : World) (hb : Below w.heap.size w W) => h.repl (fc := fc) (de := de) hC hci hf hb)
  have HA2 := Lib.hid (fun (hf : fieldB n ss fk f = true) (h1 : (ss ci).lo ≤ de) (h2 : de ≤ (ss ci).hi) (W : World) (hb : Below w.heap.size w W) (ga : Option Addr) (gc : Nat) (hI : Ints W.heap.size W ga fk (repF f ci de)) => h.agrees2 hC hci hf h1 h2 hb ga gc hI)
  have HBA := Lib.hid (fun (e : hasB bs m (ci : Int) = false) (h2 : (ss ci).lo < (ss ci).hi) => free_bare (l := allF n ss m bs) e h2)
  have HOW := Lib.hid (fun (e : freeC ss m bs (allF n ss m bs) ci = true) (hb : inBox n ss f) (ha : agreesB m bs f = true) (h1 : (ss ci).lo ≤ de) (h2 : de ≤ (ss ci).hi) => free_own (checkN_shape hC) hci e hb ha h1 h2)
  generalize freeC ss m bs (allF n ss m bs) ci = GC at *
  generalize (freeL (freeC ss m bs (allF n ss m bs)) n).length = K at *
  generalize fOf (frI (freeC ss m bs (allF n ss m bs)) n) = FF at *
  have hmn : (n != n) = false := by simp
  have g6' : ¬ (ci : Int) < 0 := by omega
  have g7' : ¬ (n : Int) ≤ (ci : Int) := by omega
  have HFI := Lib.hid (fun (hf : fieldB n ss fk f = true) => (fieldB_iff.1 hf).2)
  clear hA hBN
  go_enter Tryd.func4, Tryd.ntmps4; go_upto_region 1 with (fail); have HL := Lib.hid (show LI a n c ba m bc w (w.alloc (.cells #[.slice a n c, .slice ba m bc] 25)) from LI_start); generalize World.alloc w _ = V at *; obtain ⟨l0, l1, l2, l3⟩ := HL.out
  go_upto_region 11 with (first | (go_at_call 17; refine (HST.out _ l3).mono ?_; rintro e w2 ⟨rfl, hb2⟩; have HLx := Lib.hid (LI_step HL.out hb2); clear HL hb2; have HL := HLx; clear HLx; (try clear l0 l1 l2 l3); obtain ⟨l0, l1, l2, l3⟩ := HL.out) | (go_at_call 13; refine (HCH.out _ l3).mono ?_; rintro e w3 ⟨rfl, hb3⟩; have HLx := Lib.hid (LI_step HL.out hb3); clear HL hb3; have HL := HLx; clear HLx; (try clear l0 l1 l2 l3); obtain ⟨l0, l1, l2, l3⟩ := HL.out) | (go_at_call 18; refine (HFS.out _ l3).mono ?_; rintro e w4 ⟨rfl, hb4⟩; have HLx := Lib.hid (LI_step HL.out hb4); clear HL hb4; have HL := HLx; clear HLx; (try clear l0 l1 l2 l3); obtain ⟨l0, l1, l2, l3⟩ := HL.out) | (go_at_call 11; refine (HKN.out _ l3).mono ?_; rintro e w5 ⟨rfl, hb5⟩; have HLx := Lib.hid (LI_step HL.out hb5); clear HL hb5; have HL := HLx; clear HLx; (try clear l0 l1 l2 l3); obtain ⟨l0, l1, l2, l3⟩ := HL.out) | (go_at_call 19; refine (HFR.out _ l3).mono ?_; rintro e w6 ⟨⟨ga, gc, rfl, hG⟩, hb6⟩; have HG := Lib.hid hG; clear hG; have HLx := Lib.hid (LI_step HL.out hb6); clear HL hb6; have HL := HLx; clear HLx; (try clear l0 l1 l2 l3); obtain ⟨l0, l1, l2, l3⟩ := HL.out) | (go_at_call 20; refine (HBO.out _ l3).mono ?_; rintro e w7 ⟨⟨ob, rfl, hO⟩, hb7⟩; have HO := Lib.hid hO; clear hO; have HGx := Lib.hid ((HG.out.below hb7).up (hb7).size); clear HG; have HG := HGx; clear HGx; have HLx := Lib.hid (LI_step HL.out hb7); clear HL hb7; have HL := HLx; clear HLx; (try clear l0 l1 l2 l3); obtain ⟨l0, l1, l2, l3⟩ := HL.out) | (go_at_call 21; refine (HSE.out _ _ _ HG.out).mono ?_; rintro e w8 ⟨rfl, hb8⟩; have HGx := Lib.hid ((HG.out.below hb8).up (hb8).size); clear HG; have HG := HGx; clear HGx; have HOx := Lib.hid ((HO.out.below hb8).up (hb8).size); clear HO; have HO := HOx; clear HOx; have HLx := Lib.hid (LI_step HL.out hb8); clear HL hb8; have HL := HLx; clear HLx; (try clear l0 l1 l2 l3); obtain ⟨l0, l1, l2, l3⟩ := HL.out))
  rename World => W1
  have HLB := Lib.hid HL.out
  clear l0 l1 l2 HST HCH HFS HFR HBO HSE
  go_loopw [13, 15] (fun s13 t wr => ∃ i : Nat, i ≤ K ∧ t = .int .i64 (i : Int) ∧ s13 = .bool (among FF i (ci : Int)) ∧ Hid (Below W1.heap.size W1 wr)) (fun _ t _ => K - (intOf t).toNat)
  case atStart => exact ⟨0, Nat.zero_le _, rfl, rfl, Lib.hid (Below.refl _ _)⟩
  case round =>
    obtain ⟨i, hi, rfl, rfl, HX⟩ := hrel
    have HS := Lib.hid (among_succ (f := FF) (k := i) (c := (ci : Int)))
    by_cases hlt : i < K
    · have hlt' : (i : Int) < (K : Int) := by omega
      obtain ⟨gb, go, hga, hgB, g0⟩ := ((HG.out.below HX.out)).get hlt
      subst hga
      have hgz : gb < wr.heap.size := Nat.lt_of_lt_of_le hgB HX.out.size
      cases hb : among FF i (ci : Int)
      · rw [hb, Bool.false_or] at HS
        go_wp2
        go_roundw
        case rel => exact ⟨i + 1, by omega, by go_num, by rw [HS.out], HX⟩
        case measure => simp [intOf]; omega
      · rw [hb, Bool.true_or] at HS
        go_wp2
        go_roundw
        case rel => exact ⟨i + 1, by omega, by go_num, by rw [HS.out], HX⟩
        case measure => simp [intOf]; omega
    · obtain rfl : i = K := by omega
      have hlt' : ¬ (i : Int) < (i : Int) := by omega
      rw [HAM.out]
      clear HS HAM
      have HXa := Lib.hid HX.out
      clear HX
      go_upto_region 15 with (fail)
      have HL := Lib.hid (LI_step HLB.out HXa.out)
      clear HLB
      obtain ⟨l0, l1, l2, l3⟩ := HL.out
      go_loopw [14, 16] (fun s14 t wr => ∃ i : Nat, i ≤ m ∧ t = .int .i64 (i : Int) ∧ s14 = .bool (hasB bs i (ci : Int)) ∧ Hid (LI a n c ba m bc w wr ∧ Below W1.heap.size W1 wr)) (fun _ t _ => m - (intOf t).toNat)
      case atStart => exact ⟨0, Nat.zero_le _, rfl, rfl, Lib.hid ⟨HL.out, HXa.out⟩⟩
      case round =>
        clear HL l0 l1 l2 l3
        obtain ⟨i, hi, rfl, rfl, HY⟩ := hrel
        obtain ⟨l0, l1, l2, l3⟩ := HY.out.1
        by_cases hlt : i < m
        · have hlt' : (i : Int) < (m : Int) := by omega
          have hcn := ((HBM.out _ l3).get hlt).choose_spec.choose_spec.2.2.2.1
          unfold maxLen at hcn
          have HS := Lib.hid (hasB_succ (bs := bs) (k := i) (c := (ci : Int)))
          go_wp2
          clear l0 l1 l2 l3
          go_loopw [14, 17] (fun s14 t wx => ∃ k : Nat, k ≤ (bs i).cn ∧ t = .int .i64 (k : Int) ∧ s14 = .bool (hasB bs i (ci : Int) || hasC (bs i) k (ci : Int)) ∧ Hid (LI a n c ba m bc w wx ∧ Below W1.heap.size W1 wx)) (fun _ t _ => (bs i).cn - (intOf t).toNat)
          case atStart => exact ⟨0, Nat.zero_le _, rfl, by rw [show hasC (bs i) 0 (ci : Int) = false from rfl, Bool.or_false], HY⟩
          case round =>
            clear HY
            obtain ⟨k, hk, rfl, rfl, HZ⟩ := hrel
            obtain ⟨l0, l1, l2, l3⟩ := HZ.out.1
            obtain ⟨eb, eo, hba, hebB, hat, hmem⟩ := (HBM.out _ l3).get hlt
            subst hba
            obtain ⟨q0, q1, q2, q3⟩ := hat
            have hez : eb < wr.heap.size := by have := l3.size; omega
            by_cases hkl : k < (bs i).cn
            · have hkl' : (k : Int) < ((bs i).cn : Int) := by omega
              obtain ⟨gb, go, hga, hgB, g0⟩ := hmem.2.2.1.get hkl
              rw [hga] at q0
              have hgz : gb < wr.heap.size := by have := l3.size; omega
              have HS2 := Lib.hid (hasP_succ (bs := bs) (i := i) (k := k) (ci := (ci : Int)))
              clear hmem q1 q2 q3 hga
              cases hb : (hasB bs i (ci : Int) || hasC (bs i) k (ci : Int))
              · rw [hb, Bool.false_or] at HS2
                go_wp2
                go_roundw
                case rel => exact ⟨k + 1, by omega, by go_num, by rw [HS2.out], HZ⟩
                case measure => simp [intOf]; omega
              · rw [hb, Bool.true_or] at HS2
                go_wp2
                go_roundw
                case rel => exact ⟨k + 1, by omega, by go_num, by rw [HS2.out], HZ⟩
                case measure => simp [intOf]; omega
            · have hkc : (bs i).cn = k := by omega
              rw [hkc] at q0 HS
              have hkl' : ¬ (k : Int) < (k : Int) := by omega
              clear hmem q1 q2 q3 hkc
              go_wp2
              go_roundw
              case rel => exact ⟨i + 1, by omega, by go_num, by rw [HS.out], HZ⟩
              case measure => simp [intOf]; omega
        · obtain rfl : i = m := by omega
          have hlt' : ¬ (i : Int) < (i : Int) := by omega
          obtain ⟨xb, xo, hxa, hxB, x0, x1⟩ := (HSM.out _ l3).get hci
          subst hxa
          have hxz : xb < wr.heap.size := by have := l3.size; omega
          have hcn' : (ci : Int) < (n : Int) := by omega
          go_upto_region 22 with (fail)
          have d0 : (wr.alloc (.cells #[.int .i64 (ss ci).lo, .int .i64 (ss ci).hi] 48)).cell? ⟨wr.heap.size, 0, none⟩ = some (.int .i64 (ss ci).lo) := cell_of_row _ _ _ _ _ _ (heap_alloc_new wr _)
          have d1 : (wr.alloc (.cells #[.int .i64 (ss ci).lo, .int .i64 (ss ci).hi] 48)).cell? ⟨wr.heap.size, 1, none⟩ = some (.int .i64 (ss ci).hi) := cell_of_row _ _ _ _ _ _ (heap_alloc_new wr _)
          have hz5 : (wr.alloc (.cells #[.int .i64 (ss ci).lo, .int .i64 (ss ci).hi] 48)).heap.size = wr.heap.size + 1 := by simp
          have hb5 := alloc_below wr (.cells #[.int .i64 (ss ci).lo, .int .i64 (ss ci).hi] 48)
          have HL := Lib.hid (LI_step HY.out.1 hb5)
          have HOV := Lib.hid ((HO.out.below HY.out.2).below (hb5.mono HY.out.2.size))
          have hobz : W1.heap.size ≤ wr.heap.size := HY.out.2.size
          clear l0 l1 l2 l3 x0 x1 HY HO HG hb5 HXa
          generalize World.alloc wr _ = V at *
          generalize wr.heap.size = sb at *
          obtain ⟨l0, l1, l2, l3⟩ := HL.out
          obtain ⟨pb, po, hpa, hpB, b0, b1⟩ := HOV.out.get hci
          injection hpa with hpa
          injection hpa with e1 e2 _
          subst e1 e2
          rw [Nat.zero_add] at b0 b1
          have hpz : ob < V.heap.size := by omega
          have hsbz : sb < V.heap.size := by omega
          clear hz5 hxz hobz
          go_cut [13, 14, 163] from 140 (fun s13 s14 s163 wx => s13 = .bool GC ∧ s14 = .bool (hasB bs i (ci : Int)) ∧ s163 = .bool false ∧ Hid (LI (some ⟨xb, xo, none⟩) n c ba i bc w wx ∧ wx.cell? ⟨sb, 0, none⟩ = some (.int .i64 (ss ci).lo) ∧ wx.cell? ⟨sb, 1, none⟩ = some (.int .i64 (ss ci).hi) ∧ sb < wx.heap.size))
          case first =>
            have HEND := Lib.hid (fun (xq : Calm V.heap.size V) => show Hid (LI (some ⟨xb, xo, none⟩) n c ba i bc w xq.val ∧ xq.val.cell? ⟨sb, 0, none⟩ = some (.int .i64 (ss ci).lo) ∧ xq.val.cell? ⟨sb, 1, none⟩ = some (.int .i64 (ss ci).hi) ∧ sb < xq.val.heap.size) from Lib.hid ⟨LI_step HL.out xq.below, ((bcell xq.below).1 sb 0 (by omega)).trans d0, ((bcell xq.below).1 sb 1 (by omega)).trans d1, by have := xq.below.size; omega⟩)
            cases hgc : GC
            · rw [hgc] at HBA
              cases hB : hasB bs i (ci : Int)
              · have hno : ¬ (ss ci).lo < (ss ci).hi := fun h => by cases HBA.out hB h
                have HGB := Lib.hid (And.intro hgc hB); clear hgc hB HL
                (refine wp_region_calm (V.heap.size) (by kernel_rfl) (by kernel_rfl) ?_; (repeat (first | go_big_quiet_step (fail) | quiet_step (fail))); refine wpQuiet_nil ?_; intro _ hw'; obtain ⟨xq, hw''⟩ := hw'; subst hw'')
                go_wp2
                go_meet
                exact ⟨by rw [HGB.out.1], by rw [HGB.out.2], rfl, HEND.out xq⟩
              · have HGB := Lib.hid (And.intro hgc hB); clear hgc hB HL
                (refine wp_region_calm (V.heap.size) (by kernel_rfl) (by kernel_rfl) ?_; (repeat (first | go_big_quiet_step (fail) | quiet_step (fail))); refine wpQuiet_nil ?_; intro _ hw'; obtain ⟨xq, hw''⟩ := hw'; subst hw'')
                go_wp2
                go_meet
                exact ⟨by rw [HGB.out.1], by rw [HGB.out.2], rfl, HEND.out xq⟩
            · have hq := HFB.out hgc
              rw [hq.1] at b0
              rw [hq.2] at b1
              clear hq
              cases hB : hasB bs i (ci : Int)
              · by_cases hl : (ss ci).lo < (ss ci).hi
                · have HGB := Lib.hid (And.intro hgc hB); clear hgc hB HL
                  (refine wp_region_calm (V.heap.size) (by kernel_rfl) (by kernel_rfl) ?_; (repeat (first | go_big_quiet_step (fail) | quiet_step (fail))); refine wpQuiet_nil ?_; intro _ hw'; obtain ⟨xq, hw''⟩ := hw'; subst hw'')
                  go_wp2
                  go_meet
                  exact ⟨by rw [HGB.out.1], by rw [HGB.out.2], rfl, HEND.out xq⟩
                · have HGB := Lib.hid (And.intro hgc hB); clear hgc hB HL
                  (refine wp_region_calm (V.heap.size) (by kernel_rfl) (by kernel_rfl) ?_; (repeat (first | go_big_quiet_step (fail) | quiet_step (fail))); refine wpQuiet_nil ?_; intro _ hw'; obtain ⟨xq, hw''⟩ := hw'; subst hw'')
                  go_wp2
                  go_meet
                  exact ⟨by rw [HGB.out.1], by rw [HGB.out.2], rfl, HEND.out xq⟩
              · have HGB := Lib.hid (And.intro hgc hB); clear hgc hB HL
                (refine wp_region_calm (V.heap.size) (by kernel_rfl) (by kernel_rfl) ?_; (repeat (first | go_big_quiet_step (fail) | quiet_step (fail))); refine wpQuiet_nil ?_; intro _ hw'; obtain ⟨xq, hw''⟩ := hw'; subst hw'')
                go_wp2
                go_meet
                exact ⟨by rw [HGB.out.1], by rw [HGB.out.2], rfl, HEND.out xq⟩
          case rest =>
            clear l0 l1 l2 l3 d0 d1 b0 b1 HL HOV HBA HFB
            obtain ⟨rfl, rfl, rfl, hcut⟩ := hcut
            obtain ⟨⟨l0, l1, l2, l3⟩, d0, d1, hsz⟩ := hcut.out
            have HLW := Lib.hid hcut.out.1
            clear hcut
            cases hgc : GC
            · clear hgc
              go_upto_region 24 with (fail)
              (refine wp_region_calm (wc.heap.size) (by kernel_rfl) (by kernel_rfl) ?_; (repeat (first | go_big_quiet_step (fail) | quiet_step (fail))); refine wpQuiet_nil ?_; intro _ hw'; obtain ⟨xq, hw''⟩ := hw'; subst hw'')
              have HL := Lib.hid (LI_step HLW.out (Calm.below xq))
              generalize Calm.val xq = wq at *
              clear l0 l1 l2 l3 d0 d1
              obtain ⟨l0, l1, l2, l3⟩ := HL.out
              go_wp2_with (first | (go_at_call 11; refine (HKN.out _ l3).mono ?_; rintro e w5 ⟨rfl, hb5⟩; have HLx := Lib.hid (LI_step HL.out hb5); clear HL hb5; have HL := HLx; clear HLx; (try clear l0 l1 l2 l3); obtain ⟨l0, l1, l2, l3⟩ := HL.out))
              go_ret
              exact ⟨rfl, l3⟩
            · have HOWg := Lib.hid (HOW.out hgc)
              clear hgc HOW
              cases hf : fieldB n ss fk f
              · rw [hf] at HFD
                clear hf
                go_upto_region 24 with (fail)
                (refine wp_region_calm (wc.heap.size) (by kernel_rfl) (by kernel_rfl) ?_; (repeat (first | go_big_quiet_step ((go_at_call 22; exact Calls.calm_of (Nat.le_refl _) (HFD.out _ (HLW.out.2.2.2.trans ((Calm.below _).mono HLW.out.2.2.2.size))))) | quiet_step ((go_at_call 22; exact Calls.calm_of (Nat.le_refl _) (HFD.out _ (HLW.out.2.2.2.trans ((Calm.below _).mono HLW.out.2.2.2.size))))))); refine wpQuiet_nil ?_; intro _ hw'; obtain ⟨xq, hw''⟩ := hw'; subst hw'')
                have HL := Lib.hid (LI_step HLW.out (Calm.below xq))
                generalize Calm.val xq = wq at *
                clear l0 l1 l2 l3 d0 d1
                obtain ⟨l0, l1, l2, l3⟩ := HL.out
                go_wp2_with (first | (go_at_call 11; refine (HKN.out _ l3).mono ?_; rintro e w5 ⟨rfl, hb5⟩; have HLx := Lib.hid (LI_step HL.out hb5); clear HL hb5; have HL := HLx; clear HLx; (try clear l0 l1 l2 l3); obtain ⟨l0, l1, l2, l3⟩ := HL.out))
                go_ret
                exact ⟨rfl, l3⟩
              · have HAG := Lib.hid (HAG0.out hf)
                have HRP1 := Lib.hid (HRP.out hf)
                have HA21 := Lib.hid (HA2.out hf)
                have HOWf := Lib.hid (HOWg.out (HFI.out hf))
                rw [hf] at HFD
                clear hf HAG0 HRP HA2 HOWg HFI
                cases ha : agreesB i bs f
                · rw [ha] at HAG
                  clear ha
                  go_upto_region 24 with (fail)
                  (refine wp_region_calm (wc.heap.size) (by kernel_rfl) (by kernel_rfl) ?_; (repeat (first | go_big_quiet_step (first | (go_at_call 22; exact Calls.calm_of (Nat.le_refl _) (HFD.out _ (HLW.out.2.2.2.trans ((Calm.below _).mono HLW.out.2.2.2.size)))) | (go_at_call 23; exact Calls.calm_of (Nat.le_refl _) (HAG.out _ (HLW.out.2.2.2.trans ((Calm.below _).mono HLW.out.2.2.2.size))))) | quiet_step (first | (go_at_call 22; exact Calls.calm_of (Nat.le_refl _) (HFD.out _ (HLW.out.2.2.2.trans ((Calm.below _).mono HLW.out.2.2.2.size)))) | (go_at_call 23; exact Calls.calm_of (Nat.le_refl _) (HAG.out _ (HLW.out.2.2.2.trans ((Calm.below _).mono HLW.out.2.2.2.size))))))); refine wpQuiet_nil ?_; intro _ hw'; obtain ⟨xq, hw''⟩ := hw'; subst hw'')
                  have HL := Lib.hid (LI_step HLW.out (Calm.below xq))
                  generalize Calm.val xq = wq at *
                  clear l0 l1 l2 l3 d0 d1
                  obtain ⟨l0, l1, l2, l3⟩ := HL.out
                  go_wp2_with (first | (go_at_call 11; refine (HKN.out _ l3).mono ?_; rintro e w5 ⟨rfl, hb5⟩; have HLx := Lib.hid (LI_step HL.out hb5); clear HL hb5; have HL := HLx; clear HLx; (try clear l0 l1 l2 l3); obtain ⟨l0, l1, l2, l3⟩ := HL.out))
                  go_ret
                  exact ⟨rfl, l3⟩
                · have HOWa := Lib.hid (HOWf.out ha)
                  rw [ha] at HAG
                  clear ha HOWf
                  by_cases h1 : (ss ci).lo ≤ de
                  · by_cases h2 : de ≤ (ss ci).hi
                    · have HA3 := Lib.hid (HA21.out h1 h2)
                      rw [HOWa.out h1 h2] at HA3
                      clear HA21 HOWa
                      go_upto_region 24 with (fail)
                      refine wp_region_any (by kernel_rfl) ?_
                      change wpAny _ _ _ _ _ _ _ (World.drew wc)
                      have hbd : Below wc.heap.size wc wc.drew := (Below.refl _ _).drew
                      have HBD := Lib.hid (LI_step HLW.out hbd)
                      have d0' := ((bcell hbd).1 sb 0 hsz).trans d0
                      have d1' := ((bcell hbd).1 sb 1 hsz).trans d1
                      have hsz' := Nat.lt_of_lt_of_le hsz hbd.size
                      clear l0 l1 l2 l3 d0 d1 hbd HLW hsz
                      generalize World.drew wc = Wd at *
                      obtain ⟨l0, l1, l2, l3⟩ := HBD.out
                      refine any_of_tail 30 30 (fun w' => w'.cell? ⟨w.heap.size, 0, none⟩ = some (.slice (some ⟨xb, xo, none⟩) n c) ∧ w'.cell? ⟨w.heap.size, 1, none⟩ = some (.slice ba i bc) ∧ w'.cell? ⟨sb, 0, none⟩ = some (.int .i64 (ss ci).lo) ∧ w'.cell? ⟨sb, 1, none⟩ = some (.int .i64 (ss ci).hi)) (by kernel_rfl) ⟨l0, l1, d0', d1'⟩ (fun hS => ?_)
                      refine headH_take (i := 0) (v := ?_) rfl (by kernel_rfl) (fun _ _ _ h => h) (Or.inl ⟨by rfl, ?_⟩) (by assumption) ?_; rotate_left; (· intro w' hSw; (try dsimp only at hSw); (try obtain ⟨hSw1, hSw2, hSw3, hSw4⟩ := hSw); (try simp only [List.getElem_toArray, List.getElem_cons_zero, List.getElem_cons_succ]); go_simp; (try with_reducible rfl)); (try simp only [List.getElem_toArray, List.getElem_cons_zero, List.getElem_cons_succ]); (try dsimp only [Act.put]); (try simp only [List.setIfInBounds_toArray, List.set_cons_zero, List.set_cons_succ])
                      refine headH_take (i := 1) (v := ?_) rfl (by kernel_rfl) (fun _ _ _ h => h) (Or.inl ⟨by rfl, ?_⟩) (by assumption) ?_; rotate_left; (· intro w' hSw; (try dsimp only at hSw); (try obtain ⟨hSw1, hSw2, hSw3, hSw4⟩ := hSw); (try simp only [List.getElem_toArray, List.getElem_cons_zero, List.getElem_cons_succ]); go_simp; (try with_reducible rfl)); (try simp only [List.getElem_toArray, List.getElem_cons_zero, List.getElem_cons_succ]); (try dsimp only [Act.put]); (try simp only [List.setIfInBounds_toArray, List.set_cons_zero, List.set_cons_succ])
                      refine headH_take (i := 2) (v := ?_) rfl (by kernel_rfl) (fun _ _ _ h => h) (Or.inl ⟨by rfl, ?_⟩) (by assumption) ?_; rotate_left; (· intro w' hSw; (try dsimp only at hSw); (try obtain ⟨hSw1, hSw2, hSw3, hSw4⟩ := hSw); (try simp only [List.getElem_toArray, List.getElem_cons_zero, List.getElem_cons_succ]); go_simp; (try with_reducible rfl)); (try simp only [List.getElem_toArray, List.getElem_cons_zero, List.getElem_cons_succ]); (try dsimp only [Act.put]); (try simp only [List.setIfInBounds_toArray, List.set_cons_zero, List.set_cons_succ])
                      refine headH_take (i := 3) (v := ?_) rfl (by kernel_rfl) (fun _ _ _ h => h) (Or.inl ⟨by rfl, ?_⟩) (by assumption) ?_; rotate_left; (· intro w' hSw; (try dsimp only at hSw); (try obtain ⟨hSw1, hSw2, hSw3, hSw4⟩ := hSw); (try simp only [List.getElem_toArray, List.getElem_cons_zero, List.getElem_cons_succ]); go_simp; (try with_reducible rfl)); (try simp only [List.getElem_toArray, List.getElem_cons_zero, List.getElem_cons_succ]); (try dsimp only [Act.put]); (try simp only [List.setIfInBounds_toArray, List.set_cons_zero, List.set_cons_succ])
                      refine headH_all (rs := [4]) (by kernel_rfl) (by simp) (by kernel_rfl) ?_; intro i0 hi0; simp only [List.mem_cons, List.not_mem_nil, or_false] at hi0; subst hi0; refine headH_op rfl (fun K hK => ?_); (try simp only [List.getElem_toArray, List.getElem_cons_zero, List.getElem_cons_succ]); go_simp
                      refine (HFD.out _ l3).mono ?_
                      rintro e w2 ⟨rfl, hb2⟩
                      have HBx := Lib.hid (LI_step HBD.out hb2); clear HBD; have HBD := HBx; clear HBx; have d0x := ((bcell hb2).1 sb 0 hsz').trans d0'; have d1x := ((bcell hb2).1 sb 1 hsz').trans d1'; have hszx := Nat.lt_of_lt_of_le hsz' (hb2).size; clear l0 l1 l2 l3 d0' d1' hsz' hb2 hS; obtain ⟨l0, l1, l2, l3⟩ := HBD.out; have d0' := d0x; have d1' := d1x; have hsz' := hszx; clear d0x d1x hszx; refine hK.out _ _ ⟨l0, l1, d0', d1'⟩ (fun hS => ?_); clear hK K; (try simp only [List.getElem_toArray, List.getElem_cons_zero, List.getElem_cons_succ]); (try dsimp only [Act.put]); (try simp only [List.setIfInBounds_toArray, List.set_cons_zero, List.set_cons_succ])
                      refine headH_take (i := 5) (v := ?_) rfl (by kernel_rfl) (fun _ _ _ h => h) (Or.inl ⟨by rfl, ?_⟩) (by assumption) ?_; rotate_left; (· intro w' hSw; (try dsimp only at hSw); (try obtain ⟨hSw1, hSw2, hSw3, hSw4⟩ := hSw); (try simp only [List.getElem_toArray, List.getElem_cons_zero, List.getElem_cons_succ]); go_simp; (try with_reducible rfl)); (try simp only [List.getElem_toArray, List.getElem_cons_zero, List.getElem_cons_succ]); (try dsimp only [Act.put]); (try simp only [List.setIfInBounds_toArray, List.set_cons_zero, List.set_cons_succ])
                      refine headH_take (i := 6) (v := ?_) rfl (by kernel_rfl) (fun _ _ _ h => h) (Or.inl ⟨by rfl, ?_⟩) (by assumption) ?_; rotate_left; (· intro w' hSw; (try dsimp only at hSw); (try obtain ⟨hSw1, hSw2, hSw3, hSw4⟩ := hSw); (try simp only [List.getElem_toArray, List.getElem_cons_zero, List.getElem_cons_succ]); go_simp; (try with_reducible rfl)); (try simp only [List.getElem_toArray, List.getElem_cons_zero, List.getElem_cons_succ]); (try dsimp only [Act.put]); (try simp only [List.setIfInBounds_toArray, List.set_cons_zero, List.set_cons_succ])
                      refine headH_take (i := 7) (v := ?_) rfl (by kernel_rfl) (fun _ _ _ h => h) (Or.inl ⟨by rfl, ?_⟩) (by assumption) ?_; rotate_left; (· intro w' hSw; (try dsimp only at hSw); (try obtain ⟨hSw1, hSw2, hSw3, hSw4⟩ := hSw); (try simp only [List.getElem_toArray, List.getElem_cons_zero, List.getElem_cons_succ]); go_simp; (try with_reducible rfl)); (try simp only [List.getElem_toArray, List.getElem_cons_zero, List.getElem_cons_succ]); (try dsimp only [Act.put]); (try simp only [List.setIfInBounds_toArray, List.set_cons_zero, List.set_cons_succ])
                      refine headH_take (i := 8) (v := ?_) rfl (by kernel_rfl) (fun _ _ _ h => h) (Or.inl ⟨by rfl, ?_⟩) (by assumption) ?_; rotate_left; (· intro w' hSw; (try dsimp only at hSw); (try obtain ⟨hSw1, hSw2, hSw3, hSw4⟩ := hSw); (try simp only [List.getElem_toArray, List.getElem_cons_zero, List.getElem_cons_succ]); go_simp; (try with_reducible rfl)); (try simp only [List.getElem_toArray, List.getElem_cons_zero, List.getElem_cons_succ]); (try dsimp only [Act.put]); (try simp only [List.setIfInBounds_toArray, List.set_cons_zero, List.set_cons_succ])
                      refine headH_all (rs := [9]) (by kernel_rfl) (by simp) (by kernel_rfl) ?_; intro i0 hi0; simp only [List.mem_cons, List.not_mem_nil, or_false] at hi0; subst hi0; refine headH_op rfl (fun K hK => ?_); (try simp only [List.getElem_toArray, List.getElem_cons_zero, List.getElem_cons_succ]); go_simp
                      refine (HAG.out _ l3).mono ?_
                      rintro e w3 ⟨rfl, hb3⟩
                      have HBx := Lib.hid (LI_step HBD.out hb3); clear HBD; have HBD := HBx; clear HBx; have d0x := ((bcell hb3).1 sb 0 hsz').trans d0'; have d1x := ((bcell hb3).1 sb 1 hsz').trans d1'; have hszx := Nat.lt_of_lt_of_le hsz' (hb3).size; clear l0 l1 l2 l3 d0' d1' hsz' hb3 hS; obtain ⟨l0, l1, l2, l3⟩ := HBD.out; have d0' := d0x; have d1' := d1x; have hsz' := hszx; clear d0x d1x hszx; refine hK.out _ _ ⟨l0, l1, d0', d1'⟩ (fun hS => ?_); clear hK K; (try simp only [List.getElem_toArray, List.getElem_cons_zero, List.getElem_cons_succ]); (try dsimp only [Act.put]); (try simp only [List.setIfInBounds_toArray, List.set_cons_zero, List.set_cons_succ])
                      refine headH_take (i := 10) (v := ?_) rfl (by kernel_rfl) (fun _ _ _ h => h) (Or.inl ⟨by rfl, ?_⟩) (by assumption) ?_; rotate_left; (· intro w' hSw; (try dsimp only at hSw); (try obtain ⟨hSw1, hSw2, hSw3, hSw4⟩ := hSw); (try simp only [List.getElem_toArray, List.getElem_cons_zero, List.getElem_cons_succ]); go_simp; (try with_reducible rfl)); (try simp only [List.getElem_toArray, List.getElem_cons_zero, List.getElem_cons_succ]); (try dsimp only [Act.put]); (try simp only [List.setIfInBounds_toArray, List.set_cons_zero, List.set_cons_succ])
                      refine headH_take (i := 11) (v := ?_) rfl (by kernel_rfl) (fun _ _ _ h => h) (Or.inl ⟨by rfl, ?_⟩) (by assumption) ?_; rotate_left; (· intro w' hSw; (try dsimp only at hSw); (try obtain ⟨hSw1, hSw2, hSw3, hSw4⟩ := hSw); (try simp only [List.getElem_toArray, List.getElem_cons_zero, List.getElem_cons_succ]); go_simp; (try with_reducible rfl)); (try simp only [List.getElem_toArray, List.getElem_cons_zero, List.getElem_cons_succ]); (try dsimp only [Act.put]); (try simp only [List.setIfInBounds_toArray, List.set_cons_zero, List.set_cons_succ])
                      refine headH_take (i := 12) (v := ?_) rfl (by kernel_rfl) (fun _ _ _ h => h) (Or.inl ⟨by rfl, ?_⟩) (by assumption) ?_; rotate_left; (· intro w' hSw; (try dsimp only at hSw); (try obtain ⟨hSw1, hSw2, hSw3, hSw4⟩ := hSw); (try simp only [List.getElem_toArray, List.getElem_cons_zero, List.getElem_cons_succ]); go_simp; (try with_reducible rfl)); (try simp only [List.getElem_toArray, List.getElem_cons_zero, List.getElem_cons_succ]); (try dsimp only [Act.put]); (try simp only [List.setIfInBounds_toArray, List.set_cons_zero, List.set_cons_succ])
                      refine headH_take (i := 13) (v := ?_) rfl (by kernel_rfl) (fun _ _ _ h => h) (Or.inl ⟨by rfl, ?_⟩) (by assumption) ?_; rotate_left; (· intro w' hSw; (try dsimp only at hSw); (try obtain ⟨hSw1, hSw2, hSw3, hSw4⟩ := hSw); (try simp only [List.getElem_toArray, List.getElem_cons_zero, List.getElem_cons_succ]); go_simp; (try with_reducible rfl)); (try simp only [List.getElem_toArray, List.getElem_cons_zero, List.getElem_cons_succ]); (try dsimp only [Act.put]); (try simp only [List.setIfInBounds_toArray, List.set_cons_zero, List.set_cons_succ])
                      refine headH_take (i := 14) (v := ?_) rfl (by kernel_rfl) (fun _ _ _ h => h) (Or.inl ⟨by rfl, ?_⟩) (by assumption) ?_; rotate_left; (· intro w' hSw; (try dsimp only at hSw); (try obtain ⟨hSw1, hSw2, hSw3, hSw4⟩ := hSw); (try simp only [List.getElem_toArray, List.getElem_cons_zero, List.getElem_cons_succ]); go_simp; (try with_reducible rfl)); (try simp only [List.getElem_toArray, List.getElem_cons_zero, List.getElem_cons_succ]); (try dsimp only [Act.put]); (try simp only [List.setIfInBounds_toArray, List.set_cons_zero, List.set_cons_succ])
                      refine headH_take (i := 15) (v := ?_) rfl (by kernel_rfl) (fun _ _ _ h => h) (Or.inl ⟨by rfl, ?_⟩) (by assumption) ?_; rotate_left; (· intro w' hSw; (try dsimp only at hSw); (try obtain ⟨hSw1, hSw2, hSw3, hSw4⟩ := hSw); (try simp only [List.getElem_toArray, List.getElem_cons_zero, List.getElem_cons_succ]); go_simp; (try with_reducible rfl)); (try simp only [List.getElem_toArray, List.getElem_cons_zero, List.getElem_cons_succ]); (try dsimp only [Act.put]); (try simp only [List.setIfInBounds_toArray, List.set_cons_zero, List.set_cons_succ])
                      refine headH_take (i := 16) (v := ?_) rfl (by kernel_rfl) (fun _ _ _ h => h) (Or.inl ⟨by rfl, ?_⟩) (by assumption) ?_; rotate_left; (· intro w' hSw; (try dsimp only at hSw); (try obtain ⟨hSw1, hSw2, hSw3, hSw4⟩ := hSw); (try simp only [List.getElem_toArray, List.getElem_cons_zero, List.getElem_cons_succ]); go_simp; (try with_reducible rfl)); (try simp only [List.getElem_toArray, List.getElem_cons_zero, List.getElem_cons_succ]); (try dsimp only [Act.put]); (try simp only [List.setIfInBounds_toArray, List.set_cons_zero, List.set_cons_succ])
                      refine headH_take (i := 17) (v := ?_) rfl (by kernel_rfl) (fun _ _ _ h => h) (Or.inl ⟨by rfl, ?_⟩) (by assumption) ?_; rotate_left; (· intro w' hSw; (try dsimp only at hSw); (try obtain ⟨hSw1, hSw2, hSw3, hSw4⟩ := hSw); (try simp only [List.getElem_toArray, List.getElem_cons_zero, List.getElem_cons_succ]); go_simp; (try with_reducible rfl)); (try simp only [List.getElem_toArray, List.getElem_cons_zero, List.getElem_cons_succ]); (try dsimp only [Act.put]); (try simp only [List.setIfInBounds_toArray, List.set_cons_zero, List.set_cons_succ])
                      refine headH_take (i := 18) (v := ?_) rfl (by kernel_rfl) (fun _ _ _ h => h) (Or.inl ⟨by rfl, ?_⟩) (by assumption) ?_; rotate_left; (· intro w' hSw; (try dsimp only at hSw); (try obtain ⟨hSw1, hSw2, hSw3, hSw4⟩ := hSw); (try simp only [List.getElem_toArray, List.getElem_cons_zero, List.getElem_cons_succ]); go_simp; (try with_reducible rfl)); (try simp only [List.getElem_toArray, List.getElem_cons_zero, List.getElem_cons_succ]); (try dsimp only [Act.put]); (try simp only [List.setIfInBounds_toArray, List.set_cons_zero, List.set_cons_succ])
                      refine headH_take (i := 19) (v := ?_) rfl (by kernel_rfl) (fun _ _ _ h => h) (Or.inl ⟨by rfl, ?_⟩) (by assumption) ?_; rotate_left; (· intro w' hSw; (try dsimp only at hSw); (try obtain ⟨hSw1, hSw2, hSw3, hSw4⟩ := hSw); (try simp only [List.getElem_toArray, List.getElem_cons_zero, List.getElem_cons_succ]); go_simp; (try with_reducible rfl)); (try simp only [List.getElem_toArray, List.getElem_cons_zero, List.getElem_cons_succ]); (try dsimp only [Act.put]); (try simp only [List.setIfInBounds_toArray, List.set_cons_zero, List.set_cons_succ])
                      refine headH_take (i := 20) (v := ?_) rfl (by kernel_rfl) (fun _ _ _ h => h) (Or.inl ⟨by rfl, ?_⟩) (by assumption) ?_; rotate_left; (· intro w' hSw; (try dsimp only at hSw); (try obtain ⟨hSw1, hSw2, hSw3, hSw4⟩ := hSw); (try simp only [List.getElem_toArray, List.getElem_cons_zero, List.getElem_cons_succ]); go_simp; (try with_reducible rfl)); (try simp only [List.getElem_toArray, List.getElem_cons_zero, List.getElem_cons_succ]); (try dsimp only [Act.put]); (try simp only [List.setIfInBounds_toArray, List.set_cons_zero, List.set_cons_succ])
                      refine headH_take (i := 21) (v := ?_) rfl (by kernel_rfl) (fun _ _ _ h => h) (Or.inl ⟨by rfl, ?_⟩) (by assumption) ?_; rotate_left; (· intro w' hSw; (try dsimp only at hSw); (try obtain ⟨hSw1, hSw2, hSw3, hSw4⟩ := hSw); (try simp only [List.getElem_toArray, List.getElem_cons_zero, List.getElem_cons_succ]); go_simp; (try with_reducible rfl)); (try simp only [List.getElem_toArray, List.getElem_cons_zero, List.getElem_cons_succ]); (try dsimp only [Act.put]); (try simp only [List.setIfInBounds_toArray, List.set_cons_zero, List.set_cons_succ])
                      refine headH_take (i := 22) (v := ?_) rfl (by kernel_rfl) (fun _ _ _ h => h) (Or.inl ⟨by rfl, ?_⟩) (by assumption) ?_; rotate_left; (· intro w' hSw; (try dsimp only at hSw); (try obtain ⟨hSw1, hSw2, hSw3, hSw4⟩ := hSw); (try simp only [List.getElem_toArray, List.getElem_cons_zero, List.getElem_cons_succ]); go_simp; (try with_reducible rfl)); (try simp only [List.getElem_toArray, List.getElem_cons_zero, List.getElem_cons_succ]); (try dsimp only [Act.put]); (try simp only [List.setIfInBounds_toArray, List.set_cons_zero, List.set_cons_succ])
                      refine headH_take (i := 23) (v := ?_) rfl (by kernel_rfl) (fun _ _ _ h => h) (Or.inl ⟨by rfl, ?_⟩) (by assumption) ?_; rotate_left; (· intro w' hSw; (try dsimp only at hSw); (try obtain ⟨hSw1, hSw2, hSw3, hSw4⟩ := hSw); (try simp only [List.getElem_toArray, List.getElem_cons_zero, List.getElem_cons_succ]); go_simp; (try with_reducible rfl)); (try simp only [List.getElem_toArray, List.getElem_cons_zero, List.getElem_cons_succ]); (try dsimp only [Act.put]); (try simp only [List.setIfInBounds_toArray, List.set_cons_zero, List.set_cons_succ])
                      refine headH_take (i := 24) (v := ?_) rfl (by kernel_rfl) (fun _ _ _ h => h) (Or.inl ⟨by rfl, ?_⟩) (by assumption) ?_; rotate_left; (· intro w' hSw; (try dsimp only at hSw); (try obtain ⟨hSw1, hSw2, hSw3, hSw4⟩ := hSw); (try simp only [List.getElem_toArray, List.getElem_cons_zero, List.getElem_cons_succ]); go_simp; (try with_reducible rfl)); (try simp only [List.getElem_toArray, List.getElem_cons_zero, List.getElem_cons_succ]); (try dsimp only [Act.put]); (try simp only [List.setIfInBounds_toArray, List.set_cons_zero, List.set_cons_succ])
                      refine headH_take (i := 25) (v := ?_) rfl (by kernel_rfl) (fun _ _ _ h => h) (Or.inl ⟨by rfl, ?_⟩) (by assumption) ?_; rotate_left; (· intro w' hSw; (try dsimp only at hSw); (try obtain ⟨hSw1, hSw2, hSw3, hSw4⟩ := hSw); (try simp only [List.getElem_toArray, List.getElem_cons_zero, List.getElem_cons_succ]); go_simp; (try with_reducible rfl)); (try simp only [List.getElem_toArray, List.getElem_cons_zero, List.getElem_cons_succ]); (try dsimp only [Act.put]); (try simp only [List.setIfInBounds_toArray, List.set_cons_zero, List.set_cons_succ])
                      refine headH_take (i := 26) (v := ?_) rfl (by kernel_rfl) (fun _ _ _ h => h) (Or.inl ⟨by rfl, ?_⟩) (by assumption) ?_; rotate_left; (· intro w' hSw; (try dsimp only at hSw); (try obtain ⟨hSw1, hSw2, hSw3, hSw4⟩ := hSw); (try simp only [List.getElem_toArray, List.getElem_cons_zero, List.getElem_cons_succ]); go_simp; (try with_reducible rfl)); (try simp only [List.getElem_toArray, List.getElem_cons_zero, List.getElem_cons_succ]); (try dsimp only [Act.put]); (try simp only [List.setIfInBounds_toArray, List.set_cons_zero, List.set_cons_succ])
                      refine headH_take (i := 27) (v := ?_) rfl (by kernel_rfl) (fun _ _ _ h => h) (Or.inl ⟨by rfl, ?_⟩) (by assumption) ?_; rotate_left; (· intro w' hSw; (try dsimp only at hSw); (try obtain ⟨hSw1, hSw2, hSw3, hSw4⟩ := hSw); (try simp only [List.getElem_toArray, List.getElem_cons_zero, List.getElem_cons_succ]); go_simp; (try with_reducible rfl)); (try simp only [List.getElem_toArray, List.getElem_cons_zero, List.getElem_cons_succ]); (try dsimp only [Act.put]); (try simp only [List.setIfInBounds_toArray, List.set_cons_zero, List.set_cons_succ])
                      refine headH_all (rs := [28]) (by kernel_rfl) (by simp) (by kernel_rfl) ?_; intro i0 hi0; simp only [List.mem_cons, List.not_mem_nil, or_false] at hi0; subst hi0; refine headH_op rfl (fun K hK => ?_); (try simp only [List.getElem_toArray, List.getElem_cons_zero, List.getElem_cons_succ]); go_simp
                      refine (HRP1.out _ l3).mono ?_
                      rintro e w4 ⟨⟨ra, rc, rfl, hri⟩, hb4⟩
                      have HRI := Lib.hid hri
                      clear hri
                      have HBx := Lib.hid (LI_step HBD.out hb4); clear HBD; have HBD := HBx; clear HBx; have d0x := ((bcell hb4).1 sb 0 hsz').trans d0'; have d1x := ((bcell hb4).1 sb 1 hsz').trans d1'; have hszx := Nat.lt_of_lt_of_le hsz' (hb4).size; clear l0 l1 l2 l3 d0' d1' hsz' hb4 hS; obtain ⟨l0, l1, l2, l3⟩ := HBD.out; have d0' := d0x; have d1' := d1x; have hsz' := hszx; clear d0x d1x hszx; refine hK.out _ _ ⟨l0, l1, d0', d1'⟩ (fun hS => ?_); clear hK K; (try simp only [List.getElem_toArray, List.getElem_cons_zero, List.getElem_cons_succ]); (try dsimp only [Act.put]); (try simp only [List.setIfInBounds_toArray, List.set_cons_zero, List.set_cons_succ])
                      refine headH_all (rs := [29]) (by kernel_rfl) (by simp) (by kernel_rfl) ?_; intro i0 hi0; simp only [List.mem_cons, List.not_mem_nil, or_false] at hi0; subst hi0; refine headH_op rfl (fun K hK => ?_); (try simp only [List.getElem_toArray, List.getElem_cons_zero, List.getElem_cons_succ]); go_simp
                      refine (HA3.out _ l3 ra rc HRI.out).mono ?_
                      rintro e w5 ⟨rfl, hb5⟩
                      have HBx := Lib.hid (LI_step HBD.out hb5); clear HBD; have HBD := HBx; clear HBx; have d0x := ((bcell hb5).1 sb 0 hsz').trans d0'; have d1x := ((bcell hb5).1 sb 1 hsz').trans d1'; have hszx := Nat.lt_of_lt_of_le hsz' (hb5).size; clear l0 l1 l2 l3 d0' d1' hsz' hb5 hS; obtain ⟨l0, l1, l2, l3⟩ := HBD.out; have d0' := d0x; have d1' := d1x; have hsz' := hszx; clear d0x d1x hszx; refine hK.out _ _ ⟨l0, l1, d0', d1'⟩ (fun hS => ?_); clear hK K; (try simp only [List.getElem_toArray, List.getElem_cons_zero, List.getElem_cons_succ]); (try dsimp only [Act.put]); (try simp only [List.setIfInBounds_toArray, List.set_cons_zero, List.set_cons_succ])
                      change tailL _ _ _ _ _ _ _ _
                      refine ⟨by kernel_rfl, ?_⟩
                      simp only [List.drop_succ_cons, List.drop_zero]
                      have HL := Lib.hid HBD.out
                      go_wp2_with (first | (go_at_call 11; refine (HKN.out _ l3).mono ?_; rintro e w5 ⟨rfl, hb5⟩; have HLx := Lib.hid (LI_step HL.out hb5); clear HL hb5; have HL := HLx; clear HLx; (try clear l0 l1 l2 l3); obtain ⟨l0, l1, l2, l3⟩ := HL.out))
                      go_ret
                      exact ⟨rfl, l3⟩
                    · clear HOWa HA21
                      go_upto_region 24 with (fail)
                      (refine wp_region_calm (wc.heap.size) (by kernel_rfl) (by kernel_rfl) ?_; (repeat (first | go_big_quiet_step (first | (go_at_call 22; exact Calls.calm_of (Nat.le_refl _) (HFD.out _ (HLW.out.2.2.2.trans ((Calm.below _).mono HLW.out.2.2.2.size)))) | (go_at_call 23; exact Calls.calm_of (Nat.le_refl _) (HAG.out _ (HLW.out.2.2.2.trans ((Calm.below _).mono HLW.out.2.2.2.size))))) | quiet_step (first | (go_at_call 22; exact Calls.calm_of (Nat.le_refl _) (HFD.out _ (HLW.out.2.2.2.trans ((Calm.below _).mono HLW.out.2.2.2.size)))) | (go_at_call 23; exact Calls.calm_of (Nat.le_refl _) (HAG.out _ (HLW.out.2.2.2.trans ((Calm.below _).mono HLW.out.2.2.2.size))))))); refine wpQuiet_nil ?_; intro _ hw'; obtain ⟨xq, hw''⟩ := hw'; subst hw'')
                      have HL := Lib.hid (LI_step HLW.out (Calm.below xq))
                      generalize Calm.val xq = wq at *
                      clear l0 l1 l2 l3 d0 d1
                      obtain ⟨l0, l1, l2, l3⟩ := HL.out
                      go_wp2_with (first | (go_at_call 11; refine (HKN.out _ l3).mono ?_; rintro e w5 ⟨rfl, hb5⟩; have HLx := Lib.hid (LI_step HL.out hb5); clear HL hb5; have HL := HLx; clear HLx; (try clear l0 l1 l2 l3); obtain ⟨l0, l1, l2, l3⟩ := HL.out))
                      go_ret
                      exact ⟨rfl, l3⟩
                  · clear HOWa HA21
                    go_upto_region 24 with (fail)
                    (refine wp_region_calm (wc.heap.size) (by kernel_rfl) (by kernel_rfl) ?_; (repeat (first | go_big_quiet_step (first | (go_at_call 22; exact Calls.calm_of (Nat.le_refl _) (HFD.out _ (HLW.out.2.2.2.trans ((Calm.below _).mono HLW.out.2.2.2.size)))) | (go_at_call 23; exact Calls.calm_of (Nat.le_refl _) (HAG.out _ (HLW.out.2.2.2.trans ((Calm.below _).mono HLW.out.2.2.2.size))))) | quiet_step (first | (go_at_call 22; exact Calls.calm_of (Nat.le_refl _) (HFD.out _ (HLW.out.2.2.2.trans ((Calm.below _).mono HLW.out.2.2.2.size)))) | (go_at_call 23; exact Calls.calm_of (Nat.le_refl _) (HAG.out _ (HLW.out.2.2.2.trans ((Calm.below _).mono HLW.out.2.2.2.size))))))); refine wpQuiet_nil ?_; intro _ hw'; obtain ⟨xq, hw''⟩ := hw'; subst hw'')
                    have HL := Lib.hid (LI_step HLW.out (Calm.below xq))
                    generalize Calm.val xq = wq at *
                    clear l0 l1 l2 l3 d0 d1
                    obtain ⟨l0, l1, l2, l3⟩ := HL.out
                    go_wp2_with (first | (go_at_call 11; refine (HKN.out _ l3).mono ?_; rintro e w5 ⟨rfl, hb5⟩; have HLx := Lib.hid (LI_step HL.out hb5); clear HL hb5; have HL := HLx; clear HLx; (try clear l0 l1 l2 l3); obtain ⟨l0, l1, l2, l3⟩ := HL.out))
                    go_ret
                    exact ⟨rfl, l3⟩
theorem ImageUnknown_any (a : Option Addr) (n c : Nat) (ba : Option Addr) (m bc : Nat) (ss : Nat → SV) (bs : Nat → BM) (fa : Option Addr) (fk fc : Nat) (f : Nat → Int) (ci de : Int) (w : World) (B : Nat) (hBw : B ≤ w.heap.size) (hS : Spans B w a n ss) (hM : Beams B w ba m bs) (hF : Ints B w fa fk f) (hk : fk ≤ maxLen) (ht : Lib.TabIs Tryd.prog w "internal/strconv.uint64pow10" .u64 Lib.pow10Tab) :
    Calls Tryd.prog 4 #[imageV a n c ba m bc, .slice fa fk fc, .int .i64 ci, .int .i64 de] w fun e w' => e = .returned (.bool true) ∧ Below w.heap.size w w' := by
  have h : UnIn a n c ba m bc ss bs fa fk f w := ⟨⟨Nat.le_refl _, hS.up hBw, hM.up hBw, Lib.tabBelow_of_tabIs ht⟩, hF.up hBw, hk⟩
  by_cases hyes : UnYes n ss m bs fk ci
  · obtain ⟨k, rfl⟩ : ∃ k : Nat, ci = (k : Int) := ⟨ci.toNat, by have := hyes.2.2.2.2.1; omega⟩
    by_cases hA : allF n ss m bs = []
    · exact Un_none a n c ba m bc ss bs fa fk fc f (k : Int) de w h hyes hA
    · exact Un_ok a n c ba m bc ss bs fa fk fc f k de w h hyes hA
  · exact Un_no a n c ba m bc ss bs fa fk fc f ci de w h hyes
end Go.Proofs.YtlfegmjdheddjaaDoor
