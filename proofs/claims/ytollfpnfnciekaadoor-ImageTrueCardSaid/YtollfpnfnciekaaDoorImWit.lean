/- The walks of slices.Clone at spans and of image.Witness. -/
import Derived.Test.YtollfpnfnciekaaDoorWitLaw
import Derived.Test.YtollfpnfnciekaaDoorGhA
import Derived.Test.YtollfpnfnciekaaDoorGsA
namespace Go.Proofs.YtollfpnfnciekaaDoor
open Go.RowKit
set_option linter.unusedVariables false
set_option linter.unusedSimpArgs false
set_option maxRecDepth 100000 in
set_option maxHeartbeats 1000000 in
theorem cloneS_any (a : Option Addr) (n c : Nat) (f : Nat → SV) (w : World) (hX : Spans w.heap.size w a n f) (hn : n ≤ 1000) (h0 : 0 < n) :
    Calls Tryd.prog 51 #[.slice a n c] w (CloneRes w 41 2 n (sC f n)) := by
  have HE := fun (W : World) => Lib.run_eql_slice_nil (P := Tryd.prog) (w := W)
  obtain ⟨b, off, rfl, hbz, _⟩ := hX.get h0
  have hcell : ∀ i, i < n → w.cell? ⟨b, off + i * 2, none⟩ = some (.int .i64 (f i).lo) ∧ w.cell? ⟨b, off + i * 2 + 1, none⟩ = some (.int .i64 (f i).hi) := by
    rcases hX.2 with h | ⟨b2, off2, h1, _, h3⟩
    · omega
    · injection h1 with h1
      injection h1 with e1 e2
      subst e1 e2
      exact h3
  have hnews := spans_cells hcell
  have hlt : ∀ j u, (sC f n)[j]? = some u → (w.alloc (.cells #[] 41)).cell? ((⟨b, off, none⟩ : Addr).add j) = some u := by
    intro j u h
    exact (World.cell?_of_block (Below.heap_alloc w _ _ (World.block_lt_of_cell? w _ (hnews j u h)))).trans (hnews j u h)
  have HN := Lib.hid hlt
  clear hnews hlt hX hcell
  obtain ⟨i0, hi, hz0, hz1, hz2⟩ := info_parts info_span
  go_enter Tryd.func51, Tryd.ntmps51
  go_wp2_with (at_builtin; refine wpList_append_own _ rfl _ _ 22 rfl w.heap.size 41 i0 _ 2 16 Tryd.underlying22 hi hz0 hz1 hz2 rfl (by decide) _ 0 [] rfl (World.ownsRow_made _ #[] 0 (Nat.le_refl _) (by decide) rfl) ⟨b, off, none⟩ n c (sC f n) rfl sC_len HN.out sC_one (by unfold maxLen; omega) (by omega) (by simp) ?_; intro v' w3 hown hgrow hnil)
  have hb : Below w.heap.size w w3 := ((Below.refl _ _).alloc (Nat.le_refl _) _).grown hgrow (by simp) (fun k hk => by have hk' : some w.heap.size = some k := hk; injection hk' with hk'; omega)
  rw [Nat.zero_add, List.nil_append] at hown
  obtain ⟨a', c', rfl⟩ := own_len hown
  clear hgrow hnil
  go_wp2
  go_ret
  exact clone_done hown hb
/-- the fields that agree in which a cell has a density -/
def witL (n : Nat) (ss : Nat → SV) (m : Nat) (bs : Nat → BM) (cell d : Int) : List (List Int) := (allF n ss m bs).filter (fun g => inB (fOf g cell.toNat) d d)
/-- what Witness hands back -/
def WitRes (n : Nat) (ss : Nat → SV) (m : Nat) (bs : Nat → BM) (cell d : Int) (w : World) (e : Ending) (w' : World) : Prop :=
  Below w.heap.size w w' ∧
  (if checkF n ss m bs (inB cell 0 ((n : Int) - 1)) = 0 then match witL n ss m bs cell d with
    | [] => e = .returned (.tuple #[.slice none 0 0, .int .i64 5])
    | g :: _ => ∃ a c, e = .returned (.tuple #[.slice a n c, .int .i64 0]) ∧ NewInts w w' a n (fOf g)
  else e = .returned (.tuple #[.slice none 0 0, .int .i64 (checkF n ss m bs (inB cell 0 ((n : Int) - 1)))]))
theorem wit_out {n m : Nat} {ss : Nat → SV} {bs : Nat → BM} {ci : Nat} {d : Int} (hc : ci < n) (h : inB d (ss ci).lo (ss ci).hi = false) : witL n ss m bs (ci : Int) d = [] := by
  unfold witL
  rw [List.filter_eq_nil_iff]
  intro g hg h2
  have h3 := (allF_mem.1 hg).2.2 ci hc
  rw [Int.toNat_natCast, inB_iff] at h2
  have h4 : inB d (ss ci).lo (ss ci).hi = true := inB_iff.2 (by omega)
  rw [h] at h4
  cases h4
theorem wit_all {n m : Nat} {ss : Nat → SV} {bs : Nat → BM} {ci : Nat} {d : Int} (hc : ci < n) (h : inB d (ss ci).lo (ss ci).hi = true) : allF n (setBox ss ci ⟨d, d⟩) m bs = witL n ss m bs (ci : Int) d := by
  unfold witL
  rw [Int.toNat_natCast]
  have h1 := inB_iff.1 h
  exact all_narrow hc (s := ⟨d, d⟩) h1
theorem wit_checkF {n m : Nat} {ss : Nat → SV} {bs : Nat → BM} {b : Bool} (h : checkF n ss m bs b = 0) : b = true ∧ checkN n ss m bs = 0 := by
  cases b
  · unfold checkF at h
    rw [if_pos (.inr rfl)] at h
    cases h
  · rw [checkF_true] at h
    exact ⟨rfl, h⟩
set_option maxRecDepth 100000 in
set_option maxHeartbeats 4000000 in
theorem Witness_any (a : Option Addr) (n c : Nat) (ba : Option Addr) (m bc : Nat) (ss : Nat → SV) (bs : Nat → BM) (cell d : Int) (w : World) (B : Nat) (hBw : B ≤ w.heap.size) (hS : Spans B w a n ss) (hM : Beams B w ba m bs) :
    Calls Tryd.prog 21 #[imageV a n c ba m bc, .int .i64 cell, .int .i64 d] w (WitRes n ss m bs cell d w) := by
  have hn := hS.1
  unfold maxLen at hn
  have HS := Lib.hid hS
  have HM := Lib.hid hM
  have HCF := Lib.hid (fun (W : World) (hb : Below w.heap.size w W) => checked_any a n c ba m bc ss bs (inB cell 0 ((n : Int) - 1)) W B (Nat.le_trans hBw hb.size) (hS.below (hb.mono hBw)) (hM.below (hb.mono hBw)))
  have HRZ := Lib.hid (fun (W : World) (hb : Below w.heap.size w W) (h : checkF n ss m bs (inB cell 0 ((n : Int) - 1)) ≠ 0) => show WitRes n ss m bs cell d w (.returned (.tuple #[.slice none 0 0, .int .i64 (checkF n ss m bs (inB cell 0 ((n : Int) - 1)))])) W from ⟨hb, by rw [if_neg h]⟩)
  have HRN := Lib.hid (fun (W : World) (hb : Below w.heap.size w W) (h : checkF n ss m bs (inB cell 0 ((n : Int) - 1)) = 0) (h2 : witL n ss m bs cell d = []) => show WitRes n ss m bs cell d w (.returned (.tuple #[.slice none 0 0, .int .i64 5])) W from ⟨hb, by rw [if_pos h, h2]⟩)
  have HRY := Lib.hid (fun (W : World) (hb : Below w.heap.size w W) (h : checkF n ss m bs (inB cell 0 ((n : Int) - 1)) = 0) (g : List Int) (t : List (List Int)) (h2 : witL n ss m bs cell d = g :: t) (ga : Option Addr) (gc : Nat) (hN : NewInts w W ga n (fOf g)) => show WitRes n ss m bs cell d w (.returned (.tuple #[.slice ga n gc, .int .i64 0])) W from ⟨hb, by rw [if_pos h, h2]; exact ⟨ga, gc, rfl, hN⟩⟩)
  have HCK := Lib.hid (fun (h : checkF n ss m bs (inB cell 0 ((n : Int) - 1)) = 0) => wit_checkF h)
  generalize WitRes n ss m bs cell d w = RES at *
  generalize checkF n ss m bs (inB cell 0 ((n : Int) - 1)) = E at *
  clear hS hM
  go_enter Tryd.func21, Tryd.ntmps21
  go_upto_region 1 with (fail)
  have HL := Lib.hid (show LI a n c ba m bc w (w.alloc (.cells #[.slice a n c, .slice ba m bc] 25)) from LI_start)
  have HB := Lib.hid (heap_alloc_new w (.cells #[.slice a n c, .slice ba m bc] 25))
  generalize World.alloc w _ = V at *
  obtain ⟨l0, l1, l2, l3⟩ := HL.out
  have HCV := Lib.hid (fun (W : World) (hb : Below V.heap.size V W) => HCF.out W (l3.trans (hb.mono l3.size)))
  clear HCF
  (refine wp_region_calm (V.heap.size) (by kernel_rfl) (by kernel_rfl) ?_; (repeat (first | go_big_quiet_step ((first | (go_at_call 50; exact Calls.calm_same (in_any _ _ _ _)) | (go_at_call 49; exact Calls.calm_of (Nat.le_refl _) (HCV.out _ (Calm.below _))))) | quiet_step ((first | (go_at_call 50; exact Calls.calm_same (in_any _ _ _ _)) | (go_at_call 49; exact Calls.calm_of (Nat.le_refl _) (HCV.out _ (Calm.below _))))))); refine wpQuiet_nil ?_; intro _ hw'; obtain ⟨xq, hw''⟩ := hw'; subst hw'')
  have HL1 := Lib.hid (LI_step HL.out (Calm.below xq))
  have HB1 := Lib.hid (((Calm.below xq).block _ l2).trans HB.out)
  clear HL HB l0 l1 l2 l3 HCV
  generalize Calm.val xq = V1 at *
  obtain ⟨l0, l1, l2, l3⟩ := HL1.out
  by_cases hE : E = 0
  · obtain ⟨k1, k2⟩ := HCK.out hE
    have hSh := checkN_shape k2
    have hn1 := hSh.n1
    have hn40 := hSh.n40
    obtain ⟨k3, k4⟩ := inB_iff.1 k1
    obtain ⟨ci, rfl⟩ : ∃ ci : Nat, cell = (ci : Int) := ⟨cell.toNat, by omega⟩
    have hci : ci < n := by omega
    have hci' : (ci : Int) < (n : Int) := by omega
    have HRN2 := Lib.hid (fun (W : World) (hb : Below w.heap.size w W) (h2 : witL n ss m bs (ci : Int) d = []) => HRN.out W hb hE h2)
    have HRY2 := Lib.hid (fun (W : World) (hb : Below w.heap.size w W) g t h2 ga gc hN => HRY.out W hb hE g t h2 ga gc hN)
    have HCN := Lib.hid k2
    subst hE
    clear HRZ HRN HRY HCK k1 k2 hSh
    obtain ⟨b, off, rfl, hbB, c0, c1⟩ := (HS.out.below (l3.mono hBw)).get hci
    have hbz : b < V1.heap.size := by have := l3.size; omega
    cases h1 : inB d (ss ci).lo (ss ci).hi
    · have HE := Lib.hid (wit_out (m := m) (bs := bs) hci h1)
      go_upto_region 4 with (fail)
      (refine wp_region_calm (V1.heap.size) (by kernel_rfl) (by kernel_rfl) ?_; (repeat (first | go_big_quiet_step ((go_at_call 50; exact Calls.calm_same (in_any _ _ _ _))) | quiet_step ((go_at_call 50; exact Calls.calm_same (in_any _ _ _ _))))); refine wpQuiet_nil ?_; intro _ hw'; obtain ⟨xq, hw''⟩ := hw'; subst hw'')
      go_wp2
      exact HRN2.out _ (l3.trans ((Calm.below _).mono l3.size)) HE.out
    · have HWA := Lib.hid (wit_all (m := m) (bs := bs) hci h1)
      have HC2 := Lib.hid (check_narrow HCN.out hci (s := ⟨d, d⟩) ⟨(inB_iff.1 h1).1, Int.le_refl d, (inB_iff.1 h1).2⟩)
      go_upto_region 4 with (fail)
      (refine wp_region_calm (V1.heap.size) (by kernel_rfl) (by kernel_rfl) ?_; (repeat (first | go_big_quiet_step ((go_at_call 50; exact Calls.calm_same (in_any _ _ _ _))) | quiet_step ((go_at_call 50; exact Calls.calm_same (in_any _ _ _ _))))); refine wpQuiet_nil ?_; intro _ hw'; obtain ⟨xq, hw''⟩ := hw'; subst hw'')
      have HL2 := Lib.hid (LI_step HL1.out (Calm.below xq))
      have HB2 := Lib.hid (((Calm.below xq).block _ l2).trans HB1.out)
      clear HL1 HB1 l0 l1 l2 l3 c0 c1
      generalize Calm.val xq = V2 at *
      obtain ⟨l0, l1, l2, l3⟩ := HL2.out
      have l4 := frozen_of_row _ _ 0 _ _ HB2.out
      have HCL := Lib.hid (cloneS_any (some ⟨b, off, none⟩) n c ss V2 ((HS.out.below (l3.mono hBw)).up (by have := l3.size; omega)) (by omega) (by omega))
      go_upto_region 7 with (go_at_call 51; refine HCL.out.mono ?_; rintro e W3 ⟨ca, cc, rfl, hown, hb3⟩; have m2 := (hb3.block _ l2).trans HB2.out; have m3 := frozen_of_row _ _ 0 _ _ m2; have m4 := (cell_of_row _ _ 0 _ _ _ m2).trans (show _ = some (Value.slice (some ⟨b, off, none⟩) n c) from rfl); have HW3 := Lib.hid (l3.trans (hb3.mono l3.size)); have HOW := Lib.hid hown; have HM2 := Lib.hid m2; clear hown hb3 m2)
      obtain ⟨g, rfl, hg1, hg2⟩ := own_at HOW.out (by omega)
      have hgn : w.heap.size < g := by omega
      have HB4 := Lib.hid (show (W3.setCell ⟨w.heap.size, 0, none⟩ (.slice (some ⟨g, 0, none⟩) n cc)).heap[w.heap.size]? = some (.cells #[.slice (some ⟨g, 0, none⟩) n cc, .slice ba m bc] 25) from heap_setCell_same W3 w.heap.size 0 _ _ (.slice (some ⟨g, 0, none⟩) n cc) HM2.out)
      have HO4 := Lib.hid (ownsRow_setCell_below HOW.out (a := ⟨w.heap.size, 0, none⟩) l2 (.slice (some ⟨g, 0, none⟩) n cc))
      have HW4 := Lib.hid (HW3.out.setCell (p := ⟨w.heap.size, 0, none⟩) (Nat.le_refl _) (.slice (some ⟨g, 0, none⟩) n cc))
      have hz4 : (W3.setCell ⟨w.heap.size, 0, none⟩ (.slice (some ⟨g, 0, none⟩) n cc)).heap.size = W3.heap.size := by simp
      clear HCL HL2 HB2 l0 l1 l3 l4 m3 m4 HM2 HOW HW3
      generalize World.setCell W3 _ _ = W4 at *
      have b0 := cell_of_row _ _ 0 _ _ _ HB4.out
      have f0 := (HO4.out.cellAt (ci * 2) (by omega)).trans (sC_get (by omega))
      have f1 := (HO4.out.cellAt (ci * 2 + 1) (by omega)).trans (sC_get (by omega))
      rw [if_pos (by omega)] at f0
      rw [if_neg (by omega)] at f1
      have f2 := own_frozen HO4.out (ci * 2)
      have f3 := own_frozen HO4.out (ci * 2 + 1)
      have HO5 := Lib.hid (own_set (own_set HO4.out (j := ci * 2) (by omega) (.int .i64 d)) (j := ci * 2 + 1) (by omega) (.int .i64 d))
      rw [sC_set hci] at HO5
      have HW5 := Lib.hid ((HW4.out.setCell (p := ⟨g, ci * 2, none⟩) (by show w.heap.size ≤ g; omega) (.int .i64 d)).setCell (p := ⟨g, ci * 2 + 1, none⟩) (by show w.heap.size ≤ g; omega) (.int .i64 d))
      have HB5 := Lib.hid (((heap_setCell_other _ ⟨g, ci * 2 + 1, none⟩ w.heap.size (.int .i64 d) (by show w.heap.size ≠ g; omega)).trans (heap_setCell_other W4 ⟨g, ci * 2, none⟩ w.heap.size (.int .i64 d) (by show w.heap.size ≠ g; omega))).trans HB4.out)
      clear HO4 HW4 HB4
      go_upto_region 8 with (fail)
      generalize World.setCell (World.setCell W4 _ _) _ _ = W5 at *
      have c0 := cell_of_row _ _ 0 _ _ _ HB5.out
      have c1 := cell_of_row _ _ 1 _ _ _ HB5.out
      have c2 := (Array.getElem?_eq_some_iff.1 HB5.out).1
      have HNS := Lib.hid ((own_spans (w := w) HO5.out (by omega) (by omega)).spans (by unfold maxLen; omega))
      have HFI := Lib.hid (First_any (some ⟨g, 0, none⟩) n cc ba m bc (setBox ss ci ⟨d, d⟩) bs W5 W5.heap.size (Nat.le_refl _) HNS.out ((HM.out.below (HW5.out.mono hBw)).up (by have := HW5.out.size; omega)))
      clear b0 f0 f1 f2 f3 HO5 HB5 HNS
      cases hw : witL n ss m bs (ci : Int) d with
      | nil =>
        have HFI2 := Lib.hid (HFI.out.mono (R' := fun e w' => Below W5.heap.size W5 w' ∧ e = .returned (.tuple #[.slice none 0 0, .int .i64 5])) fun e w' h => by
          have h2 := h.2
          rw [if_pos HC2.out, HWA.out, hw] at h2
          exact ⟨h.1, h2⟩)
        go_wp2_with (go_at_call 17; refine HFI2.out.mono ?_; rintro e W6 ⟨hb6, rfl⟩)
        exact HRN2.out _ (HW5.out.trans (hb6.mono HW5.out.size)) hw
      | cons q t =>
        have HFI2 := Lib.hid (HFI.out.mono (R' := fun e w' => Below W5.heap.size W5 w' ∧ ∃ fa fc, e = .returned (.tuple #[.slice fa n fc, .int .i64 0]) ∧ NewInts W5 w' fa n (fOf q)) fun e w' h => by
          have h2 := h.2
          rw [if_pos HC2.out, HWA.out, hw] at h2
          exact ⟨h.1, h2⟩)
        go_wp2_with (go_at_call 17; refine HFI2.out.mono ?_; rintro e W6 ⟨hb6, fa, fc, rfl, hni⟩)
        exact HRY2.out _ (HW5.out.trans (hb6.mono HW5.out.size)) q t hw fa fc (by obtain ⟨x, e1, e2, e3, e4⟩ := hni; exact ⟨x, e1, by have := HW5.out.size; omega, e3, e4⟩)
  · have hne : (E == 0) = false := by rw [beq_eq_false_iff_ne]; exact hE
    have hne2 : (E != 0) = true := by rw [bne, hne]; rfl
    have HE := Lib.hid (fun (W : World) (hb : Below w.heap.size w W) => HRZ.out W hb hE)
    clear hE HRZ HRN HRY HCK
    go_wp2
    exact HE.out _ l3
end Go.Proofs.YtollfpnfnciekaaDoor
