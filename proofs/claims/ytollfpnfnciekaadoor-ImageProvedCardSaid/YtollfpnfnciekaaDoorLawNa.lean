/- The walks of the statements' narrowed and refuted. -/
import Derived.Test.YtollfpnfnciekaaDoorGrA
import Derived.Test.YtollfpnfnciekaaDoorGtA
import Derived.Test.YtollfpnfnciekaaDoorEiLaw
import Derived.Test.YtollfpnfnciekaaDoorWitLaw
import Derived.Test.YtollfpnfnciekaaDoorGsA
namespace Go.Proofs.YtollfpnfnciekaaDoor
open Go.RowKit
set_option linter.unusedVariables false
set_option linter.unusedSimpArgs false
set_option maxRecDepth 100000 in
set_option maxHeartbeats 2000000 in
theorem narrowed_any (a : Option Addr) (n c : Nat) (ba : Option Addr) (m bc : Nat) (ss : Nat → SV) (ci : Nat) (lo hi : Int) (w : World) (hci : ci < n) (hn : n ≤ 40) (hX : Spans w.heap.size w a n ss) :
    Calls Tryd.prog 29 #[imageV a n c ba m bc, .int .i64 (ci : Int), .agg #[.int .i64 lo, .int .i64 hi]] w fun e w' => (∃ g gc, e = .returned (imageV (some ⟨g, 0, none⟩) n gc ba m bc) ∧ Spans w'.heap.size w' (some ⟨g, 0, none⟩) n (setBox ss ci ⟨lo, hi⟩) ∧ (n ≤ gc ∧ gc ≤ maxLen) ∧ w.heap.size ≤ g ∧ g < w'.heap.size) ∧ Below w.heap.size w w' := by
  obtain ⟨b, off, rfl, hbz, _⟩ := hX.get hci
  have hcell : ∀ i, i < n → w.cell? ⟨b, off + i * 2, none⟩ = some (.int .i64 (ss i).lo) ∧ w.cell? ⟨b, off + i * 2 + 1, none⟩ = some (.int .i64 (ss i).hi) := by
    rcases hX.2 with h | ⟨b2, off2, h1, _, h3⟩
    · omega
    · injection h1 with h1
      injection h1 with e1 e2
      subst e1 e2
      exact h3
  have HSC := Lib.hid (spans_cells hcell)
  have hkn : (ci : Int) < (n : Int) := by omega
  obtain ⟨i0, hi0', hz0, hz1, hz2⟩ := info_parts info_span
  have hb63 : 0 + n ≤ maxLen := by unfold maxLen; omega
  have hb47 : (0 + n) * 16 ≤ 140737488355328 := by omega
  clear hX hcell
  go_enter Tryd.func29, Tryd.ntmps29
  go_upto_region 1 with (fail)
  obtain ⟨hVb, hVz, e1, e2, e3⟩ := three_allocs w (.cells #[.slice (some ⟨b, off, none⟩) n c, .slice ba m bc] 25) (.cells #[.int .i64 lo, .int .i64 hi] 41) (.cells #[.slice none 0 0, .slice none 0 0] 25)
  have HB1 := Lib.hid hVb
  have HZ := Lib.hid hVz
  have HE1 := Lib.hid e1
  have HE2 := Lib.hid e2
  have HE3 := Lib.hid e3
  clear hVb hVz e1 e2 e3
  generalize World.alloc (World.alloc (World.alloc w _) _) _ = V at *
  have y0 := (cell_of_row _ _ 0 _ _ _ HE1.out).trans (show _ = some (Value.slice (some ⟨b, off, none⟩) n c) from rfl)
  have HCV := Lib.hid (fun j u h => ((World.cell?_of_block (HB1.out.block _ (World.block_lt_of_cell? w _ (HSC.out j u h)))).trans (HSC.out j u h)))
  go_upto_region 2 with (at_builtin; refine wpList_append_lies _ rfl _ _ 22 rfl V.heap.size 41 i0 _ 2 16 Tryd.underlying22 hi0' hz0 hz1 hz2 rfl (by decide) (.slice none 0 0) 0 [] rfl (World.ownsRow_nil _ _ _ _) ⟨b, off, none⟩ n c (sC ss n) rfl sC_len HCV.out sC_one (by omega) hb63 hb47 (Nat.le_refl _) _ rfl ?_; intro g cap W2 hown hgrow hat hlt; have hzV := HZ.out; have hB2 : Below V.heap.size V W2 := ⟨hgrow.os, hgrow.tape, hgrow.output, hgrow.size, fun b hb => hgrow.block b hb (by simp [Value.ownBlock])⟩; have r1 := (hB2.block w.heap.size (by omega)).trans HE1.out; have r2 := (hB2.block (w.heap.size + 1) (by omega)).trans HE2.out; have r3 := (hB2.block (w.heap.size + 1 + 1) (by omega)).trans HE3.out; have z0 := (cell_of_row _ _ 0 _ _ _ r1).trans (show _ = some (Value.slice (some ⟨b, off, none⟩) n c) from rfl); have z1 := frozen_of_row _ _ 0 _ _ r1; have hBw := HB1.out.trans (hB2.mono HB1.out.size); clear y0)
  rw [Nat.zero_add, List.nil_append] at hown
  try rw [Nat.zero_add] at hown
  have hgV : V.heap.size ≤ g := by
    rcases hat with h | h
    · cases h
    · omega
  have R1 := Lib.hid (show (W2.setCell ⟨w.heap.size, 0, none⟩ (.slice (some ⟨g, 0, none⟩) n cap)).heap[w.heap.size]? = some (.cells #[.slice (some ⟨g, 0, none⟩) n cap, .slice ba m bc] 25) from heap_setCell_same W2 w.heap.size 0 _ _ _ r1)
  have R2 := Lib.hid ((heap_setCell_other W2 ⟨w.heap.size, 0, none⟩ (w.heap.size + 1) (.slice (some ⟨g, 0, none⟩) n cap) (by show w.heap.size + 1 ≠ w.heap.size; omega)).trans r2)
  have R3 := Lib.hid ((heap_setCell_other W2 ⟨w.heap.size, 0, none⟩ (w.heap.size + 1 + 1) (.slice (some ⟨g, 0, none⟩) n cap) (by show w.heap.size + 1 + 1 ≠ w.heap.size; omega)).trans r3)
  have HO := Lib.hid (ownsRow_setCell_below hown (a := ⟨w.heap.size, 0, none⟩) (by show w.heap.size < V.heap.size; omega) (.slice (some ⟨g, 0, none⟩) n cap))
  have HBW := Lib.hid (hBw.setCell (p := ⟨w.heap.size, 0, none⟩) (Nat.le_refl _) (.slice (some ⟨g, 0, none⟩) n cap))
  have HZV := Lib.hid hzV
  have HGV := Lib.hid hgV
  clear hown hgrow hat hlt hB2 r1 r2 r3 z0 z1 hBw hzV hgV HB1 HZ HE1 HE2 HE3 HCV HSC
  try simp only [Nat.zero_add]
  generalize World.setCell W2 _ _ = W3 at *
  have y0 := (cell_of_row _ _ 0 _ _ _ R1.out).trans (show _ = some (Value.slice (some ⟨g, 0, none⟩) n cap) from rfl)
  have y1 := (cell_of_row _ _ 0 _ _ _ R2.out).trans (show _ = some (Value.int .i64 lo) from rfl)
  have y2 := (cell_of_row _ _ 1 _ _ _ R2.out).trans (show _ = some (Value.int .i64 hi) from rfl)
  have f0 := (HO.out.cellAt (ci * 2) (by omega)).trans (sC_get (by omega))
  have f1 := (HO.out.cellAt (ci * 2 + 1) (by omega)).trans (sC_get (by omega))
  rw [if_pos (by omega)] at f0
  rw [if_neg (by omega)] at f1
  have f2 := own_frozen HO.out (ci * 2)
  have f3 := own_frozen HO.out (ci * 2 + 1)
  have HO2 := Lib.hid (own_set (own_set HO.out (j := ci * 2) (by omega) (.int .i64 lo)) (j := ci * 2 + 1) (by omega) (.int .i64 hi))
  rw [sC_set hci] at HO2
  have hgw : w.heap.size + 1 + 1 < g := by have := HGV.out; have := HZV.out; omega
  have HBW2 := Lib.hid ((HBW.out.setCell (p := ⟨g, ci * 2, none⟩) (by show w.heap.size ≤ g; omega) (.int .i64 lo)).setCell (p := ⟨g, ci * 2 + 1, none⟩) (by show w.heap.size ≤ g; omega) (.int .i64 hi))
  have R1' := Lib.hid (((heap_setCell_other _ ⟨g, ci * 2 + 1, none⟩ w.heap.size (.int .i64 hi) (by show w.heap.size ≠ g; omega)).trans (heap_setCell_other W3 ⟨g, ci * 2, none⟩ w.heap.size (.int .i64 lo) (by show w.heap.size ≠ g; omega))).trans R1.out)
  have R3' := Lib.hid (((heap_setCell_other _ ⟨g, ci * 2 + 1, none⟩ (w.heap.size + 1 + 1) (.int .i64 hi) (by show w.heap.size + 1 + 1 ≠ g; omega)).trans (heap_setCell_other W3 ⟨g, ci * 2, none⟩ (w.heap.size + 1 + 1) (.int .i64 lo) (by show w.heap.size + 1 + 1 ≠ g; omega))).trans R3.out)
  clear R1 R2 R3 HO HBW
  go_upto_region 3 with (fail)
  clear y0 y1 y2 f0 f1 f2 f3
  generalize World.setCell (World.setCell W3 _ _) _ _ = W4 at *
  have y0 := (cell_of_row _ _ 0 _ _ _ R1'.out).trans (show _ = some (Value.slice (some ⟨g, 0, none⟩) n cap) from rfl)
  have y1 := (cell_of_row _ _ 1 _ _ _ R1'.out).trans (show _ = some (Value.slice ba m bc) from rfl)
  have x0 := (cell_of_row _ _ 0 _ _ _ R3'.out).trans (show _ = some (Value.slice none 0 0) from rfl)
  have x1 := (cell_of_row _ _ 1 _ _ _ R3'.out).trans (show _ = some (Value.slice none 0 0) from rfl)
  have x2 := frozen_of_row _ _ 0 _ _ R3'.out
  have x3 := frozen_of_row _ _ 1 _ _ R3'.out
  have R4 := Lib.hid (show ((W4.setCell ⟨w.heap.size + 1 + 1, 0, none⟩ (.slice (some ⟨g, 0, none⟩) n cap)).setCell ⟨w.heap.size + 1 + 1, 1, none⟩ (.slice ba m bc)).heap[w.heap.size + 1 + 1]? = some (.cells #[.slice (some ⟨g, 0, none⟩) n cap, .slice ba m bc] 25) from heap_setCell_same _ _ 1 _ _ _ (heap_setCell_same W4 _ 0 _ _ _ R3'.out))
  have hzV := HZV.out
  have HO4 := Lib.hid (ownsRow_setCell_below (ownsRow_setCell_below HO2.out (a := ⟨w.heap.size + 1 + 1, 0, none⟩) (by show w.heap.size + 1 + 1 < V.heap.size; omega) (.slice (some ⟨g, 0, none⟩) n cap)) (a := ⟨w.heap.size + 1 + 1, 1, none⟩) (by show w.heap.size + 1 + 1 < V.heap.size; omega) (.slice ba m bc))
  have HB4 := Lib.hid ((HBW2.out.setCell (p := ⟨w.heap.size + 1 + 1, 0, none⟩) (by show w.heap.size ≤ w.heap.size + 1 + 1; omega) (.slice (some ⟨g, 0, none⟩) n cap)).setCell (p := ⟨w.heap.size + 1 + 1, 1, none⟩) (by show w.heap.size ≤ w.heap.size + 1 + 1; omega) (.slice ba m bc))
  clear R1' R3' HO2 HBW2
  go_wp2
  generalize World.setCell (World.setCell W4 _ _) _ _ = W5 at *
  have d0 := (cell_of_row _ _ 0 _ _ _ R4.out).trans (show _ = some (Value.slice (some ⟨g, 0, none⟩) n cap) from rfl)
  have d1 := (cell_of_row _ _ 1 _ _ _ R4.out).trans (show _ = some (Value.slice ba m bc) from rfl)
  obtain ⟨ga, gc, he, hN, hc1, hc2, _⟩ := with_done (w := w) HO4.out (by omega) (by omega) HB4.out
  injection he with he
  injection he with q1 q2 q3
  subst q1 q3
  exact bodyPost_ret (v := imageV (some ⟨g, 0, none⟩) n cap ba m bc) (by simp [results, Tryd.results29, go_sem, d0, d1]) rfl ⟨⟨_, _, rfl, hN.spans (by unfold maxLen; omega), ⟨hc1, hc2⟩, by omega, by obtain ⟨x, hx, _, hx3, _⟩ := hN; injection hx with hx; injection hx with hx; omega⟩, HB4.out⟩
section
variable {a : Option Addr} {n c : Nat} {ba : Option Addr} {m bc : Nat} {ss : Nat → SV} {bs : Nat → BM} {W : World}
theorem na_refute6 (hcap : n ≤ c ∧ c ≤ maxLen) (hS : Spans W.heap.size W a n ss) (hM : Beams W.heap.size W ba m bs) (hC : checkN n ss m bs = 0) (hA : allF n ss m bs ≠ []) : Calls Tryd.prog 30 #[imageV a n c ba m bc] W fun e w' => e = .returned (.tuple #[.slice none 0 0, .int .i64 6]) ∧ Below W.heap.size W w' :=
  (Refute_any a n c ba m bc ss bs hcap W _ (Nat.le_refl _) hS hM).mono fun e w' h => by
    have h2 := h.2
    rw [if_pos hC] at h2
    revert h2
    cases hl : allF n ss m bs with
    | nil => exact absurd hl hA
    | cons g t => exact fun h2 => ⟨h2, h.1⟩
theorem na_refute3 (hcap : n ≤ c ∧ c ≤ maxLen) (hS : Spans W.heap.size W a n ss) (hM : Beams W.heap.size W ba m bs) (hC : checkN n ss m bs = 0) (hA : allF n ss m bs = []) (hP : ¬ (prfF n ss m bs).length ≤ 4000) : Calls Tryd.prog 30 #[imageV a n c ba m bc] W fun e w' => e = .returned (.tuple #[.slice none 0 0, .int .i64 3]) ∧ Below W.heap.size W w' :=
  (Refute_any a n c ba m bc ss bs hcap W _ (Nat.le_refl _) hS hM).mono fun e w' h => by
    have h2 := h.2
    rw [if_pos hC, hA] at h2
    dsimp only at h2
    rw [if_neg hP] at h2
    exact ⟨h2, h.1⟩
theorem na_refute0 (hcap : n ≤ c ∧ c ≤ maxLen) (hS : Spans W.heap.size W a n ss) (hM : Beams W.heap.size W ba m bs) (hC : checkN n ss m bs = 0) (hA : allF n ss m bs = []) (hP : (prfF n ss m bs).length ≤ 4000) : Calls Tryd.prog 30 #[imageV a n c ba m bc] W fun e w' => (∃ pa q pc ps, e = .returned (.tuple #[.slice pa q pc, .int .i64 0]) ∧ Nodes w'.heap.size w' pa q ps ∧ q ≤ 4000 ∧ holdsB n ss m bs q ps = true) ∧ Below W.heap.size W w' :=
  (Refute_any a n c ba m bc ss bs hcap W _ (Nat.le_refl _) hS hM).mono fun e w' h => by
    have h2 := h.2
    rw [if_pos hC, hA] at h2
    dsimp only at h2
    rw [if_pos hP] at h2
    obtain ⟨pa, pc, L, ob, he, hO, hL⟩ := h2
    have hm := (checkN_shape hC).m20
    have hq : L.length ≤ 4000 := by rw [← List.length_map (f := NM.nv), hL]; exact hP
    exact ⟨⟨pa, L.length, pc, nodesL L, he, outAt_nodes hO (by unfold maxLen; omega), hq, refute_holds hC hA hL hq⟩, h.1⟩
end
set_option maxRecDepth 100000 in
set_option maxHeartbeats 2000000 in
theorem refuted_any (a : Option Addr) (n c : Nat) (ba : Option Addr) (m bc : Nat) (ss : Nat → SV) (bs : Nat → BM) (hcap : n ≤ c ∧ c ≤ maxLen) (w : World) (hS : Spans w.heap.size w a n ss) (hM : Beams w.heap.size w ba m bs) (hC : checkN n ss m bs = 0) (hA : allF n ss m bs = []) :
    Calls Tryd.prog 28 #[imageV a n c ba m bc] w fun e w' => e = .returned (.bool true) ∧ Below w.heap.size w w' := by
  by_cases hP : (prfF n ss m bs).length ≤ 4000
  · have HRE := Lib.hid (fun (W : World) (hb : Below w.heap.size w W) => na_refute0 (bc := bc) hcap ((hS.below hb).up hb.size) ((hM.below hb).up hb.size) hC hA hP)
    have HH2 := Lib.hid (fun (W : World) (hb : Below w.heap.size w W) (pa : Option Addr) (q pc : Nat) (ps : Nat → NM) (hN : Nodes W.heap.size W pa q ps) (hq : q ≤ 4000) (hH : holdsB n ss m bs q ps = true) => show Calls Tryd.prog 31 #[imageV a n c ba m bc, .slice pa q pc] W (fun e w' => e = .returned (.bool true) ∧ Below W.heap.size W w') from by
      have := Holds_any a n c ba m bc ss bs pa q pc ps hcap (by unfold maxLen; omega) W W.heap.size (Nat.le_refl _) ((hS.below hb).up hb.size) ((hM.below hb).up hb.size) hN
      rwa [hH] at this)
    have HR2 := Lib.hid (fun (W : World) (hb : Below w.heap.size w W) (pa : Option Addr) (q pc : Nat) (ps : Nat → NM) (hN : Nodes W.heap.size W pa q ps) (hq : q ≤ 4000) (hH : holdsB n ss m bs q ps = true) => show Calls Tryd.prog 53 #[imageV a n c ba m bc, .slice pa q pc] W (fun e w' => e = .returned (.bool true) ∧ Below W.heap.size W w') from by
      have := r8Holds_any a n c ba m bc ss bs pa q pc ps (by unfold maxLen; omega) W W.heap.size (Nat.le_refl _) ((hS.below hb).up hb.size) ((hM.below hb).up hb.size) hN hC
      rwa [hH] at this)
    clear hS hM hC hA hP
    go_enter Tryd.func28, Tryd.ntmps28
    go_upto_region 1 with (fail)
    have HL := Lib.hid (show LI a n c ba m bc w (w.alloc (.cells #[.slice a n c, .slice ba m bc] 25)) from LI_start)
    generalize World.alloc w _ = V at *
    obtain ⟨l0, l1, l2, l3⟩ := HL.out
    go_wp2_with (first | (go_at_call 30; refine (HRE.out _ l3).mono ?_; rintro e wb ⟨⟨pa, q, pc, ps, rfl, hNP, hq, hH⟩, hbb⟩; have HP := Lib.hid hNP; have HQ := Lib.hid hq; have HHH := Lib.hid hH; clear hNP hq hH; have HLx := Lib.hid (LI_step HL.out hbb); clear HL hbb; have HL := HLx; clear HLx; (try clear l0 l1 l2 l3); obtain ⟨l0, l1, l2, l3⟩ := HL.out) | (go_at_call 31; refine (HH2.out _ l3 _ _ _ _ HP.out HQ.out HHH.out).mono ?_; rintro e wc ⟨rfl, hbc⟩; have HPx := Lib.hid ((HP.out.below hbc).up (hbc).size); clear HP; have HP := HPx; clear HPx; have HLx := Lib.hid (LI_step HL.out hbc); clear HL hbc; have HL := HLx; clear HLx; (try clear l0 l1 l2 l3); obtain ⟨l0, l1, l2, l3⟩ := HL.out) | (go_at_call 53; refine (HR2.out _ l3 _ _ _ _ HP.out HQ.out HHH.out).mono ?_; rintro e wd ⟨rfl, hbd⟩; have HLx := Lib.hid (LI_step HL.out hbd); clear HL hbd; have HL := HLx; clear HLx; (try clear l0 l1 l2 l3); obtain ⟨l0, l1, l2, l3⟩ := HL.out))
    go_ret
    exact ⟨rfl, l3⟩
  · have HRE := Lib.hid (fun (W : World) (hb : Below w.heap.size w W) => na_refute3 (bc := bc) hcap ((hS.below hb).up hb.size) ((hM.below hb).up hb.size) hC hA hP)
    clear hS hM hC hA hP
    go_enter Tryd.func28, Tryd.ntmps28
    go_upto_region 1 with (fail)
    have HL := Lib.hid (show LI a n c ba m bc w (w.alloc (.cells #[.slice a n c, .slice ba m bc] 25)) from LI_start)
    generalize World.alloc w _ = V at *
    obtain ⟨l0, l1, l2, l3⟩ := HL.out
    go_wp2_with (go_at_call 30; refine (HRE.out _ l3).mono ?_; rintro e wb ⟨rfl, hbb⟩; have HLx := Lib.hid (LI_step HL.out hbb); clear HL hbb; have HL := HLx; clear HLx; (try clear l0 l1 l2 l3); obtain ⟨l0, l1, l2, l3⟩ := HL.out)
    go_ret
    exact ⟨rfl, l3⟩
end Go.Proofs.YtollfpnfnciekaaDoor
