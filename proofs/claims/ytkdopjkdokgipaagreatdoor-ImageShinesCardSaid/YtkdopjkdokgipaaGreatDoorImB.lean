/- The walks of image.shape, checked, Check. -/
import Derived.Test.YtkdopjkdokgipaaGreatDoorImA
namespace Go.Proofs.YtkdopjkdokgipaaGreatDoor
open Go.RowKit
set_option linter.unusedVariables false
set_option linter.unusedSimpArgs false
theorem shapeB_span {n i : Nat} {ss : Nat → SV} {m : Nat} {bs : Nat → BM} (hi : i < n) (h : spanB (ss i) 1000 = false) : shapeB n ss m bs = false := by
  unfold shapeB; rw [allUpto_false hi h, Bool.false_and]
theorem shapeB_beam {n i : Nat} {ss : Nat → SV} {m : Nat} {bs : Nat → BM} (hi : i < m) (h : beamB n (bs i) = false) : shapeB n ss m bs = false := by
  unfold shapeB; rw [allUpto_false hi h, Bool.false_and, Bool.and_false]
theorem shapeB_many {n : Nat} {ss : Nat → SV} {m : Nat} {bs : Nat → BM} (h : inB n 1 40 = false ∨ 20 < m) : shapeB n ss m bs = false := by
  unfold shapeB
  rcases h with h | h
  · rw [h, Bool.false_and, Bool.and_false, Bool.and_false]
  · rw [decide_eq_false (p := m ≤ 20) (by omega), Bool.and_false, Bool.and_false, Bool.and_false]
theorem shapeB_yes {n : Nat} {ss : Nat → SV} {m : Nat} {bs : Nat → BM} (h1 : inB n 1 40 = true) (h2 : ¬ 20 < m) (h3 : ∀ j, j < n → spanB (ss j) 1000 = true) (h4 : ∀ j, j < m → beamB n (bs j) = true) : shapeB n ss m bs = true := by
  unfold shapeB
  rw [h1, allUpto_true h3, allUpto_true h4, decide_eq_true (p := m ≤ 20) (by omega)]; rfl
theorem beamB_weight {n : Nat} {b : BM} {i : Nat} (hi : i < b.wn) (h : inB (b.ws i) 1 1000000 = false) : beamB n b = false := by
  unfold beamB; rw [allUpto_false hi h, Bool.false_and]
theorem beamB_head {n : Nat} {b : BM} (h : (b.wn == b.cn) = false ∨ spanB ⟨b.lo, b.hi⟩ 1000000000000 = false ∨ setB n b.cn b.cs = false) : beamB n b = false := by
  unfold beamB
  rcases h with h | h | h <;> rw [h] <;> simp
theorem beamB_yes {n : Nat} {b : BM} (h1 : (b.wn == b.cn) = true) (h2 : spanB ⟨b.lo, b.hi⟩ 1000000000000 = true) (h3 : setB n b.cn b.cs = true) (h4 : ∀ i, i < b.wn → inB (b.ws i) 1 1000000 = true) : beamB n b = true := by
  unfold beamB; rw [h1, h2, h3, allUpto_true h4]; rfl
/-- a beam in a box -/
abbrev BX (x : Nat) (ca : Option Addr) (cn cc : Nat) (wa : Option Addr) (wn wc : Nat) (lo hi : Int) (W : World) : Prop := x < W.heap.size ∧ W.cell? ⟨x, 0, none⟩ = some (.slice ca cn cc) ∧ W.cell? ⟨x, 1, none⟩ = some (.slice wa wn wc) ∧ W.cell? ⟨x, 2, none⟩ = some (.int .i64 lo) ∧ W.cell? ⟨x, 3, none⟩ = some (.int .i64 hi)
theorem BX_step {x : Nat} {ca : Option Addr} {cn cc : Nat} {wa : Option Addr} {wn wc : Nat} {lo hi : Int} {W wy : World} (h : BX x ca cn cc wa wn wc lo hi W) (hb : Below W.heap.size W wy) : BX x ca cn cc wa wn wc lo hi wy := by
  obtain ⟨h0, h1, h2, h3, h4⟩ := h
  have c := (bcell hb).1
  exact ⟨by have := hb.size; omega, (c _ _ h0).trans h1, (c _ _ h0).trans h2, (c _ _ h0).trans h3, (c _ _ h0).trans h4⟩
theorem BX_new {ca : Option Addr} {cn cc : Nat} {wa : Option Addr} {wn wc : Nat} {lo hi : Int} {W : World} {t : TypeId} : BX W.heap.size ca cn cc wa wn wc lo hi (W.alloc (.cells #[.slice ca cn cc, .slice wa wn wc, .int .i64 lo, .int .i64 hi] t)) :=
  ⟨by simp, cell_of_row _ _ _ _ _ _ (heap_alloc_new W _), cell_of_row _ _ _ _ _ _ (heap_alloc_new W _), cell_of_row _ _ _ _ _ _ (heap_alloc_new W _), cell_of_row _ _ _ _ _ _ (heap_alloc_new W _)⟩
set_option maxRecDepth 100000 in
set_option maxHeartbeats 2000000 in
theorem shape_any (a : Option Addr) (n c : Nat) (ba : Option Addr) (m bc : Nat) (ss : Nat → SV) (bs : Nat → BM) (w : World) (B : Nat) (hBw : B ≤ w.heap.size) (hS : Spans B w a n ss) (hM : Beams B w ba m bs) :
    Calls Tryz.prog 86 #[imageV a n c ba m bc] w fun e w' => e = .returned (.bool (shapeB n ss m bs)) ∧ Below w.heap.size w w' := by
  have hn := hS.1
  have hm := hM.1
  have hnl := hn
  unfold maxLen at hn hm
  have HS := Lib.hid hS
  have HM := Lib.hid hM
  have HF1 := Lib.hid (@shapeB_span n · ss m bs)
  have HF2 := Lib.hid (@shapeB_beam n · ss m bs)
  have HF3 := Lib.hid (@shapeB_many n ss m bs)
  have HF4 := Lib.hid (@shapeB_yes n ss m bs)
  have HNL := Lib.hid hnl
  clear hS hM hnl
  generalize shapeB n ss m bs = RES at *
  cases h1 : inB n 1 40
  · have HF := Lib.hid (HF3.out (.inl h1))
    go_enter Tryz.func86, Tryz.ntmps86
    go_wp2_with (go_at_call 49; refine (in_any _ _ _ _).mono ?_; rintro e w' ⟨rfl, rfl⟩)
    go_ret
    exact ⟨ret_bool HF.out.symm, (Below.refl _ _).alloc (Nat.le_refl _) _⟩
  · have H1 := Lib.hid h1
    by_cases h2 : 20 < m
    · have h2' : (20 : Int) < (m : Int) := by omega
      have HF := Lib.hid (HF3.out (.inr h2))
      go_enter Tryz.func86, Tryz.ntmps86
      go_wp2_with (go_at_call 49; refine (in_any _ _ _ _).mono ?_; rintro e w' ⟨rfl, rfl⟩)
      go_ret
      exact ⟨ret_bool HF.out.symm, (Below.refl _ _).alloc (Nat.le_refl _) _⟩
    · have h2' : ¬ (20 : Int) < (m : Int) := by omega
      go_enter Tryz.func86, Tryz.ntmps86
      go_wp2_with (go_at_call 49; refine (in_any _ _ _ _).mono ?_; rintro e w' ⟨rfl, rfl⟩)
      go_loopw [23] (fun t wr => ∃ k : Nat, k ≤ n ∧ t = .int .i64 (k : Int) ∧ Hid (∀ j, j < k → spanB (ss j) 1000 = true) ∧ Hid (LI a n c ba m bc w wr)) (fun t _ => n - (intOf t).toNat)
      case atStart => exact ⟨0, Nat.zero_le _, rfl, Lib.hid (fun j h => by omega), Lib.hid LI_start⟩
      case round =>
        obtain ⟨k, hk, rfl, HALL, HL⟩ := hrel
        obtain ⟨l0, l1, l2, l3⟩ := HL.out
        by_cases hlt : k < n
        · have hlt' : (k : Int) < (n : Int) := by omega
          obtain ⟨b, off, rfl, hbB, c0, c1⟩ := (HS.out.below (l3.mono hBw)).get hlt
          have hbz : b < wr.heap.size := by omega
          cases h3 : spanB (ss k) 1000
          · have HF := Lib.hid (HF1.out _ hlt h3)
            have h3' : spanB ⟨(ss k).lo, (ss k).hi⟩ 1000 = false := h3
            go_wp2_with (go_at_call 32; refine (span_any _ _ _ _).mono ?_; rintro e wy ⟨rfl, hby⟩; rw [h3']; have hb2 : Below wr.heap.size wr wy := ((Below.refl _ _).alloc (Nat.le_refl _) _).trans (hby.mono (by simp)); clear hby)
            go_ret
            exact ⟨ret_bool HF.out.symm, l3.trans (hb2.mono l3.size)⟩
          · have H3 := Lib.hid h3
            have h3' : spanB ⟨(ss k).lo, (ss k).hi⟩ 1000 = true := h3
            clear h3
            go_wp2_with (go_at_call 32; refine (span_any _ _ _ _).mono ?_; rintro e wy ⟨rfl, hby⟩; rw [h3']; have hb2 : Below wr.heap.size wr wy := ((Below.refl _ _).alloc (Nat.le_refl _) _).trans (hby.mono (by simp)); clear hby)
            go_roundw
            case rel => exact ⟨k + 1, by omega, by go_num, Lib.hid (fun j hj => by (by_cases e : j = k; subst e; exact H3.out; exact HALL.out j (by omega))), Lib.hid (LI_step HL.out hb2)⟩
            case measure => simp [intOf]; omega
        · obtain rfl : k = n := by omega
          have hlt' : ¬ (k : Int) < (k : Int) := by omega
          go_wp2
          go_loopw [34] (fun t wr => ∃ i : Nat, i ≤ m ∧ t = .int .i64 (i : Int) ∧ Hid (∀ j, j < i → beamB k (bs j) = true) ∧ Hid (LI a k c ba m bc w wr)) (fun t _ => m - (intOf t).toNat)
          case atStart => exact ⟨0, Nat.zero_le _, rfl, Lib.hid (fun j h => by omega), HL⟩
          case round =>
            clear HL l0 l1 l2 l3
            obtain ⟨i, hi, rfl, HBM, HL⟩ := hrel
            obtain ⟨l0, l1, l2, l3⟩ := HL.out
            by_cases hlt : i < m
            · have hlt2 : (i : Int) < (m : Int) := by omega
              obtain ⟨b, off, rfl, hbB, hat, hmem⟩ := HM.out.get hlt
              obtain ⟨c0, c1, c2, c3⟩ := hat.below (l3.mono hBw) hbB
              have hbz : b < wr.heap.size := by omega
              have HG1 := Lib.hid (HF2.out i hlt)
              have HG2 := Lib.hid (@beamB_head k (bs i))
              have HG3 := Lib.hid (fun j hj h => @beamB_weight k (bs i) j hj h)
              have HG4 := Lib.hid (@beamB_yes k (bs i))
              generalize hbb : bs i = q at *
              have HBB := Lib.hid hbb
              clear hbb
              obtain ⟨qca, qcn, qcc, qwa, qwn, qwc, qlo, qhi, qcs, qws⟩ := q
              obtain ⟨qm1, qm2, qm3, qm4⟩ := hmem
              dsimp only at c0 c1 c2 c3 qm1 qm2 qm3 qm4
              have HQ3 := Lib.hid qm3
              have HQ4 := Lib.hid qm4
              have HQ1 := Lib.hid qm1
              have hq2 := qm2
              unfold maxLen at hq2
              clear qm3 qm4 qm1 qm2 hat
              go_upto_region 12 with (fail)
              have hxb : Below wr.heap.size wr (wr.alloc (.cells #[.slice qca qcn qcc, .slice qwa qwn qwc, .int .i64 qlo, .int .i64 qhi] 31)) := (Below.refl _ _).alloc (Nat.le_refl _) _
              have hX0 : BX wr.heap.size qca qcn qcc qwa qwn qwc qlo qhi (wr.alloc (.cells #[.slice qca qcn qcc, .slice qwa qwn qwc, .int .i64 qlo, .int .i64 qhi] 31)) := BX_new
              have hL0 := LI_step ⟨l0, l1, l2, l3⟩ hxb
              clear l0 l1 l2 l3 c0 c1 c2 c3 hbz hxb HL
              generalize World.alloc wr _ = V at *
              generalize wr.heap.size = x at *
              obtain ⟨l0, l1, l2, l3⟩ := hL0
              obtain ⟨x0, x1, x2, x3, x4⟩ := hX0
              cases h4 : (qwn == qcn)
              · have h4' : ((qwn : Int) != (qcn : Int)) = true := by rw [beq_eq_false_iff_ne] at h4; simp; omega
                have HF := Lib.hid (HG1.out (HG2.out (.inl h4)))
                go_wp2
                go_ret
                exact ⟨ret_bool HF.out.symm, l3⟩
              · have h4' : ((qwn : Int) != (qcn : Int)) = false := by rw [beq_iff_eq] at h4; simp; omega
                have H4 := Lib.hid h4
                cases h5 : spanB ⟨qlo, qhi⟩ 1000000000000
                · have HF := Lib.hid (HG1.out (HG2.out (.inr (.inl h5))))
                  clear h4
                  go_wp2_with (go_at_call 32; refine (span_any _ _ _ _).mono ?_; rintro e wy ⟨rfl, hby⟩; rw [h5]; have hL := LI_step ⟨l0, l1, l2, l3⟩ hby; have hX := BX_step ⟨x0, x1, x2, x3, x4⟩ hby; clear l0 l1 l2 l3 x0 x1 x2 x3 x4 hby; obtain ⟨l0, l1, l2, l3⟩ := hL; obtain ⟨x0, x1, x2, x3, x4⟩ := hX)
                  go_ret
                  exact ⟨ret_bool HF.out.symm, l3⟩
                · have H5 := Lib.hid h5
                  cases h6 : setB k qcn qcs
                  · have HF := Lib.hid (HG1.out (HG2.out (.inr (.inr h6))))
                    clear h4
                    go_wp2_with (first | (go_at_call 32; refine (span_any _ _ _ _).mono ?_; rintro e wy ⟨rfl, hby⟩; rw [h5]; have hL := LI_step ⟨l0, l1, l2, l3⟩ hby; have hX := BX_step ⟨x0, x1, x2, x3, x4⟩ hby; clear l0 l1 l2 l3 x0 x1 x2 x3 x4 hby; obtain ⟨l0, l1, l2, l3⟩ := hL; obtain ⟨x0, x1, x2, x3, x4⟩ := hX) | (go_at_call 117; refine (set_any _ _ _ _ _ _ _ _ _ _ _ B (by omega) HNL.out HQ1.out (HQ3.out.below (l3.mono hBw))).mono ?_; rintro e wy ⟨rfl, hby⟩; rw [h6]; have hL := LI_step ⟨l0, l1, l2, l3⟩ hby; have hX := BX_step ⟨x0, x1, x2, x3, x4⟩ hby; clear l0 l1 l2 l3 x0 x1 x2 x3 x4 hby; obtain ⟨l0, l1, l2, l3⟩ := hL; obtain ⟨x0, x1, x2, x3, x4⟩ := hX))
                    go_ret
                    exact ⟨ret_bool HF.out.symm, l3⟩
                  · have H6 := Lib.hid h6
                    clear h4
                    go_wp2_with (first | (go_at_call 32; refine (span_any _ _ _ _).mono ?_; rintro e wy ⟨rfl, hby⟩; rw [h5]; have hL := LI_step ⟨l0, l1, l2, l3⟩ hby; have hX := BX_step ⟨x0, x1, x2, x3, x4⟩ hby; clear l0 l1 l2 l3 x0 x1 x2 x3 x4 hby; obtain ⟨l0, l1, l2, l3⟩ := hL; obtain ⟨x0, x1, x2, x3, x4⟩ := hX) | (go_at_call 117; refine (set_any _ _ _ _ _ _ _ _ _ _ _ B (by omega) HNL.out HQ1.out (HQ3.out.below (l3.mono hBw))).mono ?_; rintro e wy ⟨rfl, hby⟩; rw [h6]; have hL := LI_step ⟨l0, l1, l2, l3⟩ hby; have hX := BX_step ⟨x0, x1, x2, x3, x4⟩ hby; clear l0 l1 l2 l3 x0 x1 x2 x3 x4 hby; obtain ⟨l0, l1, l2, l3⟩ := hL; obtain ⟨x0, x1, x2, x3, x4⟩ := hX))
                    go_loopw [64] (fun t wx => ∃ j : Nat, j ≤ qwn ∧ t = .int .i64 (j : Int) ∧ Hid (∀ r, r < j → inB (qws r) 1 1000000 = true) ∧ Hid (LI a k c (some ⟨b, off, none⟩) m bc w wx)) (fun t _ => qwn - (intOf t).toNat)
                    case atStart => exact ⟨0, Nat.zero_le _, rfl, Lib.hid (fun j h => by omega), Lib.hid ⟨l0, l1, l2, l3⟩⟩
                    case round =>
                      clear l0 l1 l2 l3 x0 x1 x2 x3 x4
                      obtain ⟨j, hj, rfl, HW, HL⟩ := hrel
                      obtain ⟨l0, l1, l2, l3⟩ := HL.out
                      by_cases hlt3 : j < qwn
                      · have hlt4 : (j : Int) < (qwn : Int) := by omega
                        obtain ⟨wb, woff, rfl, hwB, d0⟩ := (HQ4.out.below (l3.mono hBw)).get hlt3
                        have hwz : wb < wr.heap.size := by omega
                        cases h7 : inB (qws j) 1 1000000
                        · have HF := Lib.hid (HG1.out (HG3.out j hlt3 h7))
                          go_wp2_with (go_at_call 49; refine (in_any _ _ _ _).mono ?_; rintro e w' ⟨rfl, rfl⟩)
                          go_ret
                          exact ⟨ret_bool HF.out.symm, l3⟩
                        · have H7 := Lib.hid h7
                          go_wp2_with (go_at_call 49; refine (in_any _ _ _ _).mono ?_; rintro e w' ⟨rfl, rfl⟩)
                          go_roundw
                          case rel => exact ⟨j + 1, by omega, by go_num, Lib.hid (fun r hr => by (by_cases e : r = j; subst e; exact H7.out; exact HW.out r (by omega))), Lib.hid ⟨l0, l1, l2, l3⟩⟩
                          case measure => simp [intOf]; omega
                      · obtain rfl : j = qwn := by omega
                        have hlt4 : ¬ (j : Int) < (j : Int) := by omega
                        have HK := Lib.hid (HG4.out H4.out H5.out H6.out HW.out)
                        go_wp2
                        go_roundw
                        case rel => exact ⟨i + 1, by omega, by go_num, Lib.hid (fun r hr => by (by_cases e : r = i; subst e; rw [HBB.out]; exact HK.out; exact HBM.out r (by omega))), HL⟩
                        case measure => simp [intOf]; omega
            · obtain rfl : i = m := by omega
              have hlt2 : ¬ (i : Int) < (i : Int) := by omega
              have HF := Lib.hid (HF4.out H1.out h2 HALL.out HBM.out)
              go_wp2
              go_ret
              exact ⟨ret_bool HF.out.symm, l3⟩
def checkF (n : Nat) (ss : Nat → SV) (m : Nat) (bs : Nat → BM) (fine : Bool) : Int := if shapeB n ss m bs = false ∨ fine = false then 2 else if longB n ss 200000 = true then 3 else 0
theorem checkF_true {n : Nat} {ss : Nat → SV} {m : Nat} {bs : Nat → BM} : checkF n ss m bs true = checkN n ss m bs := by unfold checkF checkN; simp
set_option maxRecDepth 100000 in
set_option maxHeartbeats 1000000 in
theorem checked_any (a : Option Addr) (n c : Nat) (ba : Option Addr) (m bc : Nat) (ss : Nat → SV) (bs : Nat → BM) (fine : Bool) (w : World) (B : Nat) (hBw : B ≤ w.heap.size) (hS : Spans B w a n ss) (hM : Beams B w ba m bs) :
    Calls Tryz.prog 50 #[imageV a n c ba m bc, .bool fine] w fun e w' => e = .returned (.int .i64 (checkF n ss m bs fine)) ∧ Below w.heap.size w w' := by
  have HS := Lib.hid hS
  have HM := Lib.hid hM
  clear hS hM
  have hL0 : LI a n c ba m bc w (w.alloc (.cells #[.slice a n c, .slice ba m bc] 50)) := LI_start
  cases h1 : shapeB n ss m bs
  · have HF := Lib.hid (show checkF n ss m bs fine = 2 by unfold checkF; rw [if_pos (.inl h1)])
    go_enter Tryz.func50, Tryz.ntmps50
    go_upto_region 1 with (fail)
    generalize World.alloc w _ = V at *
    obtain ⟨l0, l1, l2, l3⟩ := hL0
    go_wp2_with (go_at_call 86; refine (shape_any _ _ _ _ _ _ _ _ _ B (by omega) (HS.out.below (l3.mono hBw)) (HM.out.below (l3.mono hBw))).mono ?_; rintro e wy ⟨rfl, hby⟩; rw [h1]; have hL := LI_step ⟨l0, l1, l2, l3⟩ hby; clear l0 l1 l2 l3 hby; obtain ⟨l0, l1, l2, l3⟩ := hL)
    go_ret
    exact ⟨ret_int HF.out.symm, l3⟩
  · cases fine
    · have HF := Lib.hid (show checkF n ss m bs false = 2 by unfold checkF; rw [if_pos (.inr rfl)])
      go_enter Tryz.func50, Tryz.ntmps50
      go_upto_region 1 with (fail)
      generalize World.alloc w _ = V at *
      obtain ⟨l0, l1, l2, l3⟩ := hL0
      go_wp2_with (go_at_call 86; refine (shape_any _ _ _ _ _ _ _ _ _ B (by omega) (HS.out.below (l3.mono hBw)) (HM.out.below (l3.mono hBw))).mono ?_; rintro e wy ⟨rfl, hby⟩; rw [h1]; have hL := LI_step ⟨l0, l1, l2, l3⟩ hby; clear l0 l1 l2 l3 hby; obtain ⟨l0, l1, l2, l3⟩ := hL)
      go_ret
      exact ⟨ret_int HF.out.symm, l3⟩
    · have HR := Lib.hid (shapeB_iff.1 h1).span
      cases h2 : longB n ss 200000
      · have HF := Lib.hid (show checkF n ss m bs true = 0 by unfold checkF; rw [if_neg (by rw [h1]; simp), h2]; rfl)
        go_enter Tryz.func50, Tryz.ntmps50
        go_upto_region 1 with (fail)
        generalize World.alloc w _ = V at *
        obtain ⟨l0, l1, l2, l3⟩ := hL0
        go_wp2_with (first | (go_at_call 86; refine (shape_any _ _ _ _ _ _ _ _ _ B (by omega) (HS.out.below (l3.mono hBw)) (HM.out.below (l3.mono hBw))).mono ?_; rintro e wy ⟨rfl, hby⟩; rw [h1]; have hL := LI_step ⟨l0, l1, l2, l3⟩ hby; clear l0 l1 l2 l3 hby; obtain ⟨l0, l1, l2, l3⟩ := hL) | (go_at_call 87; refine (long_any _ _ _ _ _ _ _ _ _ B (by omega) (HS.out.below (l3.mono hBw)) HR.out (by omega)).mono ?_; rintro e wy ⟨rfl, hby⟩; rw [h2]; have hL := LI_step ⟨l0, l1, l2, l3⟩ hby; clear l0 l1 l2 l3 hby; obtain ⟨l0, l1, l2, l3⟩ := hL))
        go_ret
        exact ⟨ret_int HF.out.symm, l3⟩
      · have HF := Lib.hid (show checkF n ss m bs true = 3 by unfold checkF; rw [if_neg (by rw [h1]; simp), h2]; rfl)
        go_enter Tryz.func50, Tryz.ntmps50
        go_upto_region 1 with (fail)
        generalize World.alloc w _ = V at *
        obtain ⟨l0, l1, l2, l3⟩ := hL0
        go_wp2_with (first | (go_at_call 86; refine (shape_any _ _ _ _ _ _ _ _ _ B (by omega) (HS.out.below (l3.mono hBw)) (HM.out.below (l3.mono hBw))).mono ?_; rintro e wy ⟨rfl, hby⟩; rw [h1]; have hL := LI_step ⟨l0, l1, l2, l3⟩ hby; clear l0 l1 l2 l3 hby; obtain ⟨l0, l1, l2, l3⟩ := hL) | (go_at_call 87; refine (long_any _ _ _ _ _ _ _ _ _ B (by omega) (HS.out.below (l3.mono hBw)) HR.out (by omega)).mono ?_; rintro e wy ⟨rfl, hby⟩; rw [h2]; have hL := LI_step ⟨l0, l1, l2, l3⟩ hby; clear l0 l1 l2 l3 hby; obtain ⟨l0, l1, l2, l3⟩ := hL))
        go_ret
        exact ⟨ret_int HF.out.symm, l3⟩
set_option maxRecDepth 100000 in
set_option maxHeartbeats 1000000 in
theorem Check_any (a : Option Addr) (n c : Nat) (ba : Option Addr) (m bc : Nat) (ss : Nat → SV) (bs : Nat → BM) (w : World) (B : Nat) (hBw : B ≤ w.heap.size) (hS : Spans B w a n ss) (hM : Beams B w ba m bs) :
    Calls Tryz.prog 51 #[imageV a n c ba m bc] w fun e w' => e = .returned (.int .i64 (checkN n ss m bs)) ∧ Below w.heap.size w w' := by
  have HS := Lib.hid hS
  have HM := Lib.hid hM
  have HE := Lib.hid (@checkF_true n ss m bs)
  clear hS hM
  have hL0 : LI a n c ba m bc w (w.alloc (.cells #[.slice a n c, .slice ba m bc] 50)) := LI_start
  go_enter Tryz.func51, Tryz.ntmps51
  go_upto_region 1 with (fail)
  generalize World.alloc w _ = V at *
  obtain ⟨l0, l1, l2, l3⟩ := hL0
  go_wp2_with (go_at_call 50; refine (checked_any _ _ _ _ _ _ ss bs true _ B (by omega) (HS.out.below (l3.mono hBw)) (HM.out.below (l3.mono hBw))).mono ?_; rintro e wy ⟨rfl, hby⟩; rw [HE.out])
  go_ret
  exact ⟨rfl, l3.trans (hby.mono l3.size)⟩
end Go.Proofs.YtkdopjkdokgipaaGreatDoor
