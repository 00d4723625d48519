/- The walk of image.Merge. (DRAFT: see NOTES) -/
import Derived.Test.YtnfigielhnnpnaaDoorGmgA
namespace Go.Proofs.YtnfigielhnnpnaaDoor
open Go.RowKit
set_option linter.unusedVariables false
set_option linter.unusedSimpArgs false
/-- what Merge says -/
def mgE (t : Nat) (im : Nat → IM) : Int :=
  if ¬ (1 ≤ t ∧ t ≤ 10) then 2 else if allUpto t (fun i => ShapedI (im 0).cn (im i)) = false then 2 else if mgOk (im 0).cn im t = false then 7 else if 20 < (mgB im t).length ∨ longB (im 0).cn (mgC im t) 200000 = true then 3 else 0
/-- what Merge hands back -/
def MgRes (t : Nat) (im : Nat → IM) (w : World) (e : Ending) (w' : World) : Prop :=
  Below w.heap.size w w' ∧ ((mgE t im ≠ 0 ∧ e = .returned (.tuple #[.agg #[.slice none 0 0, .slice none 0 0], .int .i64 (mgE t im)])) ∨
    (mgE t im = 0 ∧ ∃ cb cap oa oc L, e = .returned (.tuple #[.agg #[.slice (some ⟨cb, 0, none⟩) (im 0).cn cap, .slice oa L.length oc], .int .i64 0]) ∧ L.map BM.strip = (mgB im t).map BM.strip ∧ Fresh w.heap.size w' (fun W' => Spans W'.heap.size W' (some ⟨cb, 0, none⟩) (im 0).cn (mgC im t) ∧ Beams W'.heap.size W' oa L.length (beamL L))))
set_option maxRecDepth 100000 in
set_option maxHeartbeats 1000000 in
theorem Merge_bad (a : Option Addr) (t c : Nat) (im : Nat → IM) (w : World) (ht63 : t ≤ maxLen) (ht : ¬ (1 ≤ t ∧ t ≤ 10)) :
    Calls Tryd.prog 8 #[.slice a t c] w (MgRes t im w) := by
  have hin : inB (t : Int) 1 10 = false := by rw [Bool.eq_false_iff]; intro h; have := inB_iff.1 h; omega
  have HE := Lib.hid (fun (w' : World) (hb : Below w.heap.size w w') => show MgRes t im w (.returned (.tuple #[.agg #[.slice none 0 0, .slice none 0 0], .int .i64 2])) w' from by
    have e : mgE t im = 2 := by unfold mgE; rw [if_pos ht]
    exact ⟨hb, .inl ⟨by rw [e]; decide, by rw [e]⟩⟩)
  generalize MgRes t im w = RES at *
  unfold maxLen at ht63
  clear ht
  go_enter Tryd.func8, Tryd.ntmps8
  go_upto_region 1 with (fail)
  have hrb := heap_alloc_new w (.cells #[.slice none 0 0, .slice none 0 0] 28)
  have HV := Lib.hid (alloc_below w (.cells #[.slice none 0 0, .slice none 0 0] 28))
  generalize World.alloc w _ = wq at *
  have q0 : wq.cell? ⟨w.heap.size, 0, none⟩ = some (.slice none 0 0) := cell_of_row _ _ _ _ _ _ hrb
  have q1 : wq.cell? ⟨w.heap.size, 1, none⟩ = some (.slice none 0 0) := cell_of_row _ _ _ _ _ _ hrb
  have f0 : wq.frozen? ⟨w.heap.size, 0, none⟩ = false := frozen_of_row _ _ _ _ _ hrb
  have f1 : wq.frozen? ⟨w.heap.size, 1, none⟩ = false := frozen_of_row _ _ _ _ _ hrb
  have HRX := Lib.hid hrb
  have HBZ := Lib.hid (HV.out.setCell (p := ⟨w.heap.size, 0, none⟩) (Nat.le_refl _) (.slice none 0 0) |>.setCell (p := ⟨w.heap.size, 1, none⟩) (Nat.le_refl _) (.slice none 0 0))
  clear hrb HV
  go_wp2_with (go_at_call 29; refine (in_any _ _ _ _).mono ?_; rintro e w' ⟨rfl, rfl⟩; rw [hin])
  have h1 := heap_setCell_same wq w.heap.size 0 _ _ (.slice none 0 0) HRX.out
  have h2 := heap_setCell_same _ w.heap.size 1 _ _ (.slice none 0 0) h1
  have r0 : ((wq.setCell ⟨w.heap.size, 0, none⟩ (.slice none 0 0)).setCell ⟨w.heap.size, 1, none⟩ (.slice none 0 0)).cell? ⟨w.heap.size, 0, none⟩ = some (.slice none 0 0) := cell_of_row _ _ _ _ _ _ h2
  have r1 : ((wq.setCell ⟨w.heap.size, 0, none⟩ (.slice none 0 0)).setCell ⟨w.heap.size, 1, none⟩ (.slice none 0 0)).cell? ⟨w.heap.size, 1, none⟩ = some (.slice none 0 0) := cell_of_row _ _ _ _ _ _ h2
  have HE2 := HE.out _ HBZ.out
  clear h1 h2
  generalize World.setCell (World.setCell wq _ _) _ _ = wf at *
  refine bodyPost_ret (v := .tuple #[.agg #[.slice none 0 0, .slice none 0 0], .int .i64 2]) (by simp [results, Tryd.results8, go_sem, r0, r1]) rfl ?_
  exact HE2
set_option maxRecDepth 100000 in
set_option maxHeartbeats 4000000 in
theorem Merge_any (a : Option Addr) (t c : Nat) (im : Nat → IM) (w : World) (B : Nat) (hBw : B ≤ w.heap.size) (hI : Imgs B w a t im) (ht : 1 ≤ t ∧ t ≤ 10) :
    Calls Tryd.prog 8 #[.slice a t c] w (MgRes t im w) := by
  have HI := Lib.hid hI
  have hin : inB (t : Int) 1 10 = true := inB_iff.2 ⟨by omega, by omega⟩
  obtain ⟨n, hn⟩ : ∃ n, (im 0).cn = n := ⟨_, rfl⟩
  have HR1 := Lib.hid (fun (w' : World) (i : Nat) (hi : i < t) (hs : ShapedI n (im i) = false) (hb : Below w.heap.size w w') => show MgRes t im w (.returned (.tuple #[.agg #[.slice none 0 0, .slice none 0 0], .int .i64 2])) w' from by
    have e : mgE t im = 2 := by unfold mgE; rw [if_neg (by simpa using ht), if_pos (by rw [hn]; exact allUpto_false hi hs)]
    exact ⟨hb, .inl ⟨by rw [e]; decide, by rw [e]⟩⟩)
  have hEs : (∀ i, i < t → ShapedI n (im i) = true) → mgE t im = if mgOk n im t = false then 7 else if 20 < (mgB im t).length ∨ longB n (mgC im t) 200000 = true then 3 else 0 := fun hs => by
    unfold mgE
    rw [if_neg (by simpa using ht), hn, if_neg (by rw [allUpto_true hs]; decide)]
  have HR2 := Lib.hid (fun (w' : World) (hs : ∀ i, i < t → ShapedI n (im i) = true) (k : Nat) (hk : k ≤ t) (ho : mgOk n im k = false) (hb : Below w.heap.size w w') => show MgRes t im w (.returned (.tuple #[.agg #[.slice none 0 0, .slice none 0 0], .int .i64 7])) w' from by
    have e : mgE t im = 7 := by rw [hEs hs, if_pos (mgOk_up ho t hk)]
    exact ⟨hb, .inl ⟨by rw [e]; decide, by rw [e]⟩⟩)
  have HR3 := Lib.hid (fun (w' : World) (hs : ∀ i, i < t → ShapedI n (im i) = true) (ho : mgOk n im t = true) (hl : 20 < (mgB im t).length ∨ longB n (mgC im t) 200000 = true) (hb : Below w.heap.size w w') => show MgRes t im w (.returned (.tuple #[.agg #[.slice none 0 0, .slice none 0 0], .int .i64 3])) w' from by
    have e : mgE t im = 3 := by rw [hEs hs, if_neg (by rw [ho]; decide), if_pos hl]
    exact ⟨hb, .inl ⟨by rw [e]; decide, by rw [e]⟩⟩)
  have HR4 := Lib.hid (fun (w' : World) (hs : ∀ i, i < t → ShapedI n (im i) = true) (ho : mgOk n im t = true) (hl : ¬ (20 < (mgB im t).length ∨ longB n (mgC im t) 200000 = true)) (cb cap : Nat) (oa : Option Addr) (oc : Nat) (L : List BM) (hL : L.map BM.strip = (mgB im t).map BM.strip) (h1 : Fresh w.heap.size w' (fun W' => Spans W'.heap.size W' (some ⟨cb, 0, none⟩) n (mgC im t) ∧ Beams W'.heap.size W' oa L.length (beamL L))) (hb : Below w.heap.size w w') => show MgRes t im w (.returned (.tuple #[.agg #[.slice (some ⟨cb, 0, none⟩) n cap, .slice oa L.length oc], .int .i64 0])) w' from by
    have e : mgE t im = 0 := by rw [hEs hs, if_neg (by rw [ho]; decide), if_neg hl]
    exact ⟨hb, .inr ⟨e, cb, cap, oa, oc, L, by rw [hn], hL, by rw [hn]; exact h1⟩⟩)
  have HN := Lib.hid hn
  generalize MgRes t im w = RES at *
  obtain ⟨ht1, ht10⟩ := ht
  clear hI hn hEs
  go_enter Tryd.func8, Tryd.ntmps8
  go_upto_region 1 with (fail)
  have HRB := Lib.hid (heap_alloc_new w (.cells #[.slice none 0 0, .slice none 0 0] 28))
  have HV := Lib.hid (alloc_below w (.cells #[.slice none 0 0, .slice none 0 0] 28))
  have HVZ := Lib.hid (show (w.alloc (.cells #[.slice none 0 0, .slice none 0 0] 28)).heap.size = w.heap.size + 1 from by simp)
  generalize World.alloc w _ = V0 at *
  go_upto_block 0 with (go_at_call 29; refine (in_any _ _ _ _).mono ?_; rintro e w' ⟨rfl, rfl⟩; rw [hin])
  go_cut [] from 20 to 39 (fun wx => Hid ((∀ j, j < t → ShapedI n (im j) = true) ∧ Below V0.heap.size V0 wx))
  case first =>
    go_wp2
    go_loopw [20] (fun s20 wr => ∃ i : Nat, i ≤ t ∧ s20 = .int .i64 (i : Int) ∧ Hid ((∀ j, j < i → ShapedI n (im j) = true) ∧ Below V0.heap.size V0 wr)) (fun s20 _ => t - (intOf s20).toNat)
    case atStart => exact ⟨0, Nat.zero_le _, rfl, Lib.hid ⟨fun j hj => by omega, Below.refl _ _⟩⟩
    case round =>
      obtain ⟨i, hi, rfl, HBQ⟩ := hrel
      have HB := Lib.hid HBQ.out.2
      have HUP := Lib.hid HBQ.out.1
      clear HBQ
      have hzr := HB.out.size
      by_cases hlt : i < t
      · have hlt' : (i : Int) < (t : Int) := by omega
        have h0t : (0 : Int) < (t : Int) := by omega
        have HBW := Lib.hid (HV.out.trans (HB.out.mono (by have := HVZ.out; omega)))
        obtain ⟨xb, xo, hxa, hxB, x0, x1, xS, xM⟩ := (HI.out.below (HBW.out.mono hBw)).get hlt
        obtain ⟨xb', xo', hxa', _, y0, _⟩ := (HI.out.below (HBW.out.mono hBw)).get (i := 0) (by omega)
        subst hxa
        injection hxa' with hxa'
        injection hxa' with e1 e2 _
        subst e1 e2
        have hxz : xb < wr.heap.size := by have := HBW.out.size; omega
        have HSP := Lib.hid (fun (W : World) (hb : Below wr.heap.size wr W) => (shape_any (im i).ca (im i).cn (im i).cc (im i).ba (im i).bn (im i).bc (im i).ss (im i).bs W B (by have := hb.size; have := HBW.out.size; omega) (xS.below (hb.mono (by have := HBW.out.size; omega))) (xM.below (hb.mono (by have := HBW.out.size; omega)))))
        rw [HN.out, Nat.zero_mul, Nat.add_zero] at y0
        have hnm := xS.1
        have hn0 := ((HI.out.below (HBW.out.mono hBw)).get (i := 0) (by omega)).choose_spec.choose_spec.2.2.2.2.1.1
        rw [HN.out] at hn0
        unfold maxLen at hnm hn0
        have HBD := Lib.hid (fun (h : ShapedI n (im i) = false) w' hb => HR1.out w' i hlt h hb)
        have HUP2 := Lib.hid (fun (h : ShapedI n (im i) = true) (j : Nat) (hj : j < i + 1) => show ShapedI n (im j) = true from by (by_cases e : j = i; (subst e; exact h); exact HUP.out j (by omega)))
        have HSI := Lib.hid (show ShapedI n (im i) = (shapeB (im i).cn (im i).ss (im i).bn (im i).bs && (im i).cn == n) from rfl)
        clear xS xM HUP HR2 HR3 HR4
        generalize (im i).cn = ni at *
        generalize (im i).ca = na at *
        generalize (im i).cc = nc at *
        generalize (im i).ba = ea at *
        generalize (im i).bn = en at *
        generalize (im i).bc = ec at *
        generalize (im i).ss = es at *
        generalize (im i).bs = eb at *
        cases hsb : shapeB ni es en eb
        · rw [hsb] at HSP HSI
          rw [Bool.false_and] at HSI
          have HE := Lib.hid (HBD.out HSI.out)
          go_upto_region 6 with (fail); have hb1 := alloc_below wr (.cells #[.slice na ni nc, .slice ea en ec] 28); have d0 : (wr.alloc (.cells #[.slice na ni nc, .slice ea en ec] 28)).cell? ⟨wr.heap.size, 0, none⟩ = some (.slice na ni nc) := cell_of_row _ _ _ _ _ _ (heap_alloc_new wr _); have d1 : (wr.alloc (.cells #[.slice na ni nc, .slice ea en ec] 28)).cell? ⟨wr.heap.size, 1, none⟩ = some (.slice ea en ec) := cell_of_row _ _ _ _ _ _ (heap_alloc_new wr _); have d2 := ((bcell hb1).1 xb xo hxz).trans y0; have hz1 : (wr.alloc (.cells #[.slice na ni nc, .slice ea en ec] 28)).heap.size = wr.heap.size + 1 := (by simp); have HB2 := Lib.hid (HB.out.trans (hb1.mono hzr)); have HB1 := Lib.hid hb1; clear x0 x1 y0 hb1; generalize World.alloc wr _ = V at *; have hxv : xb < V.heap.size := (by omega); have hwv : wr.heap.size < V.heap.size := (by omega); clear hz1; (refine wp_region_calm (V.heap.size) (by kernel_rfl) (by kernel_rfl) ?_; (repeat (first | go_big_quiet_step ((go_at_call 30; exact Calls.calm_of (Nat.le_refl _) (HSP.out _ (HB1.out.trans ((Calm.below _).mono (by omega)))))) | quiet_step ((go_at_call 30; exact Calls.calm_of (Nat.le_refl _) (HSP.out _ (HB1.out.trans ((Calm.below _).mono (by omega)))))))); refine wpQuiet_nil ?_; intro _ hw'; obtain ⟨xq, hw''⟩ := hw'; subst hw''); have HBq := Lib.hid (HB2.out.trans ((Calm.below xq).mono HB2.out.size)); generalize Calm.val xq = wq at *
          (have hbz := HBq.out; have hrb := (hbz.block w.heap.size (by rw [HVZ.out]; omega)).trans HRB.out; have q0 : wq.cell? ⟨w.heap.size, 0, none⟩ = some (.slice none 0 0) := cell_of_row _ _ _ _ _ _ hrb; have q1 : wq.cell? ⟨w.heap.size, 1, none⟩ = some (.slice none 0 0) := cell_of_row _ _ _ _ _ _ hrb; have f0 : wq.frozen? ⟨w.heap.size, 0, none⟩ = false := frozen_of_row _ _ _ _ _ hrb; have f1 : wq.frozen? ⟨w.heap.size, 1, none⟩ = false := frozen_of_row _ _ _ _ _ hrb; have HRX := Lib.hid hrb; have HBZ := Lib.hid ((HV.out.trans (hbz.mono (by rw [HVZ.out]; omega))).setCell (p := ⟨w.heap.size, 0, none⟩) (Nat.le_refl _) (.slice none 0 0) |>.setCell (p := ⟨w.heap.size, 1, none⟩) (Nat.le_refl _) (.slice none 0 0)); clear hbz hrb; go_wp2; have h1 := heap_setCell_same wq w.heap.size 0 _ _ (.slice none 0 0) HRX.out; have h2 := heap_setCell_same _ w.heap.size 1 _ _ (.slice none 0 0) h1; have r0 : ((wq.setCell ⟨w.heap.size, 0, none⟩ (.slice none 0 0)).setCell ⟨w.heap.size, 1, none⟩ (.slice none 0 0)).cell? ⟨w.heap.size, 0, none⟩ = some (.slice none 0 0) := cell_of_row _ _ _ _ _ _ h2; have r1 : ((wq.setCell ⟨w.heap.size, 0, none⟩ (.slice none 0 0)).setCell ⟨w.heap.size, 1, none⟩ (.slice none 0 0)).cell? ⟨w.heap.size, 1, none⟩ = some (.slice none 0 0) := cell_of_row _ _ _ _ _ _ h2; have HE2 := HE.out _ HBZ.out; clear h1 h2; generalize World.setCell (World.setCell wq _ _) _ _ = wf at *; refine bodyPost_ret (v := .tuple #[.agg #[.slice none 0 0, .slice none 0 0], .int .i64 2]) (by simp [results, Tryd.results8, go_sem, r0, r1]) rfl ?_; exact HE2)
        · rw [hsb] at HSP HSI
          rw [Bool.true_and] at HSI
          by_cases hnn : ni = n
          · subst hnn
            rw [beq_self_eq_true] at HSI
            have HU := Lib.hid (HUP2.out HSI.out)
            have hne : ((ni : Int) != (ni : Int)) = false := by simp
            go_upto_region 6 with (fail); have hb1 := alloc_below wr (.cells #[.slice na ni nc, .slice ea en ec] 28); have d0 : (wr.alloc (.cells #[.slice na ni nc, .slice ea en ec] 28)).cell? ⟨wr.heap.size, 0, none⟩ = some (.slice na ni nc) := cell_of_row _ _ _ _ _ _ (heap_alloc_new wr _); have d1 : (wr.alloc (.cells #[.slice na ni nc, .slice ea en ec] 28)).cell? ⟨wr.heap.size, 1, none⟩ = some (.slice ea en ec) := cell_of_row _ _ _ _ _ _ (heap_alloc_new wr _); have d2 := ((bcell hb1).1 xb xo hxz).trans y0; have hz1 : (wr.alloc (.cells #[.slice na ni nc, .slice ea en ec] 28)).heap.size = wr.heap.size + 1 := (by simp); have HB2 := Lib.hid (HB.out.trans (hb1.mono hzr)); have HB1 := Lib.hid hb1; clear x0 x1 y0 hb1; generalize World.alloc wr _ = V at *; have hxv : xb < V.heap.size := (by omega); have hwv : wr.heap.size < V.heap.size := (by omega); clear hz1; (refine wp_region_calm (V.heap.size) (by kernel_rfl) (by kernel_rfl) ?_; (repeat (first | go_big_quiet_step ((go_at_call 30; exact Calls.calm_of (Nat.le_refl _) (HSP.out _ (HB1.out.trans ((Calm.below _).mono (by omega)))))) | quiet_step ((go_at_call 30; exact Calls.calm_of (Nat.le_refl _) (HSP.out _ (HB1.out.trans ((Calm.below _).mono (by omega)))))))); refine wpQuiet_nil ?_; intro _ hw'; obtain ⟨xq, hw''⟩ := hw'; subst hw''); have HBq := Lib.hid (HB2.out.trans ((Calm.below xq).mono HB2.out.size)); generalize Calm.val xq = wq at *
            go_wp2
            go_roundw
            case rel => exact ⟨i + 1, by omega, by go_num, Lib.hid ⟨HU.out, HBq.out⟩⟩
            case measure => simp [intOf]; omega
          · have hnb : (ni == n) = false := by rw [beq_eq_false_iff_ne]; exact hnn
            rw [hnb] at HSI
            have HE := Lib.hid (HBD.out HSI.out)
            have hne : ((ni : Int) != (n : Int)) = true := by rw [bne_iff_ne]; omega
            go_upto_region 6 with (fail); have hb1 := alloc_below wr (.cells #[.slice na ni nc, .slice ea en ec] 28); have d0 : (wr.alloc (.cells #[.slice na ni nc, .slice ea en ec] 28)).cell? ⟨wr.heap.size, 0, none⟩ = some (.slice na ni nc) := cell_of_row _ _ _ _ _ _ (heap_alloc_new wr _); have d1 : (wr.alloc (.cells #[.slice na ni nc, .slice ea en ec] 28)).cell? ⟨wr.heap.size, 1, none⟩ = some (.slice ea en ec) := cell_of_row _ _ _ _ _ _ (heap_alloc_new wr _); have d2 := ((bcell hb1).1 xb xo hxz).trans y0; have hz1 : (wr.alloc (.cells #[.slice na ni nc, .slice ea en ec] 28)).heap.size = wr.heap.size + 1 := (by simp); have HB2 := Lib.hid (HB.out.trans (hb1.mono hzr)); have HB1 := Lib.hid hb1; clear x0 x1 y0 hb1; generalize World.alloc wr _ = V at *; have hxv : xb < V.heap.size := (by omega); have hwv : wr.heap.size < V.heap.size := (by omega); clear hz1; (refine wp_region_calm (V.heap.size) (by kernel_rfl) (by kernel_rfl) ?_; (repeat (first | go_big_quiet_step ((go_at_call 30; exact Calls.calm_of (Nat.le_refl _) (HSP.out _ (HB1.out.trans ((Calm.below _).mono (by omega)))))) | quiet_step ((go_at_call 30; exact Calls.calm_of (Nat.le_refl _) (HSP.out _ (HB1.out.trans ((Calm.below _).mono (by omega)))))))); refine wpQuiet_nil ?_; intro _ hw'; obtain ⟨xq, hw''⟩ := hw'; subst hw''); have HBq := Lib.hid (HB2.out.trans ((Calm.below xq).mono HB2.out.size)); generalize Calm.val xq = wq at *
            (have hbz := HBq.out; have hrb := (hbz.block w.heap.size (by rw [HVZ.out]; omega)).trans HRB.out; have q0 : wq.cell? ⟨w.heap.size, 0, none⟩ = some (.slice none 0 0) := cell_of_row _ _ _ _ _ _ hrb; have q1 : wq.cell? ⟨w.heap.size, 1, none⟩ = some (.slice none 0 0) := cell_of_row _ _ _ _ _ _ hrb; have f0 : wq.frozen? ⟨w.heap.size, 0, none⟩ = false := frozen_of_row _ _ _ _ _ hrb; have f1 : wq.frozen? ⟨w.heap.size, 1, none⟩ = false := frozen_of_row _ _ _ _ _ hrb; have HRX := Lib.hid hrb; have HBZ := Lib.hid ((HV.out.trans (hbz.mono (by rw [HVZ.out]; omega))).setCell (p := ⟨w.heap.size, 0, none⟩) (Nat.le_refl _) (.slice none 0 0) |>.setCell (p := ⟨w.heap.size, 1, none⟩) (Nat.le_refl _) (.slice none 0 0)); clear hbz hrb; go_wp2; have h1 := heap_setCell_same wq w.heap.size 0 _ _ (.slice none 0 0) HRX.out; have h2 := heap_setCell_same _ w.heap.size 1 _ _ (.slice none 0 0) h1; have r0 : ((wq.setCell ⟨w.heap.size, 0, none⟩ (.slice none 0 0)).setCell ⟨w.heap.size, 1, none⟩ (.slice none 0 0)).cell? ⟨w.heap.size, 0, none⟩ = some (.slice none 0 0) := cell_of_row _ _ _ _ _ _ h2; have r1 : ((wq.setCell ⟨w.heap.size, 0, none⟩ (.slice none 0 0)).setCell ⟨w.heap.size, 1, none⟩ (.slice none 0 0)).cell? ⟨w.heap.size, 1, none⟩ = some (.slice none 0 0) := cell_of_row _ _ _ _ _ _ h2; have HE2 := HE.out _ HBZ.out; clear h1 h2; generalize World.setCell (World.setCell wq _ _) _ _ = wf at *; refine bodyPost_ret (v := .tuple #[.agg #[.slice none 0 0, .slice none 0 0], .int .i64 2]) (by simp [results, Tryd.results8, go_sem, r0, r1]) rfl ?_; exact HE2)
      · obtain rfl : t = i := by omega
        have hlt' : ¬ (t : Int) < (t : Int) := by omega
        have HBQ := Lib.hid (show _ ∧ _ from ⟨HUP.out, HB.out⟩)
        go_wp2
        go_meet
        exact HBQ
  case rest =>
    have HSD := Lib.hid hcut.out.1
    have HBC := Lib.hid hcut.out.2
    clear hcut
    obtain ⟨hsh0, _⟩ := ShapedI.shape (HSD.out 0 (by omega))
    have hn1 := hsh0.n1
    have hn40 := hsh0.n40
    rw [HN.out] at hn1 hn40
    have HBW := Lib.hid (HV.out.trans (HBC.out.mono (by rw [HVZ.out]; omega)))
    have HRW := Lib.hid ((HBC.out.block w.heap.size (by rw [HVZ.out]; omega)).trans HRB.out)
    obtain ⟨xb, xo, hxa, hxB, x0, _, xS, _⟩ := (HI.out.below (HBW.out.mono hBw)).get (i := 0) (by omega)
    have HI2 := Lib.hid HI.out
    clear HI
    subst hxa
    rw [HN.out] at x0 xS
    rw [Nat.zero_mul, Nat.add_zero] at x0
    have hxz : xb < wc.heap.size := by have := HBW.out.size; omega
    have h0t : (0 : Int) < (t : Int) := by omega
    have HCL := Lib.hid (cloneS_any (im 0).ca n (im 0).cc (im 0).ss wc (xS.up (by have := HBW.out.size; omega)) (by omega) (by omega))
    have HCM := Lib.hid (show mgC im 0 = (im 0).ss from rfl)
    clear hsh0 xS HRB HVZ HV HBC
    go_upto_region 10 with (go_at_call 31; refine HCL.out.mono ?_; rintro e w2 ⟨ca, cap, rfl, hown, hb2⟩; obtain ⟨cb, rfl, hcb1, hcb2⟩ := own_at hown (by omega))
    have H0 := Lib.hid (MgI.start HBW.out HRW.out hb2 hown hcb1 hcb2)
    generalize World.alloc w2 _ = V1 at *
    generalize w2.heap.size = ob at *
    rw [← HCM.out] at H0
    clear hb2 hown hcb1 hcb2 HCL x0 hxz HCM HRW HBW
    go_wp2
    go_loopw [48] (fun s48 wr => ∃ i : Nat, i ≤ t ∧ s48 = .int .i64 (i : Int) ∧ Hid (mgOk n im i = true ∧ ∃ v L, L.map BM.strip = (mgB im i).map BM.strip ∧ MgI w cb ob n cap (mgC im i) v L wr)) (fun s48 _ => t - (intOf s48).toNat)
    case atStart => exact ⟨0, Nat.zero_le _, rfl, Lib.hid ⟨rfl, _, [], rfl, H0.out⟩⟩
    case round =>
      clear H0
      obtain ⟨i, hi, rfl, HX⟩ := hrel
      by_cases hlt : i < t
      · have hlt' : (i : Int) < (t : Int) := by omega
        obtain ⟨hok, v, L, hst, hmg⟩ := HX.out
        have HOK := Lib.hid hok
        have HST := Lib.hid hst
        obtain ⟨yb, yo, hya, hyB, x0, x1, _, _⟩ := (HI2.out.below (hmg.below.mono hBw)).get hlt
        injection hya with hya
        injection hya with e1 e2 _
        subst e1 e2
        have hxz : xb < wr.heap.size := by have := hmg.below.size; omega
        rw [(ShapedI.shape (HSD.out i hlt)).2] at x0
        go_upto_region 13 with (fail)
        have HMG := Lib.hid (hmg.step (alloc_below wr (.cells #[.slice (im i).ca n (im i).cc, .slice (im i).ba (im i).bn (im i).bc] 28)))
        have d0 : (wr.alloc (.cells #[.slice (im i).ca n (im i).cc, .slice (im i).ba (im i).bn (im i).bc] 28)).cell? ⟨wr.heap.size, 0, none⟩ = some (.slice (im i).ca n (im i).cc) := cell_of_row _ _ _ _ _ _ (heap_alloc_new wr _)
        have d1 : (wr.alloc (.cells #[.slice (im i).ca n (im i).cc, .slice (im i).ba (im i).bn (im i).bc] 28)).cell? ⟨wr.heap.size, 1, none⟩ = some (.slice (im i).ba (im i).bn (im i).bc) := cell_of_row _ _ _ _ _ _ (heap_alloc_new wr _)
        have hmz : wr.heap.size < (wr.alloc (.cells #[.slice (im i).ca n (im i).cc, .slice (im i).ba (im i).bn (im i).bc] 28)).heap.size := by simp
        have hom : ob < wr.heap.size := hmg.lt
        clear hmg hok hst HX x0 x1
        generalize World.alloc wr _ = V3 at *
        generalize wr.heap.size = mb at *
        have HD1 := Lib.hid d1
        go_wp2
        go_loopw [55] (fun s55 wx => ∃ c : Nat, c ≤ n ∧ s55 = .int .i64 (c : Int) ∧ Hid ((∀ x, x < c → (mgC im (i + 1) x).lo ≤ (mgC im (i + 1) x).hi) ∧ MgI w cb ob n cap (mgP im i c) v L wx ∧ wx.cell? ⟨mb, 1, none⟩ = some (.slice (im i).ba (im i).bn (im i).bc) ∧ mb < wx.heap.size)) (fun s55 _ => n - (intOf s55).toNat)
        case atStart => exact ⟨0, Nat.zero_le _, rfl, Lib.hid ⟨fun x hx => by omega, HMG.out.congr (fun c _ => by unfold mgP; rw [if_neg (by omega)]), HD1.out, hmz⟩⟩
        case round =>
          clear HMG d0 d1 HD1 hmz
          obtain ⟨cc, hcc, rfl, HY⟩ := hrel
          by_cases hcn : cc < n
          · have hcn' : (cc : Int) < (n : Int) := by omega
            have yS := ((HI2.out.below (HY.out.2.1.below.mono hBw)).get hlt).choose_spec.choose_spec.2.2.2.2.1
            rw [(ShapedI.shape (HSD.out i hlt)).2] at yS
            obtain ⟨sb, so, hsa, hsB, e0, e1⟩ := yS.get hcn
            rw [hsa]
            have hsz : sb < wr.heap.size := by have := HY.out.2.1.below.size; omega
            clear yS hsa
            go_upto_region 16 with (fail)
            have HMG := Lib.hid (HY.out.2.1.step (alloc_below wr (.cells #[.int .i64 ((im i).ss cc).lo, .int .i64 ((im i).ss cc).hi] 44)))
            have k0 : (wr.alloc (.cells #[.int .i64 ((im i).ss cc).lo, .int .i64 ((im i).ss cc).hi] 44)).cell? ⟨wr.heap.size, 0, none⟩ = some (.int .i64 ((im i).ss cc).lo) := cell_of_row _ _ _ _ _ _ (heap_alloc_new wr _)
            have k1 : (wr.alloc (.cells #[.int .i64 ((im i).ss cc).lo, .int .i64 ((im i).ss cc).hi] 44)).cell? ⟨wr.heap.size, 1, none⟩ = some (.int .i64 ((im i).ss cc).hi) := cell_of_row _ _ _ _ _ _ (heap_alloc_new wr _)
            have HDX := Lib.hid (((bcell (alloc_below wr (.cells #[.int .i64 ((im i).ss cc).lo, .int .i64 ((im i).ss cc).hi] 44))).1 mb 1 HY.out.2.2.2).trans HY.out.2.2.1)
            have hmz : mb < (wr.alloc (.cells #[.int .i64 ((im i).ss cc).lo, .int .i64 ((im i).ss cc).hi] 44)).heap.size := by have := HY.out.2.2.2; simp; omega
            have HOKC := Lib.hid HY.out.1
            clear HY e0 e1 hsz
            generalize World.alloc wr _ = V4 at *
            generalize wr.heap.size = qb at *
            have HNX := Lib.hid (show mgC im (i + 1) cc = ⟨max (mgC im i cc).lo ((im i).ss cc).lo, min (mgC im i cc).hi ((im i).ss cc).hi⟩ from rfl)
            go_cut [] from 59 to 82 (fun wx => Hid (MgI w cb ob n cap (mgP im i (cc + 1)) v L wx ∧ wx.cell? ⟨mb, 1, none⟩ = some (.slice (im i).ba (im i).bn (im i).bc) ∧ mb < wx.heap.size))
            case first =>
              refine wp_region_any (by kernel_rfl) ?_
              change wpAny _ _ _ _ _ _ _ (World.drew V4)
              have k0 : V4.drew.cell? ⟨qb, 0, none⟩ = _ := k0
              have k1 : V4.drew.cell? ⟨qb, 1, none⟩ = _ := k1
              have HMGd := Lib.hid (HMG.out.step (Below.refl V4.heap.size V4).drew)
              have HDd := Lib.hid (show V4.drew.cell? ⟨mb, 1, none⟩ = some (.slice (im i).ba (im i).bn (im i).bc) from HDX.out)
              have hmzd : mb < V4.drew.heap.size := hmz
              clear HMG HDX hmz
              generalize World.drew V4 = Vd at *
              obtain ⟨b0, b1⟩ := HMGd.out.box
              obtain ⟨p0, p1⟩ := HMGd.out.cell hcn
              have f0 := HMGd.out.frozen (cc * 2)
              have f1 := HMGd.out.frozen (cc * 2 + 1)
              have hpc : mgP im i cc cc = mgC im i cc := by unfold mgP; rw [if_neg (by omega)]
              rw [hpc] at p0 p1
              clear hpc
              generalize (mgC im i cc).lo = lo at *
              generalize (mgC im i cc).hi = hi2 at *
              generalize ((im i).ss cc).lo = lo2 at *
              generalize ((im i).ss cc).hi = hi3 at *
              have HMX := Lib.hid (show (if lo < lo2 then lo2 else lo) = max lo lo2 from by split <;> omega)
              have HMN := Lib.hid (show (if hi3 < hi2 then hi3 else hi2) = min hi2 hi3 from by split <;> omega)
              refine any_of_tail 22 22 (fun w' => w' = Vd) (by kernel_rfl) rfl (fun hS => ?_)
              refine headH_take (i := 0) (v := ?_) rfl (by kernel_rfl) (fun _ _ _ h => h) (Or.inl ⟨by rfl, ?_⟩) (by assumption) ?_; rotate_left; (· intro w' hSw; (try dsimp only at hSw); (try subst hSw); (try simp only [List.getElem_toArray, List.getElem_cons_zero, List.getElem_cons_succ]); go_simp; (try with_reducible rfl)); (try simp only [List.getElem_toArray, List.getElem_cons_zero, List.getElem_cons_succ]); (try dsimp only [Act.put]); (try simp only [List.setIfInBounds_toArray, List.set_cons_zero, List.set_cons_succ])
              refine headH_take (i := 1) (v := ?_) rfl (by kernel_rfl) (fun _ _ _ h => h) (Or.inl ⟨by rfl, ?_⟩) (by assumption) ?_; rotate_left; (· intro w' hSw; (try dsimp only at hSw); (try subst hSw); (try simp only [List.getElem_toArray, List.getElem_cons_zero, List.getElem_cons_succ]); go_simp; (try with_reducible rfl)); (try simp only [List.getElem_toArray, List.getElem_cons_zero, List.getElem_cons_succ]); (try dsimp only [Act.put]); (try simp only [List.setIfInBounds_toArray, List.set_cons_zero, List.set_cons_succ])
              refine headH_take (i := 2) (v := ?_) rfl (by kernel_rfl) (fun _ _ _ h => h) (Or.inl ⟨by rfl, ?_⟩) (by assumption) ?_; rotate_left; (· intro w' hSw; (try dsimp only at hSw); (try subst hSw); (try simp only [List.getElem_toArray, List.getElem_cons_zero, List.getElem_cons_succ]); go_simp; (try with_reducible rfl)); (try simp only [List.getElem_toArray, List.getElem_cons_zero, List.getElem_cons_succ]); (try dsimp only [Act.put]); (try simp only [List.setIfInBounds_toArray, List.set_cons_zero, List.set_cons_succ])
              refine headH_take (i := 3) (v := ?_) rfl (by kernel_rfl) (fun _ _ _ h => h) (Or.inl ⟨by rfl, ?_⟩) (by assumption) ?_; rotate_left; (· intro w' hSw; (try dsimp only at hSw); (try subst hSw); (try simp only [List.getElem_toArray, List.getElem_cons_zero, List.getElem_cons_succ]); go_simp; (try with_reducible rfl)); (try simp only [List.getElem_toArray, List.getElem_cons_zero, List.getElem_cons_succ]); (try dsimp only [Act.put]); (try simp only [List.setIfInBounds_toArray, List.set_cons_zero, List.set_cons_succ])
              refine headH_take (i := 4) (v := ?_) rfl (by kernel_rfl) (fun _ _ _ h => h) (Or.inl ⟨by rfl, ?_⟩) (by assumption) ?_; rotate_left; (· intro w' hSw; (try dsimp only at hSw); (try subst hSw); (try simp only [List.getElem_toArray, List.getElem_cons_zero, List.getElem_cons_succ]); go_simp; (try with_reducible rfl)); (try simp only [List.getElem_toArray, List.getElem_cons_zero, List.getElem_cons_succ]); (try dsimp only [Act.put]); (try simp only [List.setIfInBounds_toArray, List.set_cons_zero, List.set_cons_succ])
              refine headH_take (i := 5) (v := ?_) rfl (by kernel_rfl) (fun _ _ _ h => h) (Or.inl ⟨by rfl, ?_⟩) (by assumption) ?_; rotate_left; (· intro w' hSw; (try dsimp only at hSw); (try subst hSw); (try simp only [List.getElem_toArray, List.getElem_cons_zero, List.getElem_cons_succ]); go_simp; (try with_reducible rfl)); (try simp only [List.getElem_toArray, List.getElem_cons_zero, List.getElem_cons_succ]); (try dsimp only [Act.put]); (try simp only [List.setIfInBounds_toArray, List.set_cons_zero, List.set_cons_succ])
              refine headH_take (i := 6) (v := ?_) rfl (by kernel_rfl) (fun _ _ _ h => h) (Or.inl ⟨by rfl, ?_⟩) (by assumption) ?_; rotate_left; (· intro w' hSw; (try dsimp only at hSw); (try subst hSw); (try simp only [List.getElem_toArray, List.getElem_cons_zero, List.getElem_cons_succ]); go_simp; (try with_reducible rfl)); (try simp only [List.getElem_toArray, List.getElem_cons_zero, List.getElem_cons_succ]); (try dsimp only [Act.put]); (try simp only [List.setIfInBounds_toArray, List.set_cons_zero, List.set_cons_succ])
              refine headH_take (i := 7) (v := ?_) rfl (by kernel_rfl) (fun _ _ _ h => h) (Or.inl ⟨by rfl, ?_⟩) (by assumption) ?_; rotate_left; (· intro w' hSw; (try dsimp only at hSw); (try subst hSw); (try simp only [List.getElem_toArray, List.getElem_cons_zero, List.getElem_cons_succ]); go_simp; (try with_reducible rfl)); (try simp only [List.getElem_toArray, List.getElem_cons_zero, List.getElem_cons_succ]); (try dsimp only [Act.put]); (try simp only [List.setIfInBounds_toArray, List.set_cons_zero, List.set_cons_succ])
              refine headH_take (i := 8) (v := ?_) rfl (by kernel_rfl) (fun _ _ _ h => h) (Or.inl ⟨by rfl, ?_⟩) (by assumption) ?_; rotate_left; (· intro w' hSw; (try dsimp only at hSw); (try subst hSw); (try simp only [List.getElem_toArray, List.getElem_cons_zero, List.getElem_cons_succ]); go_simp; (try with_reducible rfl)); (try simp only [List.getElem_toArray, List.getElem_cons_zero, List.getElem_cons_succ]); (try dsimp only [Act.put]); (try simp only [List.setIfInBounds_toArray, List.set_cons_zero, List.set_cons_succ])
              refine headH_take (i := 9) (v := ?_) rfl (by kernel_rfl) (fun _ _ _ h => h) (Or.inl ⟨by rfl, ?_⟩) (by assumption) ?_; rotate_left; (· intro w' hSw; (try dsimp only at hSw); (try subst hSw); (try simp only [List.getElem_toArray, List.getElem_cons_zero, List.getElem_cons_succ]); go_simp; (try with_reducible rfl)); (try simp only [List.getElem_toArray, List.getElem_cons_zero, List.getElem_cons_succ]); (try dsimp only [Act.put]); (try simp only [List.setIfInBounds_toArray, List.set_cons_zero, List.set_cons_succ])
              refine headH_take (i := 10) (v := ?_) rfl (by kernel_rfl) (fun _ _ _ h => h) (Or.inl ⟨by rfl, ?_⟩) (by assumption) ?_; rotate_left; (· intro w' hSw; (try dsimp only at hSw); (try subst hSw); (try simp only [List.getElem_toArray, List.getElem_cons_zero, List.getElem_cons_succ]); go_simp; (try with_reducible rfl)); (try simp only [List.getElem_toArray, List.getElem_cons_zero, List.getElem_cons_succ]); (try dsimp only [Act.put]); (try simp only [List.setIfInBounds_toArray, List.set_cons_zero, List.set_cons_succ])
              refine headH_take (i := 12) (v := ?_) rfl (by kernel_rfl) (fun _ _ _ h => h) (Or.inl ⟨by rfl, ?_⟩) (by assumption) ?_; rotate_left; (· intro w' hSw; (try dsimp only at hSw); (try subst hSw); (try simp only [List.getElem_toArray, List.getElem_cons_zero, List.getElem_cons_succ]); go_simp; (try with_reducible rfl)); (try simp only [List.getElem_toArray, List.getElem_cons_zero, List.getElem_cons_succ]); (try dsimp only [Act.put]); (try simp only [List.setIfInBounds_toArray, List.set_cons_zero, List.set_cons_succ])
              refine headH_take (i := 13) (v := ?_) rfl (by kernel_rfl) (fun _ _ _ h => h) (Or.inl ⟨by rfl, ?_⟩) (by assumption) ?_; rotate_left; (· intro w' hSw; (try dsimp only at hSw); (try subst hSw); (try simp only [List.getElem_toArray, List.getElem_cons_zero, List.getElem_cons_succ]); go_simp; (try with_reducible rfl)); (try simp only [List.getElem_toArray, List.getElem_cons_zero, List.getElem_cons_succ]); (try dsimp only [Act.put]); (try simp only [List.setIfInBounds_toArray, List.set_cons_zero, List.set_cons_succ])
              refine headH_take (i := 14) (v := ?_) rfl (by kernel_rfl) (fun _ _ _ h => h) (Or.inl ⟨by rfl, ?_⟩) (by assumption) ?_; rotate_left; (· intro w' hSw; (try dsimp only at hSw); (try subst hSw); (try simp only [List.getElem_toArray, List.getElem_cons_zero, List.getElem_cons_succ]); go_simp; (try with_reducible rfl)); (try simp only [List.getElem_toArray, List.getElem_cons_zero, List.getElem_cons_succ]); (try dsimp only [Act.put]); (try simp only [List.setIfInBounds_toArray, List.set_cons_zero, List.set_cons_succ])
              refine headH_take (i := 15) (v := ?_) rfl (by kernel_rfl) (fun _ _ _ h => h) (Or.inl ⟨by rfl, ?_⟩) (by assumption) ?_; rotate_left; (· intro w' hSw; (try dsimp only at hSw); (try subst hSw); (try simp only [List.getElem_toArray, List.getElem_cons_zero, List.getElem_cons_succ]); go_simp; (try with_reducible rfl)); (try simp only [List.getElem_toArray, List.getElem_cons_zero, List.getElem_cons_succ]); (try dsimp only [Act.put]); (try simp only [List.setIfInBounds_toArray, List.set_cons_zero, List.set_cons_succ])
              refine headH_take (i := 16) (v := ?_) rfl (by kernel_rfl) (fun _ _ _ h => h) (Or.inl ⟨by rfl, ?_⟩) (by assumption) ?_; rotate_left; (· intro w' hSw; (try dsimp only at hSw); (try subst hSw); (try simp only [List.getElem_toArray, List.getElem_cons_zero, List.getElem_cons_succ]); go_simp; (try with_reducible rfl)); (try simp only [List.getElem_toArray, List.getElem_cons_zero, List.getElem_cons_succ]); (try dsimp only [Act.put]); (try simp only [List.setIfInBounds_toArray, List.set_cons_zero, List.set_cons_succ])
              refine headH_take (i := 17) (v := ?_) rfl (by kernel_rfl) (fun _ _ _ h => h) (Or.inl ⟨by rfl, ?_⟩) (by assumption) ?_; rotate_left; (· intro w' hSw; (try dsimp only at hSw); (try subst hSw); (try simp only [List.getElem_toArray, List.getElem_cons_zero, List.getElem_cons_succ]); go_simp; (try with_reducible rfl)); (try simp only [List.getElem_toArray, List.getElem_cons_zero, List.getElem_cons_succ]); (try dsimp only [Act.put]); (try simp only [List.setIfInBounds_toArray, List.set_cons_zero, List.set_cons_succ])
              refine headH_take (i := 18) (v := ?_) rfl (by kernel_rfl) (fun _ _ _ h => h) (Or.inl ⟨by rfl, ?_⟩) (by assumption) ?_; rotate_left; (· intro w' hSw; (try dsimp only at hSw); (try subst hSw); (try simp only [List.getElem_toArray, List.getElem_cons_zero, List.getElem_cons_succ]); go_simp; (try with_reducible rfl)); (try simp only [List.getElem_toArray, List.getElem_cons_zero, List.getElem_cons_succ]); (try dsimp only [Act.put]); (try simp only [List.setIfInBounds_toArray, List.set_cons_zero, List.set_cons_succ])
              refine headH_take (i := 19) (v := ?_) rfl (by kernel_rfl) (fun _ _ _ h => h) (Or.inl ⟨by rfl, ?_⟩) (by assumption) ?_; rotate_left; (· intro w' hSw; (try dsimp only at hSw); (try subst hSw); (try simp only [List.getElem_toArray, List.getElem_cons_zero, List.getElem_cons_succ]); go_simp; (try with_reducible rfl)); (try simp only [List.getElem_toArray, List.getElem_cons_zero, List.getElem_cons_succ]); (try dsimp only [Act.put]); (try simp only [List.setIfInBounds_toArray, List.set_cons_zero, List.set_cons_succ])
              refine headH_all (rs := [11, 20]) (by kernel_rfl) (by simp) (by kernel_rfl) ?_
              intro i0 hi0
              simp only [List.mem_cons, List.not_mem_nil, or_false] at hi0
              rcases hi0 with rfl | rfl
              · (refine headH_op rfl (fun K hK => ?_); (try simp only [List.getElem_toArray, List.getElem_cons_zero, List.getElem_cons_succ]); go_simp; refine hK.out _ _ rfl (fun hS => ?_); clear hK K; (try simp only [List.getElem_toArray, List.getElem_cons_zero, List.getElem_cons_succ]); (try dsimp only [Act.put]); (try simp only [List.setIfInBounds_toArray, List.set_cons_zero, List.set_cons_succ]))
                rw [HMX.out]
                generalize max lo lo2 = ml at *
                refine headH_all (rs := [20]) (by kernel_rfl) (by simp) (by kernel_rfl) ?_; intro i0 hi0; simp only [List.mem_cons, List.not_mem_nil, or_false] at hi0; subst hi0; refine headH_op rfl (fun K hK => ?_); (try simp only [List.getElem_toArray, List.getElem_cons_zero, List.getElem_cons_succ]); go_simp; refine hK.out _ _ rfl (fun hS => ?_); clear hK K; (try simp only [List.getElem_toArray, List.getElem_cons_zero, List.getElem_cons_succ]); (try dsimp only [Act.put]); (try simp only [List.setIfInBounds_toArray, List.set_cons_zero, List.set_cons_succ])
                rw [HMN.out]
                generalize min hi2 hi3 = mh at *
                refine headH_take (i := 21) (v := ?_) rfl (by kernel_rfl) (fun _ _ _ h => h) (Or.inl ⟨by rfl, ?_⟩) (by assumption) ?_; rotate_left; (· intro w' hSw; (try dsimp only at hSw); (try subst hSw); (try simp only [List.getElem_toArray, List.getElem_cons_zero, List.getElem_cons_succ]); go_simp; (try with_reducible rfl)); (try simp only [List.getElem_toArray, List.getElem_cons_zero, List.getElem_cons_succ]); (try dsimp only [Act.put]); (try simp only [List.setIfInBounds_toArray, List.set_cons_zero, List.set_cons_succ])
                change tailL _ _ _ _ _ _ _ _
                refine ⟨by kernel_rfl, ?_⟩
                simp only [List.drop_succ_cons, List.drop_zero]
                go_wp2
                go_meet
                have hmc : mb ≠ cb := by have ho := HMGd.out.ord; omega
                have HMG5 := Lib.hid ((HMGd.out.set hcn ml mh).congr (g := mgP im i (cc + 1)) (fun x _ => by
                  unfold mgP
                  by_cases e : x = cc
                  · subst e
                    rw [if_pos rfl, if_pos (by omega), HNX.out]
                  · rw [if_neg e]
                    by_cases e2 : x < cc
                    · rw [if_pos e2, if_pos (by omega)]
                    · rw [if_neg e2, if_neg (by omega)]))
                have HD5 := Lib.hid (show ((Vd.setCell ⟨cb, cc * 2, none⟩ (.int .i64 ml)).setCell ⟨cb, cc * 2 + 1, none⟩ (.int .i64 mh)).cell? ⟨mb, 1, none⟩ = some (.slice (im i).ba (im i).bn (im i).bc) from by
                  rw [World.cell?_of_block (heap_setCell_other _ ⟨cb, cc * 2 + 1, none⟩ mb _ hmc), World.cell?_of_block (heap_setCell_other _ ⟨cb, cc * 2, none⟩ mb _ hmc)]
                  exact HDd.out)
                have hmz5 : mb < ((Vd.setCell ⟨cb, cc * 2, none⟩ (.int .i64 ml)).setCell ⟨cb, cc * 2 + 1, none⟩ (.int .i64 mh)).heap.size := by simpa using hmzd
                exact Lib.hid ⟨HMG5.out, HD5.out, hmz5⟩
              · (refine headH_op rfl (fun K hK => ?_); (try simp only [List.getElem_toArray, List.getElem_cons_zero, List.getElem_cons_succ]); go_simp; refine hK.out _ _ rfl (fun hS => ?_); clear hK K; (try simp only [List.getElem_toArray, List.getElem_cons_zero, List.getElem_cons_succ]); (try dsimp only [Act.put]); (try simp only [List.setIfInBounds_toArray, List.set_cons_zero, List.set_cons_succ]))
                rw [HMN.out]
                generalize min hi2 hi3 = mh at *
                refine headH_all (rs := [11]) (by kernel_rfl) (by simp) (by kernel_rfl) ?_; intro i0 hi0; simp only [List.mem_cons, List.not_mem_nil, or_false] at hi0; subst hi0; refine headH_op rfl (fun K hK => ?_); (try simp only [List.getElem_toArray, List.getElem_cons_zero, List.getElem_cons_succ]); go_simp; refine hK.out _ _ rfl (fun hS => ?_); clear hK K; (try simp only [List.getElem_toArray, List.getElem_cons_zero, List.getElem_cons_succ]); (try dsimp only [Act.put]); (try simp only [List.setIfInBounds_toArray, List.set_cons_zero, List.set_cons_succ])
                rw [HMX.out]
                generalize max lo lo2 = ml at *
                refine headH_take (i := 21) (v := ?_) rfl (by kernel_rfl) (fun _ _ _ h => h) (Or.inl ⟨by rfl, ?_⟩) (by assumption) ?_; rotate_left; (· intro w' hSw; (try dsimp only at hSw); (try subst hSw); (try simp only [List.getElem_toArray, List.getElem_cons_zero, List.getElem_cons_succ]); go_simp; (try with_reducible rfl)); (try simp only [List.getElem_toArray, List.getElem_cons_zero, List.getElem_cons_succ]); (try dsimp only [Act.put]); (try simp only [List.setIfInBounds_toArray, List.set_cons_zero, List.set_cons_succ])
                change tailL _ _ _ _ _ _ _ _
                refine ⟨by kernel_rfl, ?_⟩
                simp only [List.drop_succ_cons, List.drop_zero]
                go_wp2
                go_meet
                have hmc : mb ≠ cb := by have ho := HMGd.out.ord; omega
                have HMG5 := Lib.hid ((HMGd.out.set hcn ml mh).congr (g := mgP im i (cc + 1)) (fun x _ => by
                  unfold mgP
                  by_cases e : x = cc
                  · subst e
                    rw [if_pos rfl, if_pos (by omega), HNX.out]
                  · rw [if_neg e]
                    by_cases e2 : x < cc
                    · rw [if_pos e2, if_pos (by omega)]
                    · rw [if_neg e2, if_neg (by omega)]))
                have HD5 := Lib.hid (show ((Vd.setCell ⟨cb, cc * 2, none⟩ (.int .i64 ml)).setCell ⟨cb, cc * 2 + 1, none⟩ (.int .i64 mh)).cell? ⟨mb, 1, none⟩ = some (.slice (im i).ba (im i).bn (im i).bc) from by
                  rw [World.cell?_of_block (heap_setCell_other _ ⟨cb, cc * 2 + 1, none⟩ mb _ hmc), World.cell?_of_block (heap_setCell_other _ ⟨cb, cc * 2, none⟩ mb _ hmc)]
                  exact HDd.out)
                have hmz5 : mb < ((Vd.setCell ⟨cb, cc * 2, none⟩ (.int .i64 ml)).setCell ⟨cb, cc * 2 + 1, none⟩ (.int .i64 mh)).heap.size := by simpa using hmzd
                exact Lib.hid ⟨HMG5.out, HD5.out, hmz5⟩
            rename World => V5
            clear HMG HDX hmz k0 k1
            have HMG5 := Lib.hid hcut.out.1
            have HD5 := Lib.hid hcut.out.2.1
            have hmz5 := hcut.out.2.2
            clear hcut
            generalize max (mgC im i cc).lo ((im i).ss cc).lo = ml at *
            generalize min (mgC im i cc).hi ((im i).ss cc).hi = mh at *
            go_upto_region 17 with (fail)
            obtain ⟨b0, b1⟩ := HMG5.out.box
            obtain ⟨p0, p1⟩ := HMG5.out.cell hcn
            have hpn : mgP im i (cc + 1) cc = ⟨ml, mh⟩ := by unfold mgP; rw [if_pos (by omega), HNX.out]
            rw [hpn] at p0 p1
            dsimp only at p0 p1
            have hobz := HMG5.out.lt
            have hcbz : cb < V5.heap.size := by have := HMG5.out.ord; omega
            clear hpn
            by_cases hle : ml ≤ mh
            · have hle' : ¬ mh < ml := by omega
              (refine wp_region_calm (V5.heap.size) (by kernel_rfl) (by kernel_rfl) ?_; (repeat (first | go_big_quiet_step (fail) | quiet_step (fail))); refine wpQuiet_nil ?_; intro _ hw'; obtain ⟨xq, hw''⟩ := hw'; subst hw'')
              have HMGq := Lib.hid (HMG5.out.step (Calm.below xq))
              have HDq := Lib.hid (((bcell (Calm.below xq)).1 mb 1 hmz5).trans HD5.out)
              have hmzq := Nat.lt_of_lt_of_le hmz5 (Calm.below xq).size
              have HOK2 := Lib.hid (fun x (hx : x < cc + 1) => show (mgC im (i + 1) x).lo ≤ (mgC im (i + 1) x).hi from by
                by_cases e : x = cc
                · subst e; rw [HNX.out]; exact hle
                · exact HOKC.out x (by omega))
              generalize Calm.val xq = wq at *
              clear b0 b1 p0 p1 HMG5 HD5 hmz5 hobz hcbz
              go_wp2
              go_roundw
              case rel => first | exact ⟨cc + 1, by omega, by go_num, Lib.hid ⟨HOK2.out, HMGq.out, HDq.out, hmzq⟩⟩ | exact ⟨_, ⟨cc + 1, by omega, by go_num, Lib.hid ⟨HOK2.out, HMGq.out, HDq.out, hmzq⟩⟩, rfl⟩
              case measure => simp [intOf]; omega
            · have hle' : mh < ml := by omega
              have HE := Lib.hid (fun w' hb => HR2.out w' HSD.out (i + 1) (by omega) (by
                rw [mgOk, allUpto_false hcn (by rw [HNX.out]; exact decide_eq_false hle), Bool.and_false]) hb)
              (refine wp_region_calm (V5.heap.size) (by kernel_rfl) (by kernel_rfl) ?_; (repeat (first | go_big_quiet_step (fail) | quiet_step (fail))); refine wpQuiet_nil ?_; intro _ hw'; obtain ⟨xq, hw''⟩ := hw'; subst hw'')
              have HMGq := Lib.hid (HMG5.out.step (Calm.below xq))
              generalize Calm.val xq = wq at *
              clear b0 b1 p0 p1 HMG5 HD5 hmz5 hobz hcbz
              (have hrb := HMGq.out.res; have q0 : wq.cell? ⟨w.heap.size, 0, none⟩ = some (.slice none 0 0) := cell_of_row _ _ _ _ _ _ hrb; have q1 : wq.cell? ⟨w.heap.size, 1, none⟩ = some (.slice none 0 0) := cell_of_row _ _ _ _ _ _ hrb; have f0 : wq.frozen? ⟨w.heap.size, 0, none⟩ = false := frozen_of_row _ _ _ _ _ hrb; have f1 : wq.frozen? ⟨w.heap.size, 1, none⟩ = false := frozen_of_row _ _ _ _ _ hrb; have HRX := Lib.hid hrb; have HBZ := Lib.hid ((HMGq.out.below).setCell (p := ⟨w.heap.size, 0, none⟩) (Nat.le_refl _) (.slice none 0 0) |>.setCell (p := ⟨w.heap.size, 1, none⟩) (Nat.le_refl _) (.slice none 0 0)); clear hrb; go_wp2; have h1 := heap_setCell_same wq w.heap.size 0 _ _ (.slice none 0 0) HRX.out; have h2 := heap_setCell_same _ w.heap.size 1 _ _ (.slice none 0 0) h1; have r0 : ((wq.setCell ⟨w.heap.size, 0, none⟩ (.slice none 0 0)).setCell ⟨w.heap.size, 1, none⟩ (.slice none 0 0)).cell? ⟨w.heap.size, 0, none⟩ = some (.slice none 0 0) := cell_of_row _ _ _ _ _ _ h2; have r1 : ((wq.setCell ⟨w.heap.size, 0, none⟩ (.slice none 0 0)).setCell ⟨w.heap.size, 1, none⟩ (.slice none 0 0)).cell? ⟨w.heap.size, 1, none⟩ = some (.slice none 0 0) := cell_of_row _ _ _ _ _ _ h2; have HE2 := HE.out _ HBZ.out; clear h1 h2; generalize World.setCell (World.setCell wq _ _) _ _ = wf at *; refine bodyPost_ret (v := .tuple #[.agg #[.slice none 0 0, .slice none 0 0], .int .i64 7]) (by simp [results, Tryd.results8, go_sem, r0, r1]) rfl ?_; exact HE2)
          · obtain rfl : cc = n := by omega
            have hcn' : ¬ (cc : Int) < (cc : Int) := by omega
            have HOK2 := Lib.hid (show mgOk cc im (i + 1) = true from by rw [mgOk, HOK.out, allUpto_true (fun x hx => decide_eq_true (HY.out.1 x hx))]; rfl)
            have HMG := Lib.hid (HY.out.2.1.congr (g := mgC im (i + 1)) (fun x hx => by unfold mgP; rw [if_pos hx]))
            have d1 := HY.out.2.2.1
            have hmz := HY.out.2.2.2
            clear HY
            go_wp2
            clear d1 hmz
            go_loopw [101] (fun s101 wx => ∃ j : Nat, j ≤ (im i).bn ∧ s101 = .int .i64 (j : Int) ∧ Hid (∃ v L, L.map BM.strip = (mgB im i ++ (List.range j).map (im i).bs).map BM.strip ∧ MgI w cb ob cc cap (mgC im (i + 1)) v L wx)) (fun s101 _ => (im i).bn - (intOf s101).toNat)
            case atStart => exact ⟨0, Nat.zero_le _, rfl, Lib.hid ⟨_, _, by simpa using HST.out, HMG.out⟩⟩
            case round =>
              clear HMG HST
              obtain ⟨j, hj, rfl, HZ⟩ := hrel
              obtain ⟨v, L, hst, hmg⟩ := HZ.out
              clear HZ
              have HST := Lib.hid hst
              clear hst
              by_cases hjn : j < (im i).bn
              · have hjn' : (j : Int) < ((im i).bn : Int) := by omega
                have hsh := (ShapedI.shape (HSD.out i hlt)).1
                have hwn := hsh.wn j hjn
                have hst2 := hsh.set j hjn
                have hm20 := hsh.m20
                have yM := ((HI2.out.below (hmg.below.mono hBw)).get hlt).choose_spec.choose_spec.2.2.2.2.2
                obtain ⟨bb, bo, hba, hbB, ⟨e0, e1, e2, e3⟩, hbm⟩ := yM.get hjn
                have hMEM := Lib.hid (hbm.up (show B ≤ wr.heap.size by have := hmg.below.size; omega))
                rw [hba]
                have hbz : bb < wr.heap.size := by have := hmg.below.size; omega
                clear yM hbm hsh hba
                have HMG := Lib.hid hmg
                clear hmg
                have HW := Lib.hid hwn
                have HSB := Lib.hid hst2
                clear hwn hst2
                have hn40' : (im i).cn ≤ 40 := by rw [(ShapedI.shape (HSD.out i hlt)).2]; exact hn40
                have hp40 := mg_setB HSB.out hn40'
                obtain ⟨p, hp⟩ : ∃ p, (im i).bs j = p := ⟨_, rfl⟩
                rw [hp] at e0 e1 e2 e3 HW hMEM hp40
                have HP := Lib.hid hp
                clear hp HSB hn40'
                obtain ⟨pca, pcn, pcc, pwa, pwn, pwc, plo, phi, pcs, pws⟩ := p
                dsimp only at e0 e1 e2 e3 hp40
                have hw40 : pwn ≤ 40 := by have := HW.out; dsimp only at this; omega
                have HMM := Lib.hid (show Ints wr.heap.size wr pca pcn pcs ∧ Ints wr.heap.size wr pwa pwn pws from hMEM.out.2.2)
                clear hMEM HW
                go_upto_region 23 with (fail)
                have hV6 := alloc_below wr (.cells #[.slice pca pcn pcc, .slice pwa pwn pwc, .int .i64 plo, .int .i64 phi] 57)
                have HQ := Lib.hid (heap_alloc_new wr (.cells #[.slice pca pcn pcc, .slice pwa pwn pwc, .int .i64 plo, .int .i64 phi] 57))
                have HBA := Lib.hid hV6
                clear hV6 e0 e1 e2 e3 hbz
                generalize World.alloc wr _ = V6 at *
                obtain ⟨q, hq⟩ : ∃ q, wr.heap.size = q := ⟨_, rfl⟩
                have HQE := Lib.hid hq
                rw [hq] at HQ HBA
                simp only [hq]
                clear hq
                go_cut [] from 105 to 112 (fun wx => Hid (∃ x : BM, x.strip = BM.strip ⟨pca, pcn, pcc, pwa, pwn, pwc, plo, phi, pcs, pws⟩ ∧ Below q wr wx ∧ wx.heap[q]? = some (.cells #[.slice x.ca x.cn x.cc, .slice x.wa x.wn x.wc, .int .i64 x.lo, .int .i64 x.hi] 57) ∧ x.cn ≤ maxLen ∧ LX (q + 1) wx x.ca x.cn x.cs ∧ x.wn ≤ maxLen ∧ LX (q + 1) wx x.wa x.wn x.ws))
                case first =>
                  refine wp_region_any (by kernel_rfl) ?_
                  change wpAny _ _ _ _ _ _ _ (World.drew V6)
                  have HQd := Lib.hid (show V6.drew.heap[q]? = _ from HQ.out)
                  have HBd := Lib.hid (show Below q wr V6.drew from HBA.out.drew)
                  clear HQ HBA
                  have HQ := HQd
                  have HBA := HBd
                  clear HQd HBd
                  have HI1 := Lib.hid (fun (W : World) (hb : Below q wr W) => show Ints W.heap.size W pca pcn pcs from ints_up (HMM.out.1.below (HQE.out ▸ hb)) (by have := hb.size; have := HQE.out; omega))
                  have HI3 := Lib.hid (fun (W : World) (hb : Below q wr W) => show Ints W.heap.size W pwa pwn pws from ints_up (HMM.out.2.below (HQE.out ▸ hb)) (by have := hb.size; have := HQE.out; omega))
                  have hna1 : pca = none → pcn = 0 := ints_none HMM.out.1
                  have hna2 : pwa = none → pwn = 0 := ints_none HMM.out.2
                  clear HMM HMG HST HP
                  generalize World.drew V6 = Vd at *
                  refine any_of_tail 7 7 (fun w' => w'.cell? ⟨q, 0, none⟩ = some (.slice pca pcn pcc) ∧ w'.cell? ⟨q, 1, none⟩ = some (.slice pwa pwn pwc)) (by kernel_rfl) ⟨cell_of_row _ _ _ _ _ _ HQ.out, cell_of_row _ _ _ _ _ _ HQ.out⟩ (fun hS => ?_)
                  refine headH_take (i := 0) (v := ?_) rfl (by kernel_rfl) (fun _ _ _ h => h) (Or.inl ⟨by rfl, ?_⟩) (by assumption) ?_; rotate_left; (· intro w' hSw; (try dsimp only at hSw); (obtain ⟨z0, z1⟩ := hSw); (try simp only [List.getElem_toArray, List.getElem_cons_zero, List.getElem_cons_succ]); go_simp; (try with_reducible rfl)); (try simp only [List.getElem_toArray, List.getElem_cons_zero, List.getElem_cons_succ]); (try dsimp only [Act.put]); (try simp only [List.setIfInBounds_toArray, List.set_cons_zero, List.set_cons_succ])
                  refine headH_take (i := 1) (v := ?_) rfl (by kernel_rfl) (fun _ _ _ h => h) (Or.inl ⟨by rfl, ?_⟩) (by assumption) ?_; rotate_left; (· intro w' hSw; (try dsimp only at hSw); (obtain ⟨z0, z1⟩ := hSw); (try simp only [List.getElem_toArray, List.getElem_cons_zero, List.getElem_cons_succ]); go_simp; (try with_reducible rfl)); (try simp only [List.getElem_toArray, List.getElem_cons_zero, List.getElem_cons_succ]); (try dsimp only [Act.put]); (try simp only [List.setIfInBounds_toArray, List.set_cons_zero, List.set_cons_succ])
                  refine headH_take (i := 3) (v := ?_) rfl (by kernel_rfl) (fun _ _ _ h => h) (Or.inl ⟨by rfl, ?_⟩) (by assumption) ?_; rotate_left; (· intro w' hSw; (try dsimp only at hSw); (obtain ⟨z0, z1⟩ := hSw); (try simp only [List.getElem_toArray, List.getElem_cons_zero, List.getElem_cons_succ]); go_simp; (try with_reducible rfl)); (try simp only [List.getElem_toArray, List.getElem_cons_zero, List.getElem_cons_succ]); (try dsimp only [Act.put]); (try simp only [List.setIfInBounds_toArray, List.set_cons_zero, List.set_cons_succ])
                  refine headH_take (i := 4) (v := ?_) rfl (by kernel_rfl) (fun _ _ _ h => h) (Or.inl ⟨by rfl, ?_⟩) (by assumption) ?_; rotate_left; (· intro w' hSw; (try dsimp only at hSw); (obtain ⟨z0, z1⟩ := hSw); (try simp only [List.getElem_toArray, List.getElem_cons_zero, List.getElem_cons_succ]); go_simp; (try with_reducible rfl)); (try simp only [List.getElem_toArray, List.getElem_cons_zero, List.getElem_cons_succ]); (try dsimp only [Act.put]); (try simp only [List.setIfInBounds_toArray, List.set_cons_zero, List.set_cons_succ])
                  refine headH_all (rs := [2]) (by kernel_rfl) (by simp) (by kernel_rfl) ?_; intro i0 hi0; simp only [List.mem_cons, List.not_mem_nil, or_false] at hi0; subst hi0
                  refine headH_op rfl (fun K hK => ?_); (try simp only [List.getElem_toArray, List.getElem_cons_zero, List.getElem_cons_succ]); go_simp; refine (cloneI_any pca pcn pcc pcs Vd (HI1.out _ HBA.out) (by omega) hna1).mono ?_; rintro e W1 ⟨a1, c1, rfl, hown, hb⟩; dsimp only; have hqA := (Array.getElem?_eq_some_iff.1 HQ.out).1; have N1 := Lib.hid (LX.clone hown hqA); (try (have NN := Lib.hid ((N2).out.step hb); clear N2; have N2 := NN; clear NN)); have HBn := Lib.hid (HBA.out.trans (hb.mono (Nat.le_of_lt hqA))); have HQn := Lib.hid ((hb.block _ hqA).trans HQ.out); clear HBA HQ hown hb hqA; have HBA := HBn; have HQ := HQn; clear HBn HQn; refine hK.out _ _ ⟨cell_of_row _ _ _ _ _ _ HQ.out, cell_of_row _ _ _ _ _ _ HQ.out⟩ (fun hS => ?_); clear hK K; (try simp only [List.getElem_toArray, List.getElem_cons_zero, List.getElem_cons_succ]); (try dsimp only [Act.put]); (try simp only [List.setIfInBounds_toArray, List.set_cons_zero, List.set_cons_succ])
                  refine headH_take (i := 6) (v := ?_) rfl (by kernel_rfl) (fun _ _ _ h => h) (Or.inl ⟨by rfl, ?_⟩) (by assumption) ?_; rotate_left; (· intro w' hSw; (try dsimp only at hSw); (obtain ⟨z0, z1⟩ := hSw); (try simp only [List.getElem_toArray, List.getElem_cons_zero, List.getElem_cons_succ]); go_simp; (try with_reducible rfl)); (try simp only [List.getElem_toArray, List.getElem_cons_zero, List.getElem_cons_succ]); (try dsimp only [Act.put]); (try simp only [List.setIfInBounds_toArray, List.set_cons_zero, List.set_cons_succ])
                  refine headH_all (rs := [5]) (by kernel_rfl) (by simp) (by kernel_rfl) ?_; intro i0 hi0; simp only [List.mem_cons, List.not_mem_nil, or_false] at hi0; subst hi0
                  refine headH_op rfl (fun K hK => ?_); (try simp only [List.getElem_toArray, List.getElem_cons_zero, List.getElem_cons_succ]); go_simp; refine (cloneI_any pwa pwn pwc pws W1 (HI3.out _ HBA.out) (by omega) hna2).mono ?_; rintro e W2 ⟨a2, c2, rfl, hown, hb⟩; dsimp only; have hqA := (Array.getElem?_eq_some_iff.1 HQ.out).1; have N2 := Lib.hid (LX.clone hown hqA); (try (have NN := Lib.hid ((N1).out.step hb); clear N1; have N1 := NN; clear NN)); have HBn := Lib.hid (HBA.out.trans (hb.mono (Nat.le_of_lt hqA))); have HQn := Lib.hid ((hb.block _ hqA).trans HQ.out); clear HBA HQ hown hb hqA; have HBA := HBn; have HQ := HQn; clear HBn HQn; refine hK.out _ _ ⟨cell_of_row _ _ _ _ _ _ HQ.out, cell_of_row _ _ _ _ _ _ HQ.out⟩ (fun hS => ?_); clear hK K; (try simp only [List.getElem_toArray, List.getElem_cons_zero, List.getElem_cons_succ]); (try dsimp only [Act.put]); (try simp only [List.setIfInBounds_toArray, List.set_cons_zero, List.set_cons_succ])
                  change tailL _ _ _ _ _ _ _ _; refine ⟨by kernel_rfl, ?_⟩; simp only [List.drop_succ_cons, List.drop_zero]; have x0 := (cell_of_row _ _ 0 _ _ _ HQ.out).trans (show _ = some (Value.slice pca pcn pcc) from rfl); have x1 := (cell_of_row _ _ 1 _ _ _ HQ.out).trans (show _ = some (Value.slice pwa pwn pwc) from rfl); have f0 := frozen_of_row _ _ 0 _ _ HQ.out; have f1 := frozen_of_row _ _ 1 _ _ HQ.out; have HR := Lib.hid (heap_setCell_same _ q 1 _ _ (.slice a2 pwn c2) (heap_setCell_same W2 q 0 _ _ (.slice a1 pcn c1) HQ.out)); have HBB := Lib.hid ((HBA.out.setCell (p := ⟨q, 0, none⟩) (Nat.le_refl _) (.slice a1 pcn c1)).setCell (p := ⟨q, 1, none⟩) (Nat.le_refl _) (.slice a2 pwn c2)); have L1 := Lib.hid ((N1.out.set (o := 0) (.slice a1 pcn c1)).set (o := 1) (.slice a2 pwn c2)); have L2 := Lib.hid ((N2.out.set (o := 0) (.slice a1 pcn c1)).set (o := 1) (.slice a2 pwn c2)); clear N1 N2 HQ HBA HI1 HI3; go_wp2; go_meet; exact Lib.hid ⟨⟨a1, pcn, c1, a2, pwn, c2, plo, phi, pcs, pws⟩, rfl, HBB.out, HR.out, Nat.le_trans hp40 (by decide), L1.out, Nat.le_trans hw40 (by decide), L2.out⟩
                rename World => V7
                obtain ⟨x, hxs, hbx, hxr, hx1, hl1, hx2, hl2⟩ := hcut.out
                clear hcut HQ HBA HMM
                have HPX := Lib.hid hxs
                have HMG7 := Lib.hid (HMG.out.step (show Below wr.heap.size wr V7 from HQE.out.symm ▸ hbx))
                have HL1 := Lib.hid hl1
                have HL2 := Lib.hid hl2
                have HX1 := Lib.hid hx1
                have HX2 := Lib.hid hx2
                have HBX := Lib.hid hbx
                have HLE := Lib.hid (show L.length ≤ 1000 from by
                  have h1 := congrArg List.length HST.out
                  simp only [List.length_map, List.length_append, List.length_range] at h1
                  have h2 := mgB_len im i (fun k hk => (ShapedI.shape (HSD.out k (by omega))).1.m20)
                  omega)
                obtain ⟨b0, b1⟩ := HMG7.out.box
                have hobz := HMG7.out.lt
                have z0 : V7.cell? ⟨q, 0, none⟩ = some (.slice x.ca x.cn x.cc) := cell_of_row _ _ _ _ _ _ hxr
                have z1 : V7.cell? ⟨q, 1, none⟩ = some (.slice x.wa x.wn x.wc) := cell_of_row _ _ _ _ _ _ hxr
                have z2 : V7.cell? ⟨q, 2, none⟩ = some (.int .i64 x.lo) := cell_of_row _ _ _ _ _ _ hxr
                have z3 : V7.cell? ⟨q, 3, none⟩ = some (.int .i64 x.hi) := cell_of_row _ _ _ _ _ _ hxr
                have HOW := Lib.hid (own_below HMG7.out.beams.own (alloc_below V7 (.cells #[.slice x.ca x.cn x.cc, .slice x.wa x.wn x.wc, .int .i64 x.lo, .int .i64 x.hi] 57)))
                have HOL := Lib.hid HMG7.out.beams.ownlt
                have HOR := Lib.hid HMG7.out.out
                have HNW := Lib.hid (World.news_of_block (heap_alloc_new V7 (.cells #[.slice x.ca x.cn x.cc, .slice x.wa x.wn x.wc, .int .i64 x.lo, .int .i64 x.hi] 57)))
                obtain ⟨j0, hj0, hz0, hz1, hz2⟩ := info_parts mg_info_beam
                have hb64 : L.length + 1 ≤ maxLen := Nat.le_trans (Nat.succ_le_succ HLE.out) (by decide)
                have hb48 : (L.length + 1) * 64 ≤ 140737488355328 := by have := HLE.out; omega
                have hzA : (V7.alloc (.cells #[.slice x.ca x.cn x.cc, .slice x.wa x.wn x.wc, .int .i64 x.lo, .int .i64 x.hi] 57)).heap.size = V7.heap.size + 1 := by simp
                have HA := Lib.hid (alloc_below V7 (.cells #[.slice x.ca x.cn x.cc, .slice x.wa x.wn x.wc, .int .i64 x.lo, .int .i64 x.hi] 57))
                clear hxs hbx hxr hx1 hl1 hx2 hl2
                go_upto_region 25 with (at_builtin; refine wpList_append_lies _ rfl _ _ 26 rfl (ob + 1) 57 j0 _ 4 64 Tryd.underlying26 hj0 hz0 hz1 hz2 rfl (by decide) v L.length (bmC L) rfl HOW.out ⟨V7.heap.size, 0, none⟩ 1 1 [.slice x.ca x.cn x.cc, .slice x.wa x.wn x.wc, .int .i64 x.lo, .int .i64 x.hi] rfl rfl HNW.out mg_beam_one (by decide) hb64 hb48 (by rw [hzA]; omega) _ rfl ?_; intro g1 cp V9 hown9 hgrow9 hat9 hlt9; have hob9 := (hgrow9.block ob (by rw [hzA]; omega) (fun e => by have := (HOL.out ob e.symm).1; omega)).trans ((HA.out.block ob hobz).trans HOR.out); have b1' : V9.cell? ⟨ob, 1, none⟩ = some v := cell_of_row _ _ _ _ _ _ hob9; have f1' : V9.frozen? ⟨ob, 1, none⟩ = false := frozen_of_row _ _ _ _ _ hob9)
                have HPU := Lib.hid (HMG.out.push (W3 := V7) (W5 := V9) (x := x) (show Below wr.heap.size wr V7 from HQE.out.symm ▸ HBX.out) ⟨HX1.out, HL1.out.imp id (fun ⟨b, h1, h2, h3, h4⟩ => ⟨b, h1, by have := HQE.out; omega, h3, h4⟩)⟩ ⟨HX2.out, HL2.out.imp id (fun ⟨b, h1, h2, h3, h4⟩ => ⟨b, h1, by have := HQE.out; omega, h3, h4⟩)⟩ hown9 hgrow9 hat9)
                have HS2 := Lib.hid (show (L ++ [x]).map BM.strip = (mgB im i ++ (List.range (j + 1)).map (im i).bs).map BM.strip from by
                  rw [List.map_append, HST.out, List.range_succ]
                  simp only [List.map_append, List.map_cons, List.map_nil, List.append_assoc, HP.out, HPX.out])
                clear hown9 hgrow9 hat9 hlt9 hob9 b1' f1' b0 b1 z0 z1 z2 z3 HMG HMG7 HOW HOL HOR HNW HA
                generalize World.setCell V9 _ _ = V10 at *
                go_wp2
                go_roundw
                case rel => first | exact ⟨j + 1, by omega, by go_num, Lib.hid ⟨_, L ++ [x], HS2.out, HPU.out⟩⟩ | exact ⟨_, ⟨j + 1, by omega, by go_num, Lib.hid ⟨_, L ++ [x], HS2.out, HPU.out⟩⟩, rfl⟩ | ((repeat apply Exists.intro); exact ⟨⟨j + 1, by omega, by go_num, Lib.hid ⟨_, L ++ [x], HS2.out, HPU.out⟩⟩, rfl⟩)
                case measure => simp [intOf]; omega
              · obtain rfl : j = (im i).bn := by omega
                have hjn' : ¬ ((im i).bn : Int) < ((im i).bn : Int) := by omega
                have HMG := Lib.hid hmg
                clear hmg
                go_wp2
                go_roundw
                case rel => first | exact ⟨i + 1, by omega, by go_num, Lib.hid ⟨HOK2.out, v, L, HST.out, HMG.out⟩⟩ | exact ⟨_, ⟨i + 1, by omega, by go_num, Lib.hid ⟨HOK2.out, v, L, HST.out, HMG.out⟩⟩, rfl⟩ | ((repeat apply Exists.intro); exact ⟨⟨i + 1, by omega, by go_num, Lib.hid ⟨HOK2.out, v, L, HST.out, HMG.out⟩⟩, rfl⟩)
                case measure => simp [intOf]; omega
      · obtain rfl : t = i := by omega
        have hlt' : ¬ (t : Int) < (t : Int) := by omega
        obtain ⟨hok, v, L, hst, hmg⟩ := HX.out
        clear HX
        obtain ⟨oa, oc, rfl⟩ := own_len hmg.beams.own
        rename World => wq
        have HOK := Lib.hid hok
        have HST := Lib.hid hst
        have HMGq := Lib.hid hmg
        have hLL : L.length = (mgB im t).length := by simpa using congrArg List.length hst
        obtain ⟨b0, b1⟩ := hmg.box
        clear hok hst hmg
        by_cases hl : 20 < L.length
        · have hl' : (20 : Int) < (L.length : Int) := by omega
          have HE := Lib.hid (fun w' hb => HR3.out w' HSD.out HOK.out (.inl (by rw [← hLL]; exact hl)) hb)
          (have hrb := HMGq.out.res; have q0 : wq.cell? ⟨w.heap.size, 0, none⟩ = some (.slice none 0 0) := cell_of_row _ _ _ _ _ _ hrb; have q1 : wq.cell? ⟨w.heap.size, 1, none⟩ = some (.slice none 0 0) := cell_of_row _ _ _ _ _ _ hrb; have f0 : wq.frozen? ⟨w.heap.size, 0, none⟩ = false := frozen_of_row _ _ _ _ _ hrb; have f1 : wq.frozen? ⟨w.heap.size, 1, none⟩ = false := frozen_of_row _ _ _ _ _ hrb; have HRX := Lib.hid hrb; have HBZ := Lib.hid ((HMGq.out.below).setCell (p := ⟨w.heap.size, 0, none⟩) (Nat.le_refl _) (.slice none 0 0) |>.setCell (p := ⟨w.heap.size, 1, none⟩) (Nat.le_refl _) (.slice none 0 0)); clear hrb; go_wp2; have h1 := heap_setCell_same wq w.heap.size 0 _ _ (.slice none 0 0) HRX.out; have h2 := heap_setCell_same _ w.heap.size 1 _ _ (.slice none 0 0) h1; have r0 : ((wq.setCell ⟨w.heap.size, 0, none⟩ (.slice none 0 0)).setCell ⟨w.heap.size, 1, none⟩ (.slice none 0 0)).cell? ⟨w.heap.size, 0, none⟩ = some (.slice none 0 0) := cell_of_row _ _ _ _ _ _ h2; have r1 : ((wq.setCell ⟨w.heap.size, 0, none⟩ (.slice none 0 0)).setCell ⟨w.heap.size, 1, none⟩ (.slice none 0 0)).cell? ⟨w.heap.size, 1, none⟩ = some (.slice none 0 0) := cell_of_row _ _ _ _ _ _ h2; have HE2 := HE.out _ HBZ.out; clear h1 h2; generalize World.setCell (World.setCell wq _ _) _ _ = wf at *; refine bodyPost_ret (v := .tuple #[.agg #[.slice none 0 0, .slice none 0 0], .int .i64 3]) (by simp [results, Tryd.results8, go_sem, r0, r1]) rfl ?_; exact HE2)
        · have hl' : ¬ (20 : Int) < (L.length : Int) := by omega
          have hLM : L.length ≤ maxLen := Nat.le_trans (Nat.le_of_not_lt hl) (by decide)
          have HLO := Lib.hid (fun (W : World) (hb : Below wq.heap.size wq W) => long_any (some ⟨cb, 0, none⟩) n cap oa L.length oc (mgC im t) 200000 W W.heap.size (Nat.le_refl _) ((HMGq.out.step hb).spans hn40) (fun c hc => by
            obtain ⟨h1, h2⟩ := ShapedI.shape (HSD.out 0 (by omega))
            obtain ⟨h3, h4⟩ := mgC_range (n := n) (im := im) (fun c hc => ⟨(h1.span c (by omega)).1, (h1.span c (by omega)).2.2⟩) t c hc
            refine ⟨h3, ?_, h4⟩
            obtain ⟨k, hk⟩ : ∃ k, t = k + 1 := ⟨t - 1, by omega⟩
            have h := HOK.out
            rw [hk] at h ⊢
            exact mgOk_le h c hc) (by decide))
          have hobz := HMGq.out.lt
          cases hlg : longB n (mgC im t) 200000
          · rw [hlg] at HLO
            have HE := Lib.hid (fun w' h1 hb => HR4.out w' HSD.out HOK.out (by rw [← hLL, hlg]; simp; omega) cb cap oa oc L HST.out h1 hb)
            clear hlg hLL
            go_upto_region 27 with (fail)
            have hlo := HLO.out wq (Below.refl _ _)
            unfold imageV at hlo
            go_upto_region 29 with (go_at_call 33; refine hlo.mono ?_; rintro e wr ⟨rfl, hb3⟩)
            have HMG3 := Lib.hid (HMGq.out.step hb3)
            clear HMGq b0 b1 HLO hobz hlo hb3
            obtain ⟨b0, b1⟩ := HMG3.out.box
            (have hrb := HMG3.out.res; have q0 : wr.cell? ⟨w.heap.size, 0, none⟩ = some (.slice none 0 0) := cell_of_row _ _ _ _ _ _ hrb; have q1 : wr.cell? ⟨w.heap.size, 1, none⟩ = some (.slice none 0 0) := cell_of_row _ _ _ _ _ _ hrb; have f0 : wr.frozen? ⟨w.heap.size, 0, none⟩ = false := frozen_of_row _ _ _ _ _ hrb; have f1 : wr.frozen? ⟨w.heap.size, 1, none⟩ = false := frozen_of_row _ _ _ _ _ hrb; have HRX := Lib.hid hrb; have HBZ := Lib.hid ((HMG3.out.below).setCell (p := ⟨w.heap.size, 0, none⟩) (Nat.le_refl _) (.slice (some ⟨cb, 0, none⟩) n cap) |>.setCell (p := ⟨w.heap.size, 1, none⟩) (Nat.le_refl _) (.slice oa L.length oc)); have HFN := Lib.hid (HMG3.out.fin hn40 hLM (.slice (some ⟨cb, 0, none⟩) n cap) (.slice oa L.length oc)); clear hrb; go_wp2; have h1 := heap_setCell_same wr w.heap.size 0 _ _ (.slice (some ⟨cb, 0, none⟩) n cap) HRX.out; have h2 := heap_setCell_same _ w.heap.size 1 _ _ (.slice oa L.length oc) h1; have r0 : ((wr.setCell ⟨w.heap.size, 0, none⟩ (.slice (some ⟨cb, 0, none⟩) n cap)).setCell ⟨w.heap.size, 1, none⟩ (.slice oa L.length oc)).cell? ⟨w.heap.size, 0, none⟩ = some (.slice (some ⟨cb, 0, none⟩) n cap) := cell_of_row _ _ _ _ _ _ h2; have r1 : ((wr.setCell ⟨w.heap.size, 0, none⟩ (.slice (some ⟨cb, 0, none⟩) n cap)).setCell ⟨w.heap.size, 1, none⟩ (.slice oa L.length oc)).cell? ⟨w.heap.size, 1, none⟩ = some (.slice oa L.length oc) := cell_of_row _ _ _ _ _ _ h2; have HE2 := HE.out _ HFN.out HBZ.out; clear h1 h2 HFN; generalize World.setCell (World.setCell wr _ _) _ _ = wf at *; refine bodyPost_ret (v := .tuple #[.agg #[.slice (some ⟨cb, 0, none⟩) n cap, .slice oa L.length oc], .int .i64 0]) (by simp [results, Tryd.results8, go_sem, r0, r1]) rfl ?_; exact HE2)
          · rw [hlg] at HLO
            have HE := Lib.hid (fun w' hb => HR3.out w' HSD.out HOK.out (.inr hlg) hb)
            clear hlg hLL
            go_upto_region 27 with (fail)
            have hlo := HLO.out wq (Below.refl _ _)
            unfold imageV at hlo
            go_upto_region 28 with (go_at_call 33; refine hlo.mono ?_; rintro e wr ⟨rfl, hb3⟩)
            have HMG3 := Lib.hid (HMGq.out.step hb3)
            clear HMGq b0 b1 HLO hobz hlo hb3 wq
            rename World => wq
            (have hrb := HMG3.out.res; have q0 : wq.cell? ⟨w.heap.size, 0, none⟩ = some (.slice none 0 0) := cell_of_row _ _ _ _ _ _ hrb; have q1 : wq.cell? ⟨w.heap.size, 1, none⟩ = some (.slice none 0 0) := cell_of_row _ _ _ _ _ _ hrb; have f0 : wq.frozen? ⟨w.heap.size, 0, none⟩ = false := frozen_of_row _ _ _ _ _ hrb; have f1 : wq.frozen? ⟨w.heap.size, 1, none⟩ = false := frozen_of_row _ _ _ _ _ hrb; have HRX := Lib.hid hrb; have HBZ := Lib.hid ((HMG3.out.below).setCell (p := ⟨w.heap.size, 0, none⟩) (Nat.le_refl _) (.slice none 0 0) |>.setCell (p := ⟨w.heap.size, 1, none⟩) (Nat.le_refl _) (.slice none 0 0)); clear hrb; go_wp2; have h1 := heap_setCell_same wq w.heap.size 0 _ _ (.slice none 0 0) HRX.out; have h2 := heap_setCell_same _ w.heap.size 1 _ _ (.slice none 0 0) h1; have r0 : ((wq.setCell ⟨w.heap.size, 0, none⟩ (.slice none 0 0)).setCell ⟨w.heap.size, 1, none⟩ (.slice none 0 0)).cell? ⟨w.heap.size, 0, none⟩ = some (.slice none 0 0) := cell_of_row _ _ _ _ _ _ h2; have r1 : ((wq.setCell ⟨w.heap.size, 0, none⟩ (.slice none 0 0)).setCell ⟨w.heap.size, 1, none⟩ (.slice none 0 0)).cell? ⟨w.heap.size, 1, none⟩ = some (.slice none 0 0) := cell_of_row _ _ _ _ _ _ h2; have HE2 := HE.out _ HBZ.out; clear h1 h2; generalize World.setCell (World.setCell wq _ _) _ _ = wf at *; refine bodyPost_ret (v := .tuple #[.agg #[.slice none 0 0, .slice none 0 0], .int .i64 3]) (by simp [results, Tryd.results8, go_sem, r0, r1]) rfl ?_; exact HE2)
end Go.Proofs.YtnfigielhnnpnaaDoor
