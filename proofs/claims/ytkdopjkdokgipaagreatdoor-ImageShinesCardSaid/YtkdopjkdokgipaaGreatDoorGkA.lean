/- Texts put together: ImMoving, ImEpochs0. -/
import Derived.Test.YtkdopjkdokgipaaGreatDoorImMov
import Derived.Test.YtkdopjkdokgipaaGreatDoorGbA
namespace Go.Proofs.YtkdopjkdokgipaaGreatDoor
open Go.RowKit Go.Shelf
set_option linter.unusedVariables false
set_option linter.unusedSimpArgs false
/-- images as moving takes them -/
structure MovOk (t n : Nat) (im : Nat → IM) : Prop where
  t1 : 1 ≤ t
  t6 : t ≤ 6
  shape : ∀ i, i < t → shapeB (im i).cn (im i).ss (im i).bn (im i).bs = true
  same : ∀ i, i < t → (im i).cn = n
  short : ∀ i, i < t → longB (im i).cn (im i).ss 1000 = false
  some : ∀ i, i < t → (im i).F ≠ []
theorem MovI.step {w : World} {ob t n : Nat} {L : Nat → List (List Int)} {vals : Nat → Value} {W W' : World} (h : MovI w ob t n L 0 [] vals W) (hb : Below W.heap.size W W') : MovI w ob t n L 0 [] vals W' :=
  ⟨h.below.trans (hb.mono h.below.size), (hb.block _ (Array.getElem?_eq_some_iff.1 h.box).1).trans h.box, h.row.step hb, fun j hj => by omega, h.left, (fun D hD => by cases hD), List.nodup_nil, fun j hj => by omega⟩
theorem info_rows : (Tryz.prog.info? 138).map (fun i => (i.zero, i.size, i.bytes)) = some (some (.slice none 0 0), 1, 24) := by kernel_rfl
theorem make_rows (n : Nat) (hn : n ≤ 1000000) (W : World) : (Instr.makeSlice 135 (.int .i64 (n : Int)) (.int .i64 (n : Int))).run Tryz.prog W = .ok (.slice (some ⟨W.heap.size, 0, none⟩) n n) (W.alloc (.cells (madeCells #[.slice none 0 0] n) 138)) := by
  obtain ⟨i0, hi, hz0, hz1, hz2⟩ := info_parts info_rows
  have := run_make (P := Tryz.prog) W 135 138 i0 _ Tryz.underlying135 hi hz0 .i64 .i64 (n : Int) (n : Int) (by omega) (Int.le_refl _) (by rw [hz2]; omega) (by omega)
  rw [hz1, show (Value.slice none 0 0).cells = #[.slice none 0 0] from rfl] at this
  simpa using this
def MovRes (t n : Nat) (im : Nat → IM) (w : World) (e : Ending) (w' : World) : Prop := Below w.heap.size w w' ∧ ∃ ob, e = .returned (.tuple #[.slice (some ⟨ob, 0, none⟩) t t, .int .i64 0]) ∧ w.heap.size ≤ ob ∧ AllAt w' ob t n (fun i => (im i).F)
/-- an image whose shape is as defined, with n cells -/
def ShapedI (n : Nat) (x : IM) : Bool := shapeB x.cn x.ss x.bn x.bs && x.cn == n
/-- the same, with few fields -/
def GoodI (n : Nat) (x : IM) : Prop := ShapedI n x = true ∧ longB x.cn x.ss 1000 = false
theorem ShapedI.shape {n : Nat} {x : IM} (h : ShapedI n x = true) : Shape x.cn x.ss x.bn x.bs ∧ x.cn = n := by
  unfold ShapedI at h
  rw [Bool.and_eq_true, beq_iff_eq] at h
  exact ⟨shapeB_iff.1 h.1, h.2⟩
set_option maxRecDepth 100000 in
set_option maxHeartbeats 2000000 in
theorem moving_gen (a : Option Addr) (t c : Nat) (im : Nat → IM) (n : Nat) (w : World) (B : Nat) (hBw : B ≤ w.heap.size) (hI : Imgs B w a t im) (ht1 : 1 ≤ t) (ht6 : t ≤ 6) (hn : (im 0).cn = n) (RES : Ending → World → Prop)
    (hR : ∀ w' ob, (∀ i, i < t → GoodI n (im i)) → (∀ i, i < t → (im i).F ≠ []) → w.heap.size ≤ ob → Below w.heap.size w w' → AllAt w' ob t n (fun i => (im i).F) → RES (.returned (.tuple #[.slice (some ⟨ob, 0, none⟩) t t, .int .i64 0])) w')
    (hR1 : ∀ w' i, i < t → ShapedI n (im i) = false → Below w.heap.size w w' → RES (.returned (.tuple #[.slice none 0 0, .int .i64 2])) w')
    (hR2 : ∀ w' i, (∀ j, j < t → ShapedI n (im j) = true) → i < t → longB (im i).cn (im i).ss 1000 = true → Below w.heap.size w w' → RES (.returned (.tuple #[.slice none 0 0, .int .i64 3])) w')
    (hR3 : ∀ w' i, (∀ i, i < t → GoodI n (im i)) → i < t → (im i).F = [] → Below w.heap.size w w' → RES (.returned (.tuple #[.slice none 0 0, .int .i64 5])) w') :
    Calls Tryz.prog 66 #[.slice a t c, .bool true] w RES := by
  have HI := Lib.hid hI
  have HR := Lib.hid hR
  have HR1 := Lib.hid hR1
  have HR2 := Lib.hid hR2
  have HR3 := Lib.hid hR3
  have HN := Lib.hid hn
  have hmk := make_rows t (by omega)
  have hgt : ¬ (6 : Int) < (t : Int) := by omega
  have hz : ((t : Int) == 0) = false := by rw [beq_eq_false_iff_ne]; omega
  clear hI hR hR1 hR2 hR3 hn
  refine (callsIn_wide (n := 6)).1 ?_; refine callsIn_of_wp_marks Tryz.func66 rfl trivial ?_ rfl; simp only [Tryz.ntmps66, List.size_toArray, List.length_cons, List.length_nil, Nat.reduceAdd, Nat.reduceSub, Array.replicate_succ, Array.replicate_zero, List.push_toArray, List.append_toArray, List.nil_append, List.cons_append]; refine wpIn_wide.2 ?_
  go_upto_block 0 with (fail)
  go_cut [] from 26 (fun wx => Hid ((∀ j, j < t → ShapedI n (im j) = true) ∧ Below w.heap.size w wx))
  case first =>
    go_wp2
    go_loopw [26] (fun s26 wr => ∃ i : Nat, i ≤ t ∧ s26 = .int .i64 (i : Int) ∧ Hid ((∀ j, j < i → ShapedI n (im j) = true) ∧ Below w.heap.size w wr)) (fun s26 _ => t - (intOf s26).toNat)
    case atStart => exact ⟨0, Nat.zero_le _, rfl, Lib.hid ⟨fun j hj => by omega, Below.refl _ _⟩⟩
    case round =>
      obtain ⟨i, hi, rfl, HBQ⟩ := hrel
      have HB := Lib.hid HBQ.out.2
      have HUP := Lib.hid HBQ.out.1
      clear HBQ
      have hzr := HB.out.size
      by_cases hlt : i < t
      · have hlt' : (i : Int) < (t : Int) := by omega
        have h0t : (0 : Int) < (t : Int) := by omega
        obtain ⟨xb, xo, rfl, hxB, x0, x1, xS, xM⟩ := (HI.out.below (HB.out.mono hBw)).get hlt
        obtain ⟨xb', xo', hx', _, y0, _⟩ := (HI.out.below (HB.out.mono hBw)).get (i := 0) (by omega)
        injection hx' with hx'
        injection hx' with e1 e2 _
        subst e1 e2
        have hxz : xb < wr.heap.size := by omega
        have HSP := Lib.hid (fun (W : World) (hb : Below wr.heap.size wr W) => (shape_any (im i).ca (im i).cn (im i).cc (im i).ba (im i).bn (im i).bc (im i).ss (im i).bs W B (by have := hb.size; omega) (xS.below (hb.mono (by omega))) (xM.below (hb.mono (by omega)))))
        rw [HN.out] at y0
        have hin := xS.1
        have hn0 := ((HI.out.below (HB.out.mono hBw)).get (i := 0) (by omega)).choose_spec.choose_spec.2.2.2.2.1.1
        rw [HN.out] at hn0
        unfold maxLen at hin hn0
        have HBD := Lib.hid (fun (h : ShapedI n (im i) = false) w' hb => HR1.out w' i hlt h hb)
        have HUP2 := Lib.hid (fun (h : ShapedI n (im i) = true) (j : Nat) (hj : j < i + 1) => show ShapedI n (im j) = true from by (by_cases e : j = i; (subst e; exact h); exact HUP.out j (by omega)))
        have HSI := Lib.hid (show ShapedI n (im i) = (shapeB (im i).cn (im i).ss (im i).bn (im i).bs && (im i).cn == n) from rfl)
        clear xS xM HUP
        generalize (im i).cn = ni at *
        generalize (im i).ca = na at *
        generalize (im i).cc = nc at *
        generalize (im i).ba = ea at *
        generalize (im i).bn = en at *
        generalize (im i).bc = ec at *
        generalize (im i).ss = es at *
        generalize (im i).bs = eb at *
        cases hsb : shapeB ni es en eb
        · rw [hsb] at HSP HSI
          rw [Bool.false_and] at HSI
          have HE := Lib.hid (HBD.out HSI.out)
          go_upto_region 8 with (fail); have hb1 := alloc_below wr (.cells #[.slice na ni nc, .slice ea en ec] 50); have d0 : (wr.alloc (.cells #[.slice na ni nc, .slice ea en ec] 50)).cell? ⟨wr.heap.size, 0, none⟩ = some (.slice na ni nc) := cell_of_row _ _ _ _ _ _ (heap_alloc_new wr _); have d1 : (wr.alloc (.cells #[.slice na ni nc, .slice ea en ec] 50)).cell? ⟨wr.heap.size, 1, none⟩ = some (.slice ea en ec) := cell_of_row _ _ _ _ _ _ (heap_alloc_new wr _); have d2 := ((bcell hb1).1 xb (xo + 0 * 2) hxz).trans y0; have hz1 : (wr.alloc (.cells #[.slice na ni nc, .slice ea en ec] 50)).heap.size = wr.heap.size + 1 := (by simp); have HB2 := Lib.hid (HB.out.trans (hb1.mono hzr)); have HB1 := Lib.hid hb1; clear x0 x1 y0 hb1; generalize World.alloc wr _ = V at *; rw [Nat.zero_mul, Nat.add_zero] at d2; have hxv : xb < V.heap.size := (by omega); have hwv : wr.heap.size < V.heap.size := (by omega); (refine wp_region_calm (V.heap.size) (by kernel_rfl) (by kernel_rfl) ?_; (repeat (first | go_big_quiet_step ((go_at_call 86; exact Calls.calm_of (Nat.le_refl _) (HSP.out _ (HB1.out.trans ((Calm.below _).mono (by omega)))))) | quiet_step ((go_at_call 86; exact Calls.calm_of (Nat.le_refl _) (HSP.out _ (HB1.out.trans ((Calm.below _).mono (by omega)))))))); refine wpQuiet_nil ?_; intro _ hw'; obtain ⟨xq, hw''⟩ := hw'; subst hw'')
          go_wp2
          have HBF := Lib.hid (HB2.out.trans ((Calm.below xq).mono HB2.out.size))
          refine leave_marks (v := .tuple #[.slice none 0 0, .int .i64 2]) [] _ List.nodup_nil (fun D hD => by cases hD) (fun W' h1 h2 h3 h4 h5 => ⟨by exact results_tmp2 (t := 4) (u := 5) rfl _ _ _, HE.out W' ⟨h1.trans HBF.out.os, h2.trans HBF.out.tape, h3.trans HBF.out.output, (by have := HBF.out.size; omega), fun b hbl => (h5 b (by simp)).trans (HBF.out.block b hbl)⟩⟩)
        · rw [hsb] at HSP HSI
          rw [Bool.true_and] at HSI
          by_cases hnn : ni = n
          · subst hnn
            rw [beq_self_eq_true] at HSI
            have HU := Lib.hid (HUP2.out HSI.out)
            have hne : ((ni : Int) != (ni : Int)) = false := by simp
            go_upto_region 8 with (fail); have hb1 := alloc_below wr (.cells #[.slice na ni nc, .slice ea en ec] 50); have d0 : (wr.alloc (.cells #[.slice na ni nc, .slice ea en ec] 50)).cell? ⟨wr.heap.size, 0, none⟩ = some (.slice na ni nc) := cell_of_row _ _ _ _ _ _ (heap_alloc_new wr _); have d1 : (wr.alloc (.cells #[.slice na ni nc, .slice ea en ec] 50)).cell? ⟨wr.heap.size, 1, none⟩ = some (.slice ea en ec) := cell_of_row _ _ _ _ _ _ (heap_alloc_new wr _); have d2 := ((bcell hb1).1 xb (xo + 0 * 2) hxz).trans y0; have hz1 : (wr.alloc (.cells #[.slice na ni nc, .slice ea en ec] 50)).heap.size = wr.heap.size + 1 := (by simp); have HB2 := Lib.hid (HB.out.trans (hb1.mono hzr)); have HB1 := Lib.hid hb1; clear x0 x1 y0 hb1; generalize World.alloc wr _ = V at *; rw [Nat.zero_mul, Nat.add_zero] at d2; have hxv : xb < V.heap.size := (by omega); have hwv : wr.heap.size < V.heap.size := (by omega); (refine wp_region_calm (V.heap.size) (by kernel_rfl) (by kernel_rfl) ?_; (repeat (first | go_big_quiet_step ((go_at_call 86; exact Calls.calm_of (Nat.le_refl _) (HSP.out _ (HB1.out.trans ((Calm.below _).mono (by omega)))))) | quiet_step ((go_at_call 86; exact Calls.calm_of (Nat.le_refl _) (HSP.out _ (HB1.out.trans ((Calm.below _).mono (by omega)))))))); refine wpQuiet_nil ?_; intro _ hw'; obtain ⟨xq, hw''⟩ := hw'; subst hw'')
            go_wp2
            go_roundw
            case rel => exact ⟨i + 1, by omega, by go_num, Lib.hid ⟨HU.out, HB2.out.trans ((Calm.below xq).mono HB2.out.size)⟩⟩
            case measure => simp [intOf]; omega
          · have hnb : (ni == n) = false := by rw [beq_eq_false_iff_ne]; exact hnn
            rw [hnb] at HSI
            have HE := Lib.hid (HBD.out HSI.out)
            have hne : ((ni : Int) != (n : Int)) = true := by rw [bne_iff_ne]; omega
            go_upto_region 8 with (fail); have hb1 := alloc_below wr (.cells #[.slice na ni nc, .slice ea en ec] 50); have d0 : (wr.alloc (.cells #[.slice na ni nc, .slice ea en ec] 50)).cell? ⟨wr.heap.size, 0, none⟩ = some (.slice na ni nc) := cell_of_row _ _ _ _ _ _ (heap_alloc_new wr _); have d1 : (wr.alloc (.cells #[.slice na ni nc, .slice ea en ec] 50)).cell? ⟨wr.heap.size, 1, none⟩ = some (.slice ea en ec) := cell_of_row _ _ _ _ _ _ (heap_alloc_new wr _); have d2 := ((bcell hb1).1 xb (xo + 0 * 2) hxz).trans y0; have hz1 : (wr.alloc (.cells #[.slice na ni nc, .slice ea en ec] 50)).heap.size = wr.heap.size + 1 := (by simp); have HB2 := Lib.hid (HB.out.trans (hb1.mono hzr)); have HB1 := Lib.hid hb1; clear x0 x1 y0 hb1; generalize World.alloc wr _ = V at *; rw [Nat.zero_mul, Nat.add_zero] at d2; have hxv : xb < V.heap.size := (by omega); have hwv : wr.heap.size < V.heap.size := (by omega); (refine wp_region_calm (V.heap.size) (by kernel_rfl) (by kernel_rfl) ?_; (repeat (first | go_big_quiet_step ((go_at_call 86; exact Calls.calm_of (Nat.le_refl _) (HSP.out _ (HB1.out.trans ((Calm.below _).mono (by omega)))))) | quiet_step ((go_at_call 86; exact Calls.calm_of (Nat.le_refl _) (HSP.out _ (HB1.out.trans ((Calm.below _).mono (by omega)))))))); refine wpQuiet_nil ?_; intro _ hw'; obtain ⟨xq, hw''⟩ := hw'; subst hw'')
            go_wp2
            have HBF := Lib.hid (HB2.out.trans ((Calm.below xq).mono HB2.out.size))
            refine leave_marks (v := .tuple #[.slice none 0 0, .int .i64 2]) [] _ List.nodup_nil (fun D hD => by cases hD) (fun W' h1 h2 h3 h4 h5 => ⟨by exact results_tmp2 (t := 4) (u := 5) rfl _ _ _, HE.out W' ⟨h1.trans HBF.out.os, h2.trans HBF.out.tape, h3.trans HBF.out.output, (by have := HBF.out.size; omega), fun b hbl => (h5 b (by simp)).trans (HBF.out.block b hbl)⟩⟩)
      · obtain rfl : t = i := by omega
        have hlt' : ¬ (t : Int) < (t : Int) := by omega
        have HBQ := Lib.hid (show _ ∧ _ from ⟨HUP.out, HB.out⟩)
        go_wp2
        go_meet
        exact HBQ
  case rest =>
    have HBC := Lib.hid hcut.out.2
    have HSD := Lib.hid hcut.out.1
    have HSH := Lib.hid (fun (i : Nat) (hi : i < t) => (ShapedI.shape (HSD.out i hi)).1)
    have hn1 : 1 ≤ n := by have h1 := (HSH.out 0 (by omega)).n1; rwa [HN.out] at h1
    clear hcut
    go_upto_region 12 with (fail)
    obtain ⟨hVb, hVz, e1, e2⟩ := two_allocs wc (.cells (madeCells #[.slice none 0 0] t) 138) (.cells #[.slice (some ⟨wc.heap.size, 0, none⟩) t t] 135)
    have hVR := (VR.made wc 138 t (.slice none 0 0) rfl).alloc (.cells #[.slice (some ⟨wc.heap.size, 0, none⟩) t t] 135)
    generalize World.alloc (World.alloc wc _) _ = V at *
    have hwc := HBC.out.size
    have H0 := Lib.hid (show MovI w wc.heap.size t n (fun i => (im i).F) 0 [] (fun _ => .slice none 0 0) V from ⟨HBC.out.trans (hVb.mono hwc), e2, hVR, fun j hj => by omega, fun j _ => rfl, (fun D hD => by cases hD), List.nodup_nil, fun j hj => by omega⟩)
    generalize hob : wc.heap.size = ob at *
    clear hVb hVz e1 e2 hVR hmk hob
    go_upto_block 2 with (fail)
    go_cut [] from 49 (fun wx => Hid ((∀ j, j < t → longB (im j).cn (im j).ss 1000 = false) ∧ MovI w ob t n (fun i => (im i).F) 0 [] (fun _ => .slice none 0 0) wx))
    case first =>
      go_wp2
      go_loopw [50] (fun s50 wr => ∃ i : Nat, i ≤ t ∧ s50 = .int .i64 (i : Int) ∧ Hid ((∀ j, j < i → longB (im j).cn (im j).ss 1000 = false) ∧ MovI w ob t n (fun i => (im i).F) 0 [] (fun _ => .slice none 0 0) wr)) (fun s50 _ => t - (intOf s50).toNat)
      case atStart => exact ⟨0, Nat.zero_le _, rfl, Lib.hid ⟨fun j hj => by omega, H0.out⟩⟩
      case round =>
        clear H0
        obtain ⟨i, hi, rfl, HXQ⟩ := hrel
        have HX := Lib.hid HXQ.out.2
        have HUP := Lib.hid HXQ.out.1
        clear HXQ
        have hbx := HX.out.below
        have hzr := hbx.size
        by_cases hlt : i < t
        · have hlt' : (i : Int) < (t : Int) := by omega
          obtain ⟨xb, xo, rfl, hxB, x0, x1, xS, xM⟩ := (HI.out.below (hbx.mono hBw)).get hlt
          have hxz : xb < wr.heap.size := by omega
          have HLG := Lib.hid (fun (W : World) (hb : Below wr.heap.size wr W) => (long_any (im i).ca (im i).cn (im i).cc (im i).ba (im i).bn (im i).bc (im i).ss 1000 W B (by have := hb.size; omega) (xS.below (hb.mono (by omega))) (fun k hk => by have := (HSH.out i hlt).span k hk; omega) (by omega)))
          have HBD := Lib.hid (fun (h : longB (im i).cn (im i).ss 1000 = true) w' hb => HR2.out w' i HSD.out hlt h hb)
          have HUP2 := Lib.hid (fun (h : longB (im i).cn (im i).ss 1000 = false) (j : Nat) (hj : j < i + 1) => show longB (im j).cn (im j).ss 1000 = false from by (by_cases e : j = i; (subst e; exact h); exact HUP.out j (by omega)))
          clear xS xM HUP
          generalize (im i).cn = ni at *
          generalize (im i).ca = na at *
          generalize (im i).cc = nc at *
          generalize (im i).ba = ea at *
          generalize (im i).bn = en at *
          generalize (im i).bc = ec at *
          generalize (im i).ss = es at *
          cases hlg : longB ni es 1000
          · rw [hlg] at HLG
            have HU := Lib.hid (HUP2.out hlg)
            go_upto_region 15 with (fail); have hb1 := alloc_below wr (.cells #[.slice na ni nc, .slice ea en ec] 50); have d0 : (wr.alloc (.cells #[.slice na ni nc, .slice ea en ec] 50)).cell? ⟨wr.heap.size, 0, none⟩ = some (.slice na ni nc) := cell_of_row _ _ _ _ _ _ (heap_alloc_new wr _); have d1 : (wr.alloc (.cells #[.slice na ni nc, .slice ea en ec] 50)).cell? ⟨wr.heap.size, 1, none⟩ = some (.slice ea en ec) := cell_of_row _ _ _ _ _ _ (heap_alloc_new wr _); have HX1 := Lib.hid (HX.out.step hb1); have HL1 := Lib.hid (HLG.out _ hb1); clear x0 x1 hb1 HLG HX; generalize World.alloc wr _ = V2 at *; go_wp2_with (go_at_call 87; refine HL1.out.mono ?_; rintro e w3 ⟨rfl, hb3⟩)
            go_roundw
            case rel => exact ⟨i + 1, by omega, by go_num, Lib.hid ⟨HU.out, HX1.out.step hb3⟩⟩
            case measure => simp [intOf]; omega
          · rw [hlg] at HLG
            have HE := Lib.hid (HBD.out hlg)
            go_upto_region 15 with (fail); have hb1 := alloc_below wr (.cells #[.slice na ni nc, .slice ea en ec] 50); have d0 : (wr.alloc (.cells #[.slice na ni nc, .slice ea en ec] 50)).cell? ⟨wr.heap.size, 0, none⟩ = some (.slice na ni nc) := cell_of_row _ _ _ _ _ _ (heap_alloc_new wr _); have d1 : (wr.alloc (.cells #[.slice na ni nc, .slice ea en ec] 50)).cell? ⟨wr.heap.size, 1, none⟩ = some (.slice ea en ec) := cell_of_row _ _ _ _ _ _ (heap_alloc_new wr _); have HX1 := Lib.hid (HX.out.step hb1); have HL1 := Lib.hid (HLG.out _ hb1); clear x0 x1 hb1 HLG HX; generalize World.alloc wr _ = V2 at *; go_wp2_with (go_at_call 87; refine HL1.out.mono ?_; rintro e w3 ⟨rfl, hb3⟩)
            have HBF := Lib.hid (HX1.out.step hb3).below
            refine leave_marks (v := .tuple #[.slice none 0 0, .int .i64 3]) [] _ List.nodup_nil (fun D hD => by cases hD) (fun W' h1 h2 h3 h4 h5 => ⟨by exact results_tmp2 (t := 4) (u := 5) rfl _ _ _, HE.out W' ⟨h1.trans HBF.out.os, h2.trans HBF.out.tape, h3.trans HBF.out.output, (by have := HBF.out.size; omega), fun b hbl => (h5 b (by simp)).trans (HBF.out.block b hbl)⟩⟩)
        · obtain rfl : t = i := by omega
          have hlt' : ¬ (t : Int) < (t : Int) := by omega
          have HXQ := Lib.hid (show _ ∧ _ from ⟨HUP.out, HX.out⟩)
          go_wp2
          go_meet
          exact HXQ
    case rest =>
      rename_i hKK
      refine hKK _ _ ?_
      have HGD := Lib.hid (fun (i : Nat) (hi : i < t) => show GoodI n (im i) from ⟨HSD.out i hi, hcut.out.1 i hi⟩)
      exact mov_tail a t c im B n w ob (fun _ => .slice none 0 0) RES wc _ _ _ _ _ _ _ _ _ _ _ _ _ _ _ _ _ _ _ _ _ _ _ _ _ _ _ _ _ _ _ _ _ _ _ _ _ _ _ _ _ _ _ _ _ _ _ _ _ _ _ _ _ _ _ _ _ _ _ _ _ _ _ _ _ _ _ _ _ _ _ _ _ _ _ _ _ _ _ _ _ _ _ _ _ _ hBw hwc hn1 ht6 HI.out HSH.out (fun i hi => (ShapedI.shape (HSD.out i hi)).2) hcut.out.1 hcut.out.2 (fun w' h0 h1 h2 => HR.out w' ob HGD.out h0 hwc h1 h2) (fun w' i hi he hb => HR3.out w' i HGD.out hi he hb)
theorem moving_ok (a : Option Addr) (t c : Nat) (im : Nat → IM) (n : Nat) (w : World) (B : Nat) (hBw : B ≤ w.heap.size) (hI : Imgs B w a t im) (hM : MovOk t n im) :
    Calls Tryz.prog 66 #[.slice a t c, .bool true] w (MovRes t n im w) := by
  have hsh : ∀ i, i < t → ShapedI n (im i) = true := fun i hi => by
    unfold ShapedI
    rw [hM.shape i hi, Bool.true_and, beq_iff_eq]
    exact hM.same i hi
  refine moving_gen a t c im n w B hBw hI hM.t1 hM.t6 (hM.same 0 hM.t1) (MovRes t n im w) (fun w' ob _ _ h1 h2 h3 => ⟨h2, ob, rfl, h1, h3⟩) (fun w' i hi h _ => ?_) (fun w' i _ hi h _ => ?_) (fun w' i _ hi h _ => absurd h (hM.some i hi))
  · rw [hsh i hi] at h; cases h
  · rw [hM.short i hi] at h; cases h
end Go.Proofs.YtkdopjkdokgipaaGreatDoor
namespace Go.Proofs.YtkdopjkdokgipaaGreatDoor
open Go.RowKit
set_option linter.unusedVariables false
set_option linter.unusedSimpArgs false
/-- the fields of all histories, in an epoch -/
def histF (n : Nat) (c : Int) (L : Nat → List (List Int)) (t j : Nat) : List (List Int) := bwdF n c L t (t - 1 - j)
theorem histF_last {n : Nat} {c : Int} {L : Nat → List (List Int)} {t : Nat} : histF n c L t (t - 1) = fwdF n c L (t - 1) := by
  unfold histF; rw [Nat.sub_self]; rfl
theorem histF_step {n : Nat} {c : Int} {L : Nat → List (List Int)} {t j : Nat} (h : j + 1 < t) : histF n c L t j = nearF n c (fwdF n c L j) (histF n c L t (j + 1)) := by
  unfold histF
  rw [show t - 1 - j = (t - 1 - (j + 1)) + 1 by omega, bwdF, show t - 1 - (t - 1 - (j + 1) + 1) = j by omega]
theorem nearF_sub {n : Nat} {c : Int} {l k : List (List Int)} : ∀ f ∈ nearF n c l k, f ∈ l := fun f hf => (nearF_mem.1 hf).1
theorem nearF_len {n : Nat} {c : Int} {l k : List (List Int)} : (nearF n c l k).length ≤ l.length := List.length_filter_le _ _
theorem fwd_sub {n : Nat} {c : Int} {L : Nat → List (List Int)} : ∀ i, (∀ f ∈ fwdF n c L i, f ∈ L i) ∧ (fwdF n c L i).length ≤ (L i).length
  | 0 => ⟨fun f h => h, Nat.le_refl _⟩
  | i + 1 => ⟨fun f h => nearF_sub f h, nearF_len⟩
theorem hist_sub {n : Nat} {c : Int} {L : Nat → List (List Int)} {t j : Nat} (hj : j < t) : (∀ f ∈ histF n c L t j, f ∈ L j) ∧ (histF n c L t j).length ≤ (L j).length := by
  by_cases h : j + 1 < t
  · rw [histF_step h]
    exact ⟨fun f hf => (fwd_sub j).1 f (nearF_sub f hf), Nat.le_trans nearF_len (fwd_sub j).2⟩
  · obtain rfl : j = t - 1 := by omega
    rw [histF_last]
    exact fwd_sub _
/-- a list of fields that lies in new memory, stored into a row of lists -/
theorem AllAt.put {W W' : World} {ob t n : Nat} {M : Nat → List (List Int)} (h : AllAt W ob t n M) (hn : 1 ≤ n) (hb : Below W.heap.size W W') {i : Nat} (hi : i < t) {a : Option Addr} {c : Nat} {l : List (List Int)} (hf : Flds W'.heap.size W' a n l) (ha : ∀ b off, a = some ⟨b, off, none⟩ → W.heap.size ≤ b) :
    AllAt (W'.setCell ⟨ob, i, none⟩ (.slice a l.length c)) ob t n (fun j => if j = i then l else M j) := by
  obtain ⟨vals, hv, hl⟩ := h
  have hobz := hv.lt
  have hz : (W'.setCell ⟨ob, i, none⟩ (.slice a l.length c)).heap.size = W'.heap.size := by simp
  have hv' := hv.step hb
  have far : ∀ b, b ≠ ob → (W'.setCell ⟨ob, i, none⟩ (.slice a l.length c)).heap[b]? = W'.heap[b]? := fun b hb => heap_setCell_other W' ⟨ob, i, none⟩ b _ hb
  refine ⟨fun j => if j = i then .slice a l.length c else vals j, hv'.set hi _, fun j hj => ?_⟩
  show FldO ob _ n (if j = i then _ else _) (if j = i then _ else _)
  by_cases e : j = i
  · rw [if_pos e, if_pos e]
    refine ⟨a, c, rfl, ?_⟩
    rcases hf with h0 | ⟨b, off, hab, hbz, hc⟩
    · subst h0; exact .inl rfl
    · have hbo : b ≠ ob := by have := ha b off hab; omega
      refine .inr ⟨b, off, hab, hbo, by rw [hz]; exact hbz, fun k hk => ?_⟩
      obtain ⟨ra, rc, k1, k2⟩ := hc k hk
      refine ⟨ra, rc, (World.cell?_of_block (far b hbo)).trans k1, ?_⟩
      rcases k2 with h0 | ⟨b2, off2, ha2, hb2, hc2⟩
      · exact .inl h0
      · have hne : b2 ≠ ob := fun e2 => by
          subst e2
          have h1 := hc2 0 (by omega)
          rw [Nat.add_zero] at h1
          obtain ⟨cur, hcur, hsz, hcv⟩ := hv'
          have h2 := cell_of_row W' b2 off2 _ _ _ hcur
          rw [h1] at h2
          by_cases h3 : off2 < t
          · rw [hcv off2 h3] at h2
            obtain ⟨a5, c5, h5, _⟩ := hl off2 h3
            rw [h5] at h2
            cases h2
          · rw [Array.getElem?_eq_none (by omega)] at h2
            cases h2
        exact .inr ⟨b2, off2, ha2, hne, by rw [hz]; exact hb2, fun i hi => (World.cell?_of_block (far b2 hne)).trans (hc2 i hi)⟩
  · rw [if_neg e, if_neg e]
    exact (hl j hj).rests (fun b h1 h2 => (far b h2).trans (hb.block b h1)) (by rw [hz]; exact hb.size)
theorem AllAt.congr {W : World} {ob t n : Nat} {M M' : Nat → List (List Int)} (h : AllAt W ob t n M) (e : ∀ j, j < t → M j = M' j) : AllAt W ob t n M' := by
  obtain ⟨vals, hv, hl⟩ := h
  exact ⟨vals, hv, fun j hj => by rw [← e j hj]; exact hl j hj⟩
theorem AllAt.step {W W' : World} {ob t n : Nat} {M : Nat → List (List Int)} (h : AllAt W ob t n M) (hb : Below W.heap.size W W') : AllAt W' ob t n M := by
  obtain ⟨vals, hv, hl⟩ := h
  exact ⟨vals, hv.step hb, fun j hj => (hl j hj).rests (fun b h1 _ => hb.block b h1) hb.size⟩
theorem AllAt.lt {W : World} {ob t n : Nat} {M : Nat → List (List Int)} (h : AllAt W ob t n M) : ob < W.heap.size := by obtain ⟨vals, hv, _⟩ := h; exact hv.lt
theorem AllAt.get {W : World} {ob t n : Nat} {M : Nat → List (List Int)} (h : AllAt W ob t n M) {j : Nat} (hj : j < t) : ∃ a c, W.cell? ⟨ob, j, none⟩ = some (.slice a (M j).length c) ∧ W.frozen? ⟨ob, j, none⟩ = false ∧ Flds W.heap.size W a n (M j) := by
  obtain ⟨vals, hv, hl⟩ := h
  obtain ⟨a, c, h1, h2⟩ := (hl j hj).flds
  exact ⟨a, c, by rw [← h1]; exact hv.cell hj, hv.frozen j, h2⟩
end Go.Proofs.YtkdopjkdokgipaaGreatDoor
