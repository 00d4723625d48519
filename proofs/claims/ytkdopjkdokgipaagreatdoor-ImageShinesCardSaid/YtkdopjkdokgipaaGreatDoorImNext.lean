/- The walk of search.next: what the proof by halves does with a box. -/
import Derived.Test.YtkdopjkdokgipaaGreatDoorGiA
namespace Go.Proofs.YtkdopjkdokgipaaGreatDoor
open Go.RowKit
set_option linter.unusedVariables false
set_option linter.unusedSimpArgs false
set_option maxRecDepth 100000 in
set_option maxHeartbeats 1000000 in
theorem wideF_any (lo hi : Int) (w : World) :
    Calls Tryz.prog 95 #[.agg #[.int .i64 lo, .int .i64 hi]] w fun e w' => e = .returned (.bool (decide (lo < hi))) ∧ Below w.heap.size w w' := by
  go_enter Tryz.func95, Tryz.ntmps95
  go_wp2
  go_ret
  exact ⟨rfl, (Below.refl _ _).alloc (Nat.le_refl _) _⟩
theorem wideAt_up {box : Nat → SV} {c k : Nat} : ∀ n, k ≤ n → wideAt box k = some c → wideAt box n = some c
  | 0, h, e => by obtain rfl : k = 0 := by omega
                  exact e
  | n + 1, h, e => by
    by_cases hk : k = n + 1
    · rw [← hk]; exact e
    · have := wideAt_up n (by omega) e
      rw [wideAt, this]
theorem wideAt_here {box : Nat → SV} {i : Nat} (h : wideAt box i = none) (hl : (box i).lo < (box i).hi) : wideAt box (i + 1) = some i := by rw [wideAt, h]; exact if_pos hl
theorem wideAt_not {box : Nat → SV} {i : Nat} (h : wideAt box i = none) (hl : ¬ (box i).lo < (box i).hi) : wideAt box (i + 1) = none := by rw [wideAt, h]; exact if_neg hl
def wideI (box : Nat → SV) (n : Nat) : Int := match wideAt box n with | some c => (c : Int) | none => -1
set_option maxRecDepth 100000 in
set_option maxHeartbeats 1000000 in
theorem indexFunc_any (xa : Option Addr) (n xc : Nat) (box : Nat → SV) (hn : n ≤ 40) (w : World) (hX : Spans w.heap.size w xa n box) :
    Calls Tryz.prog 94 #[.slice xa n xc, .func (.func 95) #[] #[]] w fun e w' => e = .returned (.int .i64 (wideI box n)) ∧ Below w.heap.size w w' := by
  have HX := Lib.hid hX
  clear hX
  generalize hr : wideI box n = r
  have HR := Lib.hid hr
  clear hr
  go_enter Tryz.func94, Tryz.ntmps94
  go_wp2
  go_loopw [8] (fun t wr => ∃ i : Nat, i ≤ n ∧ t = .int .i64 (i : Int) ∧ Hid (wideAt box i = none) ∧ Hid (Below w.heap.size w wr)) (fun t _ => n - (intOf t).toNat)
  case atStart => exact ⟨0, Nat.zero_le _, rfl, Lib.hid rfl, Lib.hid (Below.refl _ _)⟩
  case round =>
    obtain ⟨i, hi, rfl, HW, HB⟩ := hrel
    by_cases hlt : i < n
    · have hlt' : (i : Int) < (n : Int) := by omega
      obtain ⟨b, off, rfl, hbz, x0, x1⟩ := (HX.out.below HB.out).get hlt
      have hz := HB.out.size
      have hbz2 : b < wr.heap.size := by omega
      by_cases hl : (box i).lo < (box i).hi
      · have HR0 := Lib.hid (show r = (i : Int) by rw [← HR.out, wideI, wideAt_up n hlt (wideAt_here HW.out hl)])
        go_wp2_with (go_at_call 95; refine (wideF_any _ _ _).mono ?_; rintro e w2 ⟨rfl, hb2⟩)
        go_ret
        exact ⟨ret_int HR0.out.symm, HB.out.trans (hb2.mono hz)⟩
      · have HN := Lib.hid (wideAt_not HW.out hl)
        have hl' : decide ((box i).lo < (box i).hi) = false := decide_eq_false hl
        go_wp2_with (go_at_call 95; refine (wideF_any _ _ _).mono ?_; rintro e w2 ⟨rfl, hb2⟩)
        go_roundw
        case rel => exact ⟨i + 1, by omega, by go_num, HN, Lib.hid (HB.out.trans (hb2.mono hz))⟩
        case measure => simp [intOf]; omega
    · obtain rfl : i = n := by omega
      have hlt' : ¬ (i : Int) < (i : Int) := by omega
      have HR0 := Lib.hid (show r = -1 by rw [← HR.out, wideI, HW.out])
      go_wp2
      go_ret
      exact ⟨ret_int HR0.out.symm, HB.out⟩
/-- what 'next' hands back -/
def NextRes (n m : Nat) (bs : Nat → BM) (box : Nat → SV) (w : World) (e : Ending) (w' : World) : Prop :=
  Below w.heap.size w w' ∧ match pick n m bs box (cand m) with
  | some p => ∃ b, e = .returned (.iface 133 (.agg #[.slice (some ⟨b, 0, none⟩) m m])) ∧ w.heap.size ≤ b ∧ IR 3 w' b m (singleT p.1 p.2)
  | none => match wideAt box n with
    | some c => e = .returned (.iface 129 (.agg #[.int .i64 (c : Int), .int .i64 (((box c).lo + (box c).hi) / 2)]))
    | none => False
theorem cand_pre {i : Nat} : ∀ m, i ≤ m → ∃ r, cand m = cand i ++ r
  | 0, h => by obtain rfl : i = 0 := by omega
               exact ⟨[], by simp⟩
  | m + 1, h => by
    by_cases e : i = m + 1
    · subst e; exact ⟨[], by simp⟩
    · obtain ⟨r, hr⟩ := cand_pre (i := i) m (by omega)
      exact ⟨r ++ [(m, 1), (m, -1)], by rw [cand, hr, List.append_assoc]⟩
theorem pick_app {n m : Nat} {bs : Nat → BM} {box : Nat → SV} {l r : List (Nat × Int)} (h : pick n m bs box l = none) : pick n m bs box (l ++ r) = pick n m bs box r := by
  unfold pick at *
  rw [List.find?_append, h]; rfl
theorem pick_up {n m : Nat} {bs : Nat → BM} {box : Nat → SV} {i : Nat} (hi : i < m) (h : pick n m bs box (cand i) = none) : (refutesB n m bs box (singleT i 1) = true → pick n m bs box (cand m) = some (i, 1)) ∧ (refutesB n m bs box (singleT i 1) = false → refutesB n m bs box (singleT i (-1)) = true → pick n m bs box (cand m) = some (i, -1)) ∧ (refutesB n m bs box (singleT i 1) = false → refutesB n m bs box (singleT i (-1)) = false → pick n m bs box (cand (i + 1)) = none) := by
  obtain ⟨r, hr⟩ := cand_pre (i := i + 1) m hi
  refine ⟨fun h1 => ?_, fun h1 h2 => ?_, fun h1 h2 => ?_⟩
  · rw [hr, cand, List.append_assoc, pick_app h]
    unfold pick
    simp [h1]
  · rw [hr, cand, List.append_assoc, pick_app h]
    unfold pick
    simp [h1, h2]
  · rw [cand, pick_app h]
    unfold pick
    simp [h1, h2]
theorem singleT_ok {m i : Nat} {t : Int} (ht : t = 1 ∨ t = -1) : TimesOk m (singleT i t) := by
  intro j hj
  unfold singleT
  split <;> omega
theorem single_set {m i : Nat} {t : Int} (j : Nat) : (if j = i then t else (0 : Int)) = singleT i t j := by unfold singleT; rfl
set_option maxRecDepth 100000 in
set_option maxHeartbeats 2000000 in
theorem next_any (R : Nat → Prop) (n : Nat) (ss : Nat → SV) (m : Nat) (bs : Nat → BM) (sp : Nat) (hSh : Shape n ss m bs) (xa : Option Addr) (xc : Nat) (box : Nat → SV) (w : World) (hS : SearchAt R n ss m bs sp w) (hRl : ∀ b, R b → b < w.heap.size) (hX : Spans w.heap.size w xa n box) (hb : BoxOk n box) (hw : pick n m bs box (cand m) = none → ∃ c, wideAt box n = some c) :
    Calls Tryz.prog 64 #[.pointer (some ⟨sp, 0, none⟩), .slice xa n xc] w (NextRes n m bs box w) := by
  have hn := hSh.n40
  have hm := hSh.m20
  have HX := Lib.hid hX
  have HB := Lib.hid hb
  have HR1 := Lib.hid (fun (w' : World) (i : Nat) (t : Int) (b : Nat) (h1 : pick n m bs box (cand m) = some (i, t)) (h2 : Below w.heap.size w w') (h3 : w.heap.size ≤ b) (h4 : IR 3 w' b m (singleT i t)) => show NextRes n m bs box w (.returned (.iface 133 (.agg #[.slice (some ⟨b, 0, none⟩) m m]))) w' from ⟨h2, by rw [h1]; exact ⟨b, rfl, h3, h4⟩⟩)
  have HR2 := Lib.hid (fun (w' : World) (c : Nat) (h1 : pick n m bs box (cand m) = none) (h2 : Below w.heap.size w w') (h3 : wideAt box n = some c) => show NextRes n m bs box w (.returned (.iface 129 (.agg #[.int .i64 (c : Int), .int .i64 (((box c).lo + (box c).hi) / 2)]))) w' from ⟨h2, by rw [h1, h3]⟩)
  have HW := Lib.hid hw
  have HSA := Lib.hid (fun (w' : World) (h : Below w.heap.size w w') => hS.rests (Rests.below h hRl) h.size)
  obtain ⟨ca, cc, ba, bc, wa, wc, ra, rc, _, h1, _⟩ := hS.img
  have hsp := hS.lt
  have H1 := Lib.hid h1
  have hmk := make_ints m (by omega)
  have HRF := Lib.hid (fun (w' : World) (h : Below w.heap.size w w') (b i : Nat) (t : Int) (ht : t = 1 ∨ t = -1) (hr : IR 3 w' b m (singleT i t)) => refutes_any R n ss m bs sp hSh xa xc box (some ⟨b, 0, none⟩) m (singleT i t) w' (HSA.out w' h) ((hX.below h).up h.size) (.inr ⟨b, 0, rfl, hr.lt, fun j hj => by rw [Nat.zero_add]; exact hr.cell hj⟩) hb (singleT_ok ht))
  have hix0 : ∀ W : World, (Instr.index 169 (.agg #[.int .i64 1, .int .i64 (-1)]) (.int .i64 0)).run Tryz.prog W = .ok (.int .i64 1) W := fun W => by kernel_rfl
  have hix1 : ∀ W : World, (Instr.index 169 (.agg #[.int .i64 1, .int .i64 (-1)]) (.int .i64 1)).run Tryz.prog W = .ok (.int .i64 (-1)) W := fun W => by kernel_rfl
  generalize NextRes n m bs box w = RES at *
  clear hX hb hw hS
  go_enter Tryz.func64, Tryz.ntmps64
  go_wp2
  clear h1
  go_loopw [16] (fun t wr => ∃ i : Nat, i ≤ m ∧ t = .int .i64 (i : Int) ∧ Hid (pick n m bs box (cand i) = none) ∧ Hid (Below w.heap.size w wr)) (fun t _ => m - (intOf t).toNat)
  case atStart => exact ⟨0, Nat.zero_le _, rfl, Lib.hid rfl, Lib.hid (Below.refl _ _)⟩
  case round =>
    obtain ⟨i, hi, rfl, HP, HBL⟩ := hrel
    by_cases hlt : i < m
    · have hlt' : (i : Int) < (m : Int) := by omega
      have HU := Lib.hid (pick_up hlt HP.out)
      go_wp2
      go_loopw [20] (fun t wx => ∃ j : Nat, j ≤ 2 ∧ t = .int .i64 (j : Int) ∧ Hid (0 < j → refutesB n m bs box (singleT i 1) = false) ∧ Hid (1 < j → refutesB n m bs box (singleT i (-1)) = false) ∧ Hid (Below w.heap.size w wx)) (fun t _ => 2 - (intOf t).toNat)
      case atStart => exact ⟨0, by omega, rfl, Lib.hid (fun h => by omega), Lib.hid (fun h => by omega), HBL⟩
      case round =>
        clear HBL
        obtain ⟨j, hj, rfl, HJ1, HJ2, HBL⟩ := hrel
        have g1 := ((bcell HBL.out).1 _ _ hsp).trans H1.out
        have hz := HBL.out.size
        have hj3 : j = 0 ∨ j = 1 ∨ j = 2 := by omega
        rcases hj3 with rfl | rfl | rfl
        · go_upto_region 8 with (fail); have HI := Lib.hid (IR.made wr 3 m); have hnb : w.heap.size ≤ wr.heap.size := hz; have HBV := Lib.hid (HBL.out.trans ((alloc_below wr (.cells (madeCells #[.int .i64 0] m) 3)).mono hz)); generalize World.alloc wr _ = V at *; generalize wr.heap.size = nb at *; have n0 := HI.out.cell hlt; have n1 := HI.out.frozen i; have HI3 := Lib.hid ((HI.out.set hlt 1).congr (g := singleT i 1) (fun j _ => rfl)); have HB3 := Lib.hid (show Below w.heap.size w (V.setCell ⟨nb, i, none⟩ (.int .i64 1)) from HBV.out.setCell (p := ⟨nb, i, none⟩) hnb _); have HRV := HRF.out _ HB3.out nb i 1 (.inl rfl) HI3.out
          cases hF : refutesB n m bs box (singleT i 1)
          · have HF := Lib.hid hF
            rw [hF] at HRV
            clear hF HU hix0 hix1 hmk
            go_wp2_with (go_at_call 74; refine HRV.mono ?_; rintro e w3 ⟨rfl, hb3⟩)
            go_roundw
            case rel => exact ⟨1, by omega, rfl, Lib.hid (fun _ => HF.out), Lib.hid (fun h => by omega), Lib.hid (HB3.out.trans (hb3.mono HB3.out.size))⟩
            case measure => simp [intOf]
          · have HQ := Lib.hid (HU.out.1 hF)
            rw [hF] at HRV
            clear hF HU hix0 hix1 hmk
            go_wp2_with (go_at_call 74; refine HRV.mono ?_; rintro e w3 ⟨rfl, hb3⟩)
            exact HR1.out _ i 1 nb HQ.out (HB3.out.trans (hb3.mono HB3.out.size)) hnb (HI3.out.step hb3)
        · have hf1 := HJ1.out (by omega)
          go_upto_region 8 with (fail); have HI := Lib.hid (IR.made wr 3 m); have hnb : w.heap.size ≤ wr.heap.size := hz; have HBV := Lib.hid (HBL.out.trans ((alloc_below wr (.cells (madeCells #[.int .i64 0] m) 3)).mono hz)); generalize World.alloc wr _ = V at *; generalize wr.heap.size = nb at *; have n0 := HI.out.cell hlt; have n1 := HI.out.frozen i; have HI3 := Lib.hid ((HI.out.set hlt (-1)).congr (g := singleT i (-1)) (fun j _ => rfl)); have HB3 := Lib.hid (show Below w.heap.size w (V.setCell ⟨nb, i, none⟩ (.int .i64 (-1))) from HBV.out.setCell (p := ⟨nb, i, none⟩) hnb _); have HRV := HRF.out _ HB3.out nb i (-1) (.inr rfl) HI3.out
          cases hF : refutesB n m bs box (singleT i (-1))
          · have HF := Lib.hid hF
            rw [hF] at HRV
            have HF1 := Lib.hid hf1
            clear hF HU hix0 hix1 hmk hf1
            go_wp2_with (go_at_call 74; refine HRV.mono ?_; rintro e w3 ⟨rfl, hb3⟩)
            go_roundw
            case rel => exact ⟨2, by omega, rfl, Lib.hid (fun _ => HF1.out), Lib.hid (fun _ => HF.out), Lib.hid (HB3.out.trans (hb3.mono HB3.out.size))⟩
            case measure => simp [intOf]
          · have HQ := Lib.hid (HU.out.2.1 hf1 hF)
            rw [hF] at HRV
            clear hF HU hix0 hix1 hmk hf1
            go_wp2_with (go_at_call 74; refine HRV.mono ?_; rintro e w3 ⟨rfl, hb3⟩)
            exact HR1.out _ i (-1) nb HQ.out (HB3.out.trans (hb3.mono HB3.out.size)) hnb (HI3.out.step hb3)
        · have HPN := Lib.hid (HU.out.2.2 (HJ1.out (by omega)) (HJ2.out (by omega)))
          clear HU
          go_wp2
          go_roundw
          case rel => exact ⟨i + 1, by omega, by go_num, HPN, HBL⟩
          case measure => simp [intOf]; omega
    · obtain rfl : i = m := by omega
      have hlt' : ¬ (i : Int) < (i : Int) := by omega
      obtain ⟨c, hc⟩ := HW.out HP.out
      obtain ⟨hcn, hcl⟩ := wideAt_some hc
      have HIF := Lib.hid (indexFunc_any xa n xc box hn wr ((HX.out.below HBL.out).up HBL.out.size))
      rw [show wideI box n = (c : Int) by rw [wideI, hc]] at HIF
      have hcn' : (c : Int) < (n : Int) := by omega
      have hbc := HB.out c hcn
      have hsum : 0 ≤ (box c).lo + (box c).hi := by omega
      have HCC := Lib.hid hc
      clear hc hix0 hix1 hmk
      go_upto_region 14 with (go_at_call 94; refine HIF.out.mono ?_; rintro e w2 ⟨rfl, hb2⟩)
      have HB3 := Lib.hid (HBL.out.trans (hb2.mono HBL.out.size))
      obtain ⟨b, off, rfl, hbz, x0, x1⟩ := (HX.out.below HB3.out).get hcn
      have a1 : IntKind.i64.wrap ((box c).lo + (box c).hi) = (box c).lo + (box c).hi := IntWalk.i64_in _ (by omega)
      have a2 : ((box c).lo + (box c).hi).tdiv 2 = ((box c).lo + (box c).hi) / 2 := Int.tdiv_eq_ediv_of_nonneg hsum
      go_quiet (fail)
      clear a1 a2
      go_wp2
      exact HR2.out _ c HP.out (below_drewN HB3.out _) HCC.out
end Go.Proofs.YtkdopjkdokgipaaGreatDoor
