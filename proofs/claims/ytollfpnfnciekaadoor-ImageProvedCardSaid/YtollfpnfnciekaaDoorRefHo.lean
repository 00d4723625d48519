/- The walk of the reference's holds, Holds. -/
import Derived.Test.YtollfpnfnciekaaDoorGsA
import Derived.Test.YtollfpnfnciekaaDoorGrA
import Derived.Test.YtollfpnfnciekaaDoorGcA
namespace Go.Proofs.YtollfpnfnciekaaDoor
open Go.RowKit Go.Shelf
set_option linter.unusedVariables false
set_option linter.unusedSimpArgs false
def holdsR (n m : Nat) (bs : Nat → BM) (len : Nat) (ns : Nat → NM) (k : Nat) (box : Nat → SV) (i : Nat) : Int := if holdsF n m bs len ns k box i = 0 then -1 else (holdsF n m bs len ns k box i : Int)
theorem holdsR_zero {n m : Nat} {bs : Nat → BM} {len : Nat} {ns : Nat → NM} {k : Nat} {box : Nat → SV} {i : Nat} (h : holdsF n m bs len ns k box i = 0) : holdsR n m bs len ns k box i = -1 := by unfold holdsR; rw [if_pos h]
/-- the call of 'holds' -/
def HoldsOk (B n : Nat) (ss : Nat → SV) (m : Nat) (bs : Nat → BM) (a : Option Addr) (c : Nat) (ba : Option Addr) (bc : Nat) (na : Option Addr) (len nc : Nat) (ns : Nat → NM) (k : Nat) : Prop :=
  ∀ (xa : Option Addr) (xc : Nat) (box : Nat → SV) (i : Nat) (W : World), B ≤ W.heap.size → Beams B W ba m bs → Nodes B W na len ns → Spans W.heap.size W xa n box → BoxOk n box → len < i + k → i ≤ 4001 →
    Calls Tryd.prog 79 #[imageV a n c ba m bc, .slice xa n xc, .slice na len nc, .int .i64 (i : Int)] W fun e W' => e = .returned (.int .i64 (holdsR n m bs len ns k box i)) ∧ Below W.heap.size W W'
/-- a node in a box, the image in another -/
structure HoI (w : World) (a : Option Addr) (n c : Nat) (ba : Option Addr) (m bc : Nat) (xb : Nat) (x : NM) (W : World) : Prop where
  li : LI a n c ba m bc w W
  node : W.heap[xb]? = some (.cells #[.int .i64 x.cell, .int .i64 x.at_, .int .i64 x.right, .slice x.ta x.tn x.tc] 79)
theorem HoI.step {w : World} {a : Option Addr} {n c : Nat} {ba : Option Addr} {m bc xb : Nat} {x : NM} {W W' : World} (h : HoI w a n c ba m bc xb x W) (hb : Below W.heap.size W W') : HoI w a n c ba m bc xb x W' :=
  ⟨LI_step h.li hb, (hb.block _ (Array.getElem?_eq_some_iff.1 h.node).1).trans h.node⟩
set_option maxRecDepth 100000 in
set_option maxHeartbeats 4000000 in
theorem holds_leaf8 (B n : Nat) (ss : Nat → SV) (m : Nat) (bs : Nat → BM) (a : Option Addr) (c : Nat) (ba : Option Addr) (bc : Nat) (na : Option Addr) (len nc : Nat) (ns : Nat → NM) (k : Nat) (hSh : Shape n ss m bs) (hl : len ≤ 4000) (xa : Option Addr) (xc : Nat) (box : Nat → SV) (i : Nat) (w : World) (hBw : B ≤ w.heap.size) (hM : Beams B w ba m bs) (hN : Nodes B w na len ns) (hX : Spans w.heap.size w xa n box) (hBx : BoxOk n box) (hi : i ≤ 4001) (hil : i < len → (ns i).cell = -1) :
    Calls Tryd.prog 79 #[imageV a n c ba m bc, .slice xa n xc, .slice na len nc, .int .i64 (i : Int)] w fun e W' => e = .returned (.int .i64 (holdsR n m bs len ns (k + 1) box i)) ∧ Below w.heap.size w W' := by
  have hm20 := hSh.m20
  by_cases hlt : i < len
  · have hlt' : (i : Int) < (len : Int) := by omega
    have hi0 : ¬ (i : Int) < 0 := by omega
    have hge : ¬ (len : Int) ≤ (i : Int) := by omega
    have hcell := hil hlt
    have hval : holdsR n m bs len ns (k + 1) box i = if leafB n m bs box (ns i) = true then ((i : Int) + 1) else -1 := by
      have hF : holdsF n m bs len ns (k + 1) box i = if leafB n m bs box (ns i) = true then i + 1 else 0 := by rw [holdsF, if_neg (by omega), if_pos hcell]
      unfold holdsR
      rw [hF]
      by_cases e : leafB n m bs box (ns i) = true
      · rw [if_pos e, if_pos e, if_neg (Nat.succ_ne_zero i)]; omega
      · rw [if_neg e, if_neg e]; rfl
    rw [hval]
    rcases hN with h0 | ⟨nb, noff, rfl, hnB, hc⟩
    · omega
    obtain ⟨⟨x0, x1, x2, x3⟩, xtn, xT⟩ := hc i hlt
    have hnz : nb < w.heap.size := by omega
    have HM := Lib.hid hM
    have HX := Lib.hid hX
    have HBX := Lib.hid hBx
    have HSH := Lib.hid hSh
    clear hc hval hil hM hX hBx
    generalize hx : ns i = x at *
    clear hx
    obtain ⟨xcell, xat, xright, ta, tn, tc, ts⟩ := x
    dsimp only at x0 x1 x2 x3 xtn xT hcell
    subst hcell
    unfold maxLen at xtn
    have HT := Lib.hid xT
    clear xT
    have HRES : ∀ b : Bool, leafB n m bs box ⟨-1, xat, xright, ta, tn, tc, ts⟩ = b → (if leafB n m bs box ⟨-1, xat, xright, ta, tn, tc, ts⟩ = true then ((i : Int) + 1) else -1) = if b = true then (i : Int) + 1 else -1 := fun b hb => by rw [hb]
    have HRS := Lib.hid HRES
    clear HRES
    generalize hV : (if leafB n m bs box ⟨-1, xat, xright, ta, tn, tc, ts⟩ = true then ((i : Int) + 1) else -1) = RV at *
    clear hV
    go_enter Tryd.func79, Tryd.ntmps79
    go_upto_region 1 with (fail)
    have HL := Lib.hid (show LI a n c ba m bc w (w.alloc (.cells #[.slice a n c, .slice ba m bc] 25)) from LI_start)
    have y0 := ((bcell HL.out.2.2.2).1 nb (noff + i * 4) hnz).trans x0
    have y1 := ((bcell HL.out.2.2.2).1 nb (noff + i * 4 + 1) hnz).trans x1
    have y2 := ((bcell HL.out.2.2.2).1 nb (noff + i * 4 + 2) hnz).trans x2
    have y3 := ((bcell HL.out.2.2.2).1 nb (noff + i * 4 + 3) hnz).trans x3
    have hnv : nb < (w.alloc (.cells #[.slice a n c, .slice ba m bc] 25)).heap.size := by simp; omega
    clear x0 x1 x2 x3
    generalize World.alloc w _ = V at *
    go_upto_region 4 with (fail)
    have HO := Lib.hid (show HoI w a n c ba m bc V.heap.size ⟨-1, xat, xright, ta, tn, tc, ts⟩ (V.alloc (.cells #[.int .i64 (-1), .int .i64 xat, .int .i64 xright, .slice ta tn tc] 79)) from ⟨LI_step HL.out (alloc_below V _), heap_alloc_new V _⟩)
    clear HL y0 y1 y2 y3
    generalize World.alloc V _ = V2 at *
    generalize V.heap.size = xb at *
    have hzb := HO.out.li.2.2.2.size
    have hc := fun j => cell_of_row _ _ j _ _ _ HO.out.node
    have y0 := (hc 0).trans (show _ = some (Value.int .i64 (-1)) from rfl)
    have y1 := (hc 1).trans (show _ = some (Value.int .i64 xat) from rfl)
    have y2 := (hc 2).trans (show _ = some (Value.int .i64 xright) from rfl)
    have y3 := (hc 3).trans (show _ = some (Value.slice ta tn tc) from rfl)
    obtain ⟨l0, l1, l2, l3⟩ := HO.out.li
    clear hc
    have HNO := Lib.hid (fun (h : ((xat == 0) && ((xright == 0) && (tn == m))) = false) => HRS.out false (by unfold leafB; dsimp only; rw [h, Bool.false_and]))
    by_cases h1 : xat = 0
    · subst h1
      by_cases h2 : xright = 0
      · subst h2
        by_cases h3 : tn = m
        · have h3' : ((tn : Int) != (m : Int)) = false := by simp; omega
          have HTM := Lib.hid h3
          have htm : tn ≤ 20 := by omega
          have HYES := Lib.hid (fun (h : ∀ q, q < tn → inB (ts q) (-100) 100 = true) => show RV = if refutesB n m bs box ts = true then (i : Int) + 1 else -1 from by
            have := HRS.out (refutesB n m bs box ts) (by unfold leafB; dsimp only; rw [allUpto_true h, show (tn == m) = true from by rw [beq_iff_eq]; exact HTM.out]; simp)
            exact this)
          have HN2 := Lib.hid (fun (q : Nat) (hq : q < tn) (h : inB (ts q) (-100) 100 = false) => show RV = -1 from by
            have := HRS.out false (by unfold leafB; dsimp only; rw [allUpto_false hq h]; simp)
            exact this)
          clear h3
          go_wp2
          go_loopw [10] (fun s10 wr => ∃ j : Nat, j ≤ tn ∧ s10 = .int .i64 (j : Int) ∧ wr = V2 ∧ Hid (∀ q, q < j → inB (ts q) (-100) 100 = true)) (fun s10 _ => tn - (intOf s10).toNat)
          case atStart => exact ⟨0, Nat.zero_le _, rfl, rfl, Lib.hid (fun q h => by omega)⟩
          case round =>
            obtain ⟨j, hj, rfl, rfl, HA⟩ := hrel
            by_cases hlt2 : j < tn
            · have hlt2' : (j : Int) < (tn : Int) := by omega
              obtain ⟨tb, toff, rfl, htB, t0⟩ := (HT.out.below (l3.mono hBw)).get hlt2
              have htz : tb < wr.heap.size := by omega
              have HN3 := Lib.hid (HN2.out j hlt2)
              cases h5 : inB (ts j) (-100) 100
              · have HE := Lib.hid (HN3.out h5)
                go_wp2_with (go_at_call 36; refine (r8in_any _ _ _ _).mono ?_; rintro e w' ⟨rfl, rfl⟩)
                go_ret
                exact ⟨ret_int HE.out.symm, l3⟩
              · have HA2 := Lib.hid (fun q (hq : q < j + 1) => show inB (ts q) (-100) 100 = true from by (by_cases e : q = j; (subst e; exact h5); exact HA.out q (by omega)))
                go_wp2_with (go_at_call 36; refine (r8in_any _ _ _ _).mono ?_; rintro e w' ⟨rfl, rfl⟩)
                go_roundw
                case rel => exact ⟨j + 1, by omega, by go_num, by first | trivial | rfl, HA2⟩
                case measure => simp [intOf]; omega
            · obtain rfl : j = tn := by omega
              have hlt2' : ¬ (j : Int) < (j : Int) := by omega
              have HE := Lib.hid (HYES.out HA.out)
              have HRF := Lib.hid (r8Refutes_any a n c ba m bc ss bs xa xc box ta tc ts wr B (by omega) (HM.out.below (l3.mono hBw)) HSH.out ((HX.out.below l3).up l3.size) (by rw [← HTM.out]; exact (HT.out.below (l3.mono hBw)).up (by omega)) HBX.out (fun q hq => inB_iff.1 (HA.out q (by rw [HTM.out]; exact hq))))
              rw [show Value.slice ta m tc = Value.slice ta j tc from by rw [HTM.out]] at HRF
              cases h6 : refutesB n m bs box ts
              · rw [h6] at HRF HE
                go_wp2_with (go_at_call 89; refine HRF.out.mono ?_; rintro e w5 ⟨rfl, hb5⟩)
                go_ret
                exact ⟨ret_int HE.out.symm, l3.trans (hb5.mono l3.size)⟩
              · rw [h6] at HRF HE
                go_wp2_with (go_at_call 89; refine HRF.out.mono ?_; rintro e w5 ⟨rfl, hb5⟩)
                go_ret
                exact ⟨ret_int HE.out.symm, l3.trans (hb5.mono l3.size)⟩
        · have HE := Lib.hid (HNO.out (by rw [show (tn == m) = false from by rw [beq_eq_false_iff_ne]; exact h3]; simp))
          have h3' : ((tn : Int) != (m : Int)) = true := by simp; omega
          clear h3
          go_wp2
          go_ret
          exact ⟨ret_int HE.out.symm, l3⟩
      · have HE := Lib.hid (HNO.out (by rw [show (xright == 0) = false from by rw [beq_eq_false_iff_ne]; exact h2]; simp))
        have h2' : (xright != 0) = true := by simpa using h2
        clear h2
        go_wp2
        go_ret
        exact ⟨ret_int HE.out.symm, l3⟩
    · have HE := Lib.hid (HNO.out (by rw [show (xat == 0) = false from by rw [beq_eq_false_iff_ne]; exact h1]; simp))
      have h1' : (xat != 0) = true := by simpa using h1
      clear h1
      go_wp2
      go_ret
      exact ⟨ret_int HE.out.symm, l3⟩
  · have hval : holdsR n m bs len ns (k + 1) box i = -1 := holdsR_zero (by rw [holdsF, if_pos (by omega)])
    rw [hval]
    have hi0 : ¬ (i : Int) < 0 := by omega
    have hge : (len : Int) ≤ (i : Int) := by omega
    clear hval hil
    go_enter Tryd.func79, Tryd.ntmps79
    go_upto_region 1 with (fail)
    have HL := Lib.hid (show LI a n c ba m bc w (w.alloc (.cells #[.slice a n c, .slice ba m bc] 25)) from LI_start)
    generalize World.alloc w _ = V at *
    go_wp2
    go_ret
    exact ⟨rfl, HL.out.2.2.2⟩
theorem cutB_at {n : Nat} {box : Nat → SV} {x : NM} (h : cutB n box x = true) : 0 ≤ x.cell ∧ x.cell < (n : Int) ∧ x.tn = 0 ∧ (box x.cell.toNat).lo ≤ x.at_ ∧ x.at_ < (box x.cell.toNat).hi := by
  unfold cutB at h
  simp only [Bool.and_eq_true, inB_iff, beq_iff_eq, decide_eq_true_eq] at h
  omega
set_option maxRecDepth 100000 in
set_option maxHeartbeats 4000000 in
theorem holds_nocut8 (B n : Nat) (m : Nat) (bs : Nat → BM) (a : Option Addr) (c : Nat) (ba : Option Addr) (bc : Nat) (na : Option Addr) (len nc : Nat) (ns : Nat → NM) (k : Nat) (hn40 : n ≤ 40) (hl : len ≤ 4000) (xa : Option Addr) (xc : Nat) (box : Nat → SV) (i : Nat) (w : World) (hBw : B ≤ w.heap.size) (hN : Nodes B w na len ns) (hX : Spans w.heap.size w xa n box) (hlt : i < len) (hcell : (ns i).cell ≠ -1) (hcut : cutB n box (ns i) = false) :
    Calls Tryd.prog 79 #[imageV a n c ba m bc, .slice xa n xc, .slice na len nc, .int .i64 (i : Int)] w fun e W' => e = .returned (.int .i64 (holdsR n m bs len ns (k + 1) box i)) ∧ Below w.heap.size w W' := by
  have hlt' : (i : Int) < (len : Int) := by omega
  have hi0 : ¬ (i : Int) < 0 := by omega
  have hge : ¬ (len : Int) ≤ (i : Int) := by omega
  have hval : holdsR n m bs len ns (k + 1) box i = -1 := holdsR_zero (by rw [holdsF, if_neg (by omega), if_neg hcell, if_neg (by rw [hcut]; decide)])
  rw [hval]
  rcases hN with h0 | ⟨nb, noff, rfl, hnB, hc⟩
  · omega
  obtain ⟨⟨x0, x1, x2, x3⟩, xtn, xT⟩ := hc i hlt
  have hnz : nb < w.heap.size := by omega
  have HX := Lib.hid hX
  clear hc hval hX
  generalize hx : ns i = x at *
  clear hx
  obtain ⟨xcell, xat, xright, ta, tn, tc, ts⟩ := x
  dsimp only at x0 x1 x2 x3 xtn xT hcell
  have hcb : (xcell == -1) = false := by rw [beq_eq_false_iff_ne]; exact hcell
  unfold maxLen at xtn
  have HC := Lib.hid hcut
  clear xT hcut
  go_enter Tryd.func79, Tryd.ntmps79
  go_upto_region 1 with (fail)
  have HL := Lib.hid (show LI a n c ba m bc w (w.alloc (.cells #[.slice a n c, .slice ba m bc] 25)) from LI_start)
  have y0 := ((bcell HL.out.2.2.2).1 nb (noff + i * 4) hnz).trans x0
  have y1 := ((bcell HL.out.2.2.2).1 nb (noff + i * 4 + 1) hnz).trans x1
  have y2 := ((bcell HL.out.2.2.2).1 nb (noff + i * 4 + 2) hnz).trans x2
  have y3 := ((bcell HL.out.2.2.2).1 nb (noff + i * 4 + 3) hnz).trans x3
  have hnv : nb < (w.alloc (.cells #[.slice a n c, .slice ba m bc] 25)).heap.size := by simp; omega
  clear x0 x1 x2 x3
  generalize World.alloc w _ = V at *
  go_upto_region 4 with (fail)
  have HO := Lib.hid (show HoI w a n c ba m bc V.heap.size ⟨xcell, xat, xright, ta, tn, tc, ts⟩ (V.alloc (.cells #[.int .i64 xcell, .int .i64 xat, .int .i64 xright, .slice ta tn tc] 79)) from ⟨LI_step HL.out (alloc_below V _), heap_alloc_new V _⟩)
  clear HL y0 y1 y2 y3
  generalize World.alloc V _ = V2 at *
  generalize V.heap.size = xb at *
  have hzb := HO.out.li.2.2.2.size
  have hc := fun j => cell_of_row _ _ j _ _ _ HO.out.node
  have y0 := (hc 0).trans (show _ = some (Value.int .i64 xcell) from rfl)
  have y1 := (hc 1).trans (show _ = some (Value.int .i64 xat) from rfl)
  have y3 := (hc 3).trans (show _ = some (Value.slice ta tn tc) from rfl)
  have hxb := (Array.getElem?_eq_some_iff.1 HO.out.node).1
  obtain ⟨l0, l1, l2, l3⟩ := HO.out.li
  clear hc
  cases h1 : inB xcell 0 ((n : Int) - 1)
  · go_upto_region 15 with (fail)
    (refine wp_region_calm (V2.heap.size) (by kernel_rfl) (by kernel_rfl) ?_; (repeat (first | go_big_quiet_step ((go_at_call 36; exact Calls.calm_same (r8in_any _ _ _ _))) | quiet_step ((go_at_call 36; exact Calls.calm_same (r8in_any _ _ _ _))))); refine wpQuiet_nil ?_; intro _ hw'; obtain ⟨xq, hw''⟩ := hw'; subst hw'')
    go_wp2
    go_ret
    exact ⟨rfl, l3.trans ((Calm.below _).mono l3.size)⟩
  · obtain ⟨i1, i2⟩ := inB_iff.1 h1
    by_cases h2 : 0 < tn
    · have h2' : (0 : Int) < (tn : Int) := by omega
      go_upto_region 15 with (fail)
      (refine wp_region_calm (V2.heap.size) (by kernel_rfl) (by kernel_rfl) ?_; (repeat (first | go_big_quiet_step ((go_at_call 36; exact Calls.calm_same (r8in_any _ _ _ _))) | quiet_step ((go_at_call 36; exact Calls.calm_same (r8in_any _ _ _ _))))); refine wpQuiet_nil ?_; intro _ hw'; obtain ⟨xq, hw''⟩ := hw'; subst hw'')
      go_wp2
      go_ret
      exact ⟨rfl, l3.trans ((Calm.below _).mono l3.size)⟩
    · obtain rfl : tn = 0 := by omega
      obtain ⟨bb, bo, rfl, hbB, z0, z1⟩ := (HX.out.below l3).get (i := xcell.toNat) (by omega)
      have hbz : bb < V2.heap.size := by omega
      have i3 : xcell < (n : Int) := by omega
      have i4 : xcell.toNat < n := by omega
      have HCC := Lib.hid (show ¬ ((box xcell.toNat).lo ≤ xat ∧ xat < (box xcell.toNat).hi) from fun h => by
        have h3 := HC.out
        unfold cutB at h3
        dsimp only at h3
        rw [h1, decide_eq_true h.1, decide_eq_true h.2] at h3
        cases h3)
      by_cases h3 : xat < (box xcell.toNat).lo
      · go_upto_region 15 with (fail)
        (refine wp_region_calm (V2.heap.size) (by kernel_rfl) (by kernel_rfl) ?_; (repeat (first | go_big_quiet_step ((go_at_call 36; exact Calls.calm_same (r8in_any _ _ _ _))) | quiet_step ((go_at_call 36; exact Calls.calm_same (r8in_any _ _ _ _))))); refine wpQuiet_nil ?_; intro _ hw'; obtain ⟨xq, hw''⟩ := hw'; subst hw'')
        go_wp2
        go_ret
        exact ⟨rfl, l3.trans ((Calm.below _).mono l3.size)⟩
      · have h4 : (box xcell.toNat).hi ≤ xat := by
          have := HCC.out
          omega
        go_upto_region 15 with (fail)
        (refine wp_region_calm (V2.heap.size) (by kernel_rfl) (by kernel_rfl) ?_; (repeat (first | go_big_quiet_step ((go_at_call 36; exact Calls.calm_same (r8in_any _ _ _ _))) | quiet_step ((go_at_call 36; exact Calls.calm_same (r8in_any _ _ _ _))))); refine wpQuiet_nil ?_; intro _ hw'; obtain ⟨xq, hw''⟩ := hw'; subst hw'')
        go_wp2
        go_ret
        exact ⟨rfl, l3.trans ((Calm.below _).mono l3.size)⟩
end Go.Proofs.YtollfpnfnciekaaDoor
