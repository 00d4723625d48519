/- Texts put together: ImCalm, ImWidE. -/
import Derived.Test.YtkdopjkdokgipaaGreatDoorGkA
import Derived.Test.YtkdopjkdokgipaaGreatDoorGaA
import Derived.Test.YtkdopjkdokgipaaGreatDoorGmA
namespace Go.Proofs.YtkdopjkdokgipaaGreatDoor
open Go.RowKit
set_option linter.unusedVariables false
set_option linter.unusedSimpArgs false
theorem minO_snoc (z : Int) (l : List Int) (y : Int) : minO z (l ++ [y]) = min (minO z l) y := by simp [minO]
theorem leastL_snoc (l : List Int) (y : Int) (h : l ≠ []) : leastL (l ++ [y]) = min (leastL l) y := by
  cases l with
  | nil => exact absurd rfl h
  | cons x t => rw [List.cons_append, leastL, leastL, minO_snoc]
theorem cost_le1000 {n : Nat} {L : Nat → List (List Int)} : ∀ i f, costF n L i f ≤ 1000
  | 0, _ => by rw [costF]; omega
  | i + 1, f => by rw [costF, minO_le]; exact .inl (Int.le_refl _)
/-- the costs of an epoch's fields -/
def costR (n : Nat) (L : Nat → List (List Int)) (i : Nat) (j : Nat) : Int := costF n L i ((L i).getD j [])
set_option maxRecDepth 100000 in
set_option maxHeartbeats 1000000 in
theorem minI_any (b n c : Nat) (f : Nat → Int) (w : World) (hF : IR 3 w b n f) (h1 : 1 ≤ n) (hn : n ≤ 1000000) :
    Calls Tryz.prog 70 #[.slice (some ⟨b, 0, none⟩) n c] w fun e w' => e = .returned (.int .i64 (leastL ((List.range n).map f))) ∧ Below w.heap.size w w' := by
  have HF := Lib.hid hF
  have c0 := hF.cell (j := 0) (by omega)
  have hn1 : ¬ (n : Int) < 1 := by omega
  have hn0 : (0 : Int) < (n : Int) := by omega
  have HL := Lib.hid (fun k (hk : 1 ≤ k) => show leastL ((List.range (k + 1)).map f) = min (leastL ((List.range k).map f)) (f k) from by
    rw [List.range_succ, List.map_append, List.map_singleton]
    exact leastL_snoc _ _ (by simp; omega))
  have HL1 := Lib.hid (show leastL ((List.range 1).map f) = f 0 from rfl)
  clear hF
  go_enter Tryz.func70, Tryz.ntmps70
  go_wp2
  go_loopw [3, 4] (fun s3 s4 wr => ∃ k : Nat, 1 ≤ k ∧ k ≤ n ∧ s4 = .int .i64 (k : Int) ∧ s3 = .int .i64 (leastL ((List.range k).map f)) ∧ wr = w) (fun _ s4 _ => n - (intOf s4).toNat)
  case atStart => exact ⟨1, Nat.le_refl _, h1, rfl, by rw [HL1.out], rfl⟩
  case round =>
    obtain ⟨k, hk1, hk, rfl, rfl, rfl⟩ := hrel
    by_cases hlt : k < n
    · have hlt' : (k : Int) < (n : Int) := by omega
      have x0 := HF.out.cell hlt
      have HK := Lib.hid (HL.out k hk1)
      generalize leastL ((List.range k).map f) = A at *
      generalize f k = y at *
      have hmn : min A y = if y < A then y else A := by split <;> omega
      rw [hmn] at HK
      go_wp2
      go_roundw
      case rel => exact ⟨k + 1, by omega, by omega, by go_num, by rw [HK.out], by first | trivial | rfl⟩
      case measure => simp [intOf]; omega
    · obtain rfl : n = k := by omega
      have hlt' : ¬ (n : Int) < (n : Int) := by omega
      go_wp2
      go_ret
      exact ⟨rfl, Below.refl _ _⟩
/-- the costs, and those that are reckoned next -/
structure CI (N : Nat) (w1 : World) (cb lc : Nat) (f : Nat → Int) (nb li : Nat) (g : Nat → Int) (W : World) : Prop where
  below : Below N w1 W
  cost : IR 3 W cb lc f
  next : IR 3 W nb li g
section
variable {N : Nat} {w1 : World} {cb lc : Nat} {f : Nat → Int} {nb li : Nat} {g g' : Nat → Int} {W W' : World}
theorem CI.step (h : CI N w1 cb lc f nb li g W) (hN : N ≤ nb) (hb : Below W.heap.size W W') : CI N w1 cb lc f nb li g W' := ⟨h.below.trans (hb.mono (by have := h.next.lt; omega)), h.cost.step hb, h.next.step hb⟩
theorem CI.set (h : CI N w1 cb lc f nb li g W) (hN : N ≤ nb) (hne : nb ≠ cb) {k : Nat} (hk : k < li) (x : Int) : CI N w1 cb lc f nb li (fun q => if q = k then x else g q) (W.setCell ⟨nb, k, none⟩ (.int .i64 x)) :=
  ⟨h.below.setCell (p := ⟨nb, k, none⟩) hN _, h.cost.other hne _, h.next.set hk x⟩
theorem CI.congr (h : CI N w1 cb lc f nb li g W) (e : ∀ q, q < li → g q = g' q) : CI N w1 cb lc f nb li g' W := ⟨h.below, h.cost, h.next.congr e⟩
end
/-- the least cost so far -/
def minUp (n : Nat) (L : Nat → List (List Int)) (i : Nat) (f : List Int) (j : Nat) : Int := minO 1000 (((L i).take j).map (fun x => max (costF n L i x) (apartL n x f)))
theorem minUp_step {n : Nat} {L : Nat → List (List Int)} {i : Nat} {f : List Int} {j : Nat} (hj : j < (L i).length) : minUp n L i f (j + 1) = min (minUp n L i f j) (max (costR n L i j) (apartL n ((L i).getD j []) f)) := by
  unfold minUp costR
  rw [List.take_add_one, List.map_append, List.getElem?_eq_getElem hj, List.getD_eq_getElem?_getD, List.getElem?_eq_getElem hj]
  simp only [Option.toList_some, List.map_cons, List.map_nil, minO_snoc, Option.getD_some]
theorem minUp_end {n : Nat} {L : Nat → List (List Int)} {i k : Nat} : minUp n L i ((L (i + 1)).getD k []) (L i).length = costR n L (i + 1) k := by
  unfold minUp costR
  rw [List.take_length, costF]
theorem minUp_range {n : Nat} {L : Nat → List (List Int)} {i : Nat} {f : List Int} {j : Nat} : 0 ≤ minUp n L i f j ∧ minUp n L i f j ≤ 1000 := by
  unfold minUp
  refine ⟨?_, by rw [minO_le]; exact .inl (Int.le_refl _)⟩
  false_or_by_contra
  rename_i h
  have h2 : minO 1000 (((L i).take j).map (fun x => max (costF n L i x) (apartL n x f))) ≤ -1 := by omega
  rw [minO_le] at h2
  rcases h2 with h2 | ⟨y, hy, h3⟩
  · omega
  · obtain ⟨x, _, rfl⟩ := List.mem_map.1 hy
    have := cost_nonneg (n := n) (L := L) i x
    omega
set_option maxRecDepth 100000 in
set_option maxHeartbeats 4000000 in
theorem Calm_ok (a : Option Addr) (t c : Nat) (im : Nat → IM) (n : Nat) (w : World) (B : Nat) (hBw : B ≤ w.heap.size) (hI : Imgs B w a t im) (hM : MovOk t n im) :
    Calls Tryz.prog 27 #[.slice a t c] w fun e w' => e = .returned (.tuple #[.int .i64 (calmF n (fun i => (im i).F) t), .int .i64 0]) ∧ Below w.heap.size w w' := by
  have ht1 := hM.t1
  have ht6 := hM.t6
  have hsh : ∀ i, i < t → Shape n (im i).ss (im i).bn (im i).bs := fun i hi => by have := shapeB_iff.1 (hM.shape i hi); rwa [hM.same i hi] at this
  have hn40 := (hsh 0 (by omega)).n40
  have hFe : ∀ i, i < t → (im i).F = allF n (im i).ss (im i).bn (im i).bs := fun i hi => by unfold IM.F; rw [hM.same i hi]
  obtain ⟨L, hL⟩ : ∃ L : Nat → List (List Int), L = fun i => (im i).F := ⟨_, rfl⟩
  have HMV := Lib.hid (show Calls Tryz.prog 66 #[.slice a t c, .bool true] w (fun e w' => Below w.heap.size w w' ∧ ∃ ob, e = .returned (.tuple #[.slice (some ⟨ob, 0, none⟩) t t, .int .i64 0]) ∧ w.heap.size ≤ ob ∧ AllAt w' ob t n L) from by rw [hL]; exact moving_ok a t c im n w B hBw hI hM)
  have HLEN := Lib.hid (fun i (hi : i < t) => show (L i).length ≤ 1000 ∧ 1 ≤ (L i).length from by
    have h1 := allF_le (hsh i hi) (by have := hM.short i hi; rwa [hM.same i hi] at this)
    have h2 := List.length_pos_iff.2 (hM.some i hi)
    rw [← hFe i hi] at h1
    rw [hL]
    dsimp only
    omega)
  have HDN := Lib.hid (fun i (hi : i < t) => show DenseL n (L i) from by rw [hL]; show DenseL n (im i).F; rw [hFe i hi]; exact allF_dense (hsh i hi))
  rw [← hL]
  clear hI hM hsh hFe hL im
  have hmk := fun k (hk : k ≤ 1000) => make_ints k (by omega)
  have HCM := Lib.hid (show calmF n L t = leastL ((L (t - 1)).map (costF n L (t - 1))) from rfl)
  generalize calmF n L t = CF at *
  go_enter Tryz.func27, Tryz.ntmps27
  go_upto_region 4 with (go_at_call 66; refine HMV.out.mono ?_; rintro e w1 ⟨hb1, ob, rfl, hob, vals, hvr, hfl⟩)
  have HV := Lib.hid (fun j (hj : j < t) => (hfl j hj).flds)
  have HVR := Lib.hid hvr
  have HB1 := Lib.hid hb1
  have hobz := hvr.lt
  obtain ⟨a0, k0, hv0, hf0⟩ := HV.out 0 (by omega)
  have c0 := hvr.cell (j := 0) (by omega)
  rw [hv0] at c0
  have h0t : (0 : Int) < (t : Int) := by omega
  obtain ⟨hl0, hl1⟩ := HLEN.out 0 (by omega)
  have hmk0 := hmk _ hl0
  clear hvr hfl hb1 hf0 hv0 HMV
  generalize hll : (L 0).length = l0 at *
  have HL0 := Lib.hid hll
  clear hll
  go_upto_region 5 with (fail)
  have HC0 := Lib.hid ((IR.made w1 3 l0).congr (g := costR n L 0) (fun j _ => rfl))
  have HB2 := Lib.hid (alloc_below w1 (.cells (madeCells #[.int .i64 0] l0) 3))
  generalize hN : w1.heap.size = N at *
  have HNN := Lib.hid hN
  clear hN
  generalize World.alloc w1 _ = V at *
  clear c0 hmk0
  go_wp2
  go_loopw [6, 7] (fun s6 s7 wr => ∃ (i cb lc : Nat), 1 ≤ i ∧ i ≤ t ∧ s7 = .int .i64 (i : Int) ∧ s6 = .slice (some ⟨cb, 0, none⟩) lc lc ∧ Hid (lc = (L (i - 1)).length ∧ Below N w1 wr ∧ N ≤ cb ∧ IR 3 wr cb lc (costR n L (i - 1)))) (fun _ s7 _ => t - (intOf s7).toNat)
  case atStart => exact ⟨1, N, l0, Nat.le_refl _, ht1, rfl, rfl, Lib.hid ⟨HL0.out.symm, HB2.out, Nat.le_refl _, HC0.out⟩⟩
  case round =>
    clear HC0 HB2 HL0
    obtain ⟨i, cb, lc, hi1, hi, rfl, rfl, HX⟩ := hrel
    by_cases hlt : i < t
    · have hlt' : (i : Int) < (t : Int) := by omega
      obtain ⟨ai, ci, hvi, hfi⟩ := HV.out i hlt
      obtain ⟨ap, cp, hvp, hfp⟩ := HV.out (i - 1) (by omega)
      have HCE1 := Lib.hid (fun (W : World) (hb : Below N w1 W) => show W.cell? ⟨ob, i, none⟩ = some (.slice ai (L i).length ci) from by rw [← hvi]; exact ((bcell hb).1 ob i (by have := HNN.out; omega)).trans (HVR.out.cell hlt))
      have HCE2 := Lib.hid (fun (W : World) (hb : Below N w1 W) => show W.cell? ⟨ob, i - 1, none⟩ = some (.slice ap lc cp) from by rw [HX.out.1, ← hvp]; exact ((bcell hb).1 ob (i - 1) (by have := HNN.out; omega)).trans (HVR.out.cell (j := i - 1) (by omega)))
      have ci0 := HCE1.out _ HX.out.2.1
      obtain ⟨hli1, hli2⟩ := HLEN.out i hlt
      have hmki := hmk _ hli1
      have HFI := Lib.hid hfi
      have HFP := Lib.hid hfp
      have HLP := Lib.hid (show lc = (L (i - 1)).length from HX.out.1)
      have hlcb : lc ≤ 1000 := by have := (HLEN.out (i - 1) (by omega)).1; rw [HX.out.1]; exact this
      clear hvi hvp hfi hfp
      have him : (i : Int) - 1 = ((i - 1 : Nat) : Int) := by omega
      have himt : ((i - 1 : Nat) : Int) < (t : Int) := by omega
      generalize hli : (L i).length = li at *
      have HLI := Lib.hid hli
      clear hli
      go_upto_region 9 with (fail)
      have hzr := HX.out.2.1.size
      have hcbz := HX.out.2.2.2.lt
      have HCI := Lib.hid (show CI N w1 cb lc (costR n L (i - 1)) wr.heap.size li (fun q => if q < 0 then costR n L i q else 0) (wr.alloc (.cells (madeCells #[.int .i64 0] li) 3)) from ⟨HX.out.2.1.trans ((alloc_below wr _).mono (by have := HNN.out; omega)), HX.out.2.2.2.alloc _, (IR.made wr 3 li).congr (fun q _ => by rw [if_neg (by omega)])⟩)
      have hNnb : N ≤ wr.heap.size := by have := HNN.out; omega
      have hne : wr.heap.size ≠ cb := by omega
      have hzz : (wr.alloc (.cells (madeCells #[.int .i64 0] li) 3)).heap.size = wr.heap.size + 1 := by simp
      clear ci0 hmki HX
      generalize World.alloc wr _ = V2 at *
      generalize wr.heap.size = nb at *
      have ci0 := HCE1.out _ HCI.out.below
      go_wp2
      go_loopw [43] (fun s43 wx => ∃ k : Nat, k ≤ li ∧ s43 = .int .i64 (k : Int) ∧ Hid (CI N w1 cb lc (costR n L (i - 1)) nb li (fun q => if q < k then costR n L i q else 0) wx)) (fun s43 _ => li - (intOf s43).toNat)
      case atStart => exact ⟨0, Nat.zero_le _, rfl, HCI⟩
      case round =>
        clear HCI ci0 hzz
        obtain ⟨k, hk, rfl, HCI⟩ := hrel
        by_cases hlt2 : k < li
        · have hlt2' : (k : Int) < (li : Int) := by omega
          obtain ⟨ab, ao, ra, rc, rfl, hab, x0, x1⟩ := HFI.out.get (i := k) (by rw [HLI.out]; exact hlt2)
          have hwx := HCI.out.below.size
          have x2 := ((bcell HCI.out.below).1 _ _ (by have := HNN.out; omega)).trans x0
          have habz : ab < wr.heap.size := by have := HNN.out; omega
          have n0 := HCI.out.next.cell hlt2
          have n1 := HCI.out.next.frozen k
          have cp0 := HCE2.out _ HCI.out.below
          have HIK := Lib.hid x1
          have HDK := Lib.hid (DenseL.get (HDN.out i hlt) (i := k) (by rw [HLI.out]; exact hlt2))
          have HC1 := Lib.hid ((HCI.out.set hNnb hne hlt2 1000).congr (g' := fun q => if q = k then minUp n L (i - 1) ((L i).getD k []) 0 else if q < k then costR n L i q else 0) (fun q _ => rfl))
          clear x0 x1
          have hob1 : ob ≠ nb := by have := HNN.out; omega
          go_upto_region 13 with (fail)
          clear n0 n1 x2 HCI habz
          have hzV : (wr.setCell ⟨nb, k, none⟩ (.int .i64 1000)).heap.size = wr.heap.size := by simp
          generalize World.setCell wr _ _ = V3 at *
          have cp0 := HCE2.out _ HC1.out.below
          go_wp2
          go_loopw [57] (fun s57 wy => ∃ j : Nat, j ≤ lc ∧ s57 = .int .i64 (j : Int) ∧ Hid (CI N w1 cb lc (costR n L (i - 1)) nb li (fun q => if q = k then minUp n L (i - 1) ((L i).getD k []) j else if q < k then costR n L i q else 0) wy)) (fun s57 _ => lc - (intOf s57).toNat)
          case atStart => exact ⟨0, Nat.zero_le _, rfl, HC1⟩
          case round =>
            clear HC1 cp0 hzV
            obtain ⟨j, hj, rfl, HCJ⟩ := hrel
            by_cases hlt3 : j < lc
            · have hlt3' : (j : Int) < (lc : Int) := by omega
              obtain ⟨pb, po, rb, rc2, rfl, hpb, y0, y1⟩ := HFP.out.get (i := j) (by rw [← HLP.out]; exact hlt3)
              have y2 := ((bcell HCJ.out.below).1 _ _ (by have := HNN.out; omega)).trans y0
              have hwy := HCJ.out.below.size
              have hpz : pb < wr.heap.size := by have := HNN.out; omega
              have n0 := HCJ.out.next.cell hlt2
              rw [if_pos rfl] at n0
              have n1 := HCJ.out.next.frozen k
              have m0 := HCJ.out.cost.cell hlt3
              have hnz := HCJ.out.next.lt
              have hcz := HCJ.out.cost.lt
              have HAP := Lib.hid (fun (W : World) (hb : Below wr.heap.size wr W) => apart_any rb n rc2 (fOf ((L (i - 1)).getD j [])) ra rc (fOf ((L i).getD k [])) W (((y1.below (HCJ.out.below.mono (by have := HNN.out; omega))).below (hb.mono (by have := HNN.out; omega))).up (by have := hb.size; have := HNN.out; omega)) (((HIK.out.below (HCJ.out.below.mono (by have := HNN.out; omega))).below (hb.mono (by have := HNN.out; omega))).up (by have := hb.size; have := HNN.out; omega)) (by omega) (DenseL.get (HDN.out (i - 1) (by omega)) (i := j) (by rw [← HLP.out]; exact hlt3)) HDK.out)
              have HST := Lib.hid (show minUp n L (i - 1) ((L i).getD k []) (j + 1) = min (minUp n L (i - 1) ((L i).getD k []) j) (max (costR n L (i - 1) j) (apartF (fOf ((L (i - 1)).getD j [])) (fOf ((L i).getD k [])) n)) from minUp_step (by rw [← HLP.out]; exact hlt3))
              clear y0 y1
              go_upto_region 16 with (fail)
              generalize minUp n L (i - 1) ((L i).getD k []) j = A at *
              generalize hAN : minUp n L (i - 1) ((L i).getD k []) (j + 1) = AN at HST
              have HAN := Lib.hid hAN
              clear hAN
              generalize costR n L (i - 1) j = y at *
              generalize apartF (fOf ((L (i - 1)).getD j [])) (fOf ((L i).getD k [])) n = D at *
              (refine wp_region_calm_tail (wr.heap.size) 15 (by kernel_rfl) (by kernel_rfl) ?_; simp only [List.take_succ_cons, List.take_zero, List.drop_succ_cons, List.drop_zero]; (repeat (first | go_big_quiet_step ((go_at_call 69; exact Calls.calm_of (Nat.le_refl _) (HAP.out _ (Calm.below _)))) | quiet_step ((go_at_call 69; exact Calls.calm_of (Nat.le_refl _) (HAP.out _ (Calm.below _)))))); refine wpQuiet_nil ?_; intro _ hw'; obtain ⟨xq, hw''⟩ := hw'; subst hw'')
              have HCJ2 := Lib.hid (HCJ.out.step hNnb (Calm.below xq))
              have r0 := HCJ2.out.next.cell hlt2
              have r1 := HCJ2.out.next.frozen k
              generalize Calm.val xq = V4 at *
              have HVAL := Lib.hid (show (if (if y < D then D else y) < A then if y < D then D else y else A) = AN from by rw [HST.out]; split <;> split <;> omega)
              have HCJ3 := Lib.hid ((HCJ2.out.set hNnb hne hlt2 (if (if y < D then D else y) < A then if y < D then D else y else A)).congr (g' := fun q => if q = k then minUp n L (i - 1) ((L i).getD k []) (j + 1) else if q < k then costR n L i q else 0) (fun q _ => by
                by_cases e : q = k
                · rw [if_pos e, if_pos e, HVAL.out, HAN.out]
                · rw [if_neg e, if_neg e, if_neg e]))
              go_wp2
              exact ⟨⟨j + 1, by omega, by go_num, HCJ3⟩, by simp [intOf]; omega⟩
            · obtain rfl : lc = j := by omega
              have hlt3' : ¬ (lc : Int) < (lc : Int) := by omega
              have HEN := Lib.hid (show minUp n L (i - 1) ((L i).getD k []) lc = costR n L i k from by
                have := minUp_end (n := n) (L := L) (i := i - 1) (k := k)
                rw [show i - 1 + 1 = i by omega] at this
                rw [← this, ← HLP.out])
              have HCK := Lib.hid (HCJ.out.congr (g' := fun q => if q < k + 1 then costR n L i q else 0) (fun q _ => by
                by_cases e : q = k
                · rw [if_pos e, HEN.out, if_pos (by omega), e]
                · rw [if_neg e]
                  by_cases e2 : q < k
                  · rw [if_pos e2, if_pos (by omega)]
                  · rw [if_neg e2, if_neg (by omega)]))
              clear HCJ
              go_wp2
              exact ⟨⟨k + 1, by omega, by go_num, HCK⟩, by simp [intOf]; omega⟩
        · obtain rfl : li = k := by omega
          have hlt2' : ¬ (li : Int) < (li : Int) := by omega
          have HNX := Lib.hid (show li = (L (i + 1 - 1)).length ∧ Below N w1 wr ∧ N ≤ nb ∧ IR 3 wr nb li (costR n L (i + 1 - 1)) from by
            rw [show i + 1 - 1 = i by omega]
            exact ⟨HLI.out.symm, HCI.out.below, hNnb, HCI.out.next.congr (fun q hq => by rw [if_pos hq])⟩)
          go_wp2
          exact ⟨⟨i + 1, nb, li, by omega, by omega, by go_num, rfl, HNX⟩, by simp [intOf]; omega⟩
    · obtain rfl : t = i := by omega
      have hlt' : ¬ (t : Int) < (t : Int) := by omega
      have hlc := HX.out.1
      have h1c : 1 ≤ lc := by have := (HLEN.out (t - 1) (by omega)).2; omega
      have h2c : lc ≤ 1000000 := by have := (HLEN.out (t - 1) (by omega)).1; omega
      have HMN := Lib.hid (minI_any cb lc lc (costR n L (t - 1)) wr HX.out.2.2.2 h1c h2c)
      have HEQ := Lib.hid (show leastL ((List.range lc).map (costR n L (t - 1))) = CF from by
        rw [HCM.out, hlc]
        congr 1
        apply List.ext_getElem?
        intro q
        by_cases hq : q < (L (t - 1)).length
        · simp [hq, costR, List.getD_eq_getElem?_getD]
        · rw [List.getElem?_eq_none_iff.2 (by simp; omega), List.getElem?_eq_none_iff.2 (by simp; omega)])
      rw [HEQ.out] at HMN
      have HBF := Lib.hid (HB1.out.trans (HX.out.2.1.mono (by have := HB1.out.size; have := HNN.out; omega)))
      have hwz := HBF.out.size
      clear HX hlc
      go_wp2_with (go_at_call 70; refine HMN.out.mono ?_; rintro e w5 ⟨rfl, hb5⟩)
      go_ret2
      exact ⟨rfl, HBF.out.trans (hb5.mono hwz)⟩
end Go.Proofs.YtkdopjkdokgipaaGreatDoor
namespace Go.Proofs.YtkdopjkdokgipaaGreatDoor
open Go.RowKit Go.Shelf
set_option linter.unusedVariables false
set_option linter.unusedSimpArgs false
set_option maxRecDepth 100000 in
set_option maxHeartbeats 1000000 in
theorem epochsF_any (a : Option Addr) (n cap : Nat) (f : Nat → Int) (i : Nat) (hi : i < n) (hn : n ≤ 1000000) (w : World) (hF : Ints w.heap.size w a n f) :
    Calls Tryz.prog 68 #[.slice a n cap, .int .i64 (i : Int)] w fun e w' => e = .returned (.int .i64 (f i)) ∧ w = w' := by
  obtain ⟨b, off, rfl, hb, hc⟩ := hF.get hi
  have hi' : (i : Int) < (n : Int) := by omega
  go_enter Tryz.func68, Tryz.ntmps68
  go_wp2
  go_ret
  exact ⟨rfl, rfl⟩
set_option maxRecDepth 100000 in
set_option maxHeartbeats 2000000 in
theorem widenE_any (ob k kc : Nat) (g : Nat → SV) (known : Bool) (xa : Option Addr) (n xc : Nat) (num : Nat → Int) (hk : k ≤ 1000000) (w : World) (hS : SR 28 w ob k g)
    (hnum : ∀ i, i < k → ∀ W', w.grownBy W' (some ob) → Calls Tryz.prog 68 #[.slice xa n xc, .int .i64 (i : Int)] W' fun e W'' => e = .returned (.int .i64 (num i)) ∧ Below W'.heap.size W' W'') :
    Calls Tryz.prog 55 #[.slice (some ⟨ob, 0, none⟩) k kc, .bool known, .slice xa n xc, .func (.func 68) #[] #[]] w fun e w' => e = .returned (.tuple #[]) ∧ w.grownBy w' (some ob) ∧ SR 28 w' ob k (fun i => widS known (g i) (num i)) := by
  have HS := Lib.hid hS
  have HNUM := Lib.hid hnum
  clear hS hnum
  go_enter Tryz.func55, Tryz.ntmps55
  go_wp2
  go_loopw [12] (fun t wr => ∃ i : Nat, i ≤ k ∧ t = .int .i64 (i : Int) ∧ Hid (w.grownBy wr (some ob) ∧ SR 28 wr ob k (fun j => if j < i then widS known (g j) (num j) else g j))) (fun t _ => k - (intOf t).toNat)
  case atStart => exact ⟨0, Nat.zero_le _, rfl, Lib.hid ⟨⟨rfl, rfl, rfl, Nat.le_refl _, fun _ _ _ => rfl⟩, HS.out.congr (fun j _ => by simp)⟩⟩
  case round =>
    clear HS
    obtain ⟨i, hi, rfl, HX⟩ := hrel
    by_cases hlt : i < k
    · have hlt' : (i : Int) < (k : Int) := by omega
      have HC := Lib.hid (HNUM.out i hlt wr HX.out.1)
      cases known
      · go_wp2_with (fail)
        refine HC.out.mono ?_
        rintro e w2 ⟨rfl, hb⟩
        have HSR := Lib.hid (HX.out.2.step hb)
        have HG := Lib.hid (show w.grownBy w2 (some ob) from ⟨hb.os.trans HX.out.1.os, hb.tape.trans HX.out.1.tape, hb.output.trans HX.out.1.output, Nat.le_trans HX.out.1.size hb.size, fun b hl hn => (hb.block b (Nat.lt_of_lt_of_le hl HX.out.1.size)).trans (HX.out.1.block b hl hn)⟩)
        clear HC HX hb
        obtain ⟨c0, c1⟩ := HSR.out.cell hlt
        have f0 := HSR.out.frozen (i * 2)
        have f1 := HSR.out.frozen (i * 2 + 1)
        dsimp only
        generalize hx : num i = x at *
        have HXX := Lib.hid hx
        clear hx
        go_upto_region 6 with (fail)
        have HSR2 := Lib.hid (HSR.out.set hlt x x)
        have HGV := Lib.hid (grown_set (o := i * 2 + 1) (grown_set (o := i * 2) HG.out (.int .i64 x)) (.int .i64 x))
        have hzz : ((w2.setCell ⟨ob, i * 2, none⟩ (.int .i64 x)).setCell ⟨ob, i * 2 + 1, none⟩ (.int .i64 x)).heap.size = w2.heap.size := by simp
        clear c0 c1 f0 f1
        generalize (w2.setCell ⟨ob, i * 2, none⟩ (.int .i64 x)).setCell ⟨ob, i * 2 + 1, none⟩ (.int .i64 x) = V at *
        obtain ⟨c0, c1⟩ := HSR2.out.cell hlt
        rw [if_pos rfl] at c0 c1
        have f0 := HSR2.out.frozen (i * 2)
        have f1 := HSR2.out.frozen (i * 2 + 1)
        go_region
        have HW1 := Lib.hid (grown_drew (grown_set (o := i * 2 + 1) (grown_set (o := i * 2) HGV.out (.int .i64 x)) (.int .i64 x)))
        have HW2 := Lib.hid (SR.drew (HSR2.out.set hlt x x))
        clear HSR HSR2 HGV HG c0 c1 f0 f1 hzz
        generalize World.drew _ = V2 at *
        go_wp2
        go_roundw
        case rel => exact ⟨i + 1, by omega, by go_num, Lib.hid ⟨HW1.out, HW2.out.congr (fun j _ => by (have hw := wid_step (known := false) (g := g) (num := num) (j := j) (i := i) (x := x) HXX.out.symm (s := ⟨x, x⟩) rfl; by_cases e : j = i; (rw [if_pos e] at hw ⊢; exact hw); (rw [if_neg e] at hw ⊢; rw [if_neg e]; exact hw)))⟩⟩
        case measure => simp [intOf]; omega
      · go_wp2_with (fail)
        refine HC.out.mono ?_
        rintro e w2 ⟨rfl, hb⟩
        have HSR := Lib.hid (HX.out.2.step hb)
        have HG := Lib.hid (grown_below HX.out.1 hb)
        clear HC HX hb
        obtain ⟨c0, c1⟩ := HSR.out.cell hlt
        rw [if_neg (Nat.lt_irrefl i)] at c0 c1
        have f0 := HSR.out.frozen (i * 2)
        have f1 := HSR.out.frozen (i * 2 + 1)
        dsimp only
        generalize hx : num i = x at *
        have HXX := Lib.hid hx
        clear hx
        go_upto_region 6 with (fail)
        go_region
        have HW1 := Lib.hid (grown_drew (grown_set (o := i * 2 + 1) (grown_set (o := i * 2) HG.out (.int .i64 (if x < (g i).lo then x else (g i).lo))) (.int .i64 (if (g i).hi < x then x else (g i).hi))))
        have HW2 := Lib.hid (SR.drew (HSR.out.set hlt (if x < (g i).lo then x else (g i).lo) (if (g i).hi < x then x else (g i).hi)))
        clear HSR HG c0 c1 f0 f1
        generalize World.drew _ = V2 at *
        go_wp2
        go_roundw
        case rel => exact ⟨i + 1, by omega, by go_num, Lib.hid ⟨HW1.out, HW2.out.congr (fun j _ => wid_step (known := true) HXX.out.symm rfl)⟩⟩
        case measure => simp [intOf]; omega
    · obtain rfl : i = k := by omega
      have hlt' : ¬ (i : Int) < (i : Int) := by omega
      have HF := Lib.hid (HX.out.2.congr (g := fun j => widS known (g j) (num j)) (fun j hj => by rw [if_pos hj]))
      go_wp2
      go_end0
      exact ⟨rfl, HX.out.1, HF.out⟩
end Go.Proofs.YtkdopjkdokgipaaGreatDoor
