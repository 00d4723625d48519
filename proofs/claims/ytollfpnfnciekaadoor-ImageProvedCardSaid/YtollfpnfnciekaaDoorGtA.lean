/- Texts put together: RefHoC, RefHoD. -/
import Derived.Test.YtollfpnfnciekaaDoorRefHo
import Derived.Test.YtollfpnfnciekaaDoorImHolds
namespace Go.Proofs.YtollfpnfnciekaaDoor
open Go.RowKit Go.Shelf
set_option linter.unusedVariables false
set_option linter.unusedSimpArgs false
theorem holdsR_cut {n m : Nat} {bs : Nat → BM} {len : Nat} {ns : Nat → NM} {k : Nat} {box : Nat → SV} {i : Nat} (hlt : i < len) (hcell : (ns i).cell ≠ -1) (hcut : cutB n box (ns i) = true) :
    holdsR n m bs len ns (k + 1) box i = if holdsR n m bs len ns k (setBox box (ns i).cell.toNat ⟨(box (ns i).cell.toNat).lo, (ns i).at_⟩) (i + 1) < 0 ∨ (ns i).right ≠ holdsR n m bs len ns k (setBox box (ns i).cell.toNat ⟨(box (ns i).cell.toNat).lo, (ns i).at_⟩) (i + 1) then -1
      else holdsR n m bs len ns k (setBox box (ns i).cell.toNat ⟨(ns i).at_ + 1, (box (ns i).cell.toNat).hi⟩) (holdsF n m bs len ns k (setBox box (ns i).cell.toNat ⟨(box (ns i).cell.toNat).lo, (ns i).at_⟩) (i + 1)) := by
  have hF : holdsF n m bs len ns (k + 1) box i = if 0 < holdsF n m bs len ns k (setBox box (ns i).cell.toNat ⟨(box (ns i).cell.toNat).lo, (ns i).at_⟩) (i + 1) ∧ (holdsF n m bs len ns k (setBox box (ns i).cell.toNat ⟨(box (ns i).cell.toNat).lo, (ns i).at_⟩) (i + 1) : Int) = (ns i).right
       then holdsF n m bs len ns k (setBox box (ns i).cell.toNat ⟨(ns i).at_ + 1, (box (ns i).cell.toNat).hi⟩) (holdsF n m bs len ns k (setBox box (ns i).cell.toNat ⟨(box (ns i).cell.toNat).lo, (ns i).at_⟩) (i + 1)) else 0 := by
    rw [holdsF, if_neg (by omega), if_neg hcell, if_pos hcut]
  unfold holdsR
  rw [hF]
  generalize holdsF n m bs len ns k (setBox box (ns i).cell.toNat ⟨(box (ns i).cell.toNat).lo, (ns i).at_⟩) (i + 1) = A
  by_cases h : 0 < A ∧ (A : Int) = (ns i).right
  · rw [if_pos h, if_neg (show ¬ A = 0 by omega), if_neg (show ¬ ((A : Int) < 0 ∨ (ns i).right ≠ (A : Int)) by omega)]
  · rw [if_neg h, if_pos rfl]
    by_cases h0 : A = 0
    · rw [if_pos h0, if_pos (.inl (by omega))]
    · rw [if_neg h0, if_pos (.inr (by omega))]
theorem setBox_ok {n : Nat} {box : Nat → SV} {c : Nat} {s : SV} (h : BoxOk n box) (hs : 0 ≤ s.lo ∧ s.lo ≤ 1000 ∧ 0 ≤ s.hi ∧ s.hi ≤ 1000) : BoxOk n (setBox box c s) := fun j hj => by
  unfold setBox
  by_cases e : j = c
  · rw [if_pos e]; exact hs
  · rw [if_neg e]; exact h j hj
set_option maxRecDepth 100000 in
set_option maxHeartbeats 4000000 in
theorem holds_cut8 (B n : Nat) (ss : Nat → SV) (m : Nat) (bs : Nat → BM) (a : Option Addr) (c : Nat) (ba : Option Addr) (bc : Nat) (na : Option Addr) (len nc : Nat) (ns : Nat → NM) (k : Nat) (hn40 : n ≤ 40) (hl : len ≤ 4000) (ih : HoldsOk B n ss m bs a c ba bc na len nc ns k) (xa : Option Addr) (xc : Nat) (box : Nat → SV) (i : Nat) (w : World) (hBw : B ≤ w.heap.size) (hM : Beams B w ba m bs) (hN : Nodes B w na len ns) (hX : Spans w.heap.size w xa n box) (hBx : BoxOk n box) (hk : len < i + (k + 1)) (hlt : i < len) (hcell : (ns i).cell ≠ -1) (hcut : cutB n box (ns i) = true) :
    Calls Tryd.prog 79 #[imageV a n c ba m bc, .slice xa n xc, .slice na len nc, .int .i64 (i : Int)] w fun e W' => e = .returned (.int .i64 (holdsR n m bs len ns (k + 1) box i)) ∧ Below w.heap.size w W' := by
  have hlt' : (i : Int) < (len : Int) := by omega
  have hi0 : ¬ (i : Int) < 0 := by omega
  have hge : ¬ (len : Int) ≤ (i : Int) := by omega
  have hA0 := holdsF_le (n := n) (m := m) (bs := bs) (len := len) (ns := ns) k (setBox box (ns i).cell.toNat ⟨(box (ns i).cell.toNat).lo, (ns i).at_⟩) (i + 1)
  have hval := holdsR_cut (m := m) (bs := bs) (k := k) hlt hcell hcut
  obtain ⟨q1, q2, q3, q4, q5⟩ := cutB_at hcut
  rw [hval]
  have HN := Lib.hid hN
  have hN' := hN
  rcases hN' with h0 | ⟨nb, noff, rfl, hnB, hc⟩
  · omega
  obtain ⟨⟨x0, x1, x2, x3⟩, xtn, xT⟩ := hc i hlt
  have hnz : nb < w.heap.size := by omega
  have HX := Lib.hid hX
  have HM := Lib.hid hM
  have HBX := Lib.hid hBx
  have HIH := Lib.hid ih
  clear hc hval hX hM hN hcut xT xtn ih
  generalize hx : ns i = x at *
  clear hx
  obtain ⟨xcell, xat, xright, ta, tn, tc, ts⟩ := x
  dsimp only at x0 x1 x2 x3 hcell q1 q2 q3 q4 q5 hA0 ⊢
  have hcb : (xcell == -1) = false := by rw [beq_eq_false_iff_ne]; exact hcell
  obtain ⟨cn, rfl⟩ : ∃ cn : Nat, xcell = (cn : Int) := ⟨xcell.toNat, by omega⟩
  rw [Int.toNat_natCast] at q4 q5 hA0 ⊢
  have hcn : cn < n := by omega
  subst q3
  obtain ⟨b1, b2, b3, b4⟩ := hBx cn hcn
  have hat0 : 0 ≤ xat := by omega
  have hat1 : xat < 1000 := by omega
  have HB1 := Lib.hid (setBox_ok (c := cn) (s := ⟨(box cn).lo, xat⟩) hBx ⟨b1, b2, hat0, by show xat ≤ 1000; omega⟩)
  have HB2 := Lib.hid (setBox_ok (c := cn) (s := ⟨xat + 1, (box cn).hi⟩) hBx ⟨by show 0 ≤ xat + 1; omega, by show xat + 1 ≤ 1000; omega, b3, b4⟩)
  clear hBx
  obtain ⟨bb, bo, rfl, hbB, z0, z1⟩ := HX.out.get hcn
  have hRA : holdsR n m bs len ns k (setBox box cn ⟨(box cn).lo, xat⟩) (i + 1) = if holdsF n m bs len ns k (setBox box cn ⟨(box cn).lo, xat⟩) (i + 1) = 0 then -1 else (holdsF n m bs len ns k (setBox box cn ⟨(box cn).lo, xat⟩) (i + 1) : Int) := rfl
  generalize hR : holdsR n m bs len ns k (setBox box cn ⟨(box cn).lo, xat⟩) (i + 1) = R1 at *
  generalize holdsF n m bs len ns k (setBox box cn ⟨(box cn).lo, xat⟩) (i + 1) = A at *
  have HNO := Lib.hid (fun (h : R1 < 0 ∨ xright ≠ R1) => show (if R1 < 0 ∨ xright ≠ R1 then -1 else holdsR n m bs len ns k (setBox box cn ⟨xat + 1, (box cn).hi⟩) A) = -1 from if_pos h)
  have HYES := Lib.hid (fun (h : ¬ (R1 < 0 ∨ xright ≠ R1)) => show (if R1 < 0 ∨ xright ≠ R1 then -1 else holdsR n m bs len ns k (setBox box cn ⟨xat + 1, (box cn).hi⟩) A) = holdsR n m bs len ns k (setBox box cn ⟨xat + 1, (box cn).hi⟩) A from if_neg h)
  generalize (if R1 < 0 ∨ xright ≠ R1 then -1 else holdsR n m bs len ns k (setBox box cn ⟨xat + 1, (box cn).hi⟩) A) = RES at *
  have HRA := Lib.hid hRA
  have HA0 := Lib.hid hA0
  clear hRA hA0
  go_enter Tryd.func79, Tryd.ntmps79
  go_upto_region 1 with (fail)
  have HL := Lib.hid (show LI a n c ba m bc w (w.alloc (.cells #[.slice a n c, .slice ba m bc] 25)) from LI_start)
  have y0 := ((bcell HL.out.2.2.2).1 nb (noff + i * 4) hnz).trans x0
  have y1 := ((bcell HL.out.2.2.2).1 nb (noff + i * 4 + 1) hnz).trans x1
  have y2 := ((bcell HL.out.2.2.2).1 nb (noff + i * 4 + 2) hnz).trans x2
  have y3 := ((bcell HL.out.2.2.2).1 nb (noff + i * 4 + 3) hnz).trans x3
  have hnv : nb < (w.alloc (.cells #[.slice a n c, .slice ba m bc] 25)).heap.size := by simp; omega
  clear x0 x1 x2 x3
  generalize World.alloc w _ = V at *
  go_upto_region 4 with (fail)
  have HO := Lib.hid (show HoI w a n c ba m bc V.heap.size ⟨(cn : Int), xat, xright, ta, 0, tc, ts⟩ (V.alloc (.cells #[.int .i64 (cn : Int), .int .i64 xat, .int .i64 xright, .slice ta 0 tc] 79)) from ⟨LI_step HL.out (alloc_below V _), heap_alloc_new V _⟩)
  clear HL y0 y1 y2 y3
  generalize World.alloc V _ = V2 at *
  generalize V.heap.size = xb at *
  have hzb := HO.out.li.2.2.2.size
  have hc := fun j => cell_of_row _ _ j _ _ _ HO.out.node
  have y0 := (hc 0).trans (show _ = some (Value.int .i64 (cn : Int)) from rfl)
  have y1 := (hc 1).trans (show _ = some (Value.int .i64 xat) from rfl)
  have y3 := (hc 3).trans (show _ = some (Value.slice ta 0 tc) from rfl)
  have hxb := (Array.getElem?_eq_some_iff.1 HO.out.node).1
  obtain ⟨l0, l1, l2, l3⟩ := HO.out.li
  clear hc
  have h1 : inB (cn : Int) 0 ((n : Int) - 1) = true := inB_iff.2 ⟨by omega, by omega⟩
  have hbz : bb < V2.heap.size := by omega
  have u0 := ((bcell l3).1 bb (bo + cn * 2) hbB).trans z0
  have u1 := ((bcell l3).1 bb (bo + cn * 2 + 1) hbB).trans z1
  have i3 : (cn : Int) < (n : Int) := by omega
  have h3 : ¬ xat < (box cn).lo := by omega
  have h4 : ¬ (box cn).hi ≤ xat := by omega
  go_upto_region 15 with (fail)
  (refine wp_region_calm (V2.heap.size) (by kernel_rfl) (by kernel_rfl) ?_; (repeat (first | go_big_quiet_step ((go_at_call 36; exact Calls.calm_same (r8in_any _ _ _ _))) | quiet_step ((go_at_call 36; exact Calls.calm_same (r8in_any _ _ _ _))))); refine wpQuiet_nil ?_; intro _ hw'; obtain ⟨xq, hw''⟩ := hw'; subst hw'')
  go_upto_region 17 with (fail)
  have HB3 := Lib.hid (Calm.below xq)
  have HW3 := Lib.hid (l3.trans ((Calm.below xq).mono l3.size))
  have d0 := ((bcell HB3.out).1 w.heap.size 0 l2).trans l0
  have d1 := ((bcell HB3.out).1 w.heap.size 1 l2).trans l1
  have d2 := ((bcell HB3.out).1 xb 0 hxb).trans y0
  have d3 := ((bcell HB3.out).1 xb 1 hxb).trans y1
  have d4 := ((bcell HB3.out).1 bb (bo + cn * 2) hbz).trans u0
  clear l0 l1 y0 y1 y3 u0
  generalize Calm.val xq = V3 at *
  refine wp_region_any (by kernel_rfl) ?_
  change wpAny _ _ _ _ _ _ _ (World.drew V3)
  have d0 : V3.drew.cell? ⟨w.heap.size, 0, none⟩ = _ := d0
  have d1 : V3.drew.cell? ⟨w.heap.size, 1, none⟩ = _ := d1
  have d2 : V3.drew.cell? ⟨xb, 0, none⟩ = _ := d2
  have d3 : V3.drew.cell? ⟨xb, 1, none⟩ = _ := d3
  have d4 : V3.drew.cell? ⟨bb, bo + cn * 2, none⟩ = _ := d4
  have HD := Lib.hid (show Below w.heap.size w V3.drew from HW3.out.drew)
  have HZ := Lib.hid (show Below V2.heap.size V2 V3.drew from HB3.out.drew)
  generalize World.drew V3 = Wd at *
  refine any_of_tail 18 18 (fun w' => w'.cell? ⟨w.heap.size, 0, none⟩ = some (.slice a n c) ∧ w'.cell? ⟨w.heap.size, 1, none⟩ = some (.slice ba m bc) ∧ w'.cell? ⟨xb, 0, none⟩ = some (.int .i64 (cn : Int)) ∧ w'.cell? ⟨xb, 1, none⟩ = some (.int .i64 xat) ∧ w'.cell? ⟨bb, bo + cn * 2, none⟩ = some (.int .i64 (box cn).lo)) (by kernel_rfl) ⟨d0, d1, d2, d3, d4⟩ (fun hS => ?_)
  refine headH_take (i := 0) (v := ?_) rfl (by kernel_rfl) (fun _ _ _ h => h) (Or.inl ⟨by rfl, ?_⟩) (by assumption) ?_; rotate_left; (· intro w' hSw; (try dsimp only at hSw); (try obtain ⟨hSw1, hSw2, hSw3, hSw4, hSw5⟩ := hSw); go_simp; (try with_reducible rfl)); (try dsimp only [Act.put]); (try simp only [List.setIfInBounds_toArray, List.set_cons_zero, List.set_cons_succ])
  refine headH_take (i := 1) (v := ?_) rfl (by kernel_rfl) (fun _ _ _ h => h) (Or.inl ⟨by rfl, ?_⟩) (by assumption) ?_; rotate_left; (· intro w' hSw; (try dsimp only at hSw); (try obtain ⟨hSw1, hSw2, hSw3, hSw4, hSw5⟩ := hSw); go_simp; (try with_reducible rfl)); (try dsimp only [Act.put]); (try simp only [List.setIfInBounds_toArray, List.set_cons_zero, List.set_cons_succ])
  refine headH_take (i := 2) (v := ?_) rfl (by kernel_rfl) (fun _ _ _ h => h) (Or.inl ⟨by rfl, ?_⟩) (by assumption) ?_; rotate_left; (· intro w' hSw; (try dsimp only at hSw); (try obtain ⟨hSw1, hSw2, hSw3, hSw4, hSw5⟩ := hSw); go_simp; (try with_reducible rfl)); (try dsimp only [Act.put]); (try simp only [List.setIfInBounds_toArray, List.set_cons_zero, List.set_cons_succ])
  refine headH_take (i := 3) (v := ?_) rfl (by kernel_rfl) (fun _ _ _ h => h) (Or.inl ⟨by rfl, ?_⟩) (by assumption) ?_; rotate_left; (· intro w' hSw; (try dsimp only at hSw); (try obtain ⟨hSw1, hSw2, hSw3, hSw4, hSw5⟩ := hSw); go_simp; (try with_reducible rfl)); (try dsimp only [Act.put]); (try simp only [List.setIfInBounds_toArray, List.set_cons_zero, List.set_cons_succ])
  refine headH_take (i := 4) (v := ?_) rfl (by kernel_rfl) (fun _ _ _ h => h) (Or.inl ⟨by rfl, ?_⟩) (by assumption) ?_; rotate_left; (· intro w' hSw; (try dsimp only at hSw); (try obtain ⟨hSw1, hSw2, hSw3, hSw4, hSw5⟩ := hSw); go_simp; (try with_reducible rfl)); (try dsimp only [Act.put]); (try simp only [List.setIfInBounds_toArray, List.set_cons_zero, List.set_cons_succ])
  refine headH_take (i := 5) (v := ?_) rfl (by kernel_rfl) (fun _ _ _ h => h) (Or.inl ⟨by rfl, ?_⟩) (by assumption) ?_; rotate_left; (· intro w' hSw; (try dsimp only at hSw); (try obtain ⟨hSw1, hSw2, hSw3, hSw4, hSw5⟩ := hSw); go_simp; (try with_reducible rfl)); (try dsimp only [Act.put]); (try simp only [List.setIfInBounds_toArray, List.set_cons_zero, List.set_cons_succ])
  refine headH_take (i := 6) (v := ?_) rfl (by kernel_rfl) (fun _ _ _ h => h) (Or.inl ⟨by rfl, ?_⟩) (by assumption) ?_; rotate_left; (· intro w' hSw; (try dsimp only at hSw); (try obtain ⟨hSw1, hSw2, hSw3, hSw4, hSw5⟩ := hSw); go_simp; (try with_reducible rfl)); (try dsimp only [Act.put]); (try simp only [List.setIfInBounds_toArray, List.set_cons_zero, List.set_cons_succ])
  refine headH_take (i := 7) (v := ?_) rfl (by kernel_rfl) (fun _ _ _ h => h) (Or.inl ⟨by rfl, ?_⟩) (by assumption) ?_; rotate_left; (· intro w' hSw; (try dsimp only at hSw); (try obtain ⟨hSw1, hSw2, hSw3, hSw4, hSw5⟩ := hSw); go_simp; (try with_reducible rfl)); (try dsimp only [Act.put]); (try simp only [List.setIfInBounds_toArray, List.set_cons_zero, List.set_cons_succ])
  refine headH_take (i := 8) (v := ?_) rfl (by kernel_rfl) (fun _ _ _ h => h) (Or.inl ⟨by rfl, ?_⟩) (by assumption) ?_; rotate_left; (· intro w' hSw; (try dsimp only at hSw); (try obtain ⟨hSw1, hSw2, hSw3, hSw4, hSw5⟩ := hSw); go_simp; (try with_reducible rfl)); (try dsimp only [Act.put]); (try simp only [List.setIfInBounds_toArray, List.set_cons_zero, List.set_cons_succ])
  refine headH_take (i := 9) (v := ?_) rfl (by kernel_rfl) (fun _ _ _ h => h) (Or.inl ⟨by rfl, ?_⟩) (by assumption) ?_; rotate_left; (· intro w' hSw; (try dsimp only at hSw); (try obtain ⟨hSw1, hSw2, hSw3, hSw4, hSw5⟩ := hSw); go_simp; (try with_reducible rfl)); (try dsimp only [Act.put]); (try simp only [List.setIfInBounds_toArray, List.set_cons_zero, List.set_cons_succ])
  refine headH_take (i := 10) (v := ?_) rfl (by kernel_rfl) (fun _ _ _ h => h) (Or.inl ⟨by rfl, ?_⟩) (by assumption) ?_; rotate_left; (· intro w' hSw; (try dsimp only at hSw); (try obtain ⟨hSw1, hSw2, hSw3, hSw4, hSw5⟩ := hSw); go_simp; (try with_reducible rfl)); (try dsimp only [Act.put]); (try simp only [List.setIfInBounds_toArray, List.set_cons_zero, List.set_cons_succ])
  refine headH_take (i := 11) (v := ?_) rfl (by kernel_rfl) (fun _ _ _ h => h) (Or.inl ⟨by rfl, ?_⟩) (by assumption) ?_; rotate_left; (· intro w' hSw; (try dsimp only at hSw); (try obtain ⟨hSw1, hSw2, hSw3, hSw4, hSw5⟩ := hSw); go_simp; (try with_reducible rfl)); (try dsimp only [Act.put]); (try simp only [List.setIfInBounds_toArray, List.set_cons_zero, List.set_cons_succ])
  refine headH_take (i := 12) (v := ?_) rfl (by kernel_rfl) (fun _ _ _ h => h) (Or.inl ⟨by rfl, ?_⟩) (by assumption) ?_; rotate_left; (· intro w' hSw; (try dsimp only at hSw); (try obtain ⟨hSw1, hSw2, hSw3, hSw4, hSw5⟩ := hSw); go_simp; (try with_reducible rfl)); (try dsimp only [Act.put]); (try simp only [List.setIfInBounds_toArray, List.set_cons_zero, List.set_cons_succ])
  refine headH_take (i := 14) (v := ?_) rfl (by kernel_rfl) (fun _ _ _ h => h) (Or.inl ⟨by rfl, ?_⟩) (by assumption) ?_; rotate_left; (· intro w' hSw; (try dsimp only at hSw); (try obtain ⟨hSw1, hSw2, hSw3, hSw4, hSw5⟩ := hSw); go_simp; (try with_reducible rfl)); (try dsimp only [Act.put]); (try simp only [List.setIfInBounds_toArray, List.set_cons_zero, List.set_cons_succ])
  refine headH_take (i := 15) (v := ?_) rfl (by kernel_rfl) (fun _ _ _ h => h) (Or.inl ⟨by rfl, ?_⟩) (by assumption) ?_; rotate_left; (· intro w' hSw; (try dsimp only at hSw); (try obtain ⟨hSw1, hSw2, hSw3, hSw4, hSw5⟩ := hSw); go_simp; (try with_reducible rfl)); (try dsimp only [Act.put]); (try simp only [List.setIfInBounds_toArray, List.set_cons_zero, List.set_cons_succ])
  refine headH_take (i := 16) (v := ?_) rfl (by kernel_rfl) (fun _ _ _ h => h) (Or.inl ⟨by rfl, ?_⟩) (by assumption) ?_; rotate_left; (· intro w' hSw; (try dsimp only at hSw); (try obtain ⟨hSw1, hSw2, hSw3, hSw4, hSw5⟩ := hSw); go_simp; (try with_reducible rfl)); (try dsimp only [Act.put]); (try simp only [List.setIfInBounds_toArray, List.set_cons_zero, List.set_cons_succ])
  refine headH_all (rs := [13]) (by kernel_rfl) (by simp) (by kernel_rfl) ?_; intro i0 hi0; simp only [List.mem_cons, List.not_mem_nil, or_false] at hi0
  subst hi0
  refine headH_op rfl (fun K hK => ?_)
  go_simp
  refine (r8part_any (some ⟨bb, bo, none⟩) n xc box cn (box cn).lo xat hcn hn40 Wd ((HX.out.below HD.out).up HD.out.size)).mono ?_
  rintro e W4 ⟨pa, pc, rfl, hNS, _, _, hb4⟩
  dsimp only
  have HW4 := Lib.hid (HD.out.trans (hb4.mono HD.out.size))
  have HNS := Lib.hid (hNS.spans (by unfold maxLen; omega))
  have hzd := HZ.out.size
  have d0 := ((bcell hb4).1 w.heap.size 0 (by omega)).trans d0
  have d1 := ((bcell hb4).1 w.heap.size 1 (by omega)).trans d1
  have d2 := ((bcell hb4).1 xb 0 (by omega)).trans d2
  have d3 := ((bcell hb4).1 xb 1 (by omega)).trans d3
  have d4 := ((bcell hb4).1 bb (bo + cn * 2) (by omega)).trans d4
  have HZ4 := Lib.hid (HZ.out.trans (hb4.mono HZ.out.size))
  refine hK.out _ _ ⟨d0, d1, d2, d3, d4⟩ (fun hS2 => ?_)
  clear hK K hS hNS hb4 hzd
  (try dsimp only [Act.put]); (try simp only [List.setIfInBounds_toArray, List.set_cons_zero, List.set_cons_succ])
  refine headH_all (rs := [17]) (by kernel_rfl) (by simp) (by kernel_rfl) ?_; intro i0 hi0; simp only [List.mem_cons, List.not_mem_nil, or_false] at hi0
  subst hi0
  refine headH_op rfl (fun K hK => ?_)
  go_simp
  have HCL := Lib.hid (HIH.out pa pc (setBox box cn ⟨(box cn).lo, xat⟩) (i + 1) W4 (by have := HW4.out.size; omega) (HM.out.below (HW4.out.mono hBw)) (HN.out.below (HW4.out.mono hBw)) HNS.out HB1.out (by omega) (by omega))
  rw [show (((i + 1 : Nat)) : Int) = (i : Int) + 1 from by omega, hR] at HCL
  rw [show IntKind.i64.wrap ((i : Int) + 1) = (i : Int) + 1 from IntWalk.i64_in _ (by omega)]
  refine HCL.out.mono ?_
  rintro e W5 ⟨rfl, hb5⟩
  dsimp only
  have HW5 := Lib.hid (HW4.out.trans (hb5.mono HW4.out.size))
  have hzd := HZ4.out.size
  have d0 := ((bcell hb5).1 w.heap.size 0 (by omega)).trans d0
  have d1 := ((bcell hb5).1 w.heap.size 1 (by omega)).trans d1
  have d2 := ((bcell hb5).1 xb 0 (by omega)).trans d2
  have d3 := ((bcell hb5).1 xb 1 (by omega)).trans d3
  have d4 := ((bcell hb5).1 bb (bo + cn * 2) (by omega)).trans d4
  have HZ5 := Lib.hid (HZ4.out.trans (hb5.mono HZ4.out.size))
  refine hK.out _ _ ⟨d0, d1, d2, d3, d4⟩ (fun hS3 => ?_)
  clear hK K hS2 hS3 hb5 hzd HCL
  (try dsimp only [Act.put]); (try simp only [List.setIfInBounds_toArray, List.set_cons_zero, List.set_cons_succ])
  change tailL _ _ _ _ _ _ _ _
  refine ⟨by kernel_rfl, ?_⟩
  simp only [List.drop_succ_cons, List.drop_zero]
  clear d0 d1 d2 d3 d4 HD HZ HZ4 HW4 HNS HB1
  have HO5 := Lib.hid (HO.out.step HZ5.out)
  have hc := fun j => cell_of_row _ _ j _ _ _ HO5.out.node
  have y0 := (hc 0).trans (show _ = some (Value.int .i64 (cn : Int)) from rfl)
  have y1 := (hc 1).trans (show _ = some (Value.int .i64 xat) from rfl)
  have y2 := (hc 2).trans (show _ = some (Value.int .i64 xright) from rfl)
  have hxb5 := (Array.getElem?_eq_some_iff.1 HO5.out.node).1
  obtain ⟨l0, l1, l2', l3'⟩ := HO5.out.li
  clear hc
  have u1' := ((bcell HW5.out).1 bb (bo + cn * 2 + 1) hbB).trans z1
  have hbz5 : bb < W5.heap.size := by have := HW5.out.size; omega
  clear u1 z0 z1 HO
  by_cases h5 : R1 < 0
  · have HE := Lib.hid (HNO.out (.inl h5))
    go_wp2
    go_ret
    exact ⟨ret_int HE.out.symm, HW5.out⟩
  by_cases h6 : xright = R1
  · have h6' : (xright != R1) = false := by simp [h6]
    have HE := Lib.hid (HYES.out (by simp [h5, h6]))
    obtain ⟨hA1, rfl⟩ : A ≠ 0 ∧ R1 = (A : Int) := by
      have h := HRA.out
      by_cases e : A = 0
      · rw [if_pos e] at h; omega
      · rw [if_neg e] at h; exact ⟨e, h⟩
    have hA2 : i + 1 < A ∧ A ≤ len := by
      rcases HA0.out with h | h
      · exact absurd h hA1
      · exact h
    clear h6 HNO HYES hR
    go_upto_region 20 with (fail)
    refine wp_region_any (by kernel_rfl) ?_
    change wpAny _ _ _ _ _ _ _ (World.drew W5)
    have d0 : W5.drew.cell? ⟨w.heap.size, 0, none⟩ = _ := l0
    have d1 : W5.drew.cell? ⟨w.heap.size, 1, none⟩ = _ := l1
    have d2 : W5.drew.cell? ⟨xb, 0, none⟩ = _ := y0
    have d3 : W5.drew.cell? ⟨xb, 1, none⟩ = _ := y1
    have d4 : W5.drew.cell? ⟨bb, bo + cn * 2 + 1, none⟩ = _ := u1'
    have HD := Lib.hid (show Below w.heap.size w W5.drew from HW5.out.drew)
    have HZ := Lib.hid (show Below V2.heap.size V2 W5.drew from HZ5.out.drew)
    clear l0 l1 y0 y1 y2 u1' HO5 HZ5 HW5 hxb5 hbz5 l3'
    generalize World.drew W5 = Wd at *
    refine any_of_tail 18 18 (fun w' => w'.cell? ⟨w.heap.size, 0, none⟩ = some (.slice a n c) ∧ w'.cell? ⟨w.heap.size, 1, none⟩ = some (.slice ba m bc) ∧ w'.cell? ⟨xb, 0, none⟩ = some (.int .i64 (cn : Int)) ∧ w'.cell? ⟨xb, 1, none⟩ = some (.int .i64 xat) ∧ w'.cell? ⟨bb, bo + cn * 2 + 1, none⟩ = some (.int .i64 (box cn).hi)) (by kernel_rfl) ⟨d0, d1, d2, d3, d4⟩ (fun hS => ?_)
    refine headH_take (i := 0) (v := ?_) rfl (by kernel_rfl) (fun _ _ _ h => h) (Or.inl ⟨by rfl, ?_⟩) (by assumption) ?_; rotate_left; (· intro w' hSw; (try dsimp only at hSw); (try obtain ⟨hSw1, hSw2, hSw3, hSw4, hSw5⟩ := hSw); go_simp; (try with_reducible rfl)); (try dsimp only [Act.put]); (try simp only [List.setIfInBounds_toArray, List.set_cons_zero, List.set_cons_succ])
    refine headH_take (i := 1) (v := ?_) rfl (by kernel_rfl) (fun _ _ _ h => h) (Or.inl ⟨by rfl, ?_⟩) (by assumption) ?_; rotate_left; (· intro w' hSw; (try dsimp only at hSw); (try obtain ⟨hSw1, hSw2, hSw3, hSw4, hSw5⟩ := hSw); go_simp; (try with_reducible rfl)); (try dsimp only [Act.put]); (try simp only [List.setIfInBounds_toArray, List.set_cons_zero, List.set_cons_succ])
    refine headH_take (i := 2) (v := ?_) rfl (by kernel_rfl) (fun _ _ _ h => h) (Or.inl ⟨by rfl, ?_⟩) (by assumption) ?_; rotate_left; (· intro w' hSw; (try dsimp only at hSw); (try obtain ⟨hSw1, hSw2, hSw3, hSw4, hSw5⟩ := hSw); go_simp; (try with_reducible rfl)); (try dsimp only [Act.put]); (try simp only [List.setIfInBounds_toArray, List.set_cons_zero, List.set_cons_succ])
    refine headH_take (i := 3) (v := ?_) rfl (by kernel_rfl) (fun _ _ _ h => h) (Or.inl ⟨by rfl, ?_⟩) (by assumption) ?_; rotate_left; (· intro w' hSw; (try dsimp only at hSw); (try obtain ⟨hSw1, hSw2, hSw3, hSw4, hSw5⟩ := hSw); go_simp; (try with_reducible rfl)); (try dsimp only [Act.put]); (try simp only [List.setIfInBounds_toArray, List.set_cons_zero, List.set_cons_succ])
    refine headH_take (i := 4) (v := ?_) rfl (by kernel_rfl) (fun _ _ _ h => h) (Or.inl ⟨by rfl, ?_⟩) (by assumption) ?_; rotate_left; (· intro w' hSw; (try dsimp only at hSw); (try obtain ⟨hSw1, hSw2, hSw3, hSw4, hSw5⟩ := hSw); go_simp; (try with_reducible rfl)); (try dsimp only [Act.put]); (try simp only [List.setIfInBounds_toArray, List.set_cons_zero, List.set_cons_succ])
    refine headH_take (i := 5) (v := ?_) rfl (by kernel_rfl) (fun _ _ _ h => h) (Or.inl ⟨by rfl, ?_⟩) (by assumption) ?_; rotate_left; (· intro w' hSw; (try dsimp only at hSw); (try obtain ⟨hSw1, hSw2, hSw3, hSw4, hSw5⟩ := hSw); go_simp; (try with_reducible rfl)); (try dsimp only [Act.put]); (try simp only [List.setIfInBounds_toArray, List.set_cons_zero, List.set_cons_succ])
    refine headH_take (i := 6) (v := ?_) rfl (by kernel_rfl) (fun _ _ _ h => h) (Or.inl ⟨by rfl, ?_⟩) (by assumption) ?_; rotate_left; (· intro w' hSw; (try dsimp only at hSw); (try obtain ⟨hSw1, hSw2, hSw3, hSw4, hSw5⟩ := hSw); go_simp; (try with_reducible rfl)); (try dsimp only [Act.put]); (try simp only [List.setIfInBounds_toArray, List.set_cons_zero, List.set_cons_succ])
    refine headH_take (i := 7) (v := ?_) rfl (by kernel_rfl) (fun _ _ _ h => h) (Or.inl ⟨by rfl, ?_⟩) (by assumption) ?_; rotate_left; (· intro w' hSw; (try dsimp only at hSw); (try obtain ⟨hSw1, hSw2, hSw3, hSw4, hSw5⟩ := hSw); go_simp; (try with_reducible rfl)); (try dsimp only [Act.put]); (try simp only [List.setIfInBounds_toArray, List.set_cons_zero, List.set_cons_succ])
    refine headH_take (i := 8) (v := ?_) rfl (by kernel_rfl) (fun _ _ _ h => h) (Or.inl ⟨by rfl, ?_⟩) (by assumption) ?_; rotate_left; (· intro w' hSw; (try dsimp only at hSw); (try obtain ⟨hSw1, hSw2, hSw3, hSw4, hSw5⟩ := hSw); go_simp; (try with_reducible rfl)); (try dsimp only [Act.put]); (try simp only [List.setIfInBounds_toArray, List.set_cons_zero, List.set_cons_succ])
    refine headH_take (i := 9) (v := ?_) rfl (by kernel_rfl) (fun _ _ _ h => h) (Or.inl ⟨by rfl, ?_⟩) (by assumption) ?_; rotate_left; (· intro w' hSw; (try dsimp only at hSw); (try obtain ⟨hSw1, hSw2, hSw3, hSw4, hSw5⟩ := hSw); go_simp; (try with_reducible rfl)); (try dsimp only [Act.put]); (try simp only [List.setIfInBounds_toArray, List.set_cons_zero, List.set_cons_succ])
    refine headH_take (i := 10) (v := ?_) rfl (by kernel_rfl) (fun _ _ _ h => h) (Or.inl ⟨by rfl, ?_⟩) (by assumption) ?_; rotate_left; (· intro w' hSw; (try dsimp only at hSw); (try obtain ⟨hSw1, hSw2, hSw3, hSw4, hSw5⟩ := hSw); go_simp; (try with_reducible rfl)); (try dsimp only [Act.put]); (try simp only [List.setIfInBounds_toArray, List.set_cons_zero, List.set_cons_succ])
    refine headH_take (i := 11) (v := ?_) rfl (by kernel_rfl) (fun _ _ _ h => h) (Or.inl ⟨by rfl, ?_⟩) (by assumption) ?_; rotate_left; (· intro w' hSw; (try dsimp only at hSw); (try obtain ⟨hSw1, hSw2, hSw3, hSw4, hSw5⟩ := hSw); go_simp; (try with_reducible rfl)); (try dsimp only [Act.put]); (try simp only [List.setIfInBounds_toArray, List.set_cons_zero, List.set_cons_succ])
    refine headH_take (i := 12) (v := ?_) rfl (by kernel_rfl) (fun _ _ _ h => h) (Or.inl ⟨by rfl, ?_⟩) (by assumption) ?_; rotate_left; (· intro w' hSw; (try dsimp only at hSw); (try obtain ⟨hSw1, hSw2, hSw3, hSw4, hSw5⟩ := hSw); go_simp; (try with_reducible rfl)); (try dsimp only [Act.put]); (try simp only [List.setIfInBounds_toArray, List.set_cons_zero, List.set_cons_succ])
    refine headH_take (i := 13) (v := ?_) rfl (by kernel_rfl) (fun _ _ _ h => h) (Or.inl ⟨by rfl, ?_⟩) (by assumption) ?_; rotate_left; (· intro w' hSw; (try dsimp only at hSw); (try obtain ⟨hSw1, hSw2, hSw3, hSw4, hSw5⟩ := hSw); go_simp; (try with_reducible rfl)); (try dsimp only [Act.put]); (try simp only [List.setIfInBounds_toArray, List.set_cons_zero, List.set_cons_succ])
    refine headH_take (i := 15) (v := ?_) rfl (by kernel_rfl) (fun _ _ _ h => h) (Or.inl ⟨by rfl, ?_⟩) (by assumption) ?_; rotate_left; (· intro w' hSw; (try dsimp only at hSw); (try obtain ⟨hSw1, hSw2, hSw3, hSw4, hSw5⟩ := hSw); go_simp; (try with_reducible rfl)); (try dsimp only [Act.put]); (try simp only [List.setIfInBounds_toArray, List.set_cons_zero, List.set_cons_succ])
    refine headH_take (i := 16) (v := ?_) rfl (by kernel_rfl) (fun _ _ _ h => h) (Or.inl ⟨by rfl, ?_⟩) (by assumption) ?_; rotate_left; (· intro w' hSw; (try dsimp only at hSw); (try obtain ⟨hSw1, hSw2, hSw3, hSw4, hSw5⟩ := hSw); go_simp; (try with_reducible rfl)); (try dsimp only [Act.put]); (try simp only [List.setIfInBounds_toArray, List.set_cons_zero, List.set_cons_succ])
    refine headH_all (rs := [14]) (by kernel_rfl) (by simp) (by kernel_rfl) ?_; intro i0 hi0; simp only [List.mem_cons, List.not_mem_nil, or_false] at hi0
    subst hi0
    refine headH_op rfl (fun K hK => ?_)
    go_simp
    try rw [show IntKind.i64.wrap (xat + 1) = xat + 1 from IntWalk.i64_in _ (by omega)]
    refine (r8part_any (some ⟨bb, bo, none⟩) n xc box cn (xat + 1) (box cn).hi hcn hn40 Wd ((HX.out.below HD.out).up HD.out.size)).mono ?_
    rintro e W6 ⟨pa2, pc2, rfl, hNS, _, _, hb6⟩
    dsimp only
    have HW6 := Lib.hid (HD.out.trans (hb6.mono HD.out.size))
    have HNS := Lib.hid (hNS.spans (by unfold maxLen; omega))
    have hzd := HZ.out.size
    have d0 := ((bcell hb6).1 w.heap.size 0 (by omega)).trans d0
    have d1 := ((bcell hb6).1 w.heap.size 1 (by omega)).trans d1
    have d2 := ((bcell hb6).1 xb 0 (by omega)).trans d2
    have d3 := ((bcell hb6).1 xb 1 (by omega)).trans d3
    have d4 := ((bcell hb6).1 bb (bo + cn * 2 + 1) (by omega)).trans d4
    refine hK.out _ _ ⟨d0, d1, d2, d3, d4⟩ (fun hS2 => ?_)
    clear hK K hS hNS hb6
    (try dsimp only [Act.put]); (try simp only [List.setIfInBounds_toArray, List.set_cons_zero, List.set_cons_succ])
    refine headH_all (rs := [17]) (by kernel_rfl) (by simp) (by kernel_rfl) ?_; intro i0 hi0; simp only [List.mem_cons, List.not_mem_nil, or_false] at hi0
    subst hi0
    refine headH_op rfl (fun K hK => ?_)
    go_simp
    have HCL := Lib.hid (HIH.out pa2 pc2 (setBox box cn ⟨xat + 1, (box cn).hi⟩) A W6 (by have := HW6.out.size; omega) (HM.out.below (HW6.out.mono hBw)) (HN.out.below (HW6.out.mono hBw)) HNS.out HB2.out (by omega) (by omega))
    rw [← HE.out] at HCL
    refine HCL.out.mono ?_
    rintro e W7 ⟨rfl, hb7⟩
    dsimp only
    have HW7 := Lib.hid (HW6.out.trans (hb7.mono HW6.out.size))
    have hz6 := HW6.out.size
    have d0 := ((bcell hb7).1 w.heap.size 0 (by have := (World.block_lt_of_cell? W6 _ d0); exact this)).trans d0
    have d1 := ((bcell hb7).1 w.heap.size 1 (by have := (World.block_lt_of_cell? W6 _ d1); exact this)).trans d1
    have d2 := ((bcell hb7).1 xb 0 (by have := (World.block_lt_of_cell? W6 _ d2); exact this)).trans d2
    have d3 := ((bcell hb7).1 xb 1 (by have := (World.block_lt_of_cell? W6 _ d3); exact this)).trans d3
    have d4 := ((bcell hb7).1 bb (bo + cn * 2 + 1) (by have := (World.block_lt_of_cell? W6 _ d4); exact this)).trans d4
    refine hK.out _ _ ⟨d0, d1, d2, d3, d4⟩ (fun hS3 => ?_)
    clear hK K hS2 hS3 hb7 HCL HE
    (try dsimp only [Act.put]); (try simp only [List.setIfInBounds_toArray, List.set_cons_zero, List.set_cons_succ])
    change tailL _ _ _ _ _ _ _ _
    refine ⟨by kernel_rfl, ?_⟩
    simp only [List.drop_succ_cons, List.drop_zero]
    go_wp2
    go_ret
    exact ⟨rfl, HW7.out⟩
  · have h6' : (xright != R1) = true := by simpa using h6
    have HE := Lib.hid (HNO.out (.inr h6))
    clear h6
    go_wp2
    go_ret
    exact ⟨ret_int HE.out.symm, HW5.out⟩
end Go.Proofs.YtollfpnfnciekaaDoor
namespace Go.Proofs.YtollfpnfnciekaaDoor
open Go.RowKit
set_option linter.unusedVariables false
set_option linter.unusedSimpArgs false
theorem holds8_all (B n : Nat) (ss : Nat → SV) (m : Nat) (bs : Nat → BM) (a : Option Addr) (c : Nat) (ba : Option Addr) (bc : Nat) (na : Option Addr) (len nc : Nat) (ns : Nat → NM) (hSh : Shape n ss m bs) (hl : len ≤ 4000) : ∀ k, HoldsOk B n ss m bs a c ba bc na len nc ns k
  | 0 => fun xa xc box i W hB hM hN hX hBx hk hi => by
    have h := holds_leaf8 B n ss m bs a c ba bc na len nc ns 0 hSh hl xa xc box i W hB hM hN hX hBx hi (fun h => by omega)
    rw [holdsR_zero (by rw [holdsF, if_pos (by omega)])] at h
    rw [holdsR_zero (by rw [holdsF])]
    exact h
  | k + 1 => fun xa xc box i W hB hM hN hX hBx hk hi => by
    by_cases hlt : i < len
    · by_cases hc : (ns i).cell = -1
      · exact holds_leaf8 B n ss m bs a c ba bc na len nc ns k hSh hl xa xc box i W hB hM hN hX hBx hi (fun _ => hc)
      · cases hcut : cutB n box (ns i)
        · exact holds_nocut8 B n m bs a c ba bc na len nc ns k hSh.n40 hl xa xc box i W hB hN hX hlt hc hcut
        · exact holds_cut8 B n ss m bs a c ba bc na len nc ns k hSh.n40 hl (holds8_all B n ss m bs a c ba bc na len nc ns hSh hl k) xa xc box i W hB hM hN hX hBx hk hlt hc hcut
    · exact holds_leaf8 B n ss m bs a c ba bc na len nc ns k hSh hl xa xc box i W hB hM hN hX hBx hi (fun h => absurd h hlt)
theorem holdsR_eq {n m : Nat} {bs : Nat → BM} {len : Nat} {ns : Nat → NM} {k : Nat} {box : Nat → SV} : (holdsR n m bs len ns k box 0 == (len : Int)) = (decide (0 < len) && (holdsF n m bs len ns k box 0 == len)) := by
  unfold holdsR
  rcases holdsF_le (n := n) (m := m) (bs := bs) (len := len) (ns := ns) k box 0 with h | ⟨h1, h2⟩
  · rw [if_pos h, h, show ((-1 : Int) == (len : Int)) = false from by rw [beq_eq_false_iff_ne]; omega]
    by_cases e : 0 < len
    · rw [show ((0 : Nat) == len) = false from by rw [beq_eq_false_iff_ne]; omega, Bool.and_false]
    · rw [decide_eq_false e, Bool.false_and]
  · rw [if_neg (by omega), decide_eq_true (show 0 < len by omega), Bool.true_and]
    generalize holdsF n m bs len ns k box 0 = A
    by_cases e : A = len
    · rw [e]; simp
    · rw [show ((A : Int) == (len : Int)) = false from by rw [beq_eq_false_iff_ne]; omega, show (A == len) = false from by rw [beq_eq_false_iff_ne]; exact e]
set_option maxRecDepth 100000 in
set_option maxHeartbeats 1000000 in
theorem r8Holds_any (a : Option Addr) (n c : Nat) (ba : Option Addr) (m bc : Nat) (ss : Nat → SV) (bs : Nat → BM) (na : Option Addr) (len nc : Nat) (ns : Nat → NM) (hln : len ≤ maxLen) (w : World) (B : Nat) (hBw : B ≤ w.heap.size) (hS : Spans B w a n ss) (hM : Beams B w ba m bs) (hN : Nodes B w na len ns) (hC : checkN n ss m bs = 0) :
    Calls Tryd.prog 53 #[imageV a n c ba m bc, .slice na len nc] w fun e w' => e = .returned (.bool (holdsB n ss m bs len ns)) ∧ Below w.heap.size w w' := by
  unfold maxLen at hln
  have hSh := checkN_shape hC
  have hBx : BoxOk n ss := fun i hi => by have := hSh.span i hi; omega
  unfold holdsB
  rw [decide_eq_true hC, Bool.true_and, ← holdsR_eq]
  by_cases hl : len ≤ 4000
  · have hl' : (len : Int) ≤ 4000 := by omega
    rw [decide_eq_true hl, Bool.true_and]
    have HH := Lib.hid (fun (W : World) (hb : Below w.heap.size w W) => holds8_all B n ss m bs a c ba bc na len nc ns hSh hl (len + 1) a c ss 0 W (Nat.le_trans hBw hb.size) (hM.below (hb.mono hBw)) (hN.below (hb.mono hBw)) (((hS.up hBw).below hb).up hb.size) hBx (by omega) (by omega))
    generalize holdsR n m bs len ns (len + 1) ss 0 = R at *
    clear hS hM hN hC hSh hBx hl
    cases hR : (R == (len : Int))
    · go_enter Tryd.func53, Tryd.ntmps53
      go_upto_region 1 with (fail)
      have HL := Lib.hid (show LI a n c ba m bc w (w.alloc (.cells #[.slice a n c, .slice ba m bc] 25)) from LI_start)
      generalize World.alloc w _ = V at *
      obtain ⟨l0, l1, l2, l3⟩ := HL.out
      go_wp2_with (go_at_call 79; refine (HH.out _ l3).mono ?_; rintro e w2 ⟨rfl, hb2⟩)
      go_ret
      exact ⟨rfl, l3.trans (hb2.mono l3.size)⟩
    · go_enter Tryd.func53, Tryd.ntmps53
      go_upto_region 1 with (fail)
      have HL := Lib.hid (show LI a n c ba m bc w (w.alloc (.cells #[.slice a n c, .slice ba m bc] 25)) from LI_start)
      generalize World.alloc w _ = V at *
      obtain ⟨l0, l1, l2, l3⟩ := HL.out
      go_wp2_with (go_at_call 79; refine (HH.out _ l3).mono ?_; rintro e w2 ⟨rfl, hb2⟩)
      go_ret
      exact ⟨rfl, l3.trans (hb2.mono l3.size)⟩
  · have hl' : ¬ (len : Int) ≤ 4000 := by omega
    rw [decide_eq_false hl, Bool.false_and]
    clear hS hM hN hC hSh hBx hl
    go_enter Tryd.func53, Tryd.ntmps53
    go_upto_region 1 with (fail)
    have HL := Lib.hid (show LI a n c ba m bc w (w.alloc (.cells #[.slice a n c, .slice ba m bc] 25)) from LI_start)
    generalize World.alloc w _ = V at *
    obtain ⟨l0, l1, l2, l3⟩ := HL.out
    go_wp2
    go_ret
    exact ⟨rfl, l3⟩
end Go.Proofs.YtollfpnfnciekaaDoor
