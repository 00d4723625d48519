/- The walk of the reference's Free. -/
import Derived.Test.YtlfegmjdheddjaaDoorGzA
import Derived.Test.YtlfegmjdheddjaaDoorImFreeW
import Derived.Test.YtlfegmjdheddjaaDoorImApart
import Derived.Test.YtlfegmjdheddjaaDoorGcA
namespace Go.Proofs.YtlfegmjdheddjaaDoor
open Go.RowKit
set_option linter.unusedVariables false
set_option linter.unusedSimpArgs false
set_option maxRecDepth 100000 in
set_option maxHeartbeats 4000000 in
theorem r8Free_any (a : Option Addr) (n c : Nat) (ba : Option Addr) (m bc : Nat) (ss : Nat → SV) (bs : Nat → BM) (la : Option Addr) (lc : Nat) (l : List (List Int)) (w : World) (B : Nat) (hBw : B ≤ w.heap.size) (hS : Spans B w a n ss) (hM : Beams B w ba m bs) (hSh : Shape n ss m bs) (hL : Flds w.heap.size w la n l) (hla : ∀ g ∈ l, g ∈ allF n ss m bs) (hl2 : l.length ≤ 1000000) :
    Calls Tryd.prog 27 #[imageV a n c ba m bc, .slice la l.length lc] w fun e w' => (∃ ga gc, e = .returned (.slice ga (freeL (refC ss m bs l) n).length gc) ∧ Ints w'.heap.size w' ga (freeL (refC ss m bs l) n).length (fOf (frI (refC ss m bs l) n))) ∧ Below w.heap.size w w' := by
  have hn40 := hSh.n40
  have HS := Lib.hid hS
  have HM := Lib.hid hM
  have HFL := Lib.hid hL
  have HSP := Lib.hid hSh.span
  have HRP := Lib.hid (fun (q i : Nat) (hq : q < l.length) (hi : i < n) (d : Int) (h1 : (ss i).lo ≤ d) (h2 : d ≤ (ss i).hi) (W : World) (ra : Option Addr) (rc : Nat) (hI : Ints W.heap.size W ra n (fOf (l.getD q []))) => r8Replaced_any ra n rc (fOf (l.getD q [])) i d hi (by omega) W hI)
  have HAG := Lib.hid (fun (q i : Nat) (hq : q < l.length) (hi : i < n) (d : Int) (h1 : (ss i).lo ≤ d) (h2 : d ≤ (ss i).hi) (W : World) (hb : Below w.heap.size w W) (ra : Option Addr) (rc : Nat) (hI : Ints W.heap.size W ra n (repF (fOf (l.getD q [])) i d)) => r8Agrees_any a n c ba m bc ss bs ra rc (repF (fOf (l.getD q [])) i d) W B (Nat.le_trans hBw hb.size) (hM.below (hb.mono hBw)) hSh hI (fun j hj => by
    have h3 := hla _ (show l.getD q [] ∈ l by rw [List.getD_eq_getElem?_getD, List.getElem?_eq_getElem hq]; exact List.getElem_mem hq)
    have h4 := (allF_mem.1 h3).2.2 j hj
    have h5 := hSh.span j hj
    have h6 := hSh.span i hi
    unfold repF
    by_cases e : j = i
    · rw [if_pos e]; omega
    · rw [if_neg e]; omega))
  have HG1 := Lib.hid (fun (i : Nat) => show refC ss m bs l i = (decide ((ss i).lo < (ss i).hi) && anyL ss m bs l i l.length) from rfl)
  have HLZ := Lib.hid (fun (i : Nat) => anyL_zero (ss := ss) (m := m) (bs := bs) (l := l) (c := i))
  have HLS := Lib.hid (fun (i q : Nat) => anyL_succ (ss := ss) (m := m) (bs := bs) (l := l) (c := i) (i := q))
  have HLX := Lib.hid (fun (i q : Nat) (h : anyL ss m bs l i q = false) (j : Nat) (hj : q ≤ j) => anyL_stop h j hj)
  have HDZ := Lib.hid (fun (i q : Nat) => anyD_zero (ss := ss) (m := m) (bs := bs) (g := l.getD q []) (c := i))
  have HDS := Lib.hid (fun (i q k : Nat) => anyD_succ (ss := ss) (m := m) (bs := bs) (g := l.getD q []) (c := i) (k := k))
  obtain ⟨i0, hi0', hz00, hz01, hz02⟩ := info_parts info_int
  have HI := Lib.hid (fun (W : World) (base : Nat) (oa : Option Addr) (oc : Nat) (h : W.ownsRow base 3 1 (.slice oa (freeL (refC ss m bs l) n).length oc) (freeL (refC ss m bs l) n).length (nC (freeL (refC ss m bs l) n))) => own_frI h)
  generalize refC ss m bs l = g at *
  generalize anyL ss m bs l = AL at *
  obtain ⟨ll, hll⟩ : ∃ ll, l.length = ll := ⟨_, rfl⟩
  have HLL := Lib.hid hll
  rw [hll] at hl2 HRP HAG HG1 ⊢
  clear hS hM hL hla hSh hll
  go_enter Tryd.func27, Tryd.ntmps27
  go_upto_region 1 with (fail)
  have HL := Lib.hid (show LI a n c ba m bc w (w.alloc (.cells #[.slice a n c, .slice ba m bc] 25)) from LI_start)
  generalize World.alloc w _ = V at *
  go_upto_region 3 with (fail)
  go_loopw [5, 6] (fun s5 t wr => ∃ (i k : Nat) (oa : Option Addr) (oc : Nat), i ≤ n ∧ k ≤ i ∧ t = .int .i64 (i : Int) ∧ s5 = .slice oa k oc ∧ Hid (k = (freeL g i).length ∧ Below V.heap.size V wr ∧ wr.ownsRow V.heap.size 3 1 (.slice oa k oc) k (nC (freeL g i)))) (fun _ t _ => n - (intOf t).toNat)
  case atStart => exact ⟨0, 0, none, 0, Nat.zero_le _, Nat.zero_le _, rfl, rfl, Lib.hid ⟨rfl, Below.refl _ _, World.ownsRow_nil _ _ _ _⟩⟩
  case round =>
    obtain ⟨i, k, oa, oc, hil, hki, rfl, rfl, HX⟩ := hrel
    have HLr := Lib.hid (LI_step HL.out HX.out.2.1)
    obtain ⟨l0, l1, l2, l3⟩ := HLr.out
    by_cases hlt : i < n
    · have hlt' : (i : Int) < (n : Int) := by omega
      obtain ⟨sb, so, rfl, hsB, s0, s1⟩ := (HS.out.below (l3.mono hBw)).get hlt
      have hsz : sb < wr.heap.size := by have := l3.size; omega
      obtain ⟨p1, p2, p3⟩ := HSP.out i hlt
      have hg1 := HG1.out i
      have HZ0 := HLZ.out i
      rename World => wA
      go_upto_region 5 with (fail)
      (refine wp_region_calm (wA.heap.size) (by kernel_rfl) (by kernel_rfl) ?_; (repeat (first | go_big_quiet_step (fail) | quiet_step (fail))); refine wpQuiet_nil ?_; intro _ hw'; obtain ⟨xq, hw''⟩ := hw'; subst hw'')
      have HXc := Lib.hid (Calm.below xq)
      generalize Calm.val xq = Wc at *
      clear l0 l1 s0 s1
      have HLc := Lib.hid (LI_step HLr.out HXc.out)
      have hsc : sb < Wc.heap.size := by have := HXc.out.size; omega
      have HSc := Lib.hid ((HS.out.below (HLc.out.2.2.2.mono hBw)).get hlt)
      obtain ⟨FL, hFL⟩ : ∃ FL, FL = decide ((ss i).lo < (ss i).hi) := ⟨_, rfl⟩
      rw [← hFL] at hg1 ⊢
      have HFLG := Lib.hid hFL
      clear hFL
      go_upto_region 7 with (fail)
      go_loopw [7, 8] (fun s7 t wx => ∃ q : Nat, q ≤ ll ∧ t = .int .i64 (q : Int) ∧ s7 = .bool (FL && AL i q) ∧ Hid (Below Wc.heap.size Wc wx)) (fun _ t _ => ll - (intOf t).toNat)
      case atStart => exact ⟨0, Nat.zero_le _, rfl, by rw [HZ0, Bool.and_true], Lib.hid (Below.refl _ _)⟩
      case round =>
        obtain ⟨q, hql, rfl, rfl, HY⟩ := hrel
        have HLq := Lib.hid (LI_step HLc.out HY.out)
        obtain ⟨l0, l1, l2, l3⟩ := HLq.out
        have hwq := l3.size
        have HE := Lib.hid (show Below V.heap.size V wr ∧ wr.ownsRow V.heap.size 3 1 (.slice oa k oc) k (nC (freeL g i)) from ⟨HX.out.2.1.trans ((HXc.out.trans (HY.out.mono HXc.out.size)).mono HX.out.2.1.size), own_below (own_below HX.out.2.2 HXc.out) HY.out⟩)
        by_cases hq : q < ll
        · have hq' : (q : Int) < (ll : Int) := by omega
          cases hf : (FL && AL i q)
          · have hgi : g i = false := by
              rw [hg1]
              rw [Bool.and_eq_false_iff] at hf
              rcases hf with e | e
              · rw [e]; rfl
              · rw [HLX.out i q e ll (by omega), Bool.and_false]
            have HL2 := Lib.hid (show freeL g (i + 1) = freeL g i by rw [freeL_succ, hgi]; simp)
            clear hg1 hf hgi l0 l1
            go_wp2
            exact ⟨⟨i + 1, k, oa, oc, by omega, by omega, by go_num, rfl, by rw [HL2.out]; exact Lib.hid ⟨HX.out.1, HE.out⟩⟩, by simp [intOf]; omega⟩
          · rw [Bool.and_eq_true] at hf
            obtain ⟨hf1, hf2⟩ := hf
            have hlh : (ss i).lo < (ss i).hi := by
              have := HFLG.out
              rw [hf1] at this
              exact of_decide_eq_true this.symm
            have HNX := HLS.out i q
            rw [hf2, Bool.true_and] at HNX
            obtain ⟨D, hD⟩ : ∃ D : Nat, (D : Int) = (ss i).hi - (ss i).lo + 1 := ⟨((ss i).hi - (ss i).lo + 1).toNat, by omega⟩
            rw [show ((ss i).hi - (ss i).lo + 1).toNat = D by omega] at HNX
            have HNXH := Lib.hid (show (FL && AL i (q + 1)) = anyD ss m bs (l.getD q []) i D from by rw [hf1, Bool.true_and]; exact HNX)
            have HZ3 := HDZ.out i q
            obtain ⟨sb', so', es, hsB', s0, s1⟩ := HSc.out
            injection es with es
            injection es with es1 es2 _
            subst es1 es2
            have s0q := ((bcell HY.out).1 sb _ hsc).trans s0
            have s1q := ((bcell HY.out).1 sb _ hsc).trans s1
            have hsq : sb < wr.heap.size := by have := HY.out.size; omega
            clear s0 s1 hg1
            rename World => wB
            have HS1 := Lib.hid s1q
            go_upto_region 10 with (fail)
            clear s0q s1q l0 l1
            go_loopw [7, 9] (fun s7 t wx => ∃ j : Nat, j ≤ D ∧ t = .int .i64 ((ss i).lo + (j : Int)) ∧ s7 = .bool (anyD ss m bs (l.getD q []) i j) ∧ Hid (Below wB.heap.size wB wx)) (fun _ t _ => D - (intOf t - (ss i).lo).toNat)
            case atStart => exact ⟨0, Nat.zero_le _, by simp, by rw [HZ3], Lib.hid (Below.refl _ _)⟩
            case round =>
              obtain ⟨j, hj, rfl, rfl, HZ⟩ := hrel
              have HLz := Lib.hid (LI_step HLq.out HZ.out)
              obtain ⟨l0, l1, l2, l3⟩ := HLz.out
              have s1 := ((bcell HZ.out).1 sb _ hsq).trans HS1.out
              have hsz3 : sb < wr.heap.size := by have := HZ.out.size; omega
              by_cases hjd : j < D
              · have hle : (ss i).lo + (j : Int) ≤ (ss i).hi := by omega
                have HDN := Lib.hid (show Value.int .i64 ((ss i).lo + (j : Int) + 1) = .int .i64 ((ss i).lo + ((j + 1 : Nat) : Int)) from by congr 1; omega)
                have HST := HDS.out i q j
                cases hb : anyD ss m bs (l.getD q []) i j
                · rw [hb, Bool.false_and] at HST
                  have HSTH := Lib.hid HST
                  clear HST hb
                  go_upto_region 12 with (fail)
                  (refine wp_region_calm (wr.heap.size) (by kernel_rfl) (by kernel_rfl) ?_; (repeat (first | go_big_quiet_step (fail) | quiet_step (fail))); refine wpQuiet_nil ?_; intro _ hw'; obtain ⟨xq, hw''⟩ := hw'; subst hw'')
                  go_wp2
                  exact ⟨⟨j + 1, by omega, HDN.out, by rw [HSTH.out], Lib.hid (HZ.out.trans ((Calm.below xq).mono HZ.out.size))⟩, by simp [intOf]; omega⟩
                · rw [hb, Bool.true_and] at HST
                  have HSTH := Lib.hid HST
                  clear HST hb
                  obtain ⟨b1, o1, ra, rc, rfl, hb1, x1, y1⟩ := (HFL.out.below l3).get (i := q) (by rw [HLL.out]; exact hq)
                  have hbz : b1 < wr.heap.size := by have := l3.size; omega
                  have hzz := l3.size
                  have HY1 := Lib.hid (y1.up hzz)
                  have h0 : 0 ≤ (ss i).lo + (j : Int) := by omega
                  have h9 : (ss i).lo + (j : Int) ≤ 1000 := by omega
                  clear y1
                  go_upto_region 12 with (fail)
                  refine wp_region_any (by kernel_rfl) ?_
                  change wpAny _ _ _ _ _ _ _ (World.drew wr)
                  have l0' : wr.drew.cell? ⟨w.heap.size, 0, none⟩ = _ := l0
                  have l1' : wr.drew.cell? ⟨w.heap.size, 1, none⟩ = _ := l1
                  have x1' : wr.drew.cell? ⟨b1, o1 + q, none⟩ = _ := x1
                  have HBD := Lib.hid (show Below wr.heap.size wr wr.drew from (Below.refl _ _).drew)
                  clear l0 l1 x1 s1
                  generalize World.drew wr = Wd at *
                  refine any_of_tail 11 11 (fun w' => w'.cell? ⟨w.heap.size, 0, none⟩ = some (.slice (some ⟨sb, so, none⟩) n c) ∧ w'.cell? ⟨w.heap.size, 1, none⟩ = some (.slice ba m bc) ∧ w'.cell? ⟨b1, o1 + q, none⟩ = some (.slice ra n rc)) (by kernel_rfl) ⟨l0', l1', x1'⟩ (fun hS => ?_)
                  refine headH_take (i := 0) (v := ?_) rfl (by kernel_rfl) (fun _ _ _ h => h) (Or.inl ⟨by rfl, ?_⟩) (by assumption) ?_; rotate_left; (· intro w' hSw; (try dsimp only at hSw); (try obtain ⟨hSw1, hSw2, hSw3⟩ := hSw); go_simp; (try with_reducible rfl)); (try simp only [List.getElem_toArray, List.getElem_cons_zero, List.getElem_cons_succ]); (try dsimp only [Act.put]); (try simp only [List.setIfInBounds_toArray, List.set_cons_zero, List.set_cons_succ])
                  refine headH_take (i := 1) (v := ?_) rfl (by kernel_rfl) (fun _ _ _ h => h) (Or.inl ⟨by rfl, ?_⟩) (by assumption) ?_; rotate_left; (· intro w' hSw; (try dsimp only at hSw); (try obtain ⟨hSw1, hSw2, hSw3⟩ := hSw); go_simp; (try with_reducible rfl)); (try simp only [List.getElem_toArray, List.getElem_cons_zero, List.getElem_cons_succ]); (try dsimp only [Act.put]); (try simp only [List.setIfInBounds_toArray, List.set_cons_zero, List.set_cons_succ])
                  refine headH_take (i := 2) (v := ?_) rfl (by kernel_rfl) (fun _ _ _ h => h) (Or.inl ⟨by rfl, ?_⟩) (by assumption) ?_; rotate_left; (· intro w' hSw; (try dsimp only at hSw); (try obtain ⟨hSw1, hSw2, hSw3⟩ := hSw); go_simp; (try with_reducible rfl)); (try simp only [List.getElem_toArray, List.getElem_cons_zero, List.getElem_cons_succ]); (try dsimp only [Act.put]); (try simp only [List.setIfInBounds_toArray, List.set_cons_zero, List.set_cons_succ])
                  refine headH_take (i := 3) (v := ?_) rfl (by kernel_rfl) (fun _ _ _ h => h) (Or.inl ⟨by rfl, ?_⟩) (by assumption) ?_; rotate_left; (· intro w' hSw; (try dsimp only at hSw); (try obtain ⟨hSw1, hSw2, hSw3⟩ := hSw); go_simp; (try with_reducible rfl)); (try simp only [List.getElem_toArray, List.getElem_cons_zero, List.getElem_cons_succ]); (try dsimp only [Act.put]); (try simp only [List.setIfInBounds_toArray, List.set_cons_zero, List.set_cons_succ])
                  refine headH_take (i := 4) (v := ?_) rfl (by kernel_rfl) (fun _ _ _ h => h) (Or.inl ⟨by rfl, ?_⟩) (by assumption) ?_; rotate_left; (· intro w' hSw; (try dsimp only at hSw); (try obtain ⟨hSw1, hSw2, hSw3⟩ := hSw); go_simp; (try with_reducible rfl)); (try simp only [List.getElem_toArray, List.getElem_cons_zero, List.getElem_cons_succ]); (try dsimp only [Act.put]); (try simp only [List.setIfInBounds_toArray, List.set_cons_zero, List.set_cons_succ])
                  refine headH_take (i := 5) (v := ?_) rfl (by kernel_rfl) (fun _ _ _ h => h) (Or.inl ⟨by rfl, ?_⟩) (by assumption) ?_; rotate_left; (· intro w' hSw; (try dsimp only at hSw); (try obtain ⟨hSw1, hSw2, hSw3⟩ := hSw); go_simp; (try with_reducible rfl)); (try simp only [List.getElem_toArray, List.getElem_cons_zero, List.getElem_cons_succ]); (try dsimp only [Act.put]); (try simp only [List.setIfInBounds_toArray, List.set_cons_zero, List.set_cons_succ])
                  refine headH_take (i := 6) (v := ?_) rfl (by kernel_rfl) (fun _ _ _ h => h) (Or.inl ⟨by rfl, ?_⟩) (by assumption) ?_; rotate_left; (· intro w' hSw; (try dsimp only at hSw); (try obtain ⟨hSw1, hSw2, hSw3⟩ := hSw); go_simp; (try with_reducible rfl)); (try simp only [List.getElem_toArray, List.getElem_cons_zero, List.getElem_cons_succ]); (try dsimp only [Act.put]); (try simp only [List.setIfInBounds_toArray, List.set_cons_zero, List.set_cons_succ])
                  refine headH_take (i := 7) (v := ?_) rfl (by kernel_rfl) (fun _ _ _ h => h) (Or.inl ⟨by rfl, ?_⟩) (by assumption) ?_; rotate_left; (· intro w' hSw; (try dsimp only at hSw); (try obtain ⟨hSw1, hSw2, hSw3⟩ := hSw); go_simp; (try with_reducible rfl)); (try simp only [List.getElem_toArray, List.getElem_cons_zero, List.getElem_cons_succ]); (try dsimp only [Act.put]); (try simp only [List.setIfInBounds_toArray, List.set_cons_zero, List.set_cons_succ])
                  refine headH_take (i := 8) (v := ?_) rfl (by kernel_rfl) (fun _ _ _ h => h) (Or.inl ⟨by rfl, ?_⟩) (by assumption) ?_; rotate_left; (· intro w' hSw; (try dsimp only at hSw); (try obtain ⟨hSw1, hSw2, hSw3⟩ := hSw); go_simp; (try with_reducible rfl)); (try simp only [List.getElem_toArray, List.getElem_cons_zero, List.getElem_cons_succ]); (try dsimp only [Act.put]); (try simp only [List.setIfInBounds_toArray, List.set_cons_zero, List.set_cons_succ])
                  refine headH_all (rs := [9]) (by kernel_rfl) (by simp) (by kernel_rfl) ?_; intro i0 hi0; simp only [List.mem_cons, List.not_mem_nil, or_false] at hi0
                  subst hi0
                  refine headH_op rfl (fun K hK => ?_)
                  go_simp
                  refine (HRP.out q i hq hlt ((ss i).lo + (j : Int)) (by omega) hle Wd ra rc ((HY1.out.below HBD.out).up HBD.out.size)).mono ?_
                  rintro e W3 ⟨⟨ga, gc, rfl, hI3⟩, hb3⟩
                  dsimp only
                  have hz3 := hb3.size
                  have hzd := HBD.out.size
                  have l0'' := ((bcell hb3).1 w.heap.size 0 (by omega)).trans l0'
                  have l1'' := ((bcell hb3).1 w.heap.size 1 (by omega)).trans l1'
                  have x1'' := ((bcell hb3).1 b1 (o1 + q) (by omega)).trans x1'
                  have HB3 := Lib.hid (HBD.out.trans (hb3.mono hzd))
                  have HI3 := Lib.hid hI3
                  refine hK.out _ _ ⟨l0'', l1'', x1''⟩ (fun hS2 => ?_)
                  clear hK K hS hb3 hI3 l0' l1' x1'
                  (try simp only [List.getElem_toArray, List.getElem_cons_zero, List.getElem_cons_succ]); (try dsimp only [Act.put]); (try simp only [List.setIfInBounds_toArray, List.set_cons_zero, List.set_cons_succ])
                  refine headH_all (rs := [10]) (by kernel_rfl) (by simp) (by kernel_rfl) ?_; intro i0 hi0; simp only [List.mem_cons, List.not_mem_nil, or_false] at hi0
                  subst hi0
                  refine headH_op rfl (fun K hK => ?_)
                  go_simp
                  refine (HAG.out q i hq hlt ((ss i).lo + (j : Int)) (by omega) hle W3 (l3.trans (HB3.out.mono hzz)) ga gc HI3.out).mono ?_
                  rintro e W4 ⟨rfl, hb4⟩
                  dsimp only
                  have hz4 := hb4.size
                  have HB4 := Lib.hid (HB3.out.trans (hb4.mono HB3.out.size))
                  refine hK.out _ _ ⟨((bcell hb4).1 w.heap.size 0 (by omega)).trans l0'', ((bcell hb4).1 w.heap.size 1 (by omega)).trans l1'', ((bcell hb4).1 b1 (o1 + q) (by omega)).trans x1''⟩ (fun hS3 => ?_)
                  clear hK K hS2 hS3 hb4 l0'' l1'' x1'' HB3 HI3
                  (try simp only [List.getElem_toArray, List.getElem_cons_zero, List.getElem_cons_succ]); (try dsimp only [Act.put]); (try simp only [List.setIfInBounds_toArray, List.set_cons_zero, List.set_cons_succ])
                  change tailL _ _ _ _ _ _ _ _
                  refine ⟨by kernel_rfl, ?_⟩
                  simp only [List.drop_succ_cons, List.drop_zero]
                  rw [← HSTH.out]
                  go_wp2
                  exact ⟨⟨j + 1, by omega, HDN.out, rfl, Lib.hid (HZ.out.trans (HB4.out.mono HZ.out.size))⟩, by simp [intOf]; omega⟩
              · obtain rfl : j = D := by omega
                have hle : ¬ (ss i).lo + (j : Int) ≤ (ss i).hi := by omega
                have HYE := Lib.hid (HY.out.trans (HZ.out.mono HY.out.size))
                go_wp2
                go_roundw
                case rel => exact ⟨q + 1, by omega, by omega, by have h9 := HNXH.out; rw [hf1, Bool.true_and, List.getD_eq_getElem?_getD] at h9; exact h9.symm⟩
                case measure => simp [intOf]; omega
        · obtain rfl : q = ll := by omega
          have hq' : ¬ (q : Int) < (q : Int) := by omega
          rw [← hg1]
          clear hg1 l0 l1
          cases hgi : g i
          · have HL2 := Lib.hid (show freeL g (i + 1) = freeL g i by rw [freeL_succ, hgi]; simp)
            clear hgi
            go_wp2
            exact ⟨⟨i + 1, k, oa, oc, by omega, by omega, by go_num, rfl, by rw [HL2.out]; exact Lib.hid ⟨HX.out.1, HE.out⟩⟩, by simp [intOf]; omega⟩
          · have HL2 := Lib.hid (show freeL g (i + 1) = freeL g i ++ [i] by rw [freeL_succ, hgi]; simp)
            clear hgi
            have hb63 : k + 1 ≤ maxLen := by unfold maxLen; omega
            have hb47 : (k + 1) * 8 ≤ 140737488355328 := by omega
            have hzr := HE.out.1.size
            go_wp2_with (at_builtin; refine wpList_append_own _ rfl _ _ 38 rfl V.heap.size 3 i0 (.int .i64 0) 1 8 Tryd.underlying38 hi0' hz00 hz01 hz02 rfl (by decide) _ k (nC (freeL g i)) rfl (HE.out.2.alloc _) ⟨wr.heap.size, 0, none⟩ 1 1 [.int .i64 (i : Int)] rfl rfl cells_new int_one (by unfold maxLen; omega) hb47 (by simp; omega) ?_; intro v' w3 hown hgrow hnil; obtain ⟨a3, c3, rfl⟩ := own_len hown)
            exact ⟨⟨i + 1, k + 1, a3, c3, by omega, by omega, by go_num, rfl, Lib.hid ⟨by rw [HL2.out, List.length_append, ← HX.out.1]; rfl, (HE.out.1.alloc hzr _).grown hgrow (by simp; omega) (fun b hb => own_block_le HE.out.2 hb), by rw [HL2.out, nC_snoc]; exact hown⟩⟩, by simp [intOf]; omega⟩
    · obtain rfl : i = n := by omega
      have hlt' : ¬ (i : Int) < (i : Int) := by omega
      have HK := Lib.hid HX.out.1
      have HIx := Lib.hid (show Ints wr.heap.size wr oa (freeL g i).length (fOf (frI g i)) from by
        have h2 := HX.out.2.2
        rw [HK.out] at h2
        exact HI.out _ _ _ _ h2)
      clear HI
      go_wp2
      go_ret
      exact ⟨⟨oa, ⟨oc, by rw [← HK.out]; rfl⟩, HIx.out⟩, l3⟩
end Go.Proofs.YtlfegmjdheddjaaDoor
