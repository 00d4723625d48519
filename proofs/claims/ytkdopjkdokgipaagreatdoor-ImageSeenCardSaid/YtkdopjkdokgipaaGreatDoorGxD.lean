/- Texts put together: ShS, RkR, LawSeA. -/
import Derived.Test.YtkdopjkdokgipaaGreatDoorGxC
import Derived.Test.YtkdopjkdokgipaaGreatDoorChShelf
import Derived.Test.YtkdopjkdokgipaaGreatDoorLawK
import Derived.Test.YtkdopjkdokgipaaGreatDoorRefFd
import Derived.Test.YtkdopjkdokgipaaGreatDoorImAgr
namespace Go.Proofs.YtkdopjkdokgipaaGreatDoor
open Go.RowKit
set_option linter.unusedVariables false
set_option linter.unusedSimpArgs false
def encCh (x : CH) : List Value := [.int .i64 x.1, .int .i64 x.2]
instance : Inhabited CH := ⟨(0, 0)⟩
def cfCh (x y : CH) : Int := Lib.compareInt x.1 y.1
theorem cfCh_lt (x y : CH) : ltOf cfCh x y = true ↔ x.1 < y.1 := by
  unfold ltOf cfCh Lib.compareInt
  rw [decide_eq_true_iff]
  split
  · rename_i h; exact ⟨fun _ => h, fun _ => by decide⟩
  · rename_i h
    split
    · exact ⟨fun h2 => absurd h2 (by decide), fun h2 => absurd h2 h⟩
    · exact ⟨fun h2 => absurd h2 (by decide), fun h2 => absurd h2 h⟩
theorem cfCh_swo : Go.Sort.SWO (ltOf cfCh) where
  irrefl x := by rw [Bool.eq_false_iff]; intro h; have := (cfCh_lt x x).1 h; omega
  trans x y z h1 h2 := by rw [cfCh_lt] at *; omega
  ntrans x y z h1 h2 := by
    rw [Bool.eq_false_iff] at *
    intro h
    rw [ne_eq, cfCh_lt] at h1 h2
    rw [cfCh_lt] at h
    omega
set_option maxHeartbeats 1000000 in
theorem closureCh (x y : CH) (W : World) : Calls Tryz.prog 34 #[.agg #[.int .i64 x.1, .int .i64 x.2], .agg #[.int .i64 y.1, .int .i64 y.2]] W fun e w' => e = .returned (.int .i64 (Lib.compareInt x.1 y.1)) ∧ ∃ q os', w' = Go.Sort.grow (W.drewN q) os' := by
  have hcon := fun W' => AnyG.cmp_Compare_int Tryz.laysCmpCh x.1 y.1 W'
  change ∀ W', Calls Tryz.prog 35 _ _ _ at hcon
  generalize Lib.compareInt x.1 y.1 = r at hcon ⊢
  obtain ⟨x1, x2⟩ := x
  obtain ⟨y1, y2⟩ := y
  dsimp only at hcon ⊢
  go_enter Tryz.func34, Tryz.ntmps34
  go_wp2_with (go_at_call 35; refine (hcon _).mono ?_; rintro e w' ⟨rfl, rfl⟩)
  go_ret
  exact ⟨rfl, 0, _, by rw [Go.Sort.alloc_eq_grow, Go.Sort.alloc_eq_grow, Go.Sort.grow_grow]; rfl⟩
theorem heap_sortedK (W : World) (blk n : Nat) (dk : Array CH) (os : Array Obj) (k : Nat) (hk : k < W.heap.size) (hn : k ≠ blk) : (sortWorldK encCh 2 W blk 0 n dk os).heap[k]? = W.heap[k]? := by
  unfold sortWorldK Go.Sort.putRowK
  rw [Go.Sort.heap_grow_old _ _ (by simpa [Go.Sort.putRow, Go.Sort.mapBlock, Go.Sort.ahead] using hk)]
  simp [Go.Sort.putRow, Go.Sort.mapBlock, Go.Sort.ahead, Array.getElem?_modify, Ne.symm hn]
theorem size_sortedK (W : World) (blk n : Nat) (dk : Array CH) (os : Array Obj) : W.heap.size ≤ (sortWorldK encCh 2 W blk 0 n dk os).heap.size := by
  simp [sortWorldK, Go.Sort.grow, Go.Sort.putRowK, Go.Sort.putRow, Go.Sort.mapBlock, Go.Sort.ahead]
theorem crow_ne (x : CH) : ∀ v ∈ encCh x, v.oneCell' = true := by
  intro v hv
  simp [encCh] at hv
  rcases hv with rfl | rfl <;> rfl
set_option maxRecDepth 100000 in
theorem shSort : ShSort := by
  intro W base ca cc L hown hbs hsz
  rcases Nat.eq_zero_or_pos L.length with h0 | hpos
  · have hL : L = [] := List.eq_nil_of_length_eq_zero h0
    subst hL
    have hcon := AnyF.slices_SortFunc_none Tryz.laysSortCh ca cc (.func (.func 34) #[] #[]) W
    change Calls Tryz.prog 33 _ _ _ at hcon
    refine hcon.mono fun e w' ⟨he, hw⟩ => ⟨he, [], List.Perm.refl _, List.Pairwise.nil, .inl rfl, ?_⟩
    subst hw
    exact Below.refl _ _
  · obtain ⟨b, rfl, hb1, hb2⟩ := own_at hown hpos
    have hsize : L.toArray.size = L.length := by simp
    have hget : ∀ i (h : i < L.length), L.toArray[i]! = L.getD i ch0 := fun i h => by
      rw [getElem!_pos _ i (by simpa using h), List.getD_eq_getElem?_getD, List.getElem?_eq_getElem h]; simp
    have hH : Go.Sort.HoldsK encCh 2 W b 0 L.toArray := fun j hj => by
      rw [Go.Sort.size_flatK] at hj
      have hj2 : j < L.length * 2 := by simpa using hj
      have e1 : j / 2 < L.length := by omega
      have hc := crC_get L (j / 2) e1
      rw [Go.Sort.get_flatK _ _ _ _ hj, hget _ e1, Nat.zero_add]
      have hcell := hown.cellAt j (by omega)
      refine ⟨?_, hown.frozenAt j⟩
      rcases Nat.mod_two_eq_zero_or_one j with h | h
      · have e2 : j = j / 2 * 2 := by omega
        rw [h]
        rw [e2] at hcell ⊢
        rw [hcell, hc.1]
        simp [encCh]
      · have e2 : j = j / 2 * 2 + 1 := by omega
        rw [h]
        rw [e2] at hcell ⊢
        rw [hcell, hc.2]
        have : (j / 2 * 2 + 1) / 2 = j / 2 := by omega
        simp [encCh, this]
    have eg : ∀ args w, (callFunc 34 args).run Tryz.prog w = .ok (.enter 34 args) w := enters_of Tryz.func34 (by kernel_rfl) rfl
    have hcmp : CmpLays Tryz.prog 34 #[] encCh 2 cfCh b 0 L.toArray.size W := fun _ _ _ _ x y => closureCh x y _
    have hcon := AnyQ.slices_SortFunc Tryz.laysSortCh 2 Tryz.isAgg83 Tryz.sizeOf83 encCh (fun _ => rfl) crow_ne cfCh cfCh_swo 34 #[] b 0 cc L.toArray W eg hcmp hH hb2 (by rw [hsize]; omega)
    rw [hsize] at hcon
    change Calls Tryz.prog 33 _ _ _ at hcon
    refine hcon.mono fun e w' ⟨he, d', q, os, hp', hs', hw⟩ => ⟨he, d'.toList, ?_, ?_, ?_, ?_⟩
    · have hd : d'.size = L.length := by rw [hp'.1, hsize]
      have := hp'.2.2
      rw [show d'.extract 0 L.length = d' from by rw [← hd]; simp, show L.toArray.extract 0 L.length = L.toArray from by rw [← hsize]; simp] at this
      simpa using this
    · have hd : d'.size = L.length := by rw [hp'.1, hsize]
      rw [List.pairwise_iff_getElem]
      intro i j hi hj hij
      have hi' : i < d'.size := by simpa using hi
      have hj' : j < d'.size := by simpa using hj
      have h1 := hs' i j (Nat.zero_le _) hij (by omega)
      rw [getElem!_pos d' j hj', getElem!_pos d' i hi', Bool.eq_false_iff, ne_eq, cfCh_lt] at h1
      simp only [Array.getElem_toList]
      omega
    · have hd : d'.size = L.length := by rw [hp'.1, hsize]
      have hz := size_sortedK W b q d' os
      refine .inr ⟨b, rfl, by rw [hw]; omega, fun i hi => ?_⟩
      have hi' : i < d'.size := by simpa using hi
      have hh := holdsK_sortWorldK_c encCh 2 W b 0 L.toArray d' q os hH hb2 (by rw [hd, hsize])
      have c0 := (hh.cell (i := i) (c := 0) hi' (by decide)).1
      have c1 := (hh.cell (i := i) (c := 1) hi' (by decide)).1
      have hg : d'[i]! = d'.toList.getD i ch0 := by rw [getElem!_pos d' i hi', List.getD_eq_getElem?_getD, List.getElem?_eq_getElem hi]; simp
      rw [hg] at c0 c1
      rw [hw]
      refine ⟨?_, ?_⟩
      · have := c0; rw [Nat.zero_add, Nat.add_zero] at this; rw [this]; simp [encCh]
      · have := c1; rw [Nat.zero_add] at this; rw [this]; simp [encCh]
    · rw [hw]
      exact ⟨rfl, rfl, rfl, size_sortedK W b q d' os |> Nat.le_trans (Nat.le_refl _), fun k hk => heap_sortedK W b q d' os k (by omega) (by omega)⟩
end Go.Proofs.YtkdopjkdokgipaaGreatDoor
namespace Go.Proofs.YtkdopjkdokgipaaGreatDoor
open Go.RowKit
set_option linter.unusedVariables false
set_option linter.unusedSimpArgs false
set_option maxHeartbeats 400000 in
theorem r6in_any (x a b : Int) (w : World) : Calls Tryz.prog 36 #[.int .i64 x, .int .i64 a, .int .i64 b] w fun e w' => e = .returned (.bool (inB x a b)) ∧ w = w' := by
  by_cases h1 : a ≤ x
  · by_cases h2 : x ≤ b
    · have HE := Lib.hid (inB_iff.2 ⟨h1, h2⟩)
      go_enter Tryz.func36, Tryz.ntmps36
      go_wp2
      go_ret
      exact ⟨ret_bool HE.out.symm, rfl⟩
    · have HE := Lib.hid (show inB x a b = false from by cases e : inB x a b; rfl; have := inB_iff.1 e; omega)
      go_enter Tryz.func36, Tryz.ntmps36
      go_wp2
      go_ret
      exact ⟨ret_bool HE.out.symm, rfl⟩
  · have HE := Lib.hid (show inB x a b = false from by cases e : inB x a b; rfl; have := inB_iff.1 e; omega)
    go_enter Tryz.func36, Tryz.ntmps36
    go_wp2
    go_ret
    exact ⟨ret_bool HE.out.symm, rfl⟩
set_option maxRecDepth 100000 in
set_option maxHeartbeats 1000000 in
theorem r6Volume_any (v : VO) (w : World) : Calls Tryz.prog 7 #[v.val] w fun e w' => e = .returned (.bool (volB v)) ∧ Below w.heap.size w w' := by
  have HV := Lib.hid (show volB v = ((((inB v.nx 1 12 && inB v.ny 1 12) && inB v.nz 1 12) && decide (v.nx * v.ny * v.nz ≤ 600)) && inB v.size 1 1000) from rfl)
  have HI := Lib.hid (show inB v.nx 1 12 = true → inB v.ny 1 12 = true → inB v.nz 1 12 = true → (-144 ≤ v.nx * v.ny ∧ v.nx * v.ny ≤ 144) ∧ (-1728 ≤ v.nx * v.ny * v.nz ∧ v.nx * v.ny * v.nz ≤ 1728) from fun h1 h2 h3 => by
    have h1 := inB_iff.1 h1
    have h2 := inB_iff.1 h2
    have h3 := inB_iff.1 h3
    have h4 := rk_mul_abs (x := v.nx) (y := v.ny) (K := 12) (M := 12) (by decide) (by decide) (by omega) (by omega)
    have h5 := rk_mul_abs (x := v.nx * v.ny) (y := v.nz) (K := 144) (M := 12) (by decide) (by decide) (by omega) (by omega)
    omega)
  generalize volB v = RES at *
  unfold VO.val
  obtain ⟨nx, ny, nz, size⟩ := v
  dsimp only at *
  go_enter Tryz.func7, Tryz.ntmps7
  go_upto_region 1 with (fail)
  have HB := Lib.hid (rk_below w (.cells #[.int .i64 nx, .int .i64 ny, .int .i64 nz, .int .i64 size] 23))
  have hn := heap_alloc_new w (.cells #[.int .i64 nx, .int .i64 ny, .int .i64 nz, .int .i64 size] 23)
  generalize World.alloc w _ = V at *
  have k0 := cell_of_row _ _ 0 _ _ _ hn
  have k1 := cell_of_row _ _ 1 _ _ _ hn
  have k2 := cell_of_row _ _ 2 _ _ _ hn
  have k3 := cell_of_row _ _ 3 _ _ _ hn
  clear hn
  obtain ⟨b1, hb1⟩ : ∃ b, inB nx 1 12 = b := ⟨_, rfl⟩
  cases b1
  · rw [hb1] at HV
    simp only [Bool.false_and] at HV
    go_wp2_with (go_at_call 36; refine (r6in_any _ _ _ _).mono ?_; rintro e w' ⟨rfl, rfl⟩; rw [hb1])
    go_ret
    exact ⟨ret_bool HV.out.symm, HB.out⟩
  obtain ⟨b2, hb2⟩ : ∃ b, inB ny 1 12 = b := ⟨_, rfl⟩
  cases b2
  · rw [hb1, hb2] at HV
    simp only [Bool.false_and, Bool.true_and] at HV
    go_wp2_with (go_at_call 36; refine (r6in_any _ _ _ _).mono ?_; rintro e w' ⟨rfl, rfl⟩; first | rw [hb1] | rw [hb2])
    go_ret
    exact ⟨ret_bool HV.out.symm, HB.out⟩
  obtain ⟨b3, hb3⟩ : ∃ b, inB nz 1 12 = b := ⟨_, rfl⟩
  cases b3
  · rw [hb1, hb2, hb3] at HV
    simp only [Bool.false_and, Bool.true_and] at HV
    go_wp2_with (go_at_call 36; refine (r6in_any _ _ _ _).mono ?_; rintro e w' ⟨rfl, rfl⟩; first | rw [hb1] | rw [hb2] | rw [hb3])
    go_ret
    exact ⟨ret_bool HV.out.symm, HB.out⟩
  obtain ⟨⟨m1, m2⟩, m3, m4⟩ := HI.out hb1 hb2 hb3
  rw [hb1, hb2, hb3] at HV
  simp only [Bool.true_and] at HV
  clear HI
  generalize hp : nx * ny = pq at *
  generalize hq : pq * nz = pqr at *
  by_cases h6 : pqr ≤ 600
  · rw [decide_eq_true h6, Bool.true_and] at HV
    generalize hb5 : inB size 1 1000 = b5 at *
    go_wp2_with (go_at_call 36; refine (r6in_any _ _ _ _).mono ?_; rintro e w' ⟨rfl, rfl⟩; first | rw [hb1] | rw [hb2] | rw [hb3] | rw [hb5])
    go_ret
    exact ⟨ret_bool HV.out.symm, HB.out⟩
  · rw [decide_eq_false h6, Bool.false_and] at HV
    go_wp2_with (go_at_call 36; refine (r6in_any _ _ _ _).mono ?_; rintro e w' ⟨rfl, rfl⟩; first | rw [hb1] | rw [hb2] | rw [hb3])
    go_ret
    exact ⟨ret_bool HV.out.symm, HB.out⟩
set_option maxRecDepth 100000 in
set_option maxHeartbeats 2000000 in
theorem r6Ray_any (r : RY) (w : World) : Calls Tryz.prog 8 #[r.val] w fun e w' => e = .returned (.bool (rayB r)) ∧ Below w.heap.size w w' := by
  have HV := Lib.hid (show rayB r = (((inB r.x (-100000) 100000 && inB r.y (-100000) 100000) && inB r.z (-100000) 100000) && (((inB r.dx (-60) 60 && inB r.dy (-60) 60) && inB r.dz (-60) 60) && ((r.dx != 0 || r.dy != 0) || r.dz != 0))) from rfl)
  generalize rayB r = RES at *
  unfold RY.val
  obtain ⟨x, y, z, dx, dy, dz⟩ := r
  dsimp only at *
  go_enter Tryz.func8, Tryz.ntmps8
  go_upto_region 1 with (fail)
  have HB := Lib.hid (rk_below w (.cells #[.int .i64 x, .int .i64 y, .int .i64 z, .int .i64 dx, .int .i64 dy, .int .i64 dz] 26))
  have hn := heap_alloc_new w (.cells #[.int .i64 x, .int .i64 y, .int .i64 z, .int .i64 dx, .int .i64 dy, .int .i64 dz] 26)
  generalize World.alloc w _ = V at *
  have k0 := cell_of_row _ _ 0 _ _ _ hn
  have k1 := cell_of_row _ _ 1 _ _ _ hn
  have k2 := cell_of_row _ _ 2 _ _ _ hn
  have k3 := cell_of_row _ _ 3 _ _ _ hn
  have k4 := cell_of_row _ _ 4 _ _ _ hn
  have k5 := cell_of_row _ _ 5 _ _ _ hn
  clear hn
  obtain ⟨b1, hb1⟩ : ∃ b, inB x (-100000) 100000 = b := ⟨_, rfl⟩
  cases b1
  · have HE := Lib.hid (show RES = false from by rw [HV.out, hb1]; simp)
    go_wp2_with (go_at_call 36; refine (r6in_any _ _ _ _).mono ?_; rintro e w' ⟨rfl, rfl⟩; first | rw [hb1])
    go_ret
    exact ⟨ret_bool HE.out.symm, HB.out⟩
  obtain ⟨b2, hb2⟩ : ∃ b, inB y (-100000) 100000 = b := ⟨_, rfl⟩
  cases b2
  · have HE := Lib.hid (show RES = false from by rw [HV.out, hb1, hb2]; simp)
    go_wp2_with (go_at_call 36; refine (r6in_any _ _ _ _).mono ?_; rintro e w' ⟨rfl, rfl⟩; first | rw [hb1] | rw [hb2])
    go_ret
    exact ⟨ret_bool HE.out.symm, HB.out⟩
  obtain ⟨b3, hb3⟩ : ∃ b, inB z (-100000) 100000 = b := ⟨_, rfl⟩
  cases b3
  · have HE := Lib.hid (show RES = false from by rw [HV.out, hb1, hb2, hb3]; simp)
    go_wp2_with (go_at_call 36; refine (r6in_any _ _ _ _).mono ?_; rintro e w' ⟨rfl, rfl⟩; first | rw [hb1] | rw [hb2] | rw [hb3])
    go_ret
    exact ⟨ret_bool HE.out.symm, HB.out⟩
  obtain ⟨b4, hb4⟩ : ∃ b, inB dx (-60) 60 = b := ⟨_, rfl⟩
  cases b4
  · have HE := Lib.hid (show RES = false from by rw [HV.out, hb1, hb2, hb3, hb4]; simp)
    go_wp2_with (go_at_call 36; refine (r6in_any _ _ _ _).mono ?_; rintro e w' ⟨rfl, rfl⟩; first | rw [hb1] | rw [hb2] | rw [hb3] | rw [hb4])
    go_ret
    exact ⟨ret_bool HE.out.symm, HB.out⟩
  obtain ⟨b5, hb5⟩ : ∃ b, inB dy (-60) 60 = b := ⟨_, rfl⟩
  cases b5
  · have HE := Lib.hid (show RES = false from by rw [HV.out, hb1, hb2, hb3, hb4, hb5]; simp)
    go_wp2_with (go_at_call 36; refine (r6in_any _ _ _ _).mono ?_; rintro e w' ⟨rfl, rfl⟩; first | rw [hb1] | rw [hb2] | rw [hb3] | rw [hb4] | rw [hb5])
    go_ret
    exact ⟨ret_bool HE.out.symm, HB.out⟩
  obtain ⟨b6, hb6⟩ : ∃ b, inB dz (-60) 60 = b := ⟨_, rfl⟩
  cases b6
  · have HE := Lib.hid (show RES = false from by rw [HV.out, hb1, hb2, hb3, hb4, hb5, hb6]; simp)
    go_wp2_with (go_at_call 36; refine (r6in_any _ _ _ _).mono ?_; rintro e w' ⟨rfl, rfl⟩; first | rw [hb1] | rw [hb2] | rw [hb3] | rw [hb4] | rw [hb5] | rw [hb6])
    go_ret
    exact ⟨ret_bool HE.out.symm, HB.out⟩
  have HT := Lib.hid (show RES = ((dx != 0 || dy != 0) || dz != 0) from by rw [HV.out, hb1, hb2, hb3, hb4, hb5, hb6]; simp)
  by_cases e4 : dx = 0
  · by_cases e5 : dy = 0
    · have HE := Lib.hid (show RES = (dz != 0) from by rw [HT.out, e4, e5]; simp)
      subst e4 e5
      go_wp2_with (go_at_call 36; refine (r6in_any _ _ _ _).mono ?_; rintro e w' ⟨rfl, rfl⟩; first | rw [hb1] | rw [hb2] | rw [hb3] | rw [hb4] | rw [hb5] | rw [hb6])
      go_ret
      exact ⟨ret_bool HE.out.symm, HB.out⟩
    · have HE := Lib.hid (show RES = true from by rw [HT.out]; simp [e5])
      subst e4
      go_wp2_with (go_at_call 36; refine (r6in_any _ _ _ _).mono ?_; rintro e w' ⟨rfl, rfl⟩; first | rw [hb1] | rw [hb2] | rw [hb3] | rw [hb4] | rw [hb5] | rw [hb6])
      go_ret
      exact ⟨ret_bool HE.out.symm, HB.out⟩
  · have HE := Lib.hid (show RES = true from by rw [HT.out]; simp [e4])
    go_wp2_with (go_at_call 36; refine (r6in_any _ _ _ _).mono ?_; rintro e w' ⟨rfl, rfl⟩; first | rw [hb1] | rw [hb2] | rw [hb3] | rw [hb4] | rw [hb5] | rw [hb6])
    go_ret
    exact ⟨ret_bool HE.out.symm, HB.out⟩
set_option maxRecDepth 100000 in
set_option maxHeartbeats 1000000 in
theorem r6Cells_any (v : VO) (hv : v.Ok) (w : World) : Calls Tryz.prog 15 #[v.val] w fun e w' => e = .returned (.int .i64 (v.nx * v.ny * v.nz)) ∧ Below w.heap.size w w' := by
  have hm1 := rk_mul_abs (x := v.nx) (y := v.ny) (K := 12) (M := 12) (by decide) (by decide) (by have := hv.x; omega) (by have := hv.y; omega)
  have hm2 := rk_mul_abs (x := v.nx * v.ny) (y := v.nz) (K := 144) (M := 12) (by decide) (by decide) (by omega) (by have := hv.z; omega)
  unfold VO.val
  obtain ⟨nx, ny, nz, size⟩ := v
  dsimp only at *
  clear hv
  generalize hxy : nx * ny = xy at *
  generalize hxyz : xy * nz = xyz at *
  go_enter Tryz.func15, Tryz.ntmps15
  go_upto_region 1 with (fail)
  have HB := Lib.hid (rk_below w (.cells #[.int .i64 nx, .int .i64 ny, .int .i64 nz, .int .i64 size] 23))
  have hn := heap_alloc_new w (.cells #[.int .i64 nx, .int .i64 ny, .int .i64 nz, .int .i64 size] 23)
  generalize World.alloc w _ = V at *
  have k0 := cell_of_row _ _ 0 _ _ _ hn
  have k1 := cell_of_row _ _ 1 _ _ _ hn
  have k2 := cell_of_row _ _ 2 _ _ _ hn
  clear hn
  go_wp2
  go_ret
  exact ⟨rfl, HB.out⟩
set_option maxRecDepth 100000 in
set_option maxHeartbeats 1000000 in
theorem r6Columns_any (v : VO) (hv : v.Ok) (w : World) : Calls Tryz.prog 37 #[v.val] w fun e w' => e = .returned (.int .i64 (v.nx * v.ny)) ∧ Below w.heap.size w w' := by
  have hm1 := rk_mul_abs (x := v.nx) (y := v.ny) (K := 12) (M := 12) (by decide) (by decide) (by have := hv.x; omega) (by have := hv.y; omega)
  unfold VO.val
  obtain ⟨nx, ny, nz, size⟩ := v
  dsimp only at *
  clear hv
  generalize hxy : nx * ny = xy at *
  go_enter Tryz.func37, Tryz.ntmps37
  go_upto_region 1 with (fail)
  have HB := Lib.hid (rk_below w (.cells #[.int .i64 nx, .int .i64 ny, .int .i64 nz, .int .i64 size] 23))
  have hn := heap_alloc_new w (.cells #[.int .i64 nx, .int .i64 ny, .int .i64 nz, .int .i64 size] 23)
  generalize World.alloc w _ = V at *
  have k0 := cell_of_row _ _ 0 _ _ _ hn
  have k1 := cell_of_row _ _ 1 _ _ _ hn
  clear hn
  go_wp2
  go_ret
  exact ⟨rfl, HB.out⟩
set_option maxRecDepth 100000 in
set_option maxHeartbeats 2000000 in
theorem r6Ground_any (v : VO) (hv : v.Ok) (ga : Option Addr) (n gc : Nat) (g : Nat → Int) (w : World) (hn : n ≤ maxLen) (hG : Ints w.heap.size w ga n g) :
    Calls Tryz.prog 9 #[v.val, .slice ga n gc] w fun e w' => e = .returned (.bool (grB v n g)) ∧ Below w.heap.size w w' := by
  have HG := Lib.hid hG
  have HNO := Lib.hid (fun (i : Nat) (hi : i < n) (h : inB (g i) 0 (v.nz * v.size) = false) => show grB v n g = false from by unfold grB; rw [allUpto_false hi h, Bool.false_and])
  have HYES := Lib.hid (fun (h : ∀ i, i < n → inB (g i) 0 (v.nz * v.size) = true) => show grB v n g = ((n : Int) == v.nx * v.ny) from by unfold grB; rw [allUpto_true h, Bool.true_and])
  have hm1 := rk_mul_abs (x := v.nz) (y := v.size) (K := 12) (M := 1000) (by decide) (by decide) (by have := hv.z; omega) (by have := hv.size; omega)
  have HCO := Lib.hid (fun (W : World) => r6Columns_any v hv W)
  unfold maxLen at hn
  generalize grB v n g = RES at *
  unfold VO.val at HCO
  unfold VO.val
  generalize hcnt : v.nx * v.ny = cnt at *
  obtain ⟨nx, ny, nz, size⟩ := v
  dsimp only at *
  generalize hzs : nz * size = zs at *
  clear hG hv
  go_enter Tryz.func9, Tryz.ntmps9
  go_upto_region 1 with (fail)
  have HB := Lib.hid (rk_below w (.cells #[.int .i64 nx, .int .i64 ny, .int .i64 nz, .int .i64 size] 23))
  have hnn := heap_alloc_new w (.cells #[.int .i64 nx, .int .i64 ny, .int .i64 nz, .int .i64 size] 23)
  have hsz : (w.alloc (.cells #[.int .i64 nx, .int .i64 ny, .int .i64 nz, .int .i64 size] 23)).heap.size = w.heap.size + 1 := by simp
  generalize World.alloc w _ = V at *
  have HL := Lib.hid hnn
  clear hnn hsz
  go_wp2
  go_loopw [5] (fun s wr => ∃ i : Nat, i ≤ n ∧ s = .int .i64 (i : Int) ∧ Hid (∀ j, j < i → inB (g j) 0 zs = true) ∧ Hid (Below V.heap.size V wr)) (fun s _ => n - (intOf s).toNat)
  case atStart => exact ⟨0, Nat.zero_le _, rfl, Lib.hid (fun j hj => by omega), Lib.hid (Below.refl _ _)⟩
  case round =>
    obtain ⟨i, hi, rfl, HA, HW⟩ := hrel
    have HLr := Lib.hid ((HW.out.block _ (Array.getElem?_eq_some_iff.1 HL.out).1).trans HL.out)
    have HBr := Lib.hid (HB.out.trans (HW.out.mono HB.out.size))
    have k0 := cell_of_row _ _ 0 _ _ _ HLr.out
    have k1 := cell_of_row _ _ 1 _ _ _ HLr.out
    have k2 := cell_of_row _ _ 2 _ _ _ HLr.out
    have k3 := cell_of_row _ _ 3 _ _ _ HLr.out
    have hVlt := Nat.lt_of_lt_of_le (Array.getElem?_eq_some_iff.1 HL.out).1 HW.out.size
    by_cases hlt : i < n
    · have hlt' : (i : Int) < (n : Int) := by omega
      obtain ⟨gb, go, rfl, hgl, hgc⟩ := HG.out.get hlt
      have hg1 := ((bcell HBr.out).1 gb (go + i) hgl).trans hgc
      have hgl2 : gb < wr.heap.size := by have := HBr.out.size; omega
      clear hgc
      cases hb : inB (g i) 0 zs
      · have HE := Lib.hid (HNO.out i hlt hb)
        go_upto_region 4 with (fail)
        (refine wp_region_calm (wr.heap.size) (by kernel_rfl) (by kernel_rfl) ?_; (repeat (first | go_big_quiet_step ((go_at_call 36; exact Calls.calm_same (r6in_any _ _ _ _))) | quiet_step ((go_at_call 36; exact Calls.calm_same (r6in_any _ _ _ _))))); refine wpQuiet_nil ?_; intro _ hw'; obtain ⟨xq, hw''⟩ := hw'; subst hw'')
        rw [hb]
        go_wp2
        go_ret
        exact ⟨ret_bool HE.out.symm, HBr.out.trans ((Calm.below _).mono HBr.out.size)⟩
      · have HA2 := Lib.hid (fun j (hj : j < i + 1) => show inB (g j) 0 zs = true from (by by_cases e : j = i; (subst e; exact hb); exact HA.out j (by omega)))
        go_upto_region 4 with (fail)
        (refine wp_region_calm (wr.heap.size) (by kernel_rfl) (by kernel_rfl) ?_; (repeat (first | go_big_quiet_step ((go_at_call 36; exact Calls.calm_same (r6in_any _ _ _ _))) | quiet_step ((go_at_call 36; exact Calls.calm_same (r6in_any _ _ _ _))))); refine wpQuiet_nil ?_; intro _ hw'; obtain ⟨xq, hw''⟩ := hw'; subst hw'')
        rw [hb]
        go_wp2
        have HW2 := Lib.hid (HW.out.trans ((Calm.below xq).mono HW.out.size))
        go_roundw
        case rel => exact ⟨i + 1, by omega, by go_num, HA2, HW2⟩
        case measure => simp [intOf]; omega
    · obtain rfl : i = n := by omega
      have hlt' : ¬ (i : Int) < (i : Int) := by omega
      have HE := Lib.hid (HYES.out HA.out)
      go_wp2_with (go_at_call 37; refine (HCO.out _).mono ?_; rintro e w2 ⟨rfl, hb2⟩; have HBX := Lib.hid (HBr.out.trans (hb2.mono HBr.out.size)); clear hb2)
      go_ret
      exact ⟨ret_bool HE.out.symm, HBX.out⟩
set_option maxRecDepth 100000 in
set_option maxHeartbeats 2000000 in
theorem r6Dense_any (v : VO) (hv : v.Ok) (ga : Option Addr) (n gc : Nat) (g : Nat → Int) (w : World) (hn : n ≤ maxLen) (hG : Ints w.heap.size w ga n g) :
    Calls Tryz.prog 12 #[v.val, .slice ga n gc] w fun e w' => e = .returned (.bool ((denB n g && ((n : Int) == v.nx * v.ny * v.nz)))) ∧ Below w.heap.size w w' := by
  have HG := Lib.hid hG
  have HNO := Lib.hid (fun (i : Nat) (hi : i < n) (h : inB (g i) 0 10000 = false) => show (denB n g && ((n : Int) == v.nx * v.ny * v.nz)) = false from by unfold denB; rw [allUpto_false hi h, Bool.false_and])
  have HYES := Lib.hid (fun (h : ∀ i, i < n → inB (g i) 0 10000 = true) => show (denB n g && ((n : Int) == v.nx * v.ny * v.nz)) = ((n : Int) == v.nx * v.ny * v.nz) from by unfold denB; rw [allUpto_true h, Bool.true_and])
  have hm1 := rk_mul_abs (x := v.nz) (y := v.size) (K := 12) (M := 1000) (by decide) (by decide) (by have := hv.z; omega) (by have := hv.size; omega)
  have HCO := Lib.hid (fun (W : World) => r6Cells_any v hv W)
  unfold maxLen at hn
  generalize (denB n g && ((n : Int) == v.nx * v.ny * v.nz)) = RES at *
  unfold VO.val at HCO
  unfold VO.val
  generalize hcnt : v.nx * v.ny * v.nz = cnt at *
  obtain ⟨nx, ny, nz, size⟩ := v
  dsimp only at *
  generalize hzs : nz * size = zs at *
  clear hG hv
  go_enter Tryz.func12, Tryz.ntmps12
  go_upto_region 1 with (fail)
  have HB := Lib.hid (rk_below w (.cells #[.int .i64 nx, .int .i64 ny, .int .i64 nz, .int .i64 size] 23))
  have hnn := heap_alloc_new w (.cells #[.int .i64 nx, .int .i64 ny, .int .i64 nz, .int .i64 size] 23)
  have hsz : (w.alloc (.cells #[.int .i64 nx, .int .i64 ny, .int .i64 nz, .int .i64 size] 23)).heap.size = w.heap.size + 1 := by simp
  generalize World.alloc w _ = V at *
  have HL := Lib.hid hnn
  clear hnn hsz
  go_wp2
  go_loopw [5] (fun s wr => ∃ i : Nat, i ≤ n ∧ s = .int .i64 (i : Int) ∧ Hid (∀ j, j < i → inB (g j) 0 10000 = true) ∧ Hid (Below V.heap.size V wr)) (fun s _ => n - (intOf s).toNat)
  case atStart => exact ⟨0, Nat.zero_le _, rfl, Lib.hid (fun j hj => by omega), Lib.hid (Below.refl _ _)⟩
  case round =>
    obtain ⟨i, hi, rfl, HA, HW⟩ := hrel
    have HLr := Lib.hid ((HW.out.block _ (Array.getElem?_eq_some_iff.1 HL.out).1).trans HL.out)
    have HBr := Lib.hid (HB.out.trans (HW.out.mono HB.out.size))
    have k0 := cell_of_row _ _ 0 _ _ _ HLr.out
    have k1 := cell_of_row _ _ 1 _ _ _ HLr.out
    have k2 := cell_of_row _ _ 2 _ _ _ HLr.out
    have k3 := cell_of_row _ _ 3 _ _ _ HLr.out
    have hVlt := Nat.lt_of_lt_of_le (Array.getElem?_eq_some_iff.1 HL.out).1 HW.out.size
    by_cases hlt : i < n
    · have hlt' : (i : Int) < (n : Int) := by omega
      obtain ⟨gb, go, rfl, hgl, hgc⟩ := HG.out.get hlt
      have hg1 := ((bcell HBr.out).1 gb (go + i) hgl).trans hgc
      have hgl2 : gb < wr.heap.size := by have := HBr.out.size; omega
      clear hgc
      cases hb : inB (g i) 0 10000
      · have HE := Lib.hid (HNO.out i hlt hb)
        go_wp2_with (go_at_call 36; refine (r6in_any _ _ _ _).mono ?_; rintro e w' ⟨rfl, rfl⟩; rw [hb])
        go_ret
        exact ⟨ret_bool HE.out.symm, HBr.out⟩
      · have HA2 := Lib.hid (fun j (hj : j < i + 1) => show inB (g j) 0 10000 = true from (by by_cases e : j = i; (subst e; exact hb); exact HA.out j (by omega)))
        go_wp2_with (go_at_call 36; refine (r6in_any _ _ _ _).mono ?_; rintro e w' ⟨rfl, rfl⟩; rw [hb])
        go_roundw
        case rel => exact ⟨i + 1, by omega, by go_num, HA2, HW⟩
        case measure => simp [intOf]; omega
    · obtain rfl : i = n := by omega
      have hlt' : ¬ (i : Int) < (i : Int) := by omega
      have HE := Lib.hid (HYES.out HA.out)
      go_wp2_with (go_at_call 15; refine (HCO.out _).mono ?_; rintro e w2 ⟨rfl, hb2⟩; have HBX := Lib.hid (HBr.out.trans (hb2.mono HBr.out.size)); clear hb2)
      go_ret
      exact ⟨ret_bool HE.out.symm, HBX.out⟩
end Go.Proofs.YtkdopjkdokgipaaGreatDoor
namespace Go.Proofs.YtkdopjkdokgipaaGreatDoor
open Go.RowKit Go.Shelf
set_option linter.unusedVariables false
set_option linter.unusedSimpArgs false
/-- what came in -/
structure SeIn (w : World) (B : Nat) (ga : Option Addr) (gn : Nat) (g : Nat → Int) (ra : Option Addr) (rn : Nat) (rs : Nat → RY) (pa : Option Addr) (pn : Nat) (ps : Nat → SV) (sa : Option Addr) (sn : Nat) (ss : Nat → SV) (da : Option Addr) (dn : Nat) (d : Nat → Int) : Prop where
  le : B ≤ w.heap.size
  gr : Ints B w ga gn g
  gl : gn ≤ maxLen
  ry : Rays B w ra rn rs
  op : Spans B w pa pn ps
  sp : Spans B w sa sn ss
  de : Ints B w da dn d
  dl : dn ≤ maxLen
  tab : Lib.TabBelow Tryz.prog w.heap.size w "internal/strconv.uint64pow10" .u64 Lib.pow10Tab
section
variable {w : World} {B : Nat} {ga : Option Addr} {gn : Nat} {g : Nat → Int} {ra : Option Addr} {rn : Nat} {rs : Nat → RY} {pa : Option Addr} {pn : Nat} {ps : Nat → SV} {sa : Option Addr} {sn : Nat} {ss : Nat → SV} {da : Option Addr} {dn : Nat} {d : Nat → Int} {W : World}
theorem SeIn.known (h : SeIn w B ga gn g ra rn rs pa pn ps sa sn ss da dn d) (hb : Below w.heap.size w W) : Calls Tryz.prog 5 #[] W fun e w' => e = .returned (.bool true) ∧ Below W.heap.size W w' := known_any W (h.tab W hb)
theorem SeIn.G (h : SeIn w B ga gn g ra rn rs pa pn ps sa sn ss da dn d) (hb : Below w.heap.size w W) : Ints W.heap.size W ga gn g := (h.gr.below (hb.mono h.le)).up (Nat.le_trans h.le hb.size)
theorem SeIn.D (h : SeIn w B ga gn g ra rn rs pa pn ps sa sn ss da dn d) (hb : Below w.heap.size w W) : Ints W.heap.size W da dn d := (h.de.below (hb.mono h.le)).up (Nat.le_trans h.le hb.size)
theorem SeIn.S (h : SeIn w B ga gn g ra rn rs pa pn ps sa sn ss da dn d) (hb : Below w.heap.size w W) : Spans W.heap.size W sa sn ss := (h.sp.below (hb.mono h.le)).up (Nat.le_trans h.le hb.size)
end
/-- whether the statement applies, but for its rays -/
def seOk (v : VO) (gn : Nat) (g : Nat → Int) (rn pn sn dn : Nat) (d : Nat → Int) : Prop := v.nx * v.ny * v.nz ≤ 24 ∧ grB v gn g = true ∧ rn ≤ 8 ∧ pn = rn ∧ (sn : Int) = v.nx * v.ny * v.nz ∧ denB dn d = true ∧ (dn : Int) = v.nx * v.ny * v.nz
set_option maxRecDepth 100000 in
set_option maxHeartbeats 4000000 in
theorem Seen_bad0 {w : World} {B : Nat} {ga : Option Addr} {gn : Nat} {g : Nat → Int} {ra : Option Addr} {rn : Nat} {rs : Nat → RY} {pa : Option Addr} {pn : Nat} {ps : Nat → SV} {sa : Option Addr} {sn : Nat} {ss : Nat → SV} {da : Option Addr} {dn : Nat} {d : Nat → Int} (v : VO) (gc rc pc sc dc : Nat) (h : SeIn w B ga gn g ra rn rs pa pn ps sa sn ss da dn d) (hv : volB v = false) :
    Calls Tryz.prog 4 #[v.val, .slice ga gn gc, .slice ra rn rc, .slice pa pn pc, .slice sa sn sc, .slice da dn dc] w fun e w' => e = .returned (.bool true) ∧ Below w.heap.size w w' := by
  have HVO := Lib.hid (fun (W : World) => r6Volume_any v W)
  have HKN := Lib.hid (fun (W : World) (hb : Below w.heap.size w W) => h.known hb)
  rw [hv] at HVO
  unfold VO.val at HVO
  unfold VO.val
  clear h hv
  go_enter Tryz.func4, Tryz.ntmps4; go_upto_region 1 with (fail); have HB := Lib.hid (rk_below w (.cells #[.int .i64 v.nx, .int .i64 v.ny, .int .i64 v.nz, .int .i64 v.size] 23)); have HV := Lib.hid (heap_alloc_new w (.cells #[.int .i64 v.nx, .int .i64 v.ny, .int .i64 v.nz, .int .i64 v.size] 23)); generalize World.alloc w _ = V at *; (try clear v0 v1 v2 v3); have v0 := cell_of_row _ _ 0 _ _ _ HV.out; have v1 := cell_of_row _ _ 1 _ _ _ HV.out; have v2 := cell_of_row _ _ 2 _ _ _ HV.out; have v3 := cell_of_row _ _ 3 _ _ _ HV.out
  go_wp2_with (first | (go_at_call 7; refine (HVO.out _).mono ?_; rintro e w2 ⟨rfl, hb2⟩; (have HBx := Lib.hid (HB.out.trans ((hb2).mono HB.out.size)); have HVx := Lib.hid (((hb2).block _ (Array.getElem?_eq_some_iff.1 HV.out).1).trans HV.out); clear HB HV; have HB := HBx; have HV := HVx; clear HBx HVx; (try clear v0 v1 v2 v3); have v0 := cell_of_row _ _ 0 _ _ _ HV.out; have v1 := cell_of_row _ _ 1 _ _ _ HV.out; have v2 := cell_of_row _ _ 2 _ _ _ HV.out; have v3 := cell_of_row _ _ 3 _ _ _ HV.out); clear hb2) | (go_at_call 5; refine (HKN.out _ HB.out).mono ?_; rintro e w2 ⟨rfl, hb2⟩; (have HBx := Lib.hid (HB.out.trans ((hb2).mono HB.out.size)); have HVx := Lib.hid (((hb2).block _ (Array.getElem?_eq_some_iff.1 HV.out).1).trans HV.out); clear HB HV; have HB := HBx; have HV := HVx; clear HBx HVx; (try clear v0 v1 v2 v3); have v0 := cell_of_row _ _ 0 _ _ _ HV.out; have v1 := cell_of_row _ _ 1 _ _ _ HV.out; have v2 := cell_of_row _ _ 2 _ _ _ HV.out; have v3 := cell_of_row _ _ 3 _ _ _ HV.out); clear hb2))
  go_ret
  exact ⟨rfl, HB.out⟩
set_option maxRecDepth 100000 in
set_option maxHeartbeats 4000000 in
theorem Seen_bad1 {w : World} {B : Nat} {ga : Option Addr} {gn : Nat} {g : Nat → Int} {ra : Option Addr} {rn : Nat} {rs : Nat → RY} {pa : Option Addr} {pn : Nat} {ps : Nat → SV} {sa : Option Addr} {sn : Nat} {ss : Nat → SV} {da : Option Addr} {dn : Nat} {d : Nat → Int} (v : VO) (gc rc pc sc dc : Nat) (h : SeIn w B ga gn g ra rn rs pa pn ps sa sn ss da dn d) (h1 : volB v = true) (hno : ¬ seOk v gn g rn pn sn dn d) :
    Calls Tryz.prog 4 #[v.val, .slice ga gn gc, .slice ra rn rc, .slice pa pn pc, .slice sa sn sc, .slice da dn dc] w fun e w' => e = .returned (.bool true) ∧ Below w.heap.size w w' := by
  have hv := volB_iff.1 h1
  have HVO := Lib.hid (fun (W : World) => r6Volume_any v W); have HCE := Lib.hid (fun (W : World) => r6Cells_any v hv W); have HGR := Lib.hid (fun (W : World) (hb : Below w.heap.size w W) => r6Ground_any v hv ga gn gc g W h.gl (h.G hb)); have HDE := Lib.hid (fun (W : World) (hb : Below w.heap.size w W) => r6Dense_any v hv da dn dc d W h.dl (h.D hb)); have HKN := Lib.hid (fun (W : World) (hb : Below w.heap.size w W) => h.known hb)
  have hrl := h.ry.1
  have hpl := h.op.1
  have hsl := h.sp.1
  unfold maxLen at hrl hpl hsl
  unfold seOk at hno
  rw [h1] at HVO
  unfold VO.val at HVO HCE HGR HDE
  unfold VO.val
  clear h h1
  generalize v.nx * v.ny * v.nz = N at *
  by_cases a1 : N ≤ 24
  rotate_left
  · have a1' : 24 < N := by omega
    clear HGR HDE hv hno
    go_enter Tryz.func4, Tryz.ntmps4; go_upto_region 1 with (fail); have HB := Lib.hid (rk_below w (.cells #[.int .i64 v.nx, .int .i64 v.ny, .int .i64 v.nz, .int .i64 v.size] 23)); have HV := Lib.hid (heap_alloc_new w (.cells #[.int .i64 v.nx, .int .i64 v.ny, .int .i64 v.nz, .int .i64 v.size] 23)); generalize World.alloc w _ = V at *; (try clear v0 v1 v2 v3); have v0 := cell_of_row _ _ 0 _ _ _ HV.out; have v1 := cell_of_row _ _ 1 _ _ _ HV.out; have v2 := cell_of_row _ _ 2 _ _ _ HV.out; have v3 := cell_of_row _ _ 3 _ _ _ HV.out
    go_wp2_with (first | (go_at_call 7; refine (HVO.out _).mono ?_; rintro e w2 ⟨rfl, hb2⟩; (have HBx := Lib.hid (HB.out.trans ((hb2).mono HB.out.size)); have HVx := Lib.hid (((hb2).block _ (Array.getElem?_eq_some_iff.1 HV.out).1).trans HV.out); clear HB HV; have HB := HBx; have HV := HVx; clear HBx HVx; (try clear v0 v1 v2 v3); have v0 := cell_of_row _ _ 0 _ _ _ HV.out; have v1 := cell_of_row _ _ 1 _ _ _ HV.out; have v2 := cell_of_row _ _ 2 _ _ _ HV.out; have v3 := cell_of_row _ _ 3 _ _ _ HV.out); clear hb2) | (go_at_call 15; refine (HCE.out _).mono ?_; rintro e w2 ⟨rfl, hb2⟩; (have HBx := Lib.hid (HB.out.trans ((hb2).mono HB.out.size)); have HVx := Lib.hid (((hb2).block _ (Array.getElem?_eq_some_iff.1 HV.out).1).trans HV.out); clear HB HV; have HB := HBx; have HV := HVx; clear HBx HVx; (try clear v0 v1 v2 v3); have v0 := cell_of_row _ _ 0 _ _ _ HV.out; have v1 := cell_of_row _ _ 1 _ _ _ HV.out; have v2 := cell_of_row _ _ 2 _ _ _ HV.out; have v3 := cell_of_row _ _ 3 _ _ _ HV.out); clear hb2) | (go_at_call 5; refine (HKN.out _ HB.out).mono ?_; rintro e w2 ⟨rfl, hb2⟩; (have HBx := Lib.hid (HB.out.trans ((hb2).mono HB.out.size)); have HVx := Lib.hid (((hb2).block _ (Array.getElem?_eq_some_iff.1 HV.out).1).trans HV.out); clear HB HV; have HB := HBx; have HV := HVx; clear HBx HVx; (try clear v0 v1 v2 v3); have v0 := cell_of_row _ _ 0 _ _ _ HV.out; have v1 := cell_of_row _ _ 1 _ _ _ HV.out; have v2 := cell_of_row _ _ 2 _ _ _ HV.out; have v3 := cell_of_row _ _ 3 _ _ _ HV.out); clear hb2))
    go_ret
    exact ⟨rfl, HB.out⟩
  cases a2 : grB v gn g
  · rw [a2] at HGR
    clear HDE hv hno
    go_enter Tryz.func4, Tryz.ntmps4; go_upto_region 1 with (fail); have HB := Lib.hid (rk_below w (.cells #[.int .i64 v.nx, .int .i64 v.ny, .int .i64 v.nz, .int .i64 v.size] 23)); have HV := Lib.hid (heap_alloc_new w (.cells #[.int .i64 v.nx, .int .i64 v.ny, .int .i64 v.nz, .int .i64 v.size] 23)); generalize World.alloc w _ = V at *; (try clear v0 v1 v2 v3); have v0 := cell_of_row _ _ 0 _ _ _ HV.out; have v1 := cell_of_row _ _ 1 _ _ _ HV.out; have v2 := cell_of_row _ _ 2 _ _ _ HV.out; have v3 := cell_of_row _ _ 3 _ _ _ HV.out
    go_wp2_with (first | (go_at_call 7; refine (HVO.out _).mono ?_; rintro e w2 ⟨rfl, hb2⟩; (have HBx := Lib.hid (HB.out.trans ((hb2).mono HB.out.size)); have HVx := Lib.hid (((hb2).block _ (Array.getElem?_eq_some_iff.1 HV.out).1).trans HV.out); clear HB HV; have HB := HBx; have HV := HVx; clear HBx HVx; (try clear v0 v1 v2 v3); have v0 := cell_of_row _ _ 0 _ _ _ HV.out; have v1 := cell_of_row _ _ 1 _ _ _ HV.out; have v2 := cell_of_row _ _ 2 _ _ _ HV.out; have v3 := cell_of_row _ _ 3 _ _ _ HV.out); clear hb2) | (go_at_call 15; refine (HCE.out _).mono ?_; rintro e w2 ⟨rfl, hb2⟩; (have HBx := Lib.hid (HB.out.trans ((hb2).mono HB.out.size)); have HVx := Lib.hid (((hb2).block _ (Array.getElem?_eq_some_iff.1 HV.out).1).trans HV.out); clear HB HV; have HB := HBx; have HV := HVx; clear HBx HVx; (try clear v0 v1 v2 v3); have v0 := cell_of_row _ _ 0 _ _ _ HV.out; have v1 := cell_of_row _ _ 1 _ _ _ HV.out; have v2 := cell_of_row _ _ 2 _ _ _ HV.out; have v3 := cell_of_row _ _ 3 _ _ _ HV.out); clear hb2) | (go_at_call 9; refine (HGR.out _ HB.out).mono ?_; rintro e w2 ⟨rfl, hb2⟩; (have HBx := Lib.hid (HB.out.trans ((hb2).mono HB.out.size)); have HVx := Lib.hid (((hb2).block _ (Array.getElem?_eq_some_iff.1 HV.out).1).trans HV.out); clear HB HV; have HB := HBx; have HV := HVx; clear HBx HVx; (try clear v0 v1 v2 v3); have v0 := cell_of_row _ _ 0 _ _ _ HV.out; have v1 := cell_of_row _ _ 1 _ _ _ HV.out; have v2 := cell_of_row _ _ 2 _ _ _ HV.out; have v3 := cell_of_row _ _ 3 _ _ _ HV.out); clear hb2) | (go_at_call 5; refine (HKN.out _ HB.out).mono ?_; rintro e w2 ⟨rfl, hb2⟩; (have HBx := Lib.hid (HB.out.trans ((hb2).mono HB.out.size)); have HVx := Lib.hid (((hb2).block _ (Array.getElem?_eq_some_iff.1 HV.out).1).trans HV.out); clear HB HV; have HB := HBx; have HV := HVx; clear HBx HVx; (try clear v0 v1 v2 v3); have v0 := cell_of_row _ _ 0 _ _ _ HV.out; have v1 := cell_of_row _ _ 1 _ _ _ HV.out; have v2 := cell_of_row _ _ 2 _ _ _ HV.out; have v3 := cell_of_row _ _ 3 _ _ _ HV.out); clear hb2))
    go_ret
    exact ⟨rfl, HB.out⟩
  rw [a2] at HGR
  by_cases a3 : rn ≤ 8
  rotate_left
  · have a3' : (8 : Int) < (rn : Int) := by omega
    clear HDE hv hno
    go_enter Tryz.func4, Tryz.ntmps4; go_upto_region 1 with (fail); have HB := Lib.hid (rk_below w (.cells #[.int .i64 v.nx, .int .i64 v.ny, .int .i64 v.nz, .int .i64 v.size] 23)); have HV := Lib.hid (heap_alloc_new w (.cells #[.int .i64 v.nx, .int .i64 v.ny, .int .i64 v.nz, .int .i64 v.size] 23)); generalize World.alloc w _ = V at *; (try clear v0 v1 v2 v3); have v0 := cell_of_row _ _ 0 _ _ _ HV.out; have v1 := cell_of_row _ _ 1 _ _ _ HV.out; have v2 := cell_of_row _ _ 2 _ _ _ HV.out; have v3 := cell_of_row _ _ 3 _ _ _ HV.out
    go_wp2_with (first | (go_at_call 7; refine (HVO.out _).mono ?_; rintro e w2 ⟨rfl, hb2⟩; (have HBx := Lib.hid (HB.out.trans ((hb2).mono HB.out.size)); have HVx := Lib.hid (((hb2).block _ (Array.getElem?_eq_some_iff.1 HV.out).1).trans HV.out); clear HB HV; have HB := HBx; have HV := HVx; clear HBx HVx; (try clear v0 v1 v2 v3); have v0 := cell_of_row _ _ 0 _ _ _ HV.out; have v1 := cell_of_row _ _ 1 _ _ _ HV.out; have v2 := cell_of_row _ _ 2 _ _ _ HV.out; have v3 := cell_of_row _ _ 3 _ _ _ HV.out); clear hb2) | (go_at_call 15; refine (HCE.out _).mono ?_; rintro e w2 ⟨rfl, hb2⟩; (have HBx := Lib.hid (HB.out.trans ((hb2).mono HB.out.size)); have HVx := Lib.hid (((hb2).block _ (Array.getElem?_eq_some_iff.1 HV.out).1).trans HV.out); clear HB HV; have HB := HBx; have HV := HVx; clear HBx HVx; (try clear v0 v1 v2 v3); have v0 := cell_of_row _ _ 0 _ _ _ HV.out; have v1 := cell_of_row _ _ 1 _ _ _ HV.out; have v2 := cell_of_row _ _ 2 _ _ _ HV.out; have v3 := cell_of_row _ _ 3 _ _ _ HV.out); clear hb2) | (go_at_call 9; refine (HGR.out _ HB.out).mono ?_; rintro e w2 ⟨rfl, hb2⟩; (have HBx := Lib.hid (HB.out.trans ((hb2).mono HB.out.size)); have HVx := Lib.hid (((hb2).block _ (Array.getElem?_eq_some_iff.1 HV.out).1).trans HV.out); clear HB HV; have HB := HBx; have HV := HVx; clear HBx HVx; (try clear v0 v1 v2 v3); have v0 := cell_of_row _ _ 0 _ _ _ HV.out; have v1 := cell_of_row _ _ 1 _ _ _ HV.out; have v2 := cell_of_row _ _ 2 _ _ _ HV.out; have v3 := cell_of_row _ _ 3 _ _ _ HV.out); clear hb2) | (go_at_call 5; refine (HKN.out _ HB.out).mono ?_; rintro e w2 ⟨rfl, hb2⟩; (have HBx := Lib.hid (HB.out.trans ((hb2).mono HB.out.size)); have HVx := Lib.hid (((hb2).block _ (Array.getElem?_eq_some_iff.1 HV.out).1).trans HV.out); clear HB HV; have HB := HBx; have HV := HVx; clear HBx HVx; (try clear v0 v1 v2 v3); have v0 := cell_of_row _ _ 0 _ _ _ HV.out; have v1 := cell_of_row _ _ 1 _ _ _ HV.out; have v2 := cell_of_row _ _ 2 _ _ _ HV.out; have v3 := cell_of_row _ _ 3 _ _ _ HV.out); clear hb2))
    go_ret
    exact ⟨rfl, HB.out⟩
  have a3' : (rn : Int) ≤ 8 := by omega
  by_cases a4 : pn = rn
  rotate_left
  · have a4' : ((pn : Int) == (rn : Int)) = false := by rw [beq_eq_false_iff_ne]; omega
    clear HDE hv hno
    go_enter Tryz.func4, Tryz.ntmps4; go_upto_region 1 with (fail); have HB := Lib.hid (rk_below w (.cells #[.int .i64 v.nx, .int .i64 v.ny, .int .i64 v.nz, .int .i64 v.size] 23)); have HV := Lib.hid (heap_alloc_new w (.cells #[.int .i64 v.nx, .int .i64 v.ny, .int .i64 v.nz, .int .i64 v.size] 23)); generalize World.alloc w _ = V at *; (try clear v0 v1 v2 v3); have v0 := cell_of_row _ _ 0 _ _ _ HV.out; have v1 := cell_of_row _ _ 1 _ _ _ HV.out; have v2 := cell_of_row _ _ 2 _ _ _ HV.out; have v3 := cell_of_row _ _ 3 _ _ _ HV.out
    go_wp2_with (first | (go_at_call 7; refine (HVO.out _).mono ?_; rintro e w2 ⟨rfl, hb2⟩; (have HBx := Lib.hid (HB.out.trans ((hb2).mono HB.out.size)); have HVx := Lib.hid (((hb2).block _ (Array.getElem?_eq_some_iff.1 HV.out).1).trans HV.out); clear HB HV; have HB := HBx; have HV := HVx; clear HBx HVx; (try clear v0 v1 v2 v3); have v0 := cell_of_row _ _ 0 _ _ _ HV.out; have v1 := cell_of_row _ _ 1 _ _ _ HV.out; have v2 := cell_of_row _ _ 2 _ _ _ HV.out; have v3 := cell_of_row _ _ 3 _ _ _ HV.out); clear hb2) | (go_at_call 15; refine (HCE.out _).mono ?_; rintro e w2 ⟨rfl, hb2⟩; (have HBx := Lib.hid (HB.out.trans ((hb2).mono HB.out.size)); have HVx := Lib.hid (((hb2).block _ (Array.getElem?_eq_some_iff.1 HV.out).1).trans HV.out); clear HB HV; have HB := HBx; have HV := HVx; clear HBx HVx; (try clear v0 v1 v2 v3); have v0 := cell_of_row _ _ 0 _ _ _ HV.out; have v1 := cell_of_row _ _ 1 _ _ _ HV.out; have v2 := cell_of_row _ _ 2 _ _ _ HV.out; have v3 := cell_of_row _ _ 3 _ _ _ HV.out); clear hb2) | (go_at_call 9; refine (HGR.out _ HB.out).mono ?_; rintro e w2 ⟨rfl, hb2⟩; (have HBx := Lib.hid (HB.out.trans ((hb2).mono HB.out.size)); have HVx := Lib.hid (((hb2).block _ (Array.getElem?_eq_some_iff.1 HV.out).1).trans HV.out); clear HB HV; have HB := HBx; have HV := HVx; clear HBx HVx; (try clear v0 v1 v2 v3); have v0 := cell_of_row _ _ 0 _ _ _ HV.out; have v1 := cell_of_row _ _ 1 _ _ _ HV.out; have v2 := cell_of_row _ _ 2 _ _ _ HV.out; have v3 := cell_of_row _ _ 3 _ _ _ HV.out); clear hb2) | (go_at_call 5; refine (HKN.out _ HB.out).mono ?_; rintro e w2 ⟨rfl, hb2⟩; (have HBx := Lib.hid (HB.out.trans ((hb2).mono HB.out.size)); have HVx := Lib.hid (((hb2).block _ (Array.getElem?_eq_some_iff.1 HV.out).1).trans HV.out); clear HB HV; have HB := HBx; have HV := HVx; clear HBx HVx; (try clear v0 v1 v2 v3); have v0 := cell_of_row _ _ 0 _ _ _ HV.out; have v1 := cell_of_row _ _ 1 _ _ _ HV.out; have v2 := cell_of_row _ _ 2 _ _ _ HV.out; have v3 := cell_of_row _ _ 3 _ _ _ HV.out); clear hb2))
    go_ret
    exact ⟨rfl, HB.out⟩
  subst a4
  by_cases a5 : (sn : Int) = N
  rotate_left
  · have a5' : ((sn : Int) == N) = false := by rw [beq_eq_false_iff_ne]; omega
    clear HDE hv hno
    go_enter Tryz.func4, Tryz.ntmps4; go_upto_region 1 with (fail); have HB := Lib.hid (rk_below w (.cells #[.int .i64 v.nx, .int .i64 v.ny, .int .i64 v.nz, .int .i64 v.size] 23)); have HV := Lib.hid (heap_alloc_new w (.cells #[.int .i64 v.nx, .int .i64 v.ny, .int .i64 v.nz, .int .i64 v.size] 23)); generalize World.alloc w _ = V at *; (try clear v0 v1 v2 v3); have v0 := cell_of_row _ _ 0 _ _ _ HV.out; have v1 := cell_of_row _ _ 1 _ _ _ HV.out; have v2 := cell_of_row _ _ 2 _ _ _ HV.out; have v3 := cell_of_row _ _ 3 _ _ _ HV.out
    go_wp2_with (first | (go_at_call 7; refine (HVO.out _).mono ?_; rintro e w2 ⟨rfl, hb2⟩; (have HBx := Lib.hid (HB.out.trans ((hb2).mono HB.out.size)); have HVx := Lib.hid (((hb2).block _ (Array.getElem?_eq_some_iff.1 HV.out).1).trans HV.out); clear HB HV; have HB := HBx; have HV := HVx; clear HBx HVx; (try clear v0 v1 v2 v3); have v0 := cell_of_row _ _ 0 _ _ _ HV.out; have v1 := cell_of_row _ _ 1 _ _ _ HV.out; have v2 := cell_of_row _ _ 2 _ _ _ HV.out; have v3 := cell_of_row _ _ 3 _ _ _ HV.out); clear hb2) | (go_at_call 15; refine (HCE.out _).mono ?_; rintro e w2 ⟨rfl, hb2⟩; (have HBx := Lib.hid (HB.out.trans ((hb2).mono HB.out.size)); have HVx := Lib.hid (((hb2).block _ (Array.getElem?_eq_some_iff.1 HV.out).1).trans HV.out); clear HB HV; have HB := HBx; have HV := HVx; clear HBx HVx; (try clear v0 v1 v2 v3); have v0 := cell_of_row _ _ 0 _ _ _ HV.out; have v1 := cell_of_row _ _ 1 _ _ _ HV.out; have v2 := cell_of_row _ _ 2 _ _ _ HV.out; have v3 := cell_of_row _ _ 3 _ _ _ HV.out); clear hb2) | (go_at_call 9; refine (HGR.out _ HB.out).mono ?_; rintro e w2 ⟨rfl, hb2⟩; (have HBx := Lib.hid (HB.out.trans ((hb2).mono HB.out.size)); have HVx := Lib.hid (((hb2).block _ (Array.getElem?_eq_some_iff.1 HV.out).1).trans HV.out); clear HB HV; have HB := HBx; have HV := HVx; clear HBx HVx; (try clear v0 v1 v2 v3); have v0 := cell_of_row _ _ 0 _ _ _ HV.out; have v1 := cell_of_row _ _ 1 _ _ _ HV.out; have v2 := cell_of_row _ _ 2 _ _ _ HV.out; have v3 := cell_of_row _ _ 3 _ _ _ HV.out); clear hb2) | (go_at_call 5; refine (HKN.out _ HB.out).mono ?_; rintro e w2 ⟨rfl, hb2⟩; (have HBx := Lib.hid (HB.out.trans ((hb2).mono HB.out.size)); have HVx := Lib.hid (((hb2).block _ (Array.getElem?_eq_some_iff.1 HV.out).1).trans HV.out); clear HB HV; have HB := HBx; have HV := HVx; clear HBx HVx; (try clear v0 v1 v2 v3); have v0 := cell_of_row _ _ 0 _ _ _ HV.out; have v1 := cell_of_row _ _ 1 _ _ _ HV.out; have v2 := cell_of_row _ _ 2 _ _ _ HV.out; have v3 := cell_of_row _ _ 3 _ _ _ HV.out); clear hb2))
    go_ret
    exact ⟨rfl, HB.out⟩
  have a6 : (denB dn d && ((dn : Int) == N)) = false := by
    rw [Bool.and_eq_false_iff]
    cases e : denB dn d
    · exact .inl rfl
    · refine .inr ?_
      rw [beq_eq_false_iff_ne]
      intro e2
      exact hno ⟨a1, a2, a3, rfl, a5, e, e2⟩
  rw [a6] at HDE
  have a5' : ((sn : Int) == N) = true := by rw [beq_iff_eq]; exact a5
  subst a5
  clear hv hno
  go_enter Tryz.func4, Tryz.ntmps4; go_upto_region 1 with (fail); have HB := Lib.hid (rk_below w (.cells #[.int .i64 v.nx, .int .i64 v.ny, .int .i64 v.nz, .int .i64 v.size] 23)); have HV := Lib.hid (heap_alloc_new w (.cells #[.int .i64 v.nx, .int .i64 v.ny, .int .i64 v.nz, .int .i64 v.size] 23)); generalize World.alloc w _ = V at *; (try clear v0 v1 v2 v3); have v0 := cell_of_row _ _ 0 _ _ _ HV.out; have v1 := cell_of_row _ _ 1 _ _ _ HV.out; have v2 := cell_of_row _ _ 2 _ _ _ HV.out; have v3 := cell_of_row _ _ 3 _ _ _ HV.out
  go_wp2_with (first | (go_at_call 7; refine (HVO.out _).mono ?_; rintro e w2 ⟨rfl, hb2⟩; (have HBx := Lib.hid (HB.out.trans ((hb2).mono HB.out.size)); have HVx := Lib.hid (((hb2).block _ (Array.getElem?_eq_some_iff.1 HV.out).1).trans HV.out); clear HB HV; have HB := HBx; have HV := HVx; clear HBx HVx; (try clear v0 v1 v2 v3); have v0 := cell_of_row _ _ 0 _ _ _ HV.out; have v1 := cell_of_row _ _ 1 _ _ _ HV.out; have v2 := cell_of_row _ _ 2 _ _ _ HV.out; have v3 := cell_of_row _ _ 3 _ _ _ HV.out); clear hb2) | (go_at_call 15; refine (HCE.out _).mono ?_; rintro e w2 ⟨rfl, hb2⟩; (have HBx := Lib.hid (HB.out.trans ((hb2).mono HB.out.size)); have HVx := Lib.hid (((hb2).block _ (Array.getElem?_eq_some_iff.1 HV.out).1).trans HV.out); clear HB HV; have HB := HBx; have HV := HVx; clear HBx HVx; (try clear v0 v1 v2 v3); have v0 := cell_of_row _ _ 0 _ _ _ HV.out; have v1 := cell_of_row _ _ 1 _ _ _ HV.out; have v2 := cell_of_row _ _ 2 _ _ _ HV.out; have v3 := cell_of_row _ _ 3 _ _ _ HV.out); clear hb2) | (go_at_call 9; refine (HGR.out _ HB.out).mono ?_; rintro e w2 ⟨rfl, hb2⟩; (have HBx := Lib.hid (HB.out.trans ((hb2).mono HB.out.size)); have HVx := Lib.hid (((hb2).block _ (Array.getElem?_eq_some_iff.1 HV.out).1).trans HV.out); clear HB HV; have HB := HBx; have HV := HVx; clear HBx HVx; (try clear v0 v1 v2 v3); have v0 := cell_of_row _ _ 0 _ _ _ HV.out; have v1 := cell_of_row _ _ 1 _ _ _ HV.out; have v2 := cell_of_row _ _ 2 _ _ _ HV.out; have v3 := cell_of_row _ _ 3 _ _ _ HV.out); clear hb2) | (go_at_call 12; refine (HDE.out _ HB.out).mono ?_; rintro e w2 ⟨rfl, hb2⟩; (have HBx := Lib.hid (HB.out.trans ((hb2).mono HB.out.size)); have HVx := Lib.hid (((hb2).block _ (Array.getElem?_eq_some_iff.1 HV.out).1).trans HV.out); clear HB HV; have HB := HBx; have HV := HVx; clear HBx HVx; (try clear v0 v1 v2 v3); have v0 := cell_of_row _ _ 0 _ _ _ HV.out; have v1 := cell_of_row _ _ 1 _ _ _ HV.out; have v2 := cell_of_row _ _ 2 _ _ _ HV.out; have v3 := cell_of_row _ _ 3 _ _ _ HV.out); clear hb2) | (go_at_call 5; refine (HKN.out _ HB.out).mono ?_; rintro e w2 ⟨rfl, hb2⟩; (have HBx := Lib.hid (HB.out.trans ((hb2).mono HB.out.size)); have HVx := Lib.hid (((hb2).block _ (Array.getElem?_eq_some_iff.1 HV.out).1).trans HV.out); clear HB HV; have HB := HBx; have HV := HVx; clear HBx HVx; (try clear v0 v1 v2 v3); have v0 := cell_of_row _ _ 0 _ _ _ HV.out; have v1 := cell_of_row _ _ 1 _ _ _ HV.out; have v2 := cell_of_row _ _ 2 _ _ _ HV.out; have v3 := cell_of_row _ _ 3 _ _ _ HV.out); clear hb2))
  go_ret
  exact ⟨rfl, HB.out⟩
end Go.Proofs.YtkdopjkdokgipaaGreatDoor
