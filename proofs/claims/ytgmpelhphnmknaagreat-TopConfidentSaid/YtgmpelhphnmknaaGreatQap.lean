/- Texts put together: RkR, SpLaw, SpLawB. -/
import Derived.Test.YtgmpelhphnmknaaGreatQam
import Derived.Test.YtgmpelhphnmknaaGreatQaa
set_option maxRecDepth 100000
set_option maxHeartbeats 8000000
set_option linter.unusedVariables false
set_option linter.unusedSimpArgs false
namespace Go.Proofs.YtgmpelhphnmknaaGreat
open Go.RowKit
theorem r6in_any (x a b : Int) (w : World) : Calls Tryz.prog 56 #[.int .i64 x, .int .i64 a, .int .i64 b] w fun e w' => e = .returned (.bool (inB x a b)) ∧ w = w' := by
 by_cases h1 : a ≤ x
 ·by_cases h2 : x ≤ b
  ·have HE := Hd (inB_iff.2 ⟨h1, h2⟩)
   go_enter Tryz.func56, Tryz.ntmps56
   go_wp2
   go_ret
   exact ⟨ret_bool HE.out.symm, rfl⟩
  ·have HE := Hd (show inB x a b = false from by cases e : inB x a b; rfl; have := inB_iff.1 e; omega)
   go_enter Tryz.func56, Tryz.ntmps56
   go_wp2
   go_ret
   exact ⟨ret_bool HE.out.symm, rfl⟩
 ·have HE := Hd (show inB x a b = false from by cases e : inB x a b; rfl; have := inB_iff.1 e; omega)
  go_enter Tryz.func56, Tryz.ntmps56
  go_wp2
  go_ret
  exact ⟨ret_bool HE.out.symm, rfl⟩
theorem r6Volume_any (v : VO) (w : World) : Calls Tryz.prog 20 #[v.val] w fun e w' => e = .returned (.bool (volB v)) ∧ Below w.heap.size w w' := by
 have HV := Hd (show volB v = ((((inB v.nx 1 12 && inB v.ny 1 12) && inB v.nz 1 12) && decide (v.nx * v.ny * v.nz ≤ 600)) && inB v.size 1 1000) from rfl)
 have HI := Hd (show inB v.nx 1 12 = true → inB v.ny 1 12 = true → inB v.nz 1 12 = true → (-144 ≤ v.nx * v.ny ∧ v.nx * v.ny ≤ 144) ∧ (-1728 ≤ v.nx * v.ny * v.nz ∧ v.nx * v.ny * v.nz ≤ 1728) from fun h1 h2 h3 => by
  have h1 := inB_iff.1 h1
  have h2 := inB_iff.1 h2
  have h3 := inB_iff.1 h3
  have h4 := rk_mul_abs (x := v.nx) (y := v.ny) (K := 12) (M := 12) (by decide) (by decide) (by omega) (by omega)
  have h5 := rk_mul_abs (x := v.nx * v.ny) (y := v.nz) (K := 144) (M := 12) (by decide) (by decide) (by omega) (by omega)
  omega)
 generalize volB v = RES at *
 unfold VO.val
 obtain ⟨nx, ny, nz, size⟩ := v
 dsimp only at *
 go_enter Tryz.func20, Tryz.ntmps20
 go_upto_region 1 with (fail)
 have HB := Hd (rk_below w (.cells #[.int .i64 nx, .int .i64 ny, .int .i64 nz, .int .i64 size] 23))
 have hn := heap_alloc_new w (.cells #[.int .i64 nx, .int .i64 ny, .int .i64 nz, .int .i64 size] 23)
 generalize World.alloc w _ = V at *
 obtain ⟨k0, k1, k2, k3⟩ := cr4 hn
 clear hn
 obtain ⟨b1, hb1⟩ : ∃ b, inB nx 1 12 = b := ⟨_, rfl⟩
 cases b1
 ·rw [hb1] at HV
  simp only [Bool.false_and] at HV
  go_wp2_with (go_at_call 56; refine (r6in_any _ _ _ _).mono ?_; rintro e w' ⟨rfl, rfl⟩; rw [hb1])
  go_ret
  exact ⟨ret_bool HV.out.symm, HB.out⟩
 obtain ⟨b2, hb2⟩ : ∃ b, inB ny 1 12 = b := ⟨_, rfl⟩
 cases b2
 ·rw [hb1, hb2] at HV
  simp only [Bool.false_and, Bool.true_and] at HV
  go_wp2_with (go_at_call 56; refine (r6in_any _ _ _ _).mono ?_; rintro e w' ⟨rfl, rfl⟩; first | rw [hb1] | rw [hb2])
  go_ret
  exact ⟨ret_bool HV.out.symm, HB.out⟩
 obtain ⟨b3, hb3⟩ : ∃ b, inB nz 1 12 = b := ⟨_, rfl⟩
 cases b3
 ·rw [hb1, hb2, hb3] at HV
  simp only [Bool.false_and, Bool.true_and] at HV
  go_wp2_with (go_at_call 56; refine (r6in_any _ _ _ _).mono ?_; rintro e w' ⟨rfl, rfl⟩; first | rw [hb1] | rw [hb2] | rw [hb3])
  go_ret
  exact ⟨ret_bool HV.out.symm, HB.out⟩
 obtain ⟨⟨m1, m2⟩, m3, m4⟩ := HI.out hb1 hb2 hb3
 rw [hb1, hb2, hb3] at HV
 simp only [Bool.true_and] at HV
 clear HI
 generalize hp : nx * ny = pq at *
 generalize hq : pq * nz = pqr at *
 by_cases h6 : pqr ≤ 600
 ·rw [decide_eq_true h6, Bool.true_and] at HV
  generalize hb5 : inB size 1 1000 = b5 at *
  go_wp2_with (go_at_call 56; refine (r6in_any _ _ _ _).mono ?_; rintro e w' ⟨rfl, rfl⟩; first | rw [hb1] | rw [hb2] | rw [hb3] | rw [hb5])
  go_ret
  exact ⟨ret_bool HV.out.symm, HB.out⟩
 ·rw [decide_eq_false h6, Bool.false_and] at HV
  go_wp2_with (go_at_call 56; refine (r6in_any _ _ _ _).mono ?_; rintro e w' ⟨rfl, rfl⟩; first | rw [hb1] | rw [hb2] | rw [hb3])
  go_ret
  exact ⟨ret_bool HV.out.symm, HB.out⟩
theorem r6Ray_any (r : RY) (w : World) : Calls Tryz.prog 33 #[r.val] w fun e w' => e = .returned (.bool (rayB r)) ∧ Below w.heap.size w w' := by
 have HV := Hd (show rayB r = (((inB r.x (-100000) 100000 && inB r.y (-100000) 100000) && inB r.z (-100000) 100000) && (((inB r.dx (-60) 60 && inB r.dy (-60) 60) && inB r.dz (-60) 60) && ((r.dx != 0 || r.dy != 0) || r.dz != 0))) from rfl)
 generalize rayB r = RES at *
 unfold RY.val
 obtain ⟨x, y, z, dx, dy, dz⟩ := r
 dsimp only at *
 go_enter Tryz.func33, Tryz.ntmps33
 go_upto_region 1 with (fail)
 have HB := Hd (rk_below w (.cells #[.int .i64 x, .int .i64 y, .int .i64 z, .int .i64 dx, .int .i64 dy, .int .i64 dz] 33))
 have hn := heap_alloc_new w (.cells #[.int .i64 x, .int .i64 y, .int .i64 z, .int .i64 dx, .int .i64 dy, .int .i64 dz] 33)
 generalize World.alloc w _ = V at *
 obtain ⟨k0, k1, k2, k3, k4, k5⟩ := cr6 hn
 clear hn
 obtain ⟨b1, hb1⟩ : ∃ b, inB x (-100000) 100000 = b := ⟨_, rfl⟩
 cases b1
 ·have HE := Hd (show RES = false from by rw [HV.out, hb1]; simp)
  go_wp2_with (go_at_call 56; refine (r6in_any _ _ _ _).mono ?_; rintro e w' ⟨rfl, rfl⟩; first | rw [hb1])
  go_ret
  exact ⟨ret_bool HE.out.symm, HB.out⟩
 obtain ⟨b2, hb2⟩ : ∃ b, inB y (-100000) 100000 = b := ⟨_, rfl⟩
 cases b2
 ·have HE := Hd (show RES = false from by rw [HV.out, hb1, hb2]; simp)
  go_wp2_with (go_at_call 56; refine (r6in_any _ _ _ _).mono ?_; rintro e w' ⟨rfl, rfl⟩; first | rw [hb1] | rw [hb2])
  go_ret
  exact ⟨ret_bool HE.out.symm, HB.out⟩
 obtain ⟨b3, hb3⟩ : ∃ b, inB z (-100000) 100000 = b := ⟨_, rfl⟩
 cases b3
 ·have HE := Hd (show RES = false from by rw [HV.out, hb1, hb2, hb3]; simp)
  go_wp2_with (go_at_call 56; refine (r6in_any _ _ _ _).mono ?_; rintro e w' ⟨rfl, rfl⟩; first | rw [hb1] | rw [hb2] | rw [hb3])
  go_ret
  exact ⟨ret_bool HE.out.symm, HB.out⟩
 obtain ⟨b4, hb4⟩ : ∃ b, inB dx (-60) 60 = b := ⟨_, rfl⟩
 cases b4
 ·have HE := Hd (show RES = false from by rw [HV.out, hb1, hb2, hb3, hb4]; simp)
  go_wp2_with (go_at_call 56; refine (r6in_any _ _ _ _).mono ?_; rintro e w' ⟨rfl, rfl⟩; first | rw [hb1] | rw [hb2] | rw [hb3] | rw [hb4])
  go_ret
  exact ⟨ret_bool HE.out.symm, HB.out⟩
 obtain ⟨b5, hb5⟩ : ∃ b, inB dy (-60) 60 = b := ⟨_, rfl⟩
 cases b5
 ·have HE := Hd (show RES = false from by rw [HV.out, hb1, hb2, hb3, hb4, hb5]; simp)
  go_wp2_with (go_at_call 56; refine (r6in_any _ _ _ _).mono ?_; rintro e w' ⟨rfl, rfl⟩; first | rw [hb1] | rw [hb2] | rw [hb3] | rw [hb4] | rw [hb5])
  go_ret
  exact ⟨ret_bool HE.out.symm, HB.out⟩
 obtain ⟨b6, hb6⟩ : ∃ b, inB dz (-60) 60 = b := ⟨_, rfl⟩
 cases b6
 ·have HE := Hd (show RES = false from by rw [HV.out, hb1, hb2, hb3, hb4, hb5, hb6]; simp)
  go_wp2_with (go_at_call 56; refine (r6in_any _ _ _ _).mono ?_; rintro e w' ⟨rfl, rfl⟩; first | rw [hb1] | rw [hb2] | rw [hb3] | rw [hb4] | rw [hb5] | rw [hb6])
  go_ret
  exact ⟨ret_bool HE.out.symm, HB.out⟩
 have HT := Hd (show RES = ((dx != 0 || dy != 0) || dz != 0) from by rw [HV.out, hb1, hb2, hb3, hb4, hb5, hb6]; simp)
 by_cases e4 : dx = 0
 ·by_cases e5 : dy = 0
  ·have HE := Hd (show RES = (dz != 0) from by rw [HT.out, e4, e5]; simp)
   subst e4 e5
   go_wp2_with (go_at_call 56; refine (r6in_any _ _ _ _).mono ?_; rintro e w' ⟨rfl, rfl⟩; first | rw [hb1] | rw [hb2] | rw [hb3] | rw [hb4] | rw [hb5] | rw [hb6])
   go_ret
   exact ⟨ret_bool HE.out.symm, HB.out⟩
  ·have HE := Hd (show RES = true from by rw [HT.out]; simp [e5])
   subst e4
   go_wp2_with (go_at_call 56; refine (r6in_any _ _ _ _).mono ?_; rintro e w' ⟨rfl, rfl⟩; first | rw [hb1] | rw [hb2] | rw [hb3] | rw [hb4] | rw [hb5] | rw [hb6])
   go_ret
   exact ⟨ret_bool HE.out.symm, HB.out⟩
 ·have HE := Hd (show RES = true from by rw [HT.out]; simp [e4])
  go_wp2_with (go_at_call 56; refine (r6in_any _ _ _ _).mono ?_; rintro e w' ⟨rfl, rfl⟩; first | rw [hb1] | rw [hb2] | rw [hb3] | rw [hb4] | rw [hb5] | rw [hb6])
  go_ret
  exact ⟨ret_bool HE.out.symm, HB.out⟩
theorem r6Cells_any (v : VO) (hv : v.Ok) (w : World) : Calls Tryz.prog 22 #[v.val] w fun e w' => e = .returned (.int .i64 (v.nx * v.ny * v.nz)) ∧ Below w.heap.size w w' := by
 have hm1 := rk_mul_abs (x := v.nx) (y := v.ny) (K := 12) (M := 12) (by decide) (by decide) (by have := hv.x; omega) (by have := hv.y; omega)
 have hm2 := rk_mul_abs (x := v.nx * v.ny) (y := v.nz) (K := 144) (M := 12) (by decide) (by decide) (by omega) (by have := hv.z; omega)
 unfold VO.val
 obtain ⟨nx, ny, nz, size⟩ := v
 dsimp only at *
 clear hv
 generalize hxy : nx * ny = xy at *
 generalize hxyz : xy * nz = xyz at *
 go_enter Tryz.func22, Tryz.ntmps22
 go_upto_region 1 with (fail)
 have HB := Hd (rk_below w (.cells #[.int .i64 nx, .int .i64 ny, .int .i64 nz, .int .i64 size] 23))
 have hn := heap_alloc_new w (.cells #[.int .i64 nx, .int .i64 ny, .int .i64 nz, .int .i64 size] 23)
 generalize World.alloc w _ = V at *
 obtain ⟨k0, k1, k2⟩ := cr3 hn
 clear hn
 go_wp2
 go_ret
 exact ⟨rfl, HB.out⟩
theorem r6Columns_any (v : VO) (hv : v.Ok) (w : World) : Calls Tryz.prog 57 #[v.val] w fun e w' => e = .returned (.int .i64 (v.nx * v.ny)) ∧ Below w.heap.size w w' := by
 have hm1 := rk_mul_abs (x := v.nx) (y := v.ny) (K := 12) (M := 12) (by decide) (by decide) (by have := hv.x; omega) (by have := hv.y; omega)
 unfold VO.val
 obtain ⟨nx, ny, nz, size⟩ := v
 dsimp only at *
 clear hv
 generalize hxy : nx * ny = xy at *
 go_enter Tryz.func57, Tryz.ntmps57
 go_upto_region 1 with (fail)
 have HB := Hd (rk_below w (.cells #[.int .i64 nx, .int .i64 ny, .int .i64 nz, .int .i64 size] 23))
 have hn := heap_alloc_new w (.cells #[.int .i64 nx, .int .i64 ny, .int .i64 nz, .int .i64 size] 23)
 generalize World.alloc w _ = V at *
 obtain ⟨k0, k1⟩ := cr2 hn
 clear hn
 go_wp2
 go_ret
 exact ⟨rfl, HB.out⟩
theorem r6Ground_any (v : VO) (hv : v.Ok) (ga : Option Addr) (n gc : Nat) (g : Nat → Int) (w : World) (hn : n ≤ maxLen) (hG : Ints w.heap.size w ga n g) :
  Calls Tryz.prog 21 #[v.val, .slice ga n gc] w fun e w' => e = .returned (.bool (grB v n g)) ∧ Below w.heap.size w w' := by
 have HG := Lib.hid hG
 have HNO := Hd (fun (i : Nat) (hi : i < n) (h : inB (g i) 0 (v.nz * v.size) = false) => show grB v n g = false from by unfold grB; rw [allUpto_false hi h, Bool.false_and])
 have HYES := Hd (fun (h : ∀ i, i < n → inB (g i) 0 (v.nz * v.size) = true) => show grB v n g = ((n : Int) == v.nx * v.ny) from by unfold grB; rw [allUpto_true h, Bool.true_and])
 have hm1 := rk_mul_abs (x := v.nz) (y := v.size) (K := 12) (M := 1000) (by decide) (by decide) (by have := hv.z; omega) (by have := hv.size; omega)
 have HCO := Hd (fun (W : World) => r6Columns_any v hv W)
 unfold maxLen at hn
 generalize grB v n g = RES at *
 unfold VO.val at HCO
 unfold VO.val
 generalize hcnt : v.nx * v.ny = cnt at *
 obtain ⟨nx, ny, nz, size⟩ := v
 dsimp only at *
 generalize hzs : nz * size = zs at *
 clear hG hv
 go_enter Tryz.func21, Tryz.ntmps21
 go_upto_region 1 with (fail)
 have HB := Hd (rk_below w (.cells #[.int .i64 nx, .int .i64 ny, .int .i64 nz, .int .i64 size] 23))
 have hnn := heap_alloc_new w (.cells #[.int .i64 nx, .int .i64 ny, .int .i64 nz, .int .i64 size] 23)
 have hsz : (w.alloc (.cells #[.int .i64 nx, .int .i64 ny, .int .i64 nz, .int .i64 size] 23)).heap.size = w.heap.size + 1 := by simp
 generalize World.alloc w _ = V at *
 have HL := Lib.hid hnn
 clear hnn hsz
 go_wp2
 go_loopw [5] (fun s wr => ∃ i : Nat, i ≤ n ∧ s = .int .i64 (i : Int) ∧ Hid (∀ j, j < i → inB (g j) 0 zs = true) ∧ Hid (Below V.heap.size V wr)) (fun s _ => n - (intOf s).toNat)
 case atStart => exact ⟨0, Nat.zero_le _, rfl, Hd (fun j hj => by omega), Hd (Below.refl _ _)⟩
 case round =>
  obtain ⟨i, hi, rfl, HA, HW⟩ := hrel
  have HLr := Hd ((HW.out.block _ (blkL HL.out)).trans HL.out)
  have HBr := Hd (HB.out.trans (HW.out.mono HB.out.size))
  obtain ⟨k0, k1, k2, k3⟩ := cr4 HLr.out
  have hVlt := Nat.lt_of_lt_of_le (blkL HL.out) HW.out.size
  by_cases hlt : i < n
  ·have hlt' : (i : Int) < (n : Int) := by omega
   obtain ⟨gb, go, rfl, hgl, hgc⟩ := HG.out.get hlt
   have hg1 := ((bcell HBr.out).1 gb (go + i) hgl).trans hgc
   have hgl2 : gb < wr.heap.size := by have := HBr.out.size; omega
   clear hgc
   cases hb : inB (g i) 0 zs
   ·have HE := Hd (HNO.out i hlt hb)
    go_upto_region 4 with (fail)
    (refine wp_region_calm (wr.heap.size) (by kernel_rfl) (by kernel_rfl) ?_; (repeat (first | go_big_quiet_step ((go_at_call 56; exact Calls.calm_same (r6in_any _ _ _ _))) | quiet_step ((go_at_call 56; exact Calls.calm_same (r6in_any _ _ _ _))))); refine wpQuiet_nil (wqn ?_); intro xq)
    rw [hb]
    go_wp2
    go_ret
    exact ⟨ret_bool HE.out.symm, HBr.out.trans ((Calm.below _).mono HBr.out.size)⟩
   ·have HA2 := Hd (fun j (hj : j < i + 1) => show inB (g j) 0 zs = true from (by by_cases e : j = i; (subst e; exact hb); exact HA.out j (by omega)))
    go_upto_region 4 with (fail)
    (refine wp_region_calm (wr.heap.size) (by kernel_rfl) (by kernel_rfl) ?_; (repeat (first | go_big_quiet_step ((go_at_call 56; exact Calls.calm_same (r6in_any _ _ _ _))) | quiet_step ((go_at_call 56; exact Calls.calm_same (r6in_any _ _ _ _))))); refine wpQuiet_nil (wqn ?_); intro xq)
    rw [hb]
    go_wp2
    have HW2 := Hd (HW.out.trans ((Calm.below xq).mono HW.out.size))
    go_roundw
    case rel => exact ⟨i + 1, by omega, by go_num, HA2, HW2⟩
    case measure => simp [intOf]; omega
  ·obtain rfl : i = n := by omega
   have hlt' : ¬ (i : Int) < (i : Int) := by omega
   have HE := Hd (HYES.out HA.out)
   go_wp2_with (go_at_call 57; refine (HCO.out _).mono ?_; rintro e w2 ⟨rfl, hb2⟩; have HBX := Hd (HBr.out.trans (hb2.mono HBr.out.size)); clear hb2)
   go_ret
   exact ⟨ret_bool HE.out.symm, HBX.out⟩
end Go.Proofs.YtgmpelhphnmknaaGreat
namespace Go.Proofs.YtgmpelhphnmknaaGreat
open Go.RowKit
def putS : List Int → Int → List Int
 | [], n => [n]
 | x :: l, n => if x < n then x :: putS l n else if x = n then x :: l else n :: x :: l
theorem putS_at : ∀ (l : List Int) (n : Int) (k : Nat), k ≤ l.length → (∀ j, j < k → l.getD j 0 < n) → (k < l.length → n ≤ l.getD k 0) → putS l n = if k < l.length ∧ l.getD k 0 = n then l else l.take k ++ n :: l.drop k
 | [], n, k, hk, _, _ => by
  have : k = 0 := by simpa using hk
  subst this
  simp [putS]
 | x :: l, n, 0, _, _, h => by
  have h1 := h (by simp)
  have h2 : (x :: l).getD 0 0 = x := rfl
  rw [h2] at h1 ⊢
  unfold putS
  rw [if_neg (show ¬ x < n by omega)]
  by_cases e : x = n
  ·rw [if_pos e, if_pos ⟨by simp, e⟩]
  ·rw [if_neg e, if_neg (fun h => e h.2)]
   rfl
 | x :: l, n, k + 1, hk, h1, h2 => by
  have h3 := h1 0 (by omega)
  have e0 : (x :: l).getD 0 0 = x := rfl
  have e1 : ∀ j, (x :: l).getD (j + 1) 0 = l.getD j 0 := fun j => rfl
  rw [e0] at h3
  have ih := putS_at l n k (by simp at hk; omega) (fun j hj => by have := h1 (j + 1) (by omega); rwa [e1] at this) (fun h => by have := h2 (by simp; omega); rwa [e1] at this)
  unfold putS
  rw [if_pos h3, ih, e1]
  by_cases e : k < l.length ∧ l.getD k 0 = n
  ·rw [if_pos e, if_pos ⟨by simp; omega, e.2⟩]
  ·rw [if_neg e, if_neg (fun h => e ⟨by simpa using h.1, h.2⟩)]
   rfl
theorem putS_mem : ∀ (l : List Int) (n x : Int), x ∈ putS l n ↔ x = n ∨ x ∈ l
 | [], n, x => by simp [putS]
 | y :: l, n, x => by
  unfold putS
  split
  ·rw [List.mem_cons, putS_mem l n x, List.mem_cons]
   constructor
   ·rintro (h | h | h)
    ·exact .inr (.inl h)
    ·exact .inl h
    ·exact .inr (.inr h)
   ·rintro (h | h | h)
    ·exact .inr (.inl h)
    ·exact .inl h
    ·exact .inr (.inr h)
  ·split
   ·rename_i h1 h2
    subst h2
    simp
   ·simp
theorem putS_sorted : ∀ (l : List Int) (n : Int), l.Pairwise (· < ·) → (putS l n).Pairwise (· < ·)
 | [], n, _ => by simp [putS]
 | y :: l, n, h => by
  have h1 := List.pairwise_cons.1 h
  unfold putS
  split
  ·rename_i hy
   refine List.pairwise_cons.2 ⟨fun x hx => ?_, putS_sorted l n h1.2⟩
   rcases (putS_mem l n x).1 hx with e | e
   ·subst e; exact hy
   ·exact h1.1 x e
  ·split
   ·exact h
   ·rename_i h2 h3
    refine List.pairwise_cons.2 ⟨fun x hx => ?_, h⟩
    rcases List.mem_cons.1 hx with e | e
    ·subst e; omega
    ·have := h1.1 x e; omega
theorem putS_len (l : List Int) (n : Int) : (putS l n).length ≤ l.length + 1 := by
 induction l with
 | nil => simp [putS]
 | cons x l ih =>
  unfold putS
  split
  ·simp; omega
  ·split <;> simp
theorem ssorted_ext {α : Type} (k : α → Int) : ∀ (l1 l2 : List α), l1.Pairwise (fun x y => k x < k y) → l2.Pairwise (fun x y => k x < k y) → (∀ x, x ∈ l1 ↔ x ∈ l2) → l1 = l2
 | [], [], _, _, _ => rfl
 | [], y :: l2, _, _, h => absurd ((h y).2 (by simp)) (by simp)
 | x :: l1, [], _, _, h => absurd ((h x).1 (by simp)) (by simp)
 | x :: l1, y :: l2, h1, h2, h => by
  have p1 := List.pairwise_cons.1 h1
  have p2 := List.pairwise_cons.1 h2
  have e : x = y := by
   rcases List.mem_cons.1 ((h x).1 (by simp)) with e | e
   ·exact e
   ·rcases List.mem_cons.1 ((h y).2 (by simp)) with e2 | e2
    ·exact e2.symm
    ·have := p2.1 x e; have := p1.1 y e2; omega
  subst e
  congr 1
  refine ssorted_ext k l1 l2 p1.2 p2.2 fun z => ⟨fun hz => ?_, fun hz => ?_⟩
  ·rcases List.mem_cons.1 ((h z).1 (List.mem_cons_of_mem _ hz)) with e | e
   ·subst e; have := p1.1 z hz; omega
   ·exact e
  ·rcases List.mem_cons.1 ((h z).2 (List.mem_cons_of_mem _ hz)) with e | e
   ·subst e; have := p2.1 z hz; omega
   ·exact e
theorem tkS_dvd (out : Nat) (d : Int) : out ∣ tkS out d ∧ (d ≠ 0 → d.natAbs ∣ tkS out d) := by
 unfold tkS
 by_cases e : d.natAbs = 0
 ·rw [if_pos e]
  exact ⟨Nat.dvd_refl _, fun h => absurd (Int.natAbs_eq_zero.1 e) h⟩
 ·rw [if_neg e]
  refine ⟨?_, fun _ => Nat.dvd_mul_left _ _⟩
  have h1 := Nat.gcd_dvd_left out d.natAbs
  have h2 := Nat.gcd_dvd_right out d.natAbs
  have h3 : 0 < Nat.gcd out d.natAbs := Nat.gcd_pos_of_pos_right _ (by omega)
  generalize Nat.gcd out d.natAbs = g at *
  obtain ⟨a, ha⟩ := h1
  obtain ⟨b, hb⟩ := h2
  refine ⟨b, ?_⟩
  rw [hb, ha, Nat.mul_div_cancel_left _ h3, ← Nat.mul_assoc, Nat.mul_comm a g]
theorem ax_dvd (v : VO) (r : RY) (i : Nat) (h : (axF v r i).t ≠ 0) : (axF v r i).t ∣ (tkF r : Int) := by
 have key : ∀ (d : Int), d.natAbs ∣ tkF r → d ∣ (tkF r : Int) := fun d hd => by
  rw [← Int.natAbs_dvd]
  exact Int.natCast_dvd_natCast.2 hd
 refine key _ ?_
 show (axF v r i).t.natAbs ∣ tkS (tkS (tkS 1 r.dx) r.dy) r.dz
 match i, h with
 | 0, h => exact Nat.dvd_trans ((tkS_dvd 1 r.dx).2 h) (Nat.dvd_trans (tkS_dvd _ r.dy).1 (tkS_dvd _ r.dz).1)
 | 1, h => exact Nat.dvd_trans ((tkS_dvd _ r.dy).2 h) (tkS_dvd _ r.dz).1
 | n + 2, h => exact (tkS_dvd _ r.dz).2 h
theorem wh_eq (v : VO) (r : RY) (i : Nat) (h : (axF v r i).t ≠ 0) (p : Int) : whF (tkF r) (axF v r i) p = (p - (axF v r i).b) * (tkF r : Int).tdiv (axF v r i).t := by
 unfold whF
 rw [Int.mul_tdiv_assoc _ (ax_dvd v r i h)]
theorem wh_exact (v : VO) (r : RY) (i : Nat) (h : (axF v r i).t ≠ 0) (p : Int) : (axF v r i).t * whF (tkF r) (axF v r i) p = (p - (axF v r i).b) * (tkF r : Int) := by
 rw [wh_eq v r i h]
 obtain ⟨c, hc⟩ := ax_dvd v r i h
 rw [hc, Int.mul_tdiv_cancel_left _ h, Int.mul_left_comm]
def crL (f : Nat → Int) : Nat → List Int → List Int
 | 0, l => l
 | k + 1, l => if 0 < f k then putS (crL f k l) (f k) else crL f k l
theorem crL_mem (f : Nat → Int) (l : List Int) (x : Int) : ∀ k, x ∈ crL f k l ↔ x ∈ l ∨ ∃ j, j < k ∧ 0 < f j ∧ x = f j
 | 0 => by simp [crL]
 | k + 1 => by
  rw [crL]
  constructor
  ·intro h
   split at h
   ·rename_i hp
    rcases (putS_mem _ _ _).1 h with e | e
    ·exact .inr ⟨k, by omega, hp, e⟩
    ·rcases (crL_mem f l x k).1 e with e2 | ⟨j, h1, h2⟩
     ·exact .inl e2
     ·exact .inr ⟨j, by omega, h2⟩
   ·rcases (crL_mem f l x k).1 h with e2 | ⟨j, h1, h2⟩
    ·exact .inl e2
    ·exact .inr ⟨j, by omega, h2⟩
  ·intro h
   have h0 : (x ∈ crL f k l) ∨ (0 < f k ∧ x = f k) := by
    rcases h with h | ⟨j, h1, h2, h3⟩
    ·exact .inl ((crL_mem f l x k).2 (.inl h))
    ·by_cases e : j = k
     ·subst e; exact .inr ⟨h2, h3⟩
     ·exact .inl ((crL_mem f l x k).2 (.inr ⟨j, by omega, h2, h3⟩))
   split
   ·rcases h0 with h0 | h0
    ·exact (putS_mem _ _ _).2 (.inr h0)
    ·exact (putS_mem _ _ _).2 (.inl h0.2)
   ·rename_i hp
    rcases h0 with h0 | h0
    ·exact h0
    ·exact absurd h0.1 hp
theorem crL_sorted (f : Nat → Int) (l : List Int) (h : l.Pairwise (· < ·)) : ∀ k, (crL f k l).Pairwise (· < ·)
 | 0 => h
 | k + 1 => by
  rw [crL]
  split
  ·exact putS_sorted _ _ (crL_sorted f l h k)
  ·exact crL_sorted f l h k
theorem crL_len (f : Nat → Int) (l : List Int) : ∀ k, (crL f k l).length ≤ l.length + k
 | 0 => Nat.le_refl _
 | k + 1 => by
  have := crL_len f l k
  rw [crL]
  split
  ·have := putS_len (crL f k l) (f k); omega
  ·omega
def rfK (T b t S : Int) (k : Nat) : Int := ((k : Int) * S - b) * T.tdiv t
def crX (T b t c S : Int) (l : List Int) : List Int := if t = 0 then l else crL (rfK T b t S) (c.toNat + 1) l
def crA (v : VO) (r : RY) (i : Nat) (l : List Int) : List Int := crX (tkF r) (axF v r i).b (axF v r i).t (axF v r i).c v.size l
def crR (v : VO) (r : RY) : Nat → List Int
 | 0 => [0]
 | i + 1 => crA v r i (crR v r i)
def Cnd (v : VO) (r : RY) (n : Nat) (x : Int) : Prop := ∃ i, i < n ∧ (axF v r i).t ≠ 0 ∧ ∃ k : Nat, k < (axF v r i).c.toNat + 1 ∧ x = whF (tkF r) (axF v r i) ((k : Int) * v.size)
theorem rfK_wh (v : VO) (r : RY) (i : Nat) (h : (axF v r i).t ≠ 0) (k : Nat) : rfK (tkF r) (axF v r i).b (axF v r i).t v.size k = whF (tkF r) (axF v r i) ((k : Int) * v.size) := (wh_eq v r i h _).symm
theorem crR_mem (v : VO) (r : RY) (x : Int) : ∀ n, x ∈ crR v r n ↔ x = 0 ∨ (0 < x ∧ Cnd v r n x)
 | 0 => by
  rw [crR, List.mem_singleton]
  exact ⟨fun h => .inl h, fun h => by rcases h with h | ⟨_, i, h, _⟩; exact h; omega⟩
 | n + 1 => by
  rw [crR]
  unfold crA crX
  by_cases e : (axF v r n).t = 0
  ·rw [if_pos e, crR_mem v r x n]
   constructor
   ·rintro (h | ⟨h0, i, h1, h2⟩)
    ·exact .inl h
    ·exact .inr ⟨h0, i, by omega, h2⟩
   ·rintro (h | ⟨h0, i, h1, h2, h3⟩)
    ·exact .inl h
    ·refine .inr ⟨h0, i, ?_, h2, h3⟩
     rcases Nat.lt_or_ge i n with h | h
     ·exact h
     ·have : i = n := by omega
      subst this
      exact absurd e h2
  ·rw [if_neg e, crL_mem, crR_mem v r x n]
   constructor
   ·rintro ((h | ⟨h0, i, h1, h2⟩) | ⟨j, h1, h2, h3⟩)
    ·exact .inl h
    ·exact .inr ⟨h0, i, by omega, h2⟩
    ·rw [rfK_wh v r n e] at h2 h3
     exact .inr ⟨by rw [h3]; exact h2, n, by omega, e, j, h1, h3⟩
   ·rintro (h | ⟨h0, i, h1, h2, j, h3, h4⟩)
    ·exact .inl (.inl h)
    ·by_cases ei : i = n
     ·subst ei
      refine .inr ⟨j, h3, ?_, ?_⟩
      ·rw [rfK_wh v r i e, ← h4]; exact h0
      ·rw [rfK_wh v r i e]; exact h4
     ·exact .inl (.inr ⟨h0, i, by omega, h2, j, h3, h4⟩)
theorem crR_sorted (v : VO) (r : RY) : ∀ n, (crR v r n).Pairwise (· < ·)
 | 0 => by simp [crR]
 | n + 1 => by
  rw [crR]
  unfold crA crX
  split
  ·exact crR_sorted v r n
  ·exact crL_sorted _ _ (crR_sorted v r n) _
theorem crR_len {v : VO} {r : RY} (hv : v.Ok) (hr : r.Ok) : ∀ n, (crR v r n).length ≤ 1 + 13 * n
 | 0 => by simp [crR]
 | n + 1 => by
  have h1 := crR_len hv hr n
  have h2 := (ax_bound hv hr n).2.2
  rw [crR]
  unfold crA crX
  split
  ·omega
  ·have := crL_len (rfK (tkF r) (axF v r n).b (axF v r n).t v.size) (crR v r n) ((axF v r n).c.toNat + 1)
   omega
def MinOf (at_ : Int) (S : Int → Prop) (b : Int) : Prop := (b = -1 ∧ ∀ t, S t → t ≤ at_) ∨ (S b ∧ at_ < b ∧ ∀ t, S t → at_ < t → b ≤ t)
theorem stp_min {at_ b t : Int} {S S' : Int → Prop} (h0 : 0 ≤ at_) (h : MinOf at_ S b) (hS : ∀ x, S' x ↔ S x ∨ x = t) : MinOf at_ S' (stp at_ b t) := by
 unfold stp
 by_cases h1 : at_ < t
 ·rcases h with ⟨h2, h3⟩ | ⟨h2, h3, h4⟩
  ·rw [if_pos ⟨h1, .inl (by omega)⟩]
   refine .inr ⟨(hS t).2 (.inr rfl), h1, fun x hx hl => ?_⟩
   rcases (hS x).1 hx with e | e
   ·have := h3 x e; omega
   ·omega
  ·by_cases h5 : t < b
   ·rw [if_pos ⟨h1, .inr h5⟩]
    refine .inr ⟨(hS t).2 (.inr rfl), h1, fun x hx hl => ?_⟩
    rcases (hS x).1 hx with e | e
    ·have := h4 x e hl; omega
    ·omega
   ·rw [if_neg (by omega)]
    refine .inr ⟨(hS b).2 (.inl h2), h3, fun x hx hl => ?_⟩
    rcases (hS x).1 hx with e | e
    ·exact h4 x e hl
    ·omega
 ·rw [if_neg (by omega)]
  rcases h with ⟨h2, h3⟩ | ⟨h2, h3, h4⟩
  ·refine .inl ⟨h2, fun x hx => ?_⟩
   rcases (hS x).1 hx with e | e
   ·exact h3 x e
   ·omega
  ·refine .inr ⟨(hS b).2 (.inl h2), h3, fun x hx hl => ?_⟩
   rcases (hS x).1 hx with e | e
   ·exact h4 x e hl
   ·omega
theorem nxK_min {f : Nat → Int} {at_ b : Int} {S : Int → Prop} (h0 : 0 ≤ at_) (h : MinOf at_ S b) : ∀ k, MinOf at_ (fun x => S x ∨ ∃ j, j < k ∧ x = f j) (nxK f at_ k b)
 | 0 => by
  have e : (fun x => S x ∨ ∃ j, j < 0 ∧ x = f j) = S := funext fun x => propext ⟨fun h => by rcases h with h | ⟨j, h, _⟩; exact h; omega, fun h => .inl h⟩
  rw [e]
  exact h
 | k + 1 => by
  rw [nxK]
  refine stp_min h0 (nxK_min h0 h k) fun x => ⟨?_, ?_⟩
  ·rintro (h | ⟨j, h1, h2⟩)
   ·exact .inl (.inl h)
   ·by_cases e : j = k
    ·subst e; exact .inr h2
    ·exact .inl (.inr ⟨j, by omega, h2⟩)
  ·rintro ((h | ⟨j, h1, h2⟩) | h)
   ·exact .inl h
   ·exact .inr ⟨j, by omega, h2⟩
   ·exact .inr ⟨k, by omega, h⟩
theorem minOf_congr {at_ b : Int} {S S' : Int → Prop} (h : MinOf at_ S b) (hS : ∀ x, S' x ↔ S x) : MinOf at_ S' b := by
 have : S' = S := funext fun x => propext (hS x)
 rw [this]
 exact h
theorem nxA_min (v : VO) (r : RY) {at_ : Int} (h0 : 0 ≤ at_) : ∀ n, MinOf at_ (Cnd v r n) (nxA v r at_ n)
 | 0 => .inl ⟨rfl, fun t h => by obtain ⟨i, h, _⟩ := h; omega⟩
 | n + 1 => by
  rw [nxA]
  split
  ·rename_i e
   refine minOf_congr (nxA_min v r h0 n) fun x => ⟨?_, ?_⟩
   ·rintro ⟨i, h1, h2, h3⟩
    refine ⟨i, ?_, h2, h3⟩
    rcases Nat.lt_or_ge i n with h | h
    ·exact h
    ·have : i = n := by omega
     subst this
     exact absurd e h2
   ·rintro ⟨i, h1, h2⟩
    exact ⟨i, by omega, h2⟩
  ·rename_i e
   refine minOf_congr (nxK_min h0 (nxA_min v r h0 n) _) fun x => ⟨?_, ?_⟩
   ·rintro ⟨i, h1, h2, k, h3, h4⟩
    by_cases ei : i = n
    ·subst ei; exact .inr ⟨k, h3, h4⟩
    ·exact .inl ⟨i, by omega, h2, k, h3, h4⟩
   ·rintro (⟨i, h1, h2⟩ | ⟨k, h1, h2⟩)
    ·exact ⟨i, by omega, h2⟩
    ·exact ⟨n, by omega, e, k, h1, h2⟩
def acL (v : VO) (r : RY) (m : Nat) : List Int := (List.range (m + 1)).map (atF v r)
theorem atF_min {v : VO} {r : RY} {m : Nat} (hM : IsM v r m) {j : Nat} (hj : j < m) : Cnd v r 3 (atF v r (j + 1)) ∧ atF v r j < atF v r (j + 1) ∧ ∀ t, Cnd v r 3 t → atF v r j < t → atF v r (j + 1) ≤ t := by
 have h := nxA_min v r (hM.1 j (by omega)) 3
 have h1 := hM.1 (j + 1) (by omega)
 rcases h with ⟨h2, _⟩ | h2
 ·rw [atF] at h1
  have : nxF v r (atF v r j) = -1 := h2
  omega
 ·exact h2
theorem atF_lt {v : VO} {r : RY} {m : Nat} (hM : IsM v r m) : ∀ (d i : Nat), i + d + 1 ≤ m → atF v r i < atF v r (i + d + 1)
 | 0, i, h => (atF_min hM (by omega)).2.1
 | d + 1, i, h => by
  have h1 := atF_lt hM d i (by omega)
  have h2 := (atF_min hM (j := i + d + 1) (by omega)).2.1
  have e : i + (d + 1) + 1 = i + d + 1 + 1 := by omega
  rw [e]
  omega
theorem atF_mono {v : VO} {r : RY} {m : Nat} (hM : IsM v r m) {i j : Nat} (h : i < j) (hj : j ≤ m) : atF v r i < atF v r j := by
 have := atF_lt hM (j - i - 1) i (by omega)
 rwa [show i + (j - i - 1) + 1 = j by omega] at this
theorem acL_sorted {v : VO} {r : RY} {m : Nat} (hM : IsM v r m) : (acL v r m).Pairwise (· < ·) := by
 unfold acL
 rw [List.pairwise_map, List.pairwise_iff_getElem]
 intro i j hi hj hij
 simp at hi hj
 simp
 exact atF_mono hM hij (by omega)
theorem atF_found {v : VO} {r : RY} {m : Nat} (hM : IsM v r m) {t : Int} (ht : Cnd v r 3 t) : ∀ (d j : Nat), j + d = m → atF v r j < t → ∃ i, i ≤ m ∧ t = atF v r i
 | 0, j, h, hl => by
  have e : j = m := by omega
  subst e
  have h1 := nxA_min v r (hM.1 j (Nat.le_refl _)) 3
  rcases h1 with ⟨_, h2⟩ | ⟨_, h2, _⟩
  ·have := h2 t ht; omega
  ·have h3 : nxF v r (atF v r j) < 0 := hM.2
   have h4 : atF v r j < nxF v r (atF v r j) := h2
   have := hM.1 j (Nat.le_refl _)
   omega
 | d + 1, j, h, hl => by
  have h1 := (atF_min hM (j := j) (by omega)).2.2 t ht hl
  by_cases e : t = atF v r (j + 1)
  ·exact ⟨j + 1, by omega, e⟩
  ·exact atF_found hM ht d (j + 1) (by omega) (by omega)
theorem crR_eq {v : VO} {r : RY} {m : Nat} (hM : IsM v r m) : crR v r 3 = acL v r m := by
 refine ssorted_ext id _ _ (crR_sorted v r 3) (acL_sorted hM) fun x => ?_
 rw [crR_mem]
 unfold acL
 rw [List.mem_map]
 constructor
 ·rintro (h | ⟨h0, h1⟩)
  ·exact ⟨0, by simp, by rw [h]; rfl⟩
  ·obtain ⟨i, hi, e⟩ := atF_found hM h1 m 0 (by omega) h0
   exact ⟨i, by simp; omega, e.symm⟩
 ·rintro ⟨i, hi, e⟩
  have hi2 : i < m + 1 := by simpa using hi
  cases i with
  | zero => exact .inl e.symm
  | succ j =>
   have h1 := atF_min hM (j := j) (by omega)
   have h2 := hM.1 j (by omega)
   rw [e] at h1
   exact .inr ⟨by omega, h1.1⟩
theorem acL_get {v : VO} {r : RY} {m i : Nat} (h : i ≤ m) : (acL v r m).getD i 0 = atF v r i := by
 unfold acL
 rw [List.getD_eq_getElem?_getD, List.getElem?_map, List.getElem?_range (by omega)]
 rfl
theorem acL_len (v : VO) (r : RY) (m : Nat) : (acL v r m).length = m + 1 := by simp [acL]
end Go.Proofs.YtgmpelhphnmknaaGreat
namespace Go.Proofs.YtgmpelhphnmknaaGreat
open Go.RowKit
theorem putS_pos (l : List Int) (n : Int) : l.length ≤ (putS l n).length := by
 induction l with
 | nil => simp [putS]
 | cons x l ih =>
  unfold putS
  split
  ·simp; omega
  ·split <;> simp
theorem crL_pos (f : Nat → Int) (l : List Int) : ∀ k, l.length ≤ (crL f k l).length
 | 0 => Nat.le_refl _
 | k + 1 => by
  have := crL_pos f l k
  rw [crL]
  split
  ·have := putS_pos (crL f k l) (f k); omega
  ·omega
theorem crR_pos (v : VO) (r : RY) : ∀ n, 0 < (crR v r n).length
 | 0 => by simp [crR]
 | n + 1 => by
  have h1 := crR_pos v r n
  rw [crR]
  unfold crA crX
  split
  ·exact h1
  ·exact Nat.lt_of_lt_of_le h1 (crL_pos _ _ _)
def cXR (T b t c S p q : Int) : Int := if 2 * T * b + t * (p + q) < 0 then -1 else if 2 * T * S * c ≤ 2 * T * b + t * (p + q) then -1 else (2 * T * b + t * (p + q)).tdiv (2 * T * S)
theorem cXR_eq {T S : Int} {a : AX} (hT : 1 ≤ T) (hS : 1 ≤ S) (p q : Int) : cXR T a.b a.t a.c S p q = cAx T S a p q := by
 unfold cXR cAx
 have e : 2 * T * a.b = 2 * a.b * T := by rw [Int.mul_right_comm]
 rw [e]
 have hK : 0 < 2 * T * S := Int.mul_pos (by omega) (by omega)
 generalize 2 * a.b * T + a.t * (p + q) = P at *
 generalize 2 * T * S = K at *
 split
 ·rfl
 ·rename_i h
  have h1 : P.tdiv K = P / K := Int.tdiv_eq_ediv_of_nonneg (by omega)
  rw [h1]
  have h2 : a.c ≤ P / K ↔ a.c * K ≤ P := Int.le_ediv_iff_mul_le hK
  have h3 : a.c * K = K * a.c := Int.mul_comm _ _
  by_cases h4 : K * a.c ≤ P
  ·rw [if_pos h4, if_pos (h2.2 (by omega))]
  ·rw [if_neg h4, if_neg (fun h => h4 (by have := h2.1 h; omega))]
def pc1 (v : VO) (r : RY) (p q : Int) : List PT := if cellF v r p q < 0 then [] else [⟨cellF v r p q, p, q⟩]
def pcN (v : VO) (r : RY) : Nat → List PT
 | 0 => []
 | 1 => []
 | k + 2 => pcN v r (k + 1) ++ pc1 v r (atF v r k) (atF v r (k + 1))
def cutR (p : PT) (a b : Int) : List PT := if max p.lo a < min p.hi b then [⟨p.cell, max p.lo a, min p.hi b⟩] else []
def un1 (v : VO) (r : RY) (g : Nat → Int) (p : PT) : List PT :=
 if 0 < r.dz then cutR p 0 ((g (p.cell.tmod (v.nx * v.ny)).toNat - r.z) * (tkF r : Int).tdiv r.dz)
 else if r.dz < 0 then cutR p ((g (p.cell.tmod (v.nx * v.ny)).toNat - r.z) * (tkF r : Int).tdiv r.dz) 1000000000000
 else if r.z < g (p.cell.tmod (v.nx * v.ny)).toNat then [p] else []
def unL (v : VO) (r : RY) (g : Nat → Int) : List PT → List PT
 | [] => []
 | p :: l => un1 v r g p ++ unL v r g l
theorem unL_append (v : VO) (r : RY) (g : Nat → Int) : ∀ (a b : List PT), unL v r g (a ++ b) = unL v r g a ++ unL v r g b
 | [], b => rfl
 | p :: a, b => by rw [List.cons_append, unL, unL, unL_append v r g a b, List.append_assoc]
theorem un_one (v : VO) (r : RY) (g : Nat → Int) (p q : Int) (hp : 0 ≤ p) (hpq : p < q) (hq : q ≤ 43200000000) : unL v r g (pc1 v r p q) = oneF v r g p q := by
 unfold pc1 oneF
 split
 ·rfl
 ·show un1 v r g _ ++ [] = _
  rw [List.append_nil]
  generalize cellF v r p q = c
  unfold un1 cutF cutR
  dsimp only
  by_cases h1 : 0 < r.dz
  ·rw [if_pos h1, if_pos h1]
   have h2 : (axF v r 2).t ≠ 0 := show r.dz ≠ 0 by omega
   have e : whF (tkF r) (axF v r 2) (g (c.tmod (v.nx * v.ny)).toNat) = (g (c.tmod (v.nx * v.ny)).toNat - r.z) * (tkF r : Int).tdiv r.dz := wh_eq v r 2 h2 _
   rw [e]
   generalize (g (c.tmod (v.nx * v.ny)).toNat - r.z) * (tkF r : Int).tdiv r.dz = u
   have e2 : max p 0 = p := by omega
   rw [e2]
  ·rw [if_neg h1, if_neg h1]
   by_cases h3 : r.dz < 0
   ·rw [if_pos h3, if_pos h3]
    have h2 : (axF v r 2).t ≠ 0 := show r.dz ≠ 0 by omega
    have e : whF (tkF r) (axF v r 2) (g (c.tmod (v.nx * v.ny)).toNat) = (g (c.tmod (v.nx * v.ny)).toNat - r.z) * (tkF r : Int).tdiv r.dz := wh_eq v r 2 h2 _
    rw [e]
    generalize (g (c.tmod (v.nx * v.ny)).toNat - r.z) * (tkF r : Int).tdiv r.dz = u
    have e2 : min q 1000000000000 = q := by omega
    rw [e2]
   ·rw [if_neg h3, if_neg h3]
    by_cases h4 : r.z < g (c.tmod (v.nx * v.ny)).toNat
    ·rw [if_pos h4, if_neg (show ¬ g (c.tmod (v.nx * v.ny)).toNat ≤ r.z by omega), if_pos (show p < q from hpq)]
    ·rw [if_neg h4, if_pos (show g (c.tmod (v.nx * v.ny)).toNat ≤ r.z by omega), if_neg (show ¬ p < p by omega)]
theorem un_eq {v : VO} {r : RY} {m : Nat} (hv : v.Ok) (hr : r.Ok) (hM : IsM v r m) (g : Nat → Int) : ∀ k, k ≤ m + 1 → unL v r g (pcN v r k) = prN v r g k
 | 0, _ => rfl
 | 1, _ => rfl
 | k + 2, h => by
  rw [pcN, prN, unL_append, un_eq hv hr hM g (k + 1) (by omega), un_one v r g _ _ (hM.1 k (by omega)) (atF_mono hM (by omega) (by omega)) (atF_low hv hr (k + 1)).2]
theorem pc1_len (v : VO) (r : RY) (p q : Int) : (pc1 v r p q).length ≤ 1 := by
 unfold pc1
 split <;> simp
theorem pcN_len (v : VO) (r : RY) : ∀ k, (pcN v r k).length ≤ k
 | 0 => Nat.le_refl _
 | 1 => by simp [pcN]
 | k + 2 => by
  rw [pcN, List.length_append]
  have := pcN_len v r (k + 1)
  have := pc1_len v r (atF v r k) (atF v r (k + 1))
  omega
theorem index_inj {x y z x' y' z' nx ny : Int} (hx : 0 ≤ x ∧ x < nx) (hy : 0 ≤ y ∧ y < ny) (hx' : 0 ≤ x' ∧ x' < nx) (hy' : 0 ≤ y' ∧ y' < ny) (h : (z * ny + y) * nx + x = (z' * ny + y') * nx + x') : x = x' ∧ y = y' ∧ z = z' := by
 have key : ∀ (a b q q' n : Int), 0 ≤ a ∧ a < n → 0 ≤ b ∧ b < n → q * n + a = q' * n + b → a = b ∧ q = q' := fun a b q q' n ha hb he => by
  have e1 : (q * n + a) / n = q := by rw [Int.add_comm, Int.add_mul_ediv_right _ _ (by omega), Int.ediv_eq_zero_of_lt ha.1 ha.2, Int.zero_add]
  have e2 : (q' * n + b) / n = q' := by rw [Int.add_comm, Int.add_mul_ediv_right _ _ (by omega), Int.ediv_eq_zero_of_lt hb.1 hb.2, Int.zero_add]
  have e3 : q = q' := by rw [← e1, ← e2, he]
  subst e3
  exact ⟨by omega, rfl⟩
 obtain ⟨h1, h2⟩ := key _ _ _ _ _ hx hx' h
 obtain ⟨h3, h4⟩ := key _ _ _ _ _ hy hy' h2
 exact ⟨h1, h3, h4⟩
theorem cell_axes {v : VO} {r : RY} (hv : v.Ok) (hr : r.Ok) {p q p' q' : Int} (h : 0 ≤ cellF v r p q) (h' : 0 ≤ cellF v r p' q') (he : cellF v r p q = cellF v r p' q') : ∀ i, i < 3 → 0 ≤ cAx (tkF r) v.size (axF v r i) p q ∧ cAx (tkF r) v.size (axF v r i) p q = cAx (tkF r) v.size (axF v r i) p' q' := by
 have hT := tkF_bound hr
 have b0 := cAx_bound (T := (tkF r : Int)) (S := v.size) (a := axF v r 0) (p := p) (q := q) (by omega) hv.size.1 hv.x.1
 have b1 := cAx_bound (T := (tkF r : Int)) (S := v.size) (a := axF v r 1) (p := p) (q := q) (by omega) hv.size.1 hv.y.1
 have c0 := cAx_bound (T := (tkF r : Int)) (S := v.size) (a := axF v r 0) (p := p') (q := q') (by omega) hv.size.1 hv.x.1
 have c1 := cAx_bound (T := (tkF r : Int)) (S := v.size) (a := axF v r 1) (p := p') (q := q') (by omega) hv.size.1 hv.y.1
 unfold cellF at h h' he
 split at h
 ·omega
 ·split at h'
  ·omega
  ·rename_i h1 h2
   rw [if_neg h1, if_neg h2] at he
   obtain ⟨e1, e2, e3⟩ := index_inj ⟨by omega, b0.2⟩ ⟨by omega, b1.2⟩ ⟨by omega, c0.2⟩ ⟨by omega, c1.2⟩ he
   intro i hi
   match i, hi with
   | 0, _ => exact ⟨by omega, e1⟩
   | 1, _ => exact ⟨by omega, e2⟩
   | 2, _ => exact ⟨by omega, e3⟩
theorem cAx_side {T S : Int} {a : AX} (hT : 1 ≤ T) (hS : 1 ≤ S) {p q p' q' t : Int} {k : Int} (ht : a.t ≠ 0) (hx : a.t * t = (k * S - a.b) * T) (h1 : p + q < 2 * t) (h2 : 2 * t < p' + q') (h : 0 ≤ cAx T S a p q) (h' : 0 ≤ cAx T S a p' q') : cAx T S a p q ≠ cAx T S a p' q' := by
 have hK : 0 < 2 * T * S := Int.mul_pos (by omega) (by omega)
 have hE : 2 * a.b * T + a.t * (2 * t) = k * (2 * T * S) := by
  have e1 : a.t * (2 * t) = 2 * (a.t * t) := by rw [Int.mul_left_comm]
  rw [e1, hx, Int.sub_mul, Int.mul_sub]
  have e2 : 2 * a.b * T = 2 * (a.b * T) := Int.mul_assoc _ _ _
  have e3 : k * (2 * T * S) = 2 * (k * S * T) := by
   rw [Int.mul_assoc 2 T S, Int.mul_left_comm k 2, Int.mul_comm T S, Int.mul_assoc k S T]
  omega
 unfold cAx at h h' ⊢
 split at h
 ·omega
 ·rename_i g1
  rw [if_neg g1]
  split at h
  ·omega
  ·rename_i g2
   rw [if_neg g2]
   split at h'
   ·omega
   ·rename_i g3
    rw [if_neg g3]
    split at h'
    ·omega
    ·rename_i g4
     rw [if_neg g4]
     generalize hd : 2 * T * S = K at *
     have q1 : (2 * a.b * T + a.t * (p + q)).tdiv K = (2 * a.b * T + a.t * (p + q)) / K := Int.tdiv_eq_ediv_of_nonneg (by omega)
     have q2 : (2 * a.b * T + a.t * (p' + q')).tdiv K = (2 * a.b * T + a.t * (p' + q')) / K := Int.tdiv_eq_ediv_of_nonneg (by omega)
     rw [q1, q2]
     rcases Int.lt_trichotomy a.t 0 with hn | hz | hp
     ·have m1 : a.t * (2 * t) < a.t * (p + q) := Int.mul_lt_mul_of_neg_left h1 hn
      have m2 : a.t * (p' + q') < a.t * (2 * t) := Int.mul_lt_mul_of_neg_left h2 hn
      have r1 : k ≤ (2 * a.b * T + a.t * (p + q)) / K := (Int.le_ediv_iff_mul_le hK).2 (by omega)
      have r2 : (2 * a.b * T + a.t * (p' + q')) / K < k := (Int.ediv_lt_iff_lt_mul hK).2 (by omega)
      omega
     ·exact absurd hz ht
     ·have m1 : a.t * (p + q) < a.t * (2 * t) := Int.mul_lt_mul_of_pos_left h1 hp
      have m2 : a.t * (2 * t) < a.t * (p' + q') := Int.mul_lt_mul_of_pos_left h2 hp
      have r1 : (2 * a.b * T + a.t * (p + q)) / K < k := (Int.ediv_lt_iff_lt_mul hK).2 (by omega)
      have r2 : k ≤ (2 * a.b * T + a.t * (p' + q')) / K := (Int.le_ediv_iff_mul_le hK).2 (by omega)
      omega
theorem cell_ne {v : VO} {r : RY} {m : Nat} (hv : v.Ok) (hr : r.Ok) (hM : IsM v r m) {i j : Nat} (hij : i < j) (hj : j < m) (h : 0 ≤ cellF v r (atF v r i) (atF v r (i + 1))) (h' : 0 ≤ cellF v r (atF v r j) (atF v r (j + 1))) : cellF v r (atF v r i) (atF v r (i + 1)) ≠ cellF v r (atF v r j) (atF v r (j + 1)) := by
 intro he
 have hT := tkF_bound hr
 obtain ⟨⟨x, hx, hn, k, hk, e⟩, hlt, _⟩ := atF_min hM (j := i) (by omega)
 have h1 := cell_axes hv hr h h' he x hx
 have h2 := cell_axes hv hr h' h he.symm x hx
 have hex := wh_exact v r x hn ((k : Int) * v.size)
 rw [← e] at hex
 have h3 : atF v r (i + 1) ≤ atF v r j := by
  by_cases q : i + 1 = j
  ·rw [q]; exact Int.le_refl _
  ·exact Int.le_of_lt (atF_mono hM (by omega) (by omega))
 have h4 := atF_mono hM (show j < j + 1 by omega) (by omega)
 exact cAx_side (T := (tkF r : Int)) (S := v.size) (a := axF v r x) (by omega) hv.size.1 hn hex (by omega) (by omega) h1.1 h2.1 h1.2
theorem one_cell {v : VO} {r : RY} {g : Nat → Int} {p q : Int} {x : PT} (h : x ∈ oneF v r g p q) : x.cell = cellF v r p q ∧ 0 ≤ cellF v r p q := by
 unfold oneF at h
 split at h
 ·simp at h
 ·rename_i h1
  split at h
  ·rw [List.mem_singleton] at h
   subst h
   refine ⟨?_, by omega⟩
   unfold cutF
   split
   ·rfl
   ·split
    ·rfl
    ·split <;> rfl
  ·simp at h
theorem prN_mem {v : VO} {r : RY} {g : Nat → Int} {x : PT} : ∀ k, x ∈ prN v r g k → ∃ i, i + 1 < k ∧ x.cell = cellF v r (atF v r i) (atF v r (i + 1)) ∧ 0 ≤ x.cell
 | 0, h => by simp [prN] at h
 | 1, h => by simp [prN] at h
 | k + 2, h => by
  rw [prN, List.mem_append] at h
  rcases h with h | h
  ·obtain ⟨i, h1, h2⟩ := prN_mem (k + 1) h
   exact ⟨i, by omega, h2⟩
  ·have := one_cell h
   exact ⟨k, by omega, this.1, by omega⟩
theorem sp_one_len (v : VO) (r : RY) (g : Nat → Int) (p q : Int) : (oneF v r g p q).length ≤ 1 := by
 unfold oneF
 split
 ·simp
 ·split <;> simp
theorem prN_apart {v : VO} {r : RY} {m : Nat} (hv : v.Ok) (hr : r.Ok) (hM : IsM v r m) (g : Nat → Int) : ∀ k, k ≤ m + 1 → (prN v r g k).Pairwise (fun x y => x.cell ≠ y.cell)
 | 0, _ => by simp [prN]
 | 1, _ => by simp [prN]
 | k + 2, h => by
  rw [prN, List.pairwise_append]
  refine ⟨prN_apart hv hr hM g (k + 1) (by omega), ?_, fun x hx y hy => ?_⟩
  ·have := sp_one_len v r g (atF v r k) (atF v r (k + 1))
   match hq : oneF v r g (atF v r k) (atF v r (k + 1)) with
   | [] => exact List.Pairwise.nil
   | [a] => simp
   | a :: b :: l => rw [hq] at this; simp at this
  ·obtain ⟨i, h1, h2, h3⟩ := prN_mem (k + 1) hx
   have h4 := one_cell hy
   rw [h2, h4.1]
   rw [h2] at h3
   exact cell_ne hv hr hM (by omega) (by omega) h3 h4.2
abbrev CHs := List (Int × Int)
def chsR (L : List PT) : CHs := L.map fun p => (p.cell, p.hi - p.lo)
def shR (l : CHs) : Nat → CHs
 | 0 => []
 | c + 1 => shR l c ++ l.filter (fun x => decide (x.1 = (c : Int)))
theorem chsR_apart {L : List PT} (h : L.Pairwise (fun x y => x.cell ≠ y.cell)) : (chsR L).Pairwise (fun x y => x.1 ≠ y.1) := by
 unfold chsR
 rw [List.pairwise_map]
 exact h
end Go.Proofs.YtgmpelhphnmknaaGreat
