/- Texts put together: RkA, RkB, RkW, RkW2, RkT. -/
import Derived.Test.YtgmpelhphnmknaaGreatQaa
import Derived.Test.YtgmpelhphnmknaaGreatQab
import Derived.Deep.MidRow
import Derived.Laws.ResultCell
import Derived.Test.YtgmpelhphnmknaaGreatProg
import Derived.KernelRfl
set_option maxRecDepth 100000
set_option maxHeartbeats 8000000
set_option linter.unusedVariables false
set_option linter.unusedSimpArgs false
namespace Go.Proofs.YtgmpelhphnmknaaGreat
open Go.RowKit
theorem rk_below (V : World) (o : Obj) : Below V.heap.size V (V.alloc o) := (Below.refl _ _).alloc (Nat.le_refl _) _
theorem rk_two (W : World) (o1 o2 : Obj) : Below W.heap.size W ((W.alloc o1).alloc o2) ∧ ((W.alloc o1).alloc o2).heap[W.heap.size]? = some o1 ∧ ((W.alloc o1).alloc o2).heap[W.heap.size + 1]? = some o2 := by
 have a1 := rk_below W o1
 have a2 := rk_below (W.alloc o1) o2
 have z1 : (W.alloc o1).heap.size = W.heap.size + 1 := by simp
 refine ⟨a1.trans (a2.mono a1.size), (a2.block _ (by omega)).trans (heap_alloc_new W o1), ?_⟩
 have := heap_alloc_new (W.alloc o1) o2
 rwa [z1] at this
theorem rkin_any (x a b : Int) (w : World) : Calls Tryz.prog 67 #[.int .i64 x, .int .i64 a, .int .i64 b] w fun e w' => e = .returned (.bool (inB x a b)) ∧ w = w' := by
 by_cases h1 : a ≤ x
 ·by_cases h2 : x ≤ b
  ·have HE := Hd (inB_iff.2 ⟨h1, h2⟩)
   go_enter Tryz.func67, Tryz.ntmps67
   go_wp2
   go_ret
   exact ⟨ret_bool HE.out.symm, rfl⟩
  ·have HE := Hd (show inB x a b = false from by cases e : inB x a b; rfl; have := inB_iff.1 e; omega)
   go_enter Tryz.func67, Tryz.ntmps67
   go_wp2
   go_ret
   exact ⟨ret_bool HE.out.symm, rfl⟩
 ·have HE := Hd (show inB x a b = false from by cases e : inB x a b; rfl; have := inB_iff.1 e; omega)
  go_enter Tryz.func67, Tryz.ntmps67
  go_wp2
  go_ret
  exact ⟨ret_bool HE.out.symm, rfl⟩
theorem volume_any (v : VO) (w : World) : Calls Tryz.prog 64 #[v.val] w fun e w' => e = .returned (.bool (volB v)) ∧ Below w.heap.size w w' := by
 have HV := Hd (show volB v = ((((inB v.nx 1 12 && inB v.ny 1 12) && inB v.nz 1 12) && decide (v.nx * v.ny * v.nz ≤ 600)) && inB v.size 1 1000) from rfl)
 have HI := Hd (show inB v.nx 1 12 = true → inB v.ny 1 12 = true → inB v.nz 1 12 = true → (-144 ≤ v.nx * v.ny ∧ v.nx * v.ny ≤ 144) ∧ (-1728 ≤ v.nx * v.ny * v.nz ∧ v.nx * v.ny * v.nz ≤ 1728) from fun h1 h2 h3 => by
  have h1 := inB_iff.1 h1
  have h2 := inB_iff.1 h2
  have h3 := inB_iff.1 h3
  have h4 := rk_mul_abs (x := v.nx) (y := v.ny) (K := 12) (M := 12) (by decide) (by decide) (by omega) (by omega)
  have h5 := rk_mul_abs (x := v.nx * v.ny) (y := v.nz) (K := 144) (M := 12) (by decide) (by decide) (by omega) (by omega)
  omega)
 generalize volB v = RES at *
 unfold VO.val
 obtain ⟨nx, ny, nz, size⟩ := v
 dsimp only at *
 go_enter Tryz.func64, Tryz.ntmps64
 go_upto_region 1 with (fail)
 have HB := Hd (rk_below w (.cells #[.int .i64 nx, .int .i64 ny, .int .i64 nz, .int .i64 size] 23))
 have hn := heap_alloc_new w (.cells #[.int .i64 nx, .int .i64 ny, .int .i64 nz, .int .i64 size] 23)
 generalize World.alloc w _ = V at *
 obtain ⟨k0, k1, k2, k3⟩ := cr4 hn
 clear hn
 obtain ⟨b1, hb1⟩ : ∃ b, inB nx 1 12 = b := ⟨_, rfl⟩
 cases b1
 ·rw [hb1] at HV
  simp only [Bool.false_and] at HV
  go_wp2_with (go_at_call 67; refine (rkin_any _ _ _ _).mono ?_; rintro e w' ⟨rfl, rfl⟩; rw [hb1])
  go_ret
  exact ⟨ret_bool HV.out.symm, HB.out⟩
 obtain ⟨b2, hb2⟩ : ∃ b, inB ny 1 12 = b := ⟨_, rfl⟩
 cases b2
 ·rw [hb1, hb2] at HV
  simp only [Bool.false_and, Bool.true_and] at HV
  go_wp2_with (go_at_call 67; refine (rkin_any _ _ _ _).mono ?_; rintro e w' ⟨rfl, rfl⟩; first | rw [hb1] | rw [hb2])
  go_ret
  exact ⟨ret_bool HV.out.symm, HB.out⟩
 obtain ⟨b3, hb3⟩ : ∃ b, inB nz 1 12 = b := ⟨_, rfl⟩
 cases b3
 ·rw [hb1, hb2, hb3] at HV
  simp only [Bool.false_and, Bool.true_and] at HV
  go_wp2_with (go_at_call 67; refine (rkin_any _ _ _ _).mono ?_; rintro e w' ⟨rfl, rfl⟩; first | rw [hb1] | rw [hb2] | rw [hb3])
  go_ret
  exact ⟨ret_bool HV.out.symm, HB.out⟩
 obtain ⟨⟨m1, m2⟩, m3, m4⟩ := HI.out hb1 hb2 hb3
 rw [hb1, hb2, hb3] at HV
 simp only [Bool.true_and] at HV
 clear HI
 generalize hp : nx * ny = pq at *
 generalize hq : pq * nz = pqr at *
 by_cases h6 : pqr ≤ 600
 ·rw [decide_eq_true h6, Bool.true_and] at HV
  generalize hb5 : inB size 1 1000 = b5 at *
  go_wp2_with (go_at_call 67; refine (rkin_any _ _ _ _).mono ?_; rintro e w' ⟨rfl, rfl⟩; first | rw [hb1] | rw [hb2] | rw [hb3] | rw [hb5])
  go_ret
  exact ⟨ret_bool HV.out.symm, HB.out⟩
 ·rw [decide_eq_false h6, Bool.false_and] at HV
  go_wp2_with (go_at_call 67; refine (rkin_any _ _ _ _).mono ?_; rintro e w' ⟨rfl, rfl⟩; first | rw [hb1] | rw [hb2] | rw [hb3])
  go_ret
  exact ⟨ret_bool HV.out.symm, HB.out⟩
theorem when_any (v : VO) (r : RY) (a : AX) (p : Int) (w : World) (hr : r.Ok) (ht : a.t ≠ 0) (hb : -100000 ≤ a.b ∧ a.b ≤ 100000) (hp : -100000 ≤ p ∧ p ≤ 100000) :
  Calls Tryz.prog 137 #[wkVal v r, a.val, .int .i64 p] w fun e w' => e = .returned (.int .i64 (whF (tkF r) a p)) ∧ Below w.heap.size w w' := by
 have hT := tkF_bound hr
 obtain ⟨⟨m1, m2⟩, m3, m4⟩ := wh_bound (T := (tkF r : Int)) (a := a) (p := p) (by omega) hb hp
 have HW := Hd (show whF (tkF r) a p = ((p - a.b) * (tkF r : Int)).tdiv a.t from rfl)
 generalize whF (tkF r) a p = RES at *
 unfold wkVal AX.val
 obtain ⟨nx, ny, nz, size⟩ := v
 obtain ⟨x, y, z, dx, dy, dz⟩ := r
 obtain ⟨ab, at_, ac⟩ := a
 dsimp only at *
 generalize ((tkF ⟨x, y, z, dx, dy, dz⟩ : Nat) : Int) = T at *
 obtain ⟨hb1, hb2⟩ := hb
 obtain ⟨hp1, hp2⟩ := hp
 go_enter Tryz.func137, Tryz.ntmps137
 go_upto_region 1 with (fail)
 obtain ⟨hVb, e1, e2⟩ := rk_two w (.cells #[.int .i64 nx, .int .i64 ny, .int .i64 nz, .int .i64 size, .int .i64 x, .int .i64 dx, .int .i64 nx, .int .i64 y, .int .i64 dy, .int .i64 ny, .int .i64 z, .int .i64 dz, .int .i64 nz, .int .i64 T] 150) (.cells #[.int .i64 ab, .int .i64 at_, .int .i64 ac] 147)
 have HB := Lib.hid hVb
 generalize World.alloc (World.alloc w _) _ = V at *
 have k0 : V.cell? ⟨w.heap.size, 13, none⟩ = some (.int .i64 T) := cell_of_row _ _ _ _ _ _ e1
 have k1 : V.cell? ⟨w.heap.size + 1, 0, none⟩ = some (.int .i64 ab) := cell_of_row _ _ _ _ _ _ e2
 have k2 : V.cell? ⟨w.heap.size + 1, 1, none⟩ = some (.int .i64 at_) := cell_of_row _ _ _ _ _ _ e2
 have hc : (at_ == 0) = false := beq_eq_false_iff_ne.2 ht
 clear hVb e1 e2 hT hr
 have m5 : -43200000000 ≤ ((p - ab) * T).tdiv at_ := by rw [← HW.out]; exact m3
 have m6 : ((p - ab) * T).tdiv at_ ≤ 43200000000 := by rw [← HW.out]; exact m4
 generalize hpr : (p - ab) * T = pr at *
 generalize hqu : pr.tdiv at_ = qu at *
 go_wp2
 obtain rfl := HW.out
 go_ret
 exact ⟨rfl, HB.out⟩
def plF (r : RY) : Nat → Int
 | 0 => r.x
 | 1 => r.y
 | _ => r.z
def tnF (r : RY) : Nat → Int
 | 0 => r.dx
 | 1 => r.dy
 | _ => r.dz
theorem rayB_no1 {r : RY} {j : Nat} (hj : j < 3) (h : inB (plF r j) (-100000) 100000 = false) : rayB r = false := by
 unfold rayB
 match j, hj with
 | 0, _ => rw [show inB r.x (-100000) 100000 = false from h]; rfl
 | 1, _ => rw [show inB r.y (-100000) 100000 = false from h]; simp
 | 2, _ => rw [show inB r.z (-100000) 100000 = false from h]; simp
theorem rayB_no2 {r : RY} {j : Nat} (hj : j < 3) (h : inB (tnF r j) (-60) 60 = false) : rayB r = false := by
 unfold rayB
 match j, hj with
 | 0, _ => rw [show inB r.dx (-60) 60 = false from h]; simp
 | 1, _ => rw [show inB r.dy (-60) 60 = false from h]; simp
 | 2, _ => rw [show inB r.dz (-60) 60 = false from h]; simp
theorem rayB_end {r : RY} (h1 : ∀ j, j < 3 → inB (plF r j) (-100000) 100000 = true) (h2 : ∀ j, j < 3 → inB (tnF r j) (-60) 60 = true) : rayB r = ((r.dx != 0 || r.dy != 0) || r.dz != 0) := by
 unfold rayB
 rw [show inB r.x (-100000) 100000 = true from h1 0 (by omega), show inB r.y (-100000) 100000 = true from h1 1 (by omega), show inB r.z (-100000) 100000 = true from h1 2 (by omega), show inB r.dx (-60) 60 = true from h2 0 (by omega), show inB r.dy (-60) 60 = true from h2 1 (by omega), show inB r.dz (-60) 60 = true from h2 2 (by omega)]
 simp
theorem ix3_0 (a b c : Int) (W : World) : (Instr.index 207 (.agg #[.int .i64 a, .int .i64 b, .int .i64 c]) (.int .i64 0)).run Tryz.prog W = .ok (.int .i64 a) W := by kernel_rfl
theorem ix3_1 (a b c : Int) (W : World) : (Instr.index 207 (.agg #[.int .i64 a, .int .i64 b, .int .i64 c]) (.int .i64 1)).run Tryz.prog W = .ok (.int .i64 b) W := by kernel_rfl
theorem ix3_2 (a b c : Int) (W : World) : (Instr.index 207 (.agg #[.int .i64 a, .int .i64 b, .int .i64 c]) (.int .i64 2)).run Tryz.prog W = .ok (.int .i64 c) W := by kernel_rfl
theorem ray_any (r : RY) (w : World) : Calls Tryz.prog 65 #[r.val] w fun e w' => e = .returned (.bool (rayB r)) ∧ Below w.heap.size w w' := by
 have HN1 := Hd (fun (j : Nat) (hj : j < 3) (h : inB (plF r j) (-100000) 100000 = false) => rayB_no1 hj h)
 have HN2 := Hd (fun (j : Nat) (hj : j < 3) (h : inB (tnF r j) (-60) 60 = false) => rayB_no2 hj h)
 have HEN := Hd (fun (h1 : ∀ j, j < 3 → inB (plF r j) (-100000) 100000 = true) (h2 : ∀ j, j < 3 → inB (tnF r j) (-60) 60 = true) => rayB_end h1 h2)
 generalize rayB r = RES at *
 unfold RY.val
 go_enter Tryz.func65, Tryz.ntmps65
 go_upto_region 1 with (fail)
 have HB := Hd (rk_below w (.cells #[.int .i64 r.x, .int .i64 r.y, .int .i64 r.z, .int .i64 r.dx, .int .i64 r.dy, .int .i64 r.dz] 33))
 have hn := heap_alloc_new w (.cells #[.int .i64 r.x, .int .i64 r.y, .int .i64 r.z, .int .i64 r.dx, .int .i64 r.dy, .int .i64 r.dz] 33)
 generalize World.alloc w _ = V at *
 obtain ⟨k0, k1, k2, k3, k4, k5⟩ := cr6 hn
 clear hn
 have hix0 := ix3_0 r.x r.y r.z; have hix1 := ix3_1 r.x r.y r.z; have hix2 := ix3_2 r.x r.y r.z
 have hiy0 := ix3_0 r.dx r.dy r.dz
 have hiy1 := ix3_1 r.dx r.dy r.dz
 have hiy2 := ix3_2 r.dx r.dy r.dz
 go_wp2
 go_loopw [14] (fun s wr => ∃ i : Nat, i ≤ 3 ∧ s = .int .i64 (i : Int) ∧ wr = V ∧ Hid (∀ j, j < i → inB (plF r j) (-100000) 100000 = true)) (fun s _ => 3 - (intOf s).toNat)
 case atStart => exact ⟨0, by omega, rfl, rfl, Hd (fun j hj => by omega)⟩
 case round =>
  obtain ⟨i, hi, rfl, rfl, HA⟩ := hrel
  by_cases hlt : i < 3
  ·have hcs : i = 0 ∨ i = 1 ∨ i = 2 := by omega
   rcases hcs with rfl | rfl | rfl
   ·((generalize hb : inB (plF r 0) (-100000) 100000 = b at *; cases b; (have HE := Hd (HN1.out 0 (by omega) hb); dsimp only [plF] at hb; go_wp2_with (go_at_call 67; refine (rkin_any _ _ _ _).mono ?_; rintro e w' ⟨rfl, rfl⟩; rw [hb]); go_ret; exact ⟨ret_bool HE.out.symm, HB.out⟩); (have HA2 := Hd (fun j (hj : j < 0 + 1) => show inB (plF r j) (-100000) 100000 = true from (by by_cases e : j = 0; (subst e; exact hb); exact HA.out j (by omega))); dsimp only [plF] at hb; go_wp2_with (go_at_call 67; refine (rkin_any _ _ _ _).mono ?_; rintro e w' ⟨rfl, rfl⟩; rw [hb]); go_roundw; (case rel => first | exact ⟨0 + 1, by omega, by go_num, trivial, HA2⟩ | ((repeat apply Exists.intro); exact ⟨⟨0 + 1, by omega, by go_num, trivial, HA2⟩, rfl⟩)); (case measure => (simp [intOf])))))
   ·((generalize hb : inB (plF r 1) (-100000) 100000 = b at *; cases b; (have HE := Hd (HN1.out 1 (by omega) hb); dsimp only [plF] at hb; go_wp2_with (go_at_call 67; refine (rkin_any _ _ _ _).mono ?_; rintro e w' ⟨rfl, rfl⟩; rw [hb]); go_ret; exact ⟨ret_bool HE.out.symm, HB.out⟩); (have HA2 := Hd (fun j (hj : j < 1 + 1) => show inB (plF r j) (-100000) 100000 = true from (by by_cases e : j = 1; (subst e; exact hb); exact HA.out j (by omega))); dsimp only [plF] at hb; go_wp2_with (go_at_call 67; refine (rkin_any _ _ _ _).mono ?_; rintro e w' ⟨rfl, rfl⟩; rw [hb]); go_roundw; (case rel => first | exact ⟨1 + 1, by omega, by go_num, trivial, HA2⟩ | ((repeat apply Exists.intro); exact ⟨⟨1 + 1, by omega, by go_num, trivial, HA2⟩, rfl⟩)); (case measure => (simp [intOf])))))
   ·((generalize hb : inB (plF r 2) (-100000) 100000 = b at *; cases b; (have HE := Hd (HN1.out 2 (by omega) hb); dsimp only [plF] at hb; go_wp2_with (go_at_call 67; refine (rkin_any _ _ _ _).mono ?_; rintro e w' ⟨rfl, rfl⟩; rw [hb]); go_ret; exact ⟨ret_bool HE.out.symm, HB.out⟩); (have HA2 := Hd (fun j (hj : j < 2 + 1) => show inB (plF r j) (-100000) 100000 = true from (by by_cases e : j = 2; (subst e; exact hb); exact HA.out j (by omega))); dsimp only [plF] at hb; go_wp2_with (go_at_call 67; refine (rkin_any _ _ _ _).mono ?_; rintro e w' ⟨rfl, rfl⟩; rw [hb]); go_roundw; (case rel => first | exact ⟨2 + 1, by omega, by go_num, trivial, HA2⟩ | ((repeat apply Exists.intro); exact ⟨⟨2 + 1, by omega, by go_num, trivial, HA2⟩, rfl⟩)); (case measure => (simp [intOf])))))
  ·obtain rfl : i = 3 := by omega
   have HA1 := HA
   clear HA
   go_wp2
   go_loopw [28] (fun s wz => ∃ i : Nat, i ≤ 3 ∧ s = .int .i64 (i : Int) ∧ wz = wr ∧ Hid (∀ j, j < i → inB (tnF r j) (-60) 60 = true)) (fun s _ => 3 - (intOf s).toNat)
   case atStart => exact ⟨0, by omega, rfl, rfl, Hd (fun j hj => by omega)⟩
   case round =>
    obtain ⟨i, hi, rfl, rfl, HA⟩ := hrel
    by_cases hlt : i < 3
    ·have hcs : i = 0 ∨ i = 1 ∨ i = 2 := by omega
     rcases hcs with rfl | rfl | rfl
     ·((generalize hb : inB (tnF r 0) (-60) 60 = b at *; cases b; (have HE := Hd (HN2.out 0 (by omega) hb); dsimp only [tnF] at hb; go_wp2_with (go_at_call 67; refine (rkin_any _ _ _ _).mono ?_; rintro e w' ⟨rfl, rfl⟩; rw [hb]); go_ret; exact ⟨ret_bool HE.out.symm, HB.out⟩); (have HA2 := Hd (fun j (hj : j < 0 + 1) => show inB (tnF r j) (-60) 60 = true from (by by_cases e : j = 0; (subst e; exact hb); exact HA.out j (by omega))); dsimp only [tnF] at hb; go_wp2_with (go_at_call 67; refine (rkin_any _ _ _ _).mono ?_; rintro e w' ⟨rfl, rfl⟩; rw [hb]); go_roundw; (case rel => first | exact ⟨0 + 1, by omega, by go_num, trivial, HA2⟩ | ((repeat apply Exists.intro); exact ⟨⟨0 + 1, by omega, by go_num, trivial, HA2⟩, rfl⟩)); (case measure => (simp [intOf])))))
     ·((generalize hb : inB (tnF r 1) (-60) 60 = b at *; cases b; (have HE := Hd (HN2.out 1 (by omega) hb); dsimp only [tnF] at hb; go_wp2_with (go_at_call 67; refine (rkin_any _ _ _ _).mono ?_; rintro e w' ⟨rfl, rfl⟩; rw [hb]); go_ret; exact ⟨ret_bool HE.out.symm, HB.out⟩); (have HA2 := Hd (fun j (hj : j < 1 + 1) => show inB (tnF r j) (-60) 60 = true from (by by_cases e : j = 1; (subst e; exact hb); exact HA.out j (by omega))); dsimp only [tnF] at hb; go_wp2_with (go_at_call 67; refine (rkin_any _ _ _ _).mono ?_; rintro e w' ⟨rfl, rfl⟩; rw [hb]); go_roundw; (case rel => first | exact ⟨1 + 1, by omega, by go_num, trivial, HA2⟩ | ((repeat apply Exists.intro); exact ⟨⟨1 + 1, by omega, by go_num, trivial, HA2⟩, rfl⟩)); (case measure => (simp [intOf])))))
     ·((generalize hb : inB (tnF r 2) (-60) 60 = b at *; cases b; (have HE := Hd (HN2.out 2 (by omega) hb); dsimp only [tnF] at hb; go_wp2_with (go_at_call 67; refine (rkin_any _ _ _ _).mono ?_; rintro e w' ⟨rfl, rfl⟩; rw [hb]); go_ret; exact ⟨ret_bool HE.out.symm, HB.out⟩); (have HA2 := Hd (fun j (hj : j < 2 + 1) => show inB (tnF r j) (-60) 60 = true from (by by_cases e : j = 2; (subst e; exact hb); exact HA.out j (by omega))); dsimp only [tnF] at hb; go_wp2_with (go_at_call 67; refine (rkin_any _ _ _ _).mono ?_; rintro e w' ⟨rfl, rfl⟩; rw [hb]); go_roundw; (case rel => first | exact ⟨2 + 1, by omega, by go_num, trivial, HA2⟩ | ((repeat apply Exists.intro); exact ⟨⟨2 + 1, by omega, by go_num, trivial, HA2⟩, rfl⟩)); (case measure => (simp [intOf])))))
    ·obtain rfl : i = 3 := by omega
     have HE := Hd (HEN.out HA1.out HA.out)
     clear HA HA1 HEN HN1 HN2
     cases h1 : (r.dx != 0)
     ·cases h2 : (r.dy != 0)
      ·cases h3 : (r.dz != 0)
       ·rw [h1, h2, h3] at HE
        go_wp2
        go_ret
        exact ⟨ret_bool HE.out.symm, HB.out⟩
       ·rw [h1, h2, h3] at HE
        go_wp2
        go_ret
        exact ⟨ret_bool HE.out.symm, HB.out⟩
      ·rw [h1, h2] at HE
       simp only [Bool.or_true, Bool.true_or] at HE
       go_wp2
       go_ret
       exact ⟨ret_bool HE.out.symm, HB.out⟩
     ·rw [h1] at HE
      simp only [Bool.or_true, Bool.true_or] at HE
      go_wp2
      go_ret
      exact ⟨ret_bool HE.out.symm, HB.out⟩
end Go.Proofs.YtgmpelhphnmknaaGreat
namespace Go.Proofs.YtgmpelhphnmknaaGreat
open Go.RowKit
theorem tkN_succ {r : RY} {i : Nat} (h : i < 3) : tkN r (i + 1) = tkS (tkN r i) (tnF r i) := by
 match i, h with
 | 0, _ => rfl
 | 1, _ => rfl
 | 2, _ => rfl
theorem tn_bound {r : RY} (h : r.Ok) (i : Nat) : -60 ≤ tnF r i ∧ tnF r i ≤ 60 := by
 match i with
 | 0 => exact h.dx
 | 1 => exact h.dy
 | n + 2 => exact h.dz
theorem max_neg (d : Int) : (if d < -d then -d else d) = ((d.natAbs : Nat) : Int) := by split <;> omega
theorem ticks_any (r : RY) (w : World) (hr : r.Ok) : Calls Tryz.prog 111 #[r.val] w fun e w' => e = .returned (.int .i64 (tkF r : Int)) ∧ Below w.heap.size w w' := by
 have HR := Lib.hid hr
 have HE := Hd (show tkF r = tkN r 3 from rfl)
 generalize tkF r = RES at *
 unfold RY.val
 clear hr
 go_enter Tryz.func111, Tryz.ntmps111
 go_upto_region 1 with (fail)
 have HB := Hd (rk_below w (.cells #[.int .i64 r.x, .int .i64 r.y, .int .i64 r.z, .int .i64 r.dx, .int .i64 r.dy, .int .i64 r.dz] 33))
 have hn := heap_alloc_new w (.cells #[.int .i64 r.x, .int .i64 r.y, .int .i64 r.z, .int .i64 r.dx, .int .i64 r.dy, .int .i64 r.dz] 33)
 generalize World.alloc w _ = V at *
 have k3 := cell_of_row _ _ 3 _ _ _ hn
 have k4 := cell_of_row _ _ 4 _ _ _ hn
 have k5 := cell_of_row _ _ 5 _ _ _ hn
 clear hn
 have hiy0 := ix3_0 r.dx r.dy r.dz
 have hiy1 := ix3_1 r.dx r.dy r.dz
 have hiy2 := ix3_2 r.dx r.dy r.dz
 have HX0 := Lib.hid hiy0
 go_wp2
 go_loopw [3, 15] (fun s3 s15 wr => ∃ i : Nat, i ≤ 3 ∧ s15 = .int .i64 (i : Int) ∧ s3 = .int .i64 (tkN r i : Int) ∧ Hid (Below w.heap.size w wr)) (fun _ s15 _ => 3 - (intOf s15).toNat)
 case atStart => exact ⟨0, by omega, rfl, rfl, HB⟩
 case round =>
  obtain ⟨i, hi, rfl, rfl, HB⟩ := hrel
  by_cases hlt : i < 3
  ·have hlt' : (i : Int) < 3 := by omega
   have HSU := Hd (tkN_succ (r := r) hlt)
   obtain ⟨hb1, hb2⟩ := tn_bound HR.out i
   have hix : ∀ W : World, (Instr.index 207 (.agg #[.int .i64 r.dx, .int .i64 r.dy, .int .i64 r.dz]) (.int .i64 (i : Int))).run Tryz.prog W = .ok (.int .i64 (tnF r i)) W := by
    match i, hlt with
    | 0, _ => exact ix3_0 _ _ _
    | 1, _ => exact ix3_1 _ _ _
    | 2, _ => exact ix3_2 _ _ _
   obtain ⟨ho1, ho2⟩ := tkN_bound HR.out i
   clear hiy0 hiy1 hiy2 k3 k4 k5
   generalize tnF r i = d at *
   generalize tkN r i = out at *
   have HMX := Hd (max_neg d)
   go_upto_region 6 with (fail)
   rw [HMX.out]
   have HSE := Hd (show tkS out d = if d.natAbs = 0 then out else out / Nat.gcd out d.natAbs * d.natAbs from rfl)
   have hD60 : d.natAbs ≤ 60 := by omega
   clear hix HX0
   generalize d.natAbs = D at *
   by_cases h0 : D = 0
   ·have HS2 := Hd (show tkN r (i + 1) = out from by rw [HSU.out, HSE.out, if_pos h0])
    have h0' : ¬ (0 : Int) < (D : Int) := by omega
    go_wp2
    go_roundw
    case rel => first | exact ⟨i + 1, by omega, by go_num, by rw [HS2.out], HB⟩ | ((repeat apply Exists.intro); exact ⟨⟨i + 1, by omega, by go_num, by rw [HS2.out], HB⟩, rfl⟩)
    case measure => simp [intOf]; omega
   ·have HS2 := Hd (show tkN r (i + 1) = out / Nat.gcd out D * D from by rw [HSU.out, HSE.out, if_neg h0])
    have h0' : (0 : Int) < (D : Int) := by omega
    have hg : Nat.gcd out D ≠ 0 := by have := Nat.gcd_pos_of_pos_left D (show 0 < out by omega); omega
    have HBo := HB
    clear HB HSU HSE HMX
    go_wp2
    go_loopw [6, 7] (fun s6 s7 wx => ∃ a b : Nat, s6 = .int .i64 (a : Int) ∧ s7 = .int .i64 (b : Int) ∧ Nat.gcd a b = Nat.gcd out D ∧ a ≤ 216000 ∧ b ≤ 60 ∧ Hid (Below w.heap.size w wx)) (fun _ s7 _ => (intOf s7).toNat)
    case atStart => exact ⟨out, D, rfl, rfl, rfl, ho2, hD60, HBo⟩
    case round =>
     obtain ⟨a, b, rfl, rfl, hgc, ha, hb, HB⟩ := hrel
     clear HBo
     by_cases hb0 : b = 0
     ·subst hb0
      rw [Nat.gcd_zero_right] at hgc
      subst hgc
      generalize Nat.gcd out D = G at *
      have hq1 : (out : Int).tdiv (G : Int) = ((out / G : Nat) : Int) := rfl
      have hq2 : out / G ≤ 216000 := Nat.le_trans (Nat.div_le_self _ _) ho2
      have hq3 : out / G * D ≤ 216000 * 60 := Nat.mul_le_mul hq2 hD60
      have hq4 : ((out / G : Nat) : Int) * (D : Int) = ((out / G * D : Nat) : Int) := by rw [Int.natCast_mul]
      have hG : ((G : Int) == 0) = false := beq_eq_false_iff_ne.2 (by omega)
      generalize out / G = q at *
      generalize q * D = o2 at *
      go_wp2
      go_roundw
      case rel => first | exact ⟨i + 1, by omega, by go_num, by rw [HS2.out], HB⟩ | ((repeat apply Exists.intro); exact ⟨⟨i + 1, by omega, by go_num, by rw [HS2.out], HB⟩, rfl⟩)
      case measure => simp [intOf]; omega
     ·have hb0' : (0 : Int) < (b : Int) := by omega
      have hbn : ((b : Int) == 0) = false := beq_eq_false_iff_ne.2 (by omega)
      have hmo : (a : Int).tmod (b : Int) = ((a % b : Nat) : Int) := rfl
      have hlt2 : a % b < b := Nat.mod_lt _ (by omega)
      have hg2 : Nat.gcd b (a % b) = Nat.gcd out D := by rw [← hgc, Nat.gcd_comm b, ← Nat.gcd_rec, Nat.gcd_comm]
      generalize a % b = m at *
      go_upto_region 9 with (fail)
      (refine wp_region_calm (wr.heap.size) (by kernel_rfl) (by kernel_rfl) ?_; (repeat (first | go_big_quiet_step (fail) | quiet_step (fail))); refine wpQuiet_nil (wqn ?_); intro xq)
      have HB2 := Hd (HB.out.trans ((Calm.below xq).mono HB.out.size))
      generalize Calm.val xq = wq at *
      go_wp2
      go_roundw
      case rel => first | exact ⟨b, m, rfl, rfl, hg2, by omega, by omega, HB2⟩ | ((repeat apply Exists.intro); exact ⟨⟨b, m, rfl, rfl, hg2, by omega, by omega, HB2⟩, rfl⟩)
      case measure => simp [intOf]; omega
  ·obtain rfl : i = 3 := by omega
   have hlt' : ¬ (3 : Int) < 3 := by omega
   rw [← HE.out]
   go_wp2
   go_ret
   exact ⟨rfl, HB.out⟩
end Go.Proofs.YtgmpelhphnmknaaGreat
namespace Go.Proofs.YtgmpelhphnmknaaGreat
open Go.RowKit
def addrOf : Value → Addr | .pointer (some a) => a | _ => ⟨0, 0, none⟩
theorem addrOf_ptr (a : Addr) : addrOf (.pointer (some a)) = a := rfl
def aggOf : Value → Array Value | .agg cs => cs | _ => #[]
theorem aggOf_agg (cs : Array Value) : aggOf (.agg cs) = cs := rfl
attribute [go_sem] addrOf_ptr aggOf_agg
section
variable {P : Program} {t : TypeId}
theorem exec_load_n {d : TypeDesc} (n : Nat) (hu : P.underlying t = some d) (hd : d.isRow = true) (hi : (P.info? t).map (·.size) = some n) (ρ : Operand → Value) (x : Operand) (o : Oper) (ho : o.op = .load t x) (w : World) (b f : Nat)
  (hx : ρ x = .pointer (some ⟨b, f, none⟩)) (hc : ∀ j, j < n → (w.cell? ⟨b, f + j, none⟩).isSome = true) :
  (execOp ρ o).run P w = .ok (.value (.agg ((List.range n).map fun j => (w.cell? ⟨b, f + j, none⟩).getD undef).toArray)) w := by
 have hr : w.rangeAt b f ((List.range n).map fun j => (w.cell? ⟨b, f + j, none⟩).getD undef) := by
  intro j v hv
  rw [List.getElem?_map] at hv
  by_cases hj : j < n
  ·rw [List.getElem?_range hj] at hv
   obtain ⟨u, hu⟩ := Option.isSome_iff_exists.1 (hc j hj)
   simp only [Option.map_some, hu, Option.getD_some, Option.some.injEq] at hv
   rw [hu, hv]
  ·rw [List.getElem?_eq_none (by simp; omega)] at hv
   cases hv
 unfold execOp
 simp only [ho, hx, Sem.run_bind, run_loadAt_mid w b f t _ d hr hu hd (by simpa using hi), Result.andThen_ok, Sem.run_pure]
theorem exec_store_n (n : Nat) (hi : (P.info? t).map (·.size) = some n) (ρ : Operand → Value) (x y : Operand) (o : Oper) (ho : o.op = .store t x y) (w : World) (b f : Nat) (cs : Array Value)
  (hx : ρ x = .pointer (some ⟨b, f, none⟩)) (hy : ρ y = .agg cs) (hn : cs.size = n) (h1 : cs.all (·.oneCell') = true) (hc : w.there b f n) :
  (execOp ρ o).run P w = .ok .skip (w.setCells b f cs.toList) := by
 unfold execOp
 simp only [ho, hx, hy, Sem.run_bind, run_storeAt_mid w b f t cs (by rw [hn]; exact hc) (by rw [hn]; exact hi) h1, Result.andThen_ok, Sem.run_pure]
end
theorem setCells_alloc_gen (w : World) (t : TypeId) : ∀ (vs : List Value) (o : Nat) (zs : Array Value), o + vs.length = zs.size → (w.alloc (.cells zs t)).setCells w.heap.size o vs = w.alloc (.cells (zs.extract 0 o ++ vs.toArray) t)
 | [], o, zs, h => by
  have : zs.extract 0 o = zs := by simp at h; subst h; simp
  simp [World.setCells, this]
 | v :: r, o, zs, h => by
  simp only [List.length_cons] at h
  rw [World.setCells, World.setCell_alloc_at _ _ _ _ _ rfl, setCells_alloc_gen w t r (o + 1) _ (by simp; omega)]
  congr 2
  apply Array.ext
  ·simp; omega
  ·intro i h1 h2
   simp only [Array.getElem_append, Array.getElem_extract, Array.size_extract, Array.size_setIfInBounds]
   grind
theorem setCells_alloc_last {w : World} {t : TypeId} {zs : Array Value} {vs : List Value} {b : Nat} (hb : b = w.heap.size) (h : vs.length = zs.size) : (w.alloc (.cells zs t)).setCells b 0 vs = w.alloc (.cells vs.toArray t) := by
 subst hb; rw [setCells_alloc_gen w t vs 0 zs (by omega)]; simp
theorem setCells_alloc_other (b : Nat) (o2 : Obj) : ∀ (vs : List Value) (o : Nat) (w : World), b < w.heap.size → (w.alloc o2).setCells b o vs = (w.setCells b o vs).alloc o2
 | [], _, _, _ => rfl
 | v :: r, o, w, h => by
  have e : (w.alloc o2).setCell ⟨b, o, none⟩ v = (w.setCell ⟨b, o, none⟩ v).alloc o2 := by
   simp only [World.alloc, World.setCell]
   congr 1
   apply Array.ext
   ·simp
   ·intro i h1 h2
    simp only [Array.getElem_modify, Array.getElem_push, Array.size_modify]
    grind
  rw [World.setCells, World.setCells, e, setCells_alloc_other b o2 r (o + 1) _ (by simpa [World.setCell] using h)]

theorem exec_load9 {P : Program} {t : TypeId} {d : TypeDesc} (hu : P.underlying t = some d) (hd : d.isRow = true) (hi : (P.info? t).map (·.size) = some 9) (ρ : Operand → Value) (x : Operand) (dst : Option Tmp) (ty : TypeId) (pos : String) (after : Array Edge) (guard : Option (Nat × Bool)) (w : World)
  (hx : ρ x = .pointer (some ⟨(addrOf (ρ x)).block, (addrOf (ρ x)).off, none⟩))
  (hc : (w.cell? ⟨(addrOf (ρ x)).block, (addrOf (ρ x)).off, none⟩).isSome = true ∧ (w.cell? ⟨(addrOf (ρ x)).block, (addrOf (ρ x)).off + 1, none⟩).isSome = true ∧ (w.cell? ⟨(addrOf (ρ x)).block, (addrOf (ρ x)).off + 2, none⟩).isSome = true ∧ (w.cell? ⟨(addrOf (ρ x)).block, (addrOf (ρ x)).off + 3, none⟩).isSome = true ∧ (w.cell? ⟨(addrOf (ρ x)).block, (addrOf (ρ x)).off + 4, none⟩).isSome = true ∧ (w.cell? ⟨(addrOf (ρ x)).block, (addrOf (ρ x)).off + 5, none⟩).isSome = true ∧ (w.cell? ⟨(addrOf (ρ x)).block, (addrOf (ρ x)).off + 6, none⟩).isSome = true ∧ (w.cell? ⟨(addrOf (ρ x)).block, (addrOf (ρ x)).off + 7, none⟩).isSome = true ∧ (w.cell? ⟨(addrOf (ρ x)).block, (addrOf (ρ x)).off + 8, none⟩).isSome = true) :
  (execOp ρ ⟨dst, .load t x, ty, pos, after, guard⟩).run P w = .ok (.value (.agg #[(w.cell? ⟨(addrOf (ρ x)).block, (addrOf (ρ x)).off, none⟩).getD undef, (w.cell? ⟨(addrOf (ρ x)).block, (addrOf (ρ x)).off + 1, none⟩).getD undef, (w.cell? ⟨(addrOf (ρ x)).block, (addrOf (ρ x)).off + 2, none⟩).getD undef, (w.cell? ⟨(addrOf (ρ x)).block, (addrOf (ρ x)).off + 3, none⟩).getD undef, (w.cell? ⟨(addrOf (ρ x)).block, (addrOf (ρ x)).off + 4, none⟩).getD undef, (w.cell? ⟨(addrOf (ρ x)).block, (addrOf (ρ x)).off + 5, none⟩).getD undef, (w.cell? ⟨(addrOf (ρ x)).block, (addrOf (ρ x)).off + 6, none⟩).getD undef, (w.cell? ⟨(addrOf (ρ x)).block, (addrOf (ρ x)).off + 7, none⟩).getD undef, (w.cell? ⟨(addrOf (ρ x)).block, (addrOf (ρ x)).off + 8, none⟩).getD undef])) w := by
 obtain ⟨h0, h1, h2, h3, h4, h5, h6, h7, h8⟩ := hc
 exact exec_load_n 9 hu hd hi ρ x _ rfl w _ _ hx (fun j hj => by match j, hj with | 0, _ => exact h0 | 1, _ => exact h1 | 2, _ => exact h2 | 3, _ => exact h3 | 4, _ => exact h4 | 5, _ => exact h5 | 6, _ => exact h6 | 7, _ => exact h7 | 8, _ => exact h8 | k + 9, h => omega)
theorem exec_load14 {P : Program} {t : TypeId} {d : TypeDesc} (hu : P.underlying t = some d) (hd : d.isRow = true) (hi : (P.info? t).map (·.size) = some 14) (ρ : Operand → Value) (x : Operand) (dst : Option Tmp) (ty : TypeId) (pos : String) (after : Array Edge) (guard : Option (Nat × Bool)) (w : World)
  (hx : ρ x = .pointer (some ⟨(addrOf (ρ x)).block, (addrOf (ρ x)).off, none⟩))
  (hc : (w.cell? ⟨(addrOf (ρ x)).block, (addrOf (ρ x)).off, none⟩).isSome = true ∧ (w.cell? ⟨(addrOf (ρ x)).block, (addrOf (ρ x)).off + 1, none⟩).isSome = true ∧ (w.cell? ⟨(addrOf (ρ x)).block, (addrOf (ρ x)).off + 2, none⟩).isSome = true ∧ (w.cell? ⟨(addrOf (ρ x)).block, (addrOf (ρ x)).off + 3, none⟩).isSome = true ∧ (w.cell? ⟨(addrOf (ρ x)).block, (addrOf (ρ x)).off + 4, none⟩).isSome = true ∧ (w.cell? ⟨(addrOf (ρ x)).block, (addrOf (ρ x)).off + 5, none⟩).isSome = true ∧ (w.cell? ⟨(addrOf (ρ x)).block, (addrOf (ρ x)).off + 6, none⟩).isSome = true ∧ (w.cell? ⟨(addrOf (ρ x)).block, (addrOf (ρ x)).off + 7, none⟩).isSome = true ∧ (w.cell? ⟨(addrOf (ρ x)).block, (addrOf (ρ x)).off + 8, none⟩).isSome = true ∧ (w.cell? ⟨(addrOf (ρ x)).block, (addrOf (ρ x)).off + 9, none⟩).isSome = true ∧ (w.cell? ⟨(addrOf (ρ x)).block, (addrOf (ρ x)).off + 10, none⟩).isSome = true ∧ (w.cell? ⟨(addrOf (ρ x)).block, (addrOf (ρ x)).off + 11, none⟩).isSome = true ∧ (w.cell? ⟨(addrOf (ρ x)).block, (addrOf (ρ x)).off + 12, none⟩).isSome = true ∧ (w.cell? ⟨(addrOf (ρ x)).block, (addrOf (ρ x)).off + 13, none⟩).isSome = true) :
  (execOp ρ ⟨dst, .load t x, ty, pos, after, guard⟩).run P w = .ok (.value (.agg #[(w.cell? ⟨(addrOf (ρ x)).block, (addrOf (ρ x)).off, none⟩).getD undef, (w.cell? ⟨(addrOf (ρ x)).block, (addrOf (ρ x)).off + 1, none⟩).getD undef, (w.cell? ⟨(addrOf (ρ x)).block, (addrOf (ρ x)).off + 2, none⟩).getD undef, (w.cell? ⟨(addrOf (ρ x)).block, (addrOf (ρ x)).off + 3, none⟩).getD undef, (w.cell? ⟨(addrOf (ρ x)).block, (addrOf (ρ x)).off + 4, none⟩).getD undef, (w.cell? ⟨(addrOf (ρ x)).block, (addrOf (ρ x)).off + 5, none⟩).getD undef, (w.cell? ⟨(addrOf (ρ x)).block, (addrOf (ρ x)).off + 6, none⟩).getD undef, (w.cell? ⟨(addrOf (ρ x)).block, (addrOf (ρ x)).off + 7, none⟩).getD undef, (w.cell? ⟨(addrOf (ρ x)).block, (addrOf (ρ x)).off + 8, none⟩).getD undef, (w.cell? ⟨(addrOf (ρ x)).block, (addrOf (ρ x)).off + 9, none⟩).getD undef, (w.cell? ⟨(addrOf (ρ x)).block, (addrOf (ρ x)).off + 10, none⟩).getD undef, (w.cell? ⟨(addrOf (ρ x)).block, (addrOf (ρ x)).off + 11, none⟩).getD undef, (w.cell? ⟨(addrOf (ρ x)).block, (addrOf (ρ x)).off + 12, none⟩).getD undef, (w.cell? ⟨(addrOf (ρ x)).block, (addrOf (ρ x)).off + 13, none⟩).getD undef])) w := by
 obtain ⟨h0, h1, h2, h3, h4, h5, h6, h7, h8, h9, h10, h11, h12, h13⟩ := hc
 exact exec_load_n 14 hu hd hi ρ x _ rfl w _ _ hx (fun j hj => by match j, hj with | 0, _ => exact h0 | 1, _ => exact h1 | 2, _ => exact h2 | 3, _ => exact h3 | 4, _ => exact h4 | 5, _ => exact h5 | 6, _ => exact h6 | 7, _ => exact h7 | 8, _ => exact h8 | 9, _ => exact h9 | 10, _ => exact h10 | 11, _ => exact h11 | 12, _ => exact h12 | 13, _ => exact h13 | k + 14, h => omega)
theorem exec_store14 {P : Program} {t : TypeId} (hi : (P.info? t).map (·.size) = some 14) (ρ : Operand → Value) (x y : Operand) (dst : Option Tmp) (ty : TypeId) (pos : String) (after : Array Edge) (guard : Option (Nat × Bool)) (w : World)
  (hx : ρ x = .pointer (some ⟨(addrOf (ρ x)).block, (addrOf (ρ x)).off, none⟩)) (hy : ρ y = .agg (aggOf (ρ y))) (hn : (aggOf (ρ y)).size = 14) (hone : (aggOf (ρ y)).toList.all (·.oneCell') = true)
  (hc : ((w.cell? ⟨(addrOf (ρ x)).block, (addrOf (ρ x)).off, none⟩).isSome = true ∧ w.frozen? ⟨(addrOf (ρ x)).block, (addrOf (ρ x)).off, none⟩ = false) ∧ ((w.cell? ⟨(addrOf (ρ x)).block, (addrOf (ρ x)).off + 1, none⟩).isSome = true ∧ w.frozen? ⟨(addrOf (ρ x)).block, (addrOf (ρ x)).off + 1, none⟩ = false) ∧ ((w.cell? ⟨(addrOf (ρ x)).block, (addrOf (ρ x)).off + 2, none⟩).isSome = true ∧ w.frozen? ⟨(addrOf (ρ x)).block, (addrOf (ρ x)).off + 2, none⟩ = false) ∧ ((w.cell? ⟨(addrOf (ρ x)).block, (addrOf (ρ x)).off + 3, none⟩).isSome = true ∧ w.frozen? ⟨(addrOf (ρ x)).block, (addrOf (ρ x)).off + 3, none⟩ = false) ∧ ((w.cell? ⟨(addrOf (ρ x)).block, (addrOf (ρ x)).off + 4, none⟩).isSome = true ∧ w.frozen? ⟨(addrOf (ρ x)).block, (addrOf (ρ x)).off + 4, none⟩ = false) ∧ ((w.cell? ⟨(addrOf (ρ x)).block, (addrOf (ρ x)).off + 5, none⟩).isSome = true ∧ w.frozen? ⟨(addrOf (ρ x)).block, (addrOf (ρ x)).off + 5, none⟩ = false) ∧ ((w.cell? ⟨(addrOf (ρ x)).block, (addrOf (ρ x)).off + 6, none⟩).isSome = true ∧ w.frozen? ⟨(addrOf (ρ x)).block, (addrOf (ρ x)).off + 6, none⟩ = false) ∧ ((w.cell? ⟨(addrOf (ρ x)).block, (addrOf (ρ x)).off + 7, none⟩).isSome = true ∧ w.frozen? ⟨(addrOf (ρ x)).block, (addrOf (ρ x)).off + 7, none⟩ = false) ∧ ((w.cell? ⟨(addrOf (ρ x)).block, (addrOf (ρ x)).off + 8, none⟩).isSome = true ∧ w.frozen? ⟨(addrOf (ρ x)).block, (addrOf (ρ x)).off + 8, none⟩ = false) ∧ ((w.cell? ⟨(addrOf (ρ x)).block, (addrOf (ρ x)).off + 9, none⟩).isSome = true ∧ w.frozen? ⟨(addrOf (ρ x)).block, (addrOf (ρ x)).off + 9, none⟩ = false) ∧ ((w.cell? ⟨(addrOf (ρ x)).block, (addrOf (ρ x)).off + 10, none⟩).isSome = true ∧ w.frozen? ⟨(addrOf (ρ x)).block, (addrOf (ρ x)).off + 10, none⟩ = false) ∧ ((w.cell? ⟨(addrOf (ρ x)).block, (addrOf (ρ x)).off + 11, none⟩).isSome = true ∧ w.frozen? ⟨(addrOf (ρ x)).block, (addrOf (ρ x)).off + 11, none⟩ = false) ∧ ((w.cell? ⟨(addrOf (ρ x)).block, (addrOf (ρ x)).off + 12, none⟩).isSome = true ∧ w.frozen? ⟨(addrOf (ρ x)).block, (addrOf (ρ x)).off + 12, none⟩ = false) ∧ ((w.cell? ⟨(addrOf (ρ x)).block, (addrOf (ρ x)).off + 13, none⟩).isSome = true ∧ w.frozen? ⟨(addrOf (ρ x)).block, (addrOf (ρ x)).off + 13, none⟩ = false)) :
  (execOp ρ ⟨dst, .store t x y, ty, pos, after, guard⟩).run P w = .ok .skip (w.setCells (addrOf (ρ x)).block (addrOf (ρ x)).off (aggOf (ρ y)).toList) := by
 obtain ⟨h0, h1, h2, h3, h4, h5, h6, h7, h8, h9, h10, h11, h12, h13⟩ := hc
 exact exec_store_n 14 hi ρ x y _ rfl w _ _ _ hx hy hn (by rw [← Array.all_toList]; exact hone) (fun j hj => by match j, hj with | 0, _ => exact h0 | 1, _ => exact h1 | 2, _ => exact h2 | 3, _ => exact h3 | 4, _ => exact h4 | 5, _ => exact h5 | 6, _ => exact h6 | 7, _ => exact h7 | 8, _ => exact h8 | 9, _ => exact h9 | 10, _ => exact h10 | 11, _ => exact h11 | 12, _ => exact h12 | 13, _ => exact h13 | k + 14, h => omega)
abbrev LoadLaw9 (P : Program) (t : TypeId) : Prop := ∀ (ρ : Operand → Value) (x : Operand) (dst : Option Tmp) (ty : TypeId) (pos : String) (after : Array Edge) (guard : Option (Nat × Bool)) (w : World), ρ x = .pointer (some ⟨(addrOf (ρ x)).block, (addrOf (ρ x)).off, none⟩) →
  ((w.cell? ⟨(addrOf (ρ x)).block, (addrOf (ρ x)).off, none⟩).isSome = true ∧ (w.cell? ⟨(addrOf (ρ x)).block, (addrOf (ρ x)).off + 1, none⟩).isSome = true ∧ (w.cell? ⟨(addrOf (ρ x)).block, (addrOf (ρ x)).off + 2, none⟩).isSome = true ∧ (w.cell? ⟨(addrOf (ρ x)).block, (addrOf (ρ x)).off + 3, none⟩).isSome = true ∧ (w.cell? ⟨(addrOf (ρ x)).block, (addrOf (ρ x)).off + 4, none⟩).isSome = true ∧ (w.cell? ⟨(addrOf (ρ x)).block, (addrOf (ρ x)).off + 5, none⟩).isSome = true ∧ (w.cell? ⟨(addrOf (ρ x)).block, (addrOf (ρ x)).off + 6, none⟩).isSome = true ∧ (w.cell? ⟨(addrOf (ρ x)).block, (addrOf (ρ x)).off + 7, none⟩).isSome = true ∧ (w.cell? ⟨(addrOf (ρ x)).block, (addrOf (ρ x)).off + 8, none⟩).isSome = true) → Sem.run P (execOp ρ ⟨dst, .load t x, ty, pos, after, guard⟩) w = .ok (.value (.agg #[(w.cell? ⟨(addrOf (ρ x)).block, (addrOf (ρ x)).off, none⟩).getD undef, (w.cell? ⟨(addrOf (ρ x)).block, (addrOf (ρ x)).off + 1, none⟩).getD undef, (w.cell? ⟨(addrOf (ρ x)).block, (addrOf (ρ x)).off + 2, none⟩).getD undef, (w.cell? ⟨(addrOf (ρ x)).block, (addrOf (ρ x)).off + 3, none⟩).getD undef, (w.cell? ⟨(addrOf (ρ x)).block, (addrOf (ρ x)).off + 4, none⟩).getD undef, (w.cell? ⟨(addrOf (ρ x)).block, (addrOf (ρ x)).off + 5, none⟩).getD undef, (w.cell? ⟨(addrOf (ρ x)).block, (addrOf (ρ x)).off + 6, none⟩).getD undef, (w.cell? ⟨(addrOf (ρ x)).block, (addrOf (ρ x)).off + 7, none⟩).getD undef, (w.cell? ⟨(addrOf (ρ x)).block, (addrOf (ρ x)).off + 8, none⟩).getD undef])) w
abbrev LoadLaw14 (P : Program) (t : TypeId) : Prop := ∀ (ρ : Operand → Value) (x : Operand) (dst : Option Tmp) (ty : TypeId) (pos : String) (after : Array Edge) (guard : Option (Nat × Bool)) (w : World), ρ x = .pointer (some ⟨(addrOf (ρ x)).block, (addrOf (ρ x)).off, none⟩) →
  ((w.cell? ⟨(addrOf (ρ x)).block, (addrOf (ρ x)).off, none⟩).isSome = true ∧ (w.cell? ⟨(addrOf (ρ x)).block, (addrOf (ρ x)).off + 1, none⟩).isSome = true ∧ (w.cell? ⟨(addrOf (ρ x)).block, (addrOf (ρ x)).off + 2, none⟩).isSome = true ∧ (w.cell? ⟨(addrOf (ρ x)).block, (addrOf (ρ x)).off + 3, none⟩).isSome = true ∧ (w.cell? ⟨(addrOf (ρ x)).block, (addrOf (ρ x)).off + 4, none⟩).isSome = true ∧ (w.cell? ⟨(addrOf (ρ x)).block, (addrOf (ρ x)).off + 5, none⟩).isSome = true ∧ (w.cell? ⟨(addrOf (ρ x)).block, (addrOf (ρ x)).off + 6, none⟩).isSome = true ∧ (w.cell? ⟨(addrOf (ρ x)).block, (addrOf (ρ x)).off + 7, none⟩).isSome = true ∧ (w.cell? ⟨(addrOf (ρ x)).block, (addrOf (ρ x)).off + 8, none⟩).isSome = true ∧ (w.cell? ⟨(addrOf (ρ x)).block, (addrOf (ρ x)).off + 9, none⟩).isSome = true ∧ (w.cell? ⟨(addrOf (ρ x)).block, (addrOf (ρ x)).off + 10, none⟩).isSome = true ∧ (w.cell? ⟨(addrOf (ρ x)).block, (addrOf (ρ x)).off + 11, none⟩).isSome = true ∧ (w.cell? ⟨(addrOf (ρ x)).block, (addrOf (ρ x)).off + 12, none⟩).isSome = true ∧ (w.cell? ⟨(addrOf (ρ x)).block, (addrOf (ρ x)).off + 13, none⟩).isSome = true) → Sem.run P (execOp ρ ⟨dst, .load t x, ty, pos, after, guard⟩) w = .ok (.value (.agg #[(w.cell? ⟨(addrOf (ρ x)).block, (addrOf (ρ x)).off, none⟩).getD undef, (w.cell? ⟨(addrOf (ρ x)).block, (addrOf (ρ x)).off + 1, none⟩).getD undef, (w.cell? ⟨(addrOf (ρ x)).block, (addrOf (ρ x)).off + 2, none⟩).getD undef, (w.cell? ⟨(addrOf (ρ x)).block, (addrOf (ρ x)).off + 3, none⟩).getD undef, (w.cell? ⟨(addrOf (ρ x)).block, (addrOf (ρ x)).off + 4, none⟩).getD undef, (w.cell? ⟨(addrOf (ρ x)).block, (addrOf (ρ x)).off + 5, none⟩).getD undef, (w.cell? ⟨(addrOf (ρ x)).block, (addrOf (ρ x)).off + 6, none⟩).getD undef, (w.cell? ⟨(addrOf (ρ x)).block, (addrOf (ρ x)).off + 7, none⟩).getD undef, (w.cell? ⟨(addrOf (ρ x)).block, (addrOf (ρ x)).off + 8, none⟩).getD undef, (w.cell? ⟨(addrOf (ρ x)).block, (addrOf (ρ x)).off + 9, none⟩).getD undef, (w.cell? ⟨(addrOf (ρ x)).block, (addrOf (ρ x)).off + 10, none⟩).getD undef, (w.cell? ⟨(addrOf (ρ x)).block, (addrOf (ρ x)).off + 11, none⟩).getD undef, (w.cell? ⟨(addrOf (ρ x)).block, (addrOf (ρ x)).off + 12, none⟩).getD undef, (w.cell? ⟨(addrOf (ρ x)).block, (addrOf (ρ x)).off + 13, none⟩).getD undef])) w
abbrev StoreLaw14 (P : Program) (t : TypeId) : Prop := ∀ (ρ : Operand → Value) (x y : Operand) (dst : Option Tmp) (ty : TypeId) (pos : String) (after : Array Edge) (guard : Option (Nat × Bool)) (w : World), ρ x = .pointer (some ⟨(addrOf (ρ x)).block, (addrOf (ρ x)).off, none⟩) → ρ y = .agg (aggOf (ρ y)) → (aggOf (ρ y)).size = 14 → (aggOf (ρ y)).toList.all (·.oneCell') = true →
  (((w.cell? ⟨(addrOf (ρ x)).block, (addrOf (ρ x)).off, none⟩).isSome = true ∧ w.frozen? ⟨(addrOf (ρ x)).block, (addrOf (ρ x)).off, none⟩ = false) ∧ ((w.cell? ⟨(addrOf (ρ x)).block, (addrOf (ρ x)).off + 1, none⟩).isSome = true ∧ w.frozen? ⟨(addrOf (ρ x)).block, (addrOf (ρ x)).off + 1, none⟩ = false) ∧ ((w.cell? ⟨(addrOf (ρ x)).block, (addrOf (ρ x)).off + 2, none⟩).isSome = true ∧ w.frozen? ⟨(addrOf (ρ x)).block, (addrOf (ρ x)).off + 2, none⟩ = false) ∧ ((w.cell? ⟨(addrOf (ρ x)).block, (addrOf (ρ x)).off + 3, none⟩).isSome = true ∧ w.frozen? ⟨(addrOf (ρ x)).block, (addrOf (ρ x)).off + 3, none⟩ = false) ∧ ((w.cell? ⟨(addrOf (ρ x)).block, (addrOf (ρ x)).off + 4, none⟩).isSome = true ∧ w.frozen? ⟨(addrOf (ρ x)).block, (addrOf (ρ x)).off + 4, none⟩ = false) ∧ ((w.cell? ⟨(addrOf (ρ x)).block, (addrOf (ρ x)).off + 5, none⟩).isSome = true ∧ w.frozen? ⟨(addrOf (ρ x)).block, (addrOf (ρ x)).off + 5, none⟩ = false) ∧ ((w.cell? ⟨(addrOf (ρ x)).block, (addrOf (ρ x)).off + 6, none⟩).isSome = true ∧ w.frozen? ⟨(addrOf (ρ x)).block, (addrOf (ρ x)).off + 6, none⟩ = false) ∧ ((w.cell? ⟨(addrOf (ρ x)).block, (addrOf (ρ x)).off + 7, none⟩).isSome = true ∧ w.frozen? ⟨(addrOf (ρ x)).block, (addrOf (ρ x)).off + 7, none⟩ = false) ∧ ((w.cell? ⟨(addrOf (ρ x)).block, (addrOf (ρ x)).off + 8, none⟩).isSome = true ∧ w.frozen? ⟨(addrOf (ρ x)).block, (addrOf (ρ x)).off + 8, none⟩ = false) ∧ ((w.cell? ⟨(addrOf (ρ x)).block, (addrOf (ρ x)).off + 9, none⟩).isSome = true ∧ w.frozen? ⟨(addrOf (ρ x)).block, (addrOf (ρ x)).off + 9, none⟩ = false) ∧ ((w.cell? ⟨(addrOf (ρ x)).block, (addrOf (ρ x)).off + 10, none⟩).isSome = true ∧ w.frozen? ⟨(addrOf (ρ x)).block, (addrOf (ρ x)).off + 10, none⟩ = false) ∧ ((w.cell? ⟨(addrOf (ρ x)).block, (addrOf (ρ x)).off + 11, none⟩).isSome = true ∧ w.frozen? ⟨(addrOf (ρ x)).block, (addrOf (ρ x)).off + 11, none⟩ = false) ∧ ((w.cell? ⟨(addrOf (ρ x)).block, (addrOf (ρ x)).off + 12, none⟩).isSome = true ∧ w.frozen? ⟨(addrOf (ρ x)).block, (addrOf (ρ x)).off + 12, none⟩ = false) ∧ ((w.cell? ⟨(addrOf (ρ x)).block, (addrOf (ρ x)).off + 13, none⟩).isSome = true ∧ w.frozen? ⟨(addrOf (ρ x)).block, (addrOf (ρ x)).off + 13, none⟩ = false)) → Sem.run P (execOp ρ ⟨dst, .store t x y, ty, pos, after, guard⟩) w = .ok .skip (w.setCells (addrOf (ρ x)).block (addrOf (ρ x)).off (aggOf (ρ y)).toList)
end Go.Proofs.YtgmpelhphnmknaaGreat
namespace Go.Proofs.YtgmpelhphnmknaaGreat
open Go.RowKit
theorem setCells_drew (b : Nat) : ∀ (vs : List Value) (o : Nat) (w : World), w.drew.setCells b o vs = (w.setCells b o vs).drew
 | [], _, _ => rfl
 | v :: r, o, w => by rw [World.setCells, World.setCells, World.setCell_drew, setCells_drew b r]
attribute [go_sem] setCells_drew
theorem ret_cell_one {P : Program} {fn : Func} {p : Tmp} {ty : TypeId} {d : TypeDesc} (h : fn.results = #[.cell p ty]) (tmps : Array Value) (w : World) (g : Nat) (cs : List Value) (hp : tmps.getD p undef = .pointer (some ⟨g, 0, none⟩)) (hr : w.rangeAt g 0 cs)
  (hu : P.underlying ty = some d) (hd : d.isRow = true) (hi : (P.info? ty).map (·.size) = some cs.length) : (results fn tmps).run P w = .ok (.agg cs.toArray) w := by
 have hp' : tmps[p]?.getD undef = .pointer (some ⟨g, 0, none⟩) := by simpa using hp
 simp [results, h, hp', asAddr, run_loadVar_mid w g 0 ty cs d hr hu hd hi]
end Go.Proofs.YtgmpelhphnmknaaGreat
namespace Go.Proofs.YtgmpelhphnmknaaGreat
open Go.RowKit
theorem size_walk : (Tryz.prog.info? 150).map (·.size) = some 14 := by kernel_rfl
theorem load_walk : LoadLaw14 Tryz.prog 150 := exec_load14 (P := Tryz.prog) (t := 150) Tryz.underlying150 rfl size_walk
theorem store_walk : StoreLaw14 Tryz.prog 150 := exec_store14 (P := Tryz.prog) (t := 150) size_walk
theorem size_axes : (Tryz.prog.info? 148).map (·.size) = some 9 := by kernel_rfl
theorem load_axes : LoadLaw9 Tryz.prog 148 := exec_load9 (P := Tryz.prog) (t := 148) Tryz.underlying148 rfl size_axes
theorem rk_oneCell_int (k : IntKind) (n : Int) : (Value.int k n).oneCell' = true := rfl
theorem rk_oneCell_slice (a : Option Addr) (n c : Nat) : (Value.slice a n c).oneCell' = true := rfl
attribute [go_sem ↓] load_walk store_walk load_axes
attribute [go_sem] setCells_alloc_last setCells_alloc_other rk_oneCell_int rk_oneCell_slice List.all_toArray List.all_cons List.all_nil
end Go.Proofs.YtgmpelhphnmknaaGreat
