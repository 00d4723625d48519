/- Slices of hits; the walk of plane.all. -/
import Derived.Test.YtgcepjminlapiaaHitRows
import Derived.Test.YtgcepjminlapiaaPlaneH
import Derived.Test.YtgcepjminlapiaaPlaneI
import Derived.Test.YtgcepjminlapiaaLawD
namespace Go.Proofs.Ytgcepjminlapiaa
open Go.RowKit
set_option linter.unusedVariables false
set_option linter.unusedSimpArgs false
def zeroPR : PR := ⟨0, 0, 0, 0, 0, 0, 0, 0, 0, 0, 0, 0, 0, none, 0, 0, none, 0, 0, fun _ => ⟨0, 0, 0⟩, fun _ => 0⟩
theorem of_any (a : Option Addr) (n c : Nat) (ps : Nat → PR) (h : HV) (w : World) (B : Nat) (hBw : B ≤ w.heap.size) (hP : Planes B w a n ps) (hC : checkB n ps = true) :
    Calls Try.prog 50 #[setupV a n c, h.val] w fun e w' => ∃ p : PR, ∃ i : Int, e = .returned (.tuple #[p.placed i, .bool (ofB n ps h)]) ∧ Below w.heap.size w w' := by
  by_cases ho : 0 ≤ h.plane ∧ h.plane ≤ (n : Int) - 1
  · obtain ⟨k, hk⟩ := Int.eq_ofNat_of_zero_le ho.1
    rw [ofB_in (show k < n by omega) hk]
    exact (of_in a n c ps h w B hBw hP hC k (by omega) hk).mono fun e w' ⟨he, hb⟩ => ⟨ps k, k, he, hb⟩
  · rw [ofB_out ho]
    exact (of_out a n c h w (checkB_n hC).2 ho).mono fun e w' ⟨he, hb⟩ => ⟨zeroPR, 0, he, hb⟩
def hitsB (n : Nat) (ps : Nat → PR) (m : Nat) (hs : Nat → HV) : Bool := checkB n ps && allUpto m (fun i => ofB n ps (hs i))
def allE (n : Nat) (ps : Nat → PR) (m : Nat) (hs : Nat → HV) : Int := if 2000 < m then 3 else checkE (hitsB n ps m hs)
set_option maxRecDepth 100000 in
set_option maxHeartbeats 2000000 in
theorem all_any (a : Option Addr) (n c : Nat) (ps : Nat → PR) (ha : Option Addr) (m d : Nat) (hs : Nat → HV) (w : World) (B : Nat) (hBw : B ≤ w.heap.size) (hP : Planes B w a n ps) (hH : Hits B w ha m hs) :
    Calls Try.prog 65 #[setupV a n c, .slice ha m d] w fun e w' => e = .returned (.int .i64 (allE n ps m hs)) ∧ Below w.heap.size w w' := by
  have hm : m ≤ 9223372036854775807 := hH.1
  have HP := Lib.hid hP
  have HH := Lib.hid hH
  clear hP hH
  by_cases hl : 2000 < m
  · have HE := Lib.hid (show allE n ps m hs = 3 by rw [allE, if_pos hl])
    have hl' : (2000 : Int) < (m : Int) := by omega
    go_enter Try.func65, Try.ntmps65
    go_wp2
    go_ret
    exact ⟨ret_int HE.out.symm, (Below.refl _ _).alloc (Nat.le_refl _) _⟩
  · have HE := Lib.hid (show allE n ps m hs = checkE (hitsB n ps m hs) by rw [allE, if_neg hl])
    have hl' : ¬ (2000 : Int) < (m : Int) := by omega
    cases hC : checkB n ps
    · have HE2 := Lib.hid (show allE n ps m hs = 2 by rw [HE.out, hitsB, hC]; rfl)
      go_enter Try.func65, Try.ntmps65
      go_wp2_with (go_at_call 56; refine (check_any a n c ps _ B (by simp; omega) (HP.out.below ((Below.refl B w).alloc hBw _))).mono ?_; rintro e wy ⟨rfl, hby⟩; rw [hC]; obtain ⟨l0, l1, l2, l3⟩ := LF_step LF_start hby; clear hby)
      go_ret
      exact ⟨ret_int HE2.out.symm, l3⟩
    · have HC := Lib.hid hC
      have HE2 := Lib.hid (fun i (hi : i < m) (hv : ofB n ps (hs i) = false) => show allE n ps m hs = 2 by rw [HE.out, hitsB, hC, allUpto_false hi hv]; rfl)
      have HE3 := Lib.hid (fun (hv : ∀ i, i < m → ofB n ps (hs i) = true) => show allE n ps m hs = 0 by rw [HE.out, hitsB, hC, allUpto_true hv]; rfl)
      clear HE
      go_enter Try.func65, Try.ntmps65
      go_wp2_with (go_at_call 56; refine (check_any a n c ps _ B (by simp; omega) (HP.out.below ((Below.refl B w).alloc hBw _))).mono ?_; rintro e wy ⟨rfl, hby⟩; rw [hC]; obtain ⟨l0, l1, l2, l3⟩ := LF_step LF_start hby; clear hby)
      go_loopw [17] (fun t wr => ∃ i : Nat, i ≤ m ∧ t = .int .i64 i ∧ Hid (∀ j, j < i → ofB n ps (hs j) = true) ∧ LF a n c w wr) (fun t _ => m - (intOf t).toNat)
      case atStart => exact ⟨0, Nat.zero_le _, rfl, Lib.hid (fun j h => by omega), l0, l1, l2, l3⟩
      case round =>
        clear l0 l1 l2 l3
        obtain ⟨i, hi, rfl, HALL, l0, l1, l2, l3⟩ := hrel
        by_cases hlt : i < m
        · obtain ⟨b, off, rfl, hbB, y0, y1, y2, y3, y4, y5⟩ := ((HH.out.below (l3.mono hBw)).get hlt)
          have hbz : b < wr.heap.size := by omega
          have hiv := HE2.out i hlt
          have HIV := Lib.hid hiv
          clear hiv
          generalize hv : ofB n ps (hs i) = V at *
          have HV := Lib.hid hv
          clear hv
          generalize hhs : hs i = h at y0 y1 y2 y3 y4 y5 HV
          have HHS := Lib.hid hhs
          clear hhs
          cases V
          · go_wp2_with (go_at_call 50; refine (of_any a n c ps h _ B (by simp; omega) (HP.out.below ((l3.alloc (by omega) _).mono hBw)) HC.out).mono ?_; rintro e wy ⟨p, ix, rfl, hby⟩; rw [HV.out]; have hL := LF_step (LF_step ⟨l0, l1, l2, l3⟩ ((Below.refl _ _).alloc (Nat.le_refl _) _)) hby; clear l0 l1 l2 l3 hby; obtain ⟨l0, l1, l2, l3⟩ := hL)
            go_ret
            exact ⟨ret_int (HIV.out (by trivial)).symm, l3.alloc (by omega) _⟩
          · go_wp2_with (go_at_call 50; refine (of_any a n c ps h _ B (by simp; omega) (HP.out.below ((l3.alloc (by omega) _).mono hBw)) HC.out).mono ?_; rintro e wy ⟨p, ix, rfl, hby⟩; rw [HV.out]; have hL := LF_step (LF_step ⟨l0, l1, l2, l3⟩ ((Below.refl _ _).alloc (Nat.le_refl _) _)) hby; clear l0 l1 l2 l3 hby; obtain ⟨l0, l1, l2, l3⟩ := hL)
            go_roundw
            case rel => exact ⟨i + 1, by omega, by go_num, Lib.hid (fun j hj => by (by_cases e : j = i; subst e; rw [HHS.out]; exact HV.out; exact HALL.out j (by omega))), LF_step ⟨l0, l1, l2, l3⟩ ((Below.refl _ _).alloc (Nat.le_refl _) _)⟩
            case measure => simp [intOf]; omega
        · obtain rfl : i = m := by omega
          go_wp2
          go_ret
          exact ⟨ret_int (HE3.out HALL.out).symm, l3⟩
end Go.Proofs.Ytgcepjminlapiaa
