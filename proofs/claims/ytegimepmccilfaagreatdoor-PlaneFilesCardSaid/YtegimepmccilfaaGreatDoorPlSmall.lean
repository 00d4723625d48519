/- The walks of the statements' small and of the reference's Times. -/
import Derived.Test.YtegimepmccilfaaGreatDoorPlaneT
import Derived.Test.YtegimepmccilfaaGreatDoorGateData
import Derived.Test.YtegimepmccilfaaGreatDoorWide2
namespace Go.Proofs.YtegimepmccilfaaGreatDoor
open Go.RowKit
set_option linter.unusedVariables false
set_option linter.unusedSimpArgs false
def smallAt (ps : Nat → PR) (j : Nat) : Bool := decide ((ps j).dn ≤ 60) && decide ((ps j).en ≤ 110)
def smallB (n : Nat) (ps : Nat → PR) : Bool := allUpto n (smallAt ps) && decide (n ≤ 20)
theorem smallB_end {n k : Nat} {ps : Nat → PR} (hk : k = n) (h : ∀ j, j < k → smallAt ps j = true) : decide ((n : Int) ≤ 20) = smallB n ps := by
  subst hk; rw [smallB, allUpto_true h, Bool.true_and]; rw [Bool.eq_iff_iff]; simp; omega
set_option maxRecDepth 100000 in
set_option maxHeartbeats 1000000 in
theorem small_any (a : Option Addr) (n c : Nat) (ps : Nat → PR) (w : World) (B : Nat) (hBw : B ≤ w.heap.size) (hP : Planes B w a n ps) :
    Calls Tryz.prog 5 #[setupV a n c] w fun e w' => e = .returned (.bool (smallB n ps)) ∧ Below w.heap.size w w' := by
  obtain ⟨hn, hP⟩ := hP
  unfold maxLen at hn
  have HP := Lib.hid hP
  clear hP
  go_enter Tryz.func5, Tryz.ntmps5
  go_wp2
  go_loop [3] (fun t => ∃ k : Nat, k ≤ n ∧ t = .int .i64 k ∧ ∀ j, j < k → smallAt ps j = true) (fun t => n - (intOf t).toNat)
  case atStart => exact ⟨0, Nat.zero_le _, rfl, fun j h => by omega⟩
  case round =>
    obtain ⟨k, hk, rfl, hall⟩ := hrel
    have HALL := Lib.hid hall
    clear hall
    by_cases hlt : k < n
    · rcases HP.out with hd | ⟨b, off, rfl, hbs, hcell⟩
      · omega
      obtain ⟨⟨_, _, _, _, _, _, _, _, _, _, _, _, _, c13, c14⟩, hm1, hm2, _, _⟩ := hcell k hlt
      unfold maxLen at hm1 hm2
      have hbz0 : b < w.heap.size := by omega
      clear hcell
      by_cases h1 : (ps k).dn ≤ 60
      · have h1' : ¬ (60 : Int) < (ps k).dn := by omega
        by_cases h2 : (ps k).en ≤ 110
        · have h2' : ¬ (110 : Int) < (ps k).en := by omega
          have HOK := Lib.hid (show smallAt ps k = true by simp [smallAt, h1, h2])
          go_wp2
          go_round
          case rel => exact ⟨k + 1, by omega, by go_num, fun j hj => by (by_cases e : j = k; subst e; exact HOK.out; exact HALL.out j (by omega))⟩
          case measure => simp [intOf]; omega
        · have h2' : (110 : Int) < (ps k).en := by omega
          have HF := Lib.hid (show false = smallB n ps by rw [smallB, allUpto_false hlt (by simp [smallAt, h2]), Bool.false_and])
          go_wp2
          go_ret
          exact ⟨ret_bool HF.out, (Below.refl _ _).alloc (Nat.le_refl _) _⟩
      · have h1' : (60 : Int) < (ps k).dn := by omega
        have HF := Lib.hid (show false = smallB n ps by rw [smallB, allUpto_false hlt (by simp [smallAt, h1]), Bool.false_and])
        go_wp2
        go_ret
        exact ⟨ret_bool HF.out, (Below.refl _ _).alloc (Nat.le_refl _) _⟩
    · go_wp2
      go_ret
      exact ⟨ret_bool (smallB_end (by omega) HALL.out), (Below.refl _ _).alloc (Nat.le_refl _) _⟩
end Go.Proofs.YtegimepmccilfaaGreatDoor
