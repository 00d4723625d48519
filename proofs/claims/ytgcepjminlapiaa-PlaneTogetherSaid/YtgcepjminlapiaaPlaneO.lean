/- The walks of the statements' small and of the reference's Times. -/
import Derived.Test.YtgcepjminlapiaaPlaneT
import Derived.Test.YtgcepjminlapiaaGateData
import Derived.Test.YtgcepjminlapiaaWide2
namespace Go.Proofs.Ytgcepjminlapiaa
open Go.RowKit
set_option linter.unusedVariables false
set_option linter.unusedSimpArgs false
def smallAt (ps : Nat → PR) (j : Nat) : Bool := decide ((ps j).dn ≤ 60) && decide ((ps j).en ≤ 110)
def smallB (n : Nat) (ps : Nat → PR) : Bool := allUpto n (smallAt ps) && decide (n ≤ 20)
theorem smallB_end {n k : Nat} {ps : Nat → PR} (hk : k = n) (h : ∀ j, j < k → smallAt ps j = true) : decide ((n : Int) ≤ 20) = smallB n ps := by
  subst hk; rw [smallB, allUpto_true h, Bool.true_and]; rw [Bool.eq_iff_iff]; simp; omega
set_option maxRecDepth 100000 in
set_option maxHeartbeats 1000000 in
theorem small_any (a : Option Addr) (n c : Nat) (ps : Nat → PR) (w : World) (B : Nat) (hBw : B ≤ w.heap.size) (hP : Planes B w a n ps) :
    Calls Try.prog 15 #[setupV a n c] w fun e w' => e = .returned (.bool (smallB n ps)) ∧ Below w.heap.size w w' := by
  obtain ⟨hn, hP⟩ := hP
  unfold maxLen at hn
  have HP := Lib.hid hP
  clear hP
  go_enter Try.func15, Try.ntmps15
  go_wp2
  go_loop [3] (fun t => ∃ k : Nat, k ≤ n ∧ t = .int .i64 k ∧ ∀ j, j < k → smallAt ps j = true) (fun t => n - (intOf t).toNat)
  case atStart => exact ⟨0, Nat.zero_le _, rfl, fun j h => by omega⟩
  case round =>
    obtain ⟨k, hk, rfl, hall⟩ := hrel
    have HALL := Lib.hid hall
    clear hall
    by_cases hlt : k < n
    · rcases HP.out with hd | ⟨b, off, rfl, hbs, hcell⟩
      · omega
      obtain ⟨⟨_, _, _, _, _, _, _, _, _, _, _, _, _, c13, c14⟩, hm1, hm2, _, _⟩ := hcell k hlt
      unfold maxLen at hm1 hm2
      have hbz0 : b < w.heap.size := by omega
      clear hcell
      by_cases h1 : (ps k).dn ≤ 60
      · have h1' : ¬ (60 : Int) < (ps k).dn := by omega
        by_cases h2 : (ps k).en ≤ 110
        · have h2' : ¬ (110 : Int) < (ps k).en := by omega
          have HOK := Lib.hid (show smallAt ps k = true by simp [smallAt, h1, h2])
          go_wp2
          go_round
          case rel => exact ⟨k + 1, by omega, by go_num, fun j hj => by (by_cases e : j = k; subst e; exact HOK.out; exact HALL.out j (by omega))⟩
          case measure => simp [intOf]; omega
        · have h2' : (110 : Int) < (ps k).en := by omega
          have HF := Lib.hid (show false = smallB n ps by rw [smallB, allUpto_false hlt (by simp [smallAt, h2]), Bool.false_and])
          go_wp2
          go_ret
          exact ⟨ret_bool HF.out, (Below.refl _ _).alloc (Nat.le_refl _) _⟩
      · have h1' : (60 : Int) < (ps k).dn := by omega
        have HF := Lib.hid (show false = smallB n ps by rw [smallB, allUpto_false hlt (by simp [smallAt, h1]), Bool.false_and])
        go_wp2
        go_ret
        exact ⟨ret_bool HF.out, (Below.refl _ _).alloc (Nat.le_refl _) _⟩
    · go_wp2
      go_ret
      exact ⟨ret_bool (smallB_end (by omega) HALL.out), (Below.refl _ _).alloc (Nat.le_refl _) _⟩
set_option maxRecDepth 100000 in
set_option maxHeartbeats 1000000 in
theorem refTimes_any (a : Option Addr) (n c : Nat) (ps : Nat → PR) (h : HV) (w : World) (B : Nat) (hBw : B ≤ w.heap.size) (hP : Planes B w a n ps) (hn : n ≤ 16) (k : Nat) (hk : k < n) (hhp : h.plane = k) (hS : Shaped (ps k)) (ht : -1000000000 ≤ h.time ∧ h.time ≤ 1000000000) :
    Calls Try.prog 21 #[setupV a n c, h.val] w fun e w' => e = .returned (.agg #[.int .i64 (if (ps k).kind = 3 then (ps k).clo else h.time - (ps k).chi - (ps k).jitter), .int .i64 (if (ps k).kind = 3 then (ps k).chi else h.time - (ps k).clo + (ps k).jitter)]) ∧ Below w.heap.size w w' := by
  obtain ⟨b, off, rfl, hbB, ⟨c0, c1, c2, c3, c4, c5, c6, c7, c8, c9, c10, c11, c12, c13, c14⟩, hm⟩ := hP.get hk
  clear hP hm
  obtain ⟨_, channel, many, drift, charge, time⟩ := h
  dsimp only at hhp ht ⊢
  subst hhp
  generalize ps k = p at *
  obtain ⟨j1, j2⟩ := hS.jitter
  obtain ⟨y1, y2, y3⟩ := hS.clock
  obtain ⟨t1, t2⟩ := ht
  clear hS
  have hbz : b < w.heap.size := by omega
  have lt1 : b < w.heap.size + 1 := by omega
  have lt2 : b < w.heap.size + 1 + 1 := by omega
  have lt3 : b < w.heap.size + 1 + 1 + 1 := by omega
  obtain ⟨kind, view, z, first, pitch, strips, spill, olo, ohi, clo, chi, jitter, least, da, dn, dc, ea, en, ec, ds, es⟩ := p
  dsimp only at *
  by_cases hk3 : kind = 3
  · have e1 : (kind == 3) = true := by simp [hk3]
    have HK := Lib.hid hk3
    rw [if_pos hk3, if_pos hk3]
    clear hk3
    go_enter Try.func21, Try.ntmps21
    go_wp2
    refine bodyPost_ret (v := .agg #[.int .i64 clo, .int .i64 chi]) ?_ rfl ⟨rfl, ?_⟩
    · simp [results, Try.results21, go_sem]
    · exact ((((Below.refl _ _).alloc (Nat.le_refl _) _).alloc (by simp) _).alloc (by simp; omega) _).alloc (by simp; omega) _
  · have e1 : (kind == 3) = false := by simp [hk3]
    have HK := Lib.hid hk3
    rw [if_neg hk3, if_neg hk3]
    clear hk3
    go_enter Try.func21, Try.ntmps21
    go_wp2
    refine bodyPost_ret (v := .agg #[.int .i64 (time - chi - jitter), .int .i64 (time - clo + jitter)]) ?_ rfl ⟨rfl, ?_⟩
    · simp [results, Try.results21, go_sem]
    · exact ((((Below.refl _ _).alloc (Nat.le_refl _) _).alloc (by simp) _).alloc (by simp; omega) _).alloc (by simp; omega) _
end Go.Proofs.Ytgcepjminlapiaa
