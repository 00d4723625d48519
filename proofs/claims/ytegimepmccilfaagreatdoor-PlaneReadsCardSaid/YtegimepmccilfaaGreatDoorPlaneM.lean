/- The walks of the reference's SameGates and of the program's gate. -/
import Derived.Test.YtegimepmccilfaaGreatDoorPlaneT
import Derived.Test.YtegimepmccilfaaGreatDoorGateData
namespace Go.Proofs.YtegimepmccilfaaGreatDoor
open Go.RowKit
set_option linter.unusedVariables false
set_option linter.unusedSimpArgs false
set_option maxRecDepth 100000 in
set_option maxHeartbeats 1000000 in
theorem gate_any (p : PR) (i lo hi : Int) (w : World) (h1 : -1000000000 ≤ lo ∧ lo ≤ 1000000000) (h2 : -1000000000 ≤ hi ∧ hi ≤ 1000000000) (h3 : -1000000 ≤ p.olo ∧ p.olo ≤ 1000000) (h4 : -1000000 ≤ p.ohi ∧ p.ohi ≤ 1000000) :
    Calls Tryz.prog 57 #[p.placed i, .int .i64 lo, .int .i64 hi] w fun e w' => e = .returned (.agg #[.int .i64 p.z, .int .i64 (lo + p.olo), .int .i64 (hi + p.ohi)]) ∧ Below w.heap.size w w' := by
  go_enter Tryz.func57, Tryz.ntmps57
  go_wp2
  refine bodyPost_ret (v := .agg #[.int .i64 p.z, .int .i64 (lo + p.olo), .int .i64 (hi + p.ohi)]) (by simp [results, Tryz.results57, go_sem]) rfl ⟨rfl, ?_⟩
  exact ((Below.refl _ _).alloc (Nat.le_refl _) _).alloc (by simp) _
set_option maxRecDepth 100000 in
set_option maxHeartbeats 1000000 in
theorem SameGates_any (a b : Option Addr) (n m c d : Nat) (f g : Nat → GV) (w : World) (B : Nat) (hBw : B ≤ w.heap.size) (hf : GatesAt B w a n f) (hg : GatesAt B w b m g) (hn : n ≤ maxLen) (hm : m ≤ maxLen) :
    Calls Tryz.prog 17 #[.slice a n c, .slice b m d] w fun e w' => e = .returned (.bool (sameGatesB n m f g)) ∧ Below w.heap.size w w' := by
  unfold maxLen at hn hm
  have HFa := Lib.hid hf
  have HGa := Lib.hid hg
  clear hf hg
  by_cases hl : n = m
  case neg =>
    have HE := Lib.hid (sameGatesB_len (f := f) (g := g) hl)
    have h1 : ((n : Int) != m) = true := by simp; omega
    clear hl
    go_enter Tryz.func17, Tryz.ntmps17
    go_wp2
    go_ret
    exact ⟨ret_bool HE.out, Below.refl _ _⟩
  subst hl
  go_enter Tryz.func17, Tryz.ntmps17
  go_wp2
  go_loopw [5] (fun t wr => ∃ k : Nat, k ≤ n ∧ t = .int .i64 k ∧ (∀ j, j < k → gvEq (f j) (g j) = true) ∧ Below w.heap.size w wr) (fun t _ => n - (intOf t).toNat)
  case atStart => exact ⟨0, Nat.zero_le _, rfl, fun j h => by omega, Below.refl _ _⟩
  case round =>
    obtain ⟨k, hk, rfl, hall, hb⟩ := hrel
    have HALL := Lib.hid hall
    clear hall
    by_cases hlt : k < n
    · rcases HFa.out with e0 | ⟨b1, o1, rfl, hb1, hc1⟩
      · omega
      rcases HGa.out with e0 | ⟨b2, o2, rfl, hb2, hc2⟩
      · omega
      obtain ⟨c0, c1, c2⟩ := hc1 k hlt
      obtain ⟨d0, d1, d2⟩ := hc2 k hlt
      have l1 : b1 < w.heap.size := by omega
      have l2 : b2 < w.heap.size := by omega
      obtain ⟨hc, hf⟩ := bcell hb
      clear hc1 hc2
      by_cases he : gvEq (f k) (g k) = true
      · have HEQ := Lib.hid he
        obtain ⟨x1, x2, x3⟩ : (f k).z = (g k).z ∧ (f k).lo = (g k).lo ∧ (f k).hi = (g k).hi := by simpa [gvEq] using he
        rw [x1] at c0
        rw [x2] at c1
        rw [x3] at c2
        clear x1 x2 x3 he
        go_wp2_with fail
        go_quiet (fail)
        go_wp2
        go_roundw
        case rel => exact ⟨k + 1, by omega, by go_num, fun j hj => by (by_cases e : j = k; subst e; exact HEQ.out; exact HALL.out j (by omega)), below_drewN hb _⟩
        case measure => simp [intOf]; omega
      · have he' : gvEq (f k) (g k) = false := by simpa using he
        have HF := Lib.hid (sameGatesB_at (m := n) hlt he')
        have hne : ¬ ((f k).z = (g k).z ∧ (f k).lo = (g k).lo ∧ (f k).hi = (g k).hi) := fun e => he (by simp [gvEq, e.1, e.2.1, e.2.2])
        clear he he'
        by_cases x1 : (f k).z = (g k).z
        · rw [x1] at c0
          by_cases x2 : (f k).lo = (g k).lo
          · rw [x2] at c1
            have x3 : ¬ (f k).hi = (g k).hi := fun e => hne ⟨x1, x2, e⟩
            clear hne x1 x2
            go_wp2_with fail
            go_quiet (fail)
            go_wp2
            go_ret
            exact ⟨ret_bool HF.out, below_drewN hb _⟩
          · clear hne x1
            go_wp2_with fail
            go_quiet (fail)
            go_wp2
            go_ret
            exact ⟨ret_bool HF.out, below_drewN hb _⟩
        · clear hne
          go_wp2_with fail
          go_quiet (fail)
          go_wp2
          go_ret
          exact ⟨ret_bool HF.out, below_drewN hb _⟩
    · go_wp2
      go_ret
      exact ⟨ret_bool (sameGatesB_end rfl (by omega) HALL.out), hb⟩
end Go.Proofs.YtegimepmccilfaaGreatDoor
