/- The walk of the reference's Radii. -/
import Derived.Test.YtgcepjminlapiaaPlaneT
import Derived.Test.YtgcepjminlapiaaGateData
namespace Go.Proofs.Ytgcepjminlapiaa
open Go.RowKit
set_option linter.unusedVariables false
set_option linter.unusedSimpArgs false
set_option maxRecDepth 100000 in
set_option maxHeartbeats 2000000 in
theorem refRadii_any (p : PR) (drift : Int) (w : World) (B : Nat) (hBw : B ≤ w.heap.size) (hm : p.mem B w) (hS : Shaped p) (hd : 0 ≤ drift ∧ drift ≤ 1000000) :
    Calls Try.prog 55 #[p.plane, .int .i64 drift] w fun e w' => e = .returned (.tuple #[.int .i64 (radLo p drift p.dn), .int .i64 (radHi p drift p.dn)]) ∧ Below w.heap.size w w' := by
  obtain ⟨hdn, hen, hD, hI⟩ := hm
  obtain ⟨d1, d2⟩ := hd
  obtain ⟨j1, j2⟩ := hS.jitter
  obtain ⟨b1, b2⟩ := hS.pitch
  have HD := Lib.hid hD
  have hL : ∀ k, radLo p drift (k + 1) = if (p.ds k).time ≤ drift - p.jitter then (p.ds k).lo else radLo p drift k := fun _ => rfl
  have hL0 : radLo p drift 0 = 0 := rfl
  have hH : ∀ m, radHi p drift (m + 1) = if drift + p.jitter ≤ (p.ds (p.dn - 1 - m)).time then (p.ds (p.dn - 1 - m)).hi else radHi p drift m := fun _ => rfl
  have hH0 : radHi p drift 0 = p.pitch / 2 := rfl
  generalize radLo p drift = RL at *
  generalize radHi p drift = RH at *
  have HL := Lib.hid hL
  have HL0 := Lib.hid hL0
  have HH := Lib.hid hH
  have HH0 := Lib.hid hH0
  clear hD hI hen hS hL hL0 hH hH0
  unfold maxLen at hdn
  obtain ⟨kind, view, z, first, pitch, strips, spill, olo, ohi, clo, chi, jitter, least, da, dn, dc, ea, en, ec, ds, es⟩ := p
  dsimp only at *
  go_enter Try.func55, Try.ntmps55
  go_wp2
  go_quiet (fail)
  go_wp2
  go_loopw [8, 6] (fun t lo wr => ∃ k : Nat, k ≤ dn ∧ t = .int .i64 k ∧ lo = .int .i64 (RL k) ∧ Below (w.heap.size + 1) (w.alloc (.cells #[.int .i64 kind, .int .i64 view, .int .i64 z, .int .i64 first, .int .i64 pitch, .int .i64 strips, .int .i64 spill, .int .i64 olo, .int .i64 ohi, .int .i64 clo, .int .i64 chi, .int .i64 jitter, .int .i64 least, .slice da dn dc, .slice ea en ec] 49)) wr) (fun t _ _ => dn - (intOf t).toNat)
  case atStart => exact ⟨0, Nat.zero_le _, rfl, by rw [HL0.out], below_drewN (Below.refl _ _) _⟩
  case round =>
    obtain ⟨k, hk, rfl, rfl, hb⟩ := hrel
    obtain ⟨hc, hf⟩ := bcell hb
    have hz : w.heap.size < wr.heap.size := by have := hb.size; simp at this; omega
    by_cases hlt : k < dn
    · rcases HD.out with hd | ⟨b, off, rfl, hbs, hcell⟩
      · omega
      obtain ⟨c0, c1, c2⟩ := hcell k hlt
      have hbz0 : b < w.heap.size := by omega
      have hbz1 : b < w.heap.size + 1 := by omega
      have hi3 : IntKind.i64.wrap (drift - jitter) = drift - jitter := IntWalk.i64_in _ (by omega)
      clear hcell
      by_cases ht : (ds k).time ≤ drift - jitter
      · have HR := Lib.hid (show RL (k + 1) = (ds k).lo by rw [HL.out, if_pos ht])
        have ht' : decide ((ds k).time ≤ drift - jitter) = true := decide_eq_true ht
        clear ht
        go_wp2_with fail
        go_quiet (fail)
        go_wp2
        clear hi3
        go_roundw
        case rel => exact ⟨k + 1, by omega, by go_num, by rw [HR.out], below_drewN hb _⟩
        case measure => simp [intOf]; omega
      · have HR := Lib.hid (show RL (k + 1) = RL k by rw [HL.out, if_neg ht])
        have ht' : decide ((ds k).time ≤ drift - jitter) = false := decide_eq_false ht
        clear ht
        go_wp2_with fail
        go_quiet (fail)
        go_wp2
        clear hi3
        go_roundw
        case rel => exact ⟨k + 1, by omega, by go_num, by rw [HR.out], below_drewN hb _⟩
        case measure => simp [intOf]; omega
    · obtain rfl : k = dn := by omega
      clear hlt
      obtain ⟨wo, rfl⟩ : ∃ wo : World, wo = wr := ⟨_, rfl⟩
      go_wp2
      go_loopw [9, 7] (fun t hi wr => ∃ j m : Nat, j + m = k ∧ t = .int .i64 ((j : Int) - 1) ∧ hi = .int .i64 (RH m) ∧ Below (w.heap.size + 1) (w.alloc (.cells #[.int .i64 kind, .int .i64 view, .int .i64 z, .int .i64 first, .int .i64 pitch, .int .i64 strips, .int .i64 spill, .int .i64 olo, .int .i64 ohi, .int .i64 clo, .int .i64 chi, .int .i64 jitter, .int .i64 least, .slice da k dc, .slice ea en ec] 49)) wr) (fun t _ _ => (intOf t + 1).toNat)
      case atStart => exact ⟨k, 0, rfl, rfl, by rw [HH0.out], hb⟩
      case round =>
        clear hb hc hf hz
        obtain ⟨j, m, hjm, rfl, rfl, hb⟩ := hrel
        have HJ := Lib.hid hjm
        have hj1 : j ≤ k := by omega
        have hB0 : Below w.heap.size w wr := ((Below.refl _ _).alloc (Nat.le_refl _) _).trans (hb.mono (by omega))
        by_cases hlt : 0 < j
        · obtain ⟨hc, hf⟩ := bcell hb
          have hz : w.heap.size < wr.heap.size := by have := hb.size; simp at this; omega
          rcases HD.out with hd | ⟨b, off, rfl, hbs, hcell⟩
          · omega
          obtain ⟨c0, c1, c2⟩ := hcell (j - 1) (by omega)
          have hbz0 : b < w.heap.size := by omega
          have hbz1 : b < w.heap.size + 1 := by omega
          have hi4 : j - 1 < k := by omega
          have hi1 : (0 : Int) ≤ (j : Int) - 1 := by omega
          have hi1' : (1 : Int) ≤ (j : Int) := by omega
          have hi2 : ((j : Int) - 1).toNat = j - 1 := by omega
          have hi3 : IntKind.i64.wrap (drift + jitter) = drift + jitter := IntWalk.i64_in _ (by omega)
          have hix : k - 1 - m = j - 1 := by omega
          have HX := Lib.hid hix
          clear hcell hix hjm
          by_cases ht : drift + jitter ≤ (ds (j - 1)).time
          · have HR := Lib.hid (show RH (m + 1) = (ds (j - 1)).hi by rw [HH.out, HX.out, if_pos ht])
            have ht' : decide (drift + jitter ≤ (ds (j - 1)).time) = true := decide_eq_true ht
            clear ht
            go_wp2_with fail
            go_quiet (fail)
            go_wp2
            clear hi3 hi2 hi1
            go_roundw
            case rel => exact ⟨j - 1, m + 1, by have := HJ.out; omega, congrArg (Value.int .i64) (by omega), by rw [HR.out], below_drewN hb _⟩
            case measure => simp [intOf]; omega
          · have HR := Lib.hid (show RH (m + 1) = RH m by rw [HH.out, HX.out, if_neg ht])
            have ht' : decide (drift + jitter ≤ (ds (j - 1)).time) = false := decide_eq_false ht
            clear ht
            go_wp2_with fail
            go_quiet (fail)
            go_wp2
            clear hi3 hi2 hi1
            go_roundw
            case rel => exact ⟨j - 1, m + 1, by have := HJ.out; omega, congrArg (Value.int .i64) (by omega), by rw [HR.out], below_drewN hb _⟩
            case measure => simp [intOf]; omega
        · obtain rfl : j = 0 := by omega
          obtain rfl : m = k := by omega
          go_wp2
          go_ret2
          exact ⟨rfl, hB0⟩
end Go.Proofs.Ytgcepjminlapiaa
