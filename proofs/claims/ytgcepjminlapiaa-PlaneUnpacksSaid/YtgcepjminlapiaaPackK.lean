/- The walk of the reference's take. -/
import Derived.Test.YtgcepjminlapiaaPackC
import Derived.Test.YtgcepjminlapiaaTakeLaw
namespace Go.Proofs.Ytgcepjminlapiaa
open Go.RowKit
set_option linter.unusedVariables false
set_option linter.unusedSimpArgs false
def RTakeRes (l : List Nat) (k : Nat) (w : World) (e : Ending) (w' : World) : Prop :=
  w = w' ∧ (match tkP l k with
    | none => ∃ x y : Int, e = .returned (.tuple #[.int .i64 x, .int .i64 y, .bool false])
    | some q => e = .returned (.tuple #[.int .i64 (q.1 : Int), .int .i64 (q.2 : Int), .bool true]))
set_option maxRecDepth 100000 in
set_option maxHeartbeats 1000000 in
theorem refTake_any (a : Option Addr) (n c : Nat) (l : List Nat) (k : Nat) (w : World) (B : Nat) (hBw : B ≤ w.heap.size) (hn : l.length = n) (hb : Bytes B w a n (fun i => l.getD i 0)) (hl : ∀ x ∈ l, x < 256) (hm : n ≤ 2000) (hk : k ≤ n) :
    Calls Try.prog 73 #[.slice a n c, .int .i64 (k : Int)] w (RTakeRes l k w) := by
  have HL := Lib.hid (fun i => getD_byte hl i)
  have HB := Lib.hid hb
  have HN := Lib.hid hn
  have H0 := Lib.hid (tk_start l k)
  have HT := Lib.hid (fun (e : Ending) (x y : Int) (hn : tkP l k = none) (he : e = .returned (.tuple #[.int .i64 x, .int .i64 y, .bool false])) => show RTakeRes l k w e w from ⟨rfl, by rw [hn]; exact ⟨x, y, he⟩⟩)
  have HS := Lib.hid (fun (e : Ending) (x k' : Nat) (hn : tkP l k = some (x, k')) (he : e = .returned (.tuple #[.int .i64 (x : Int), .int .i64 (k' : Int), .bool true])) => show RTakeRes l k w e w from ⟨rfl, by rw [hn]; exact he⟩)
  generalize hRes : RTakeRes l k w = Res at *
  clear hRes hb hl hn
  go_enter Try.func73, Try.ntmps73
  go_wp2
  go_loop [7, 8, 9] (fun s7 s8 s9 => ∃ i acc S : Nat, i ≤ 5 ∧ k + i ≤ n ∧ S ≤ 34359738368 ∧ acc ≤ 34359738368 ∧ s9 = .int .i64 ((k : Int) + (i : Int)) ∧ s7 = .int .i64 (acc : Int) ∧ s8 = .int .i64 (S : Int) ∧ Hid (S = 128 ^ i ∧ TkInv l k i acc)) (fun _ _ s9 => k + 5 - (intOf s9).toNat)
  case atStart => exact ⟨0, 0, 1, by omega, by omega, by omega, by omega, by simp, rfl, rfl, Lib.hid ⟨rfl, H0.out⟩⟩
  case round =>
    obtain ⟨i, acc, S, hi5, hkN, hS, hA, rfl, rfl, rfl, HI⟩ := hrel
    by_cases hi : i < 5
    · have hi' : (k : Int) + (i : Int) < (k : Int) + 5 := by omega
      by_cases he : k + i < n
      · have he' : (k : Int) + (i : Int) < (n : Int) := by omega
        rcases HB.out with e0 | ⟨b, off, rfl, hbB, hc⟩
        · omega
        have c0 : w.cell? ⟨b, off + (k + i), none⟩ = some (.int .u8 ((l.getD (k + i) 0 : Nat) : Int)) := hc (k + i) he
        have hx := HL.out (k + i)
        have HTZ := Lib.hid (fun h1 h2 => tk_zero HI.out.2 hi (by rw [HN.out]; exact he) h1 h2)
        have HTL := Lib.hid (fun h1 h2 => tk_last HI.out.2 hi (by rw [HN.out]; exact he) h1 h2)
        have HTM := Lib.hid (fun h1 => tk_more HI.out.2 hi (by rw [HN.out]; exact he) h1)
        generalize l.getD (k + i) 0 = x at *
        have hbz : b < w.heap.size := by omega
        have i1 : ((k : Int) + (i : Int)).toNat = k + i := by omega
        have i2 : (0 : Int) ≤ (k : Int) + (i : Int) := by omega
        have hp : 0 ≤ (x : Int) % 128 * (S : Int) ∧ (x : Int) % 128 * (S : Int) ≤ 127 * 34359738368 := by
          refine ⟨Int.mul_nonneg (by omega) (by omega), ?_⟩
          exact Int.mul_le_mul (by omega) (by omega) (by omega) (by omega)
        have HP := Lib.hid (show (x : Int) % 128 * (S : Int) = ((128 ^ i * (x % 128) : Nat) : Int) by rw [HI.out.1]; simp [Int.mul_comm])
        obtain ⟨hp1, hp2⟩ := hp
        clear hc
        by_cases hlt : x < 128
        · have hlt' : (x : Int) < 128 := by omega
          by_cases hz : x = 0 ∧ 0 < i
          · have h1' : ¬ (0 : Int) < (x : Int) := by omega
            have h2' : ((k : Int) + (i : Int) == (k : Int)) = false := by rw [beq_eq_false_iff_ne]; omega
            have HZ := Lib.hid (HTZ.out hz.1 hz.2)
            clear hz
            go_wp2
            go_ret3
            exact HT.out _ _ _ HZ.out rfl
          · have HZ := Lib.hid (HTL.out hlt hz)
            have e1 : (x : Int) % 128 = (x : Int) := by omega
            have e2 : x % 128 = x := by omega
            have HP2 := HP.out
            rw [e1] at hp1 hp2 HP2
            rw [e2] at HP2
            have HP3 := Lib.hid HP2
            clear HP2
            by_cases hz2 : 0 < x
            · have h1' : (0 : Int) < (x : Int) := by omega
              clear hz
              go_wp2
              go_ret3
              exact HS.out _ _ _ HZ.out (by rw [HP3.out]; simp)
            · have h1' : ¬ (0 : Int) < (x : Int) := by omega
              have h2' : ((k : Int) + (i : Int) == (k : Int)) = true := by rw [beq_iff_eq]; omega
              clear hz
              go_wp2
              go_ret3
              exact HS.out _ _ _ HZ.out (by rw [HP3.out]; simp)
        · have hlt' : ¬ (x : Int) < 128 := by omega
          have HM := Lib.hid (HTM.out hlt)
          go_wp2
          go_round
          case rel =>
            have hSi : S * 128 ≤ 34359738368 := by
              rw [HI.out.1, ← Nat.pow_succ]
              exact Nat.le_trans (Nat.pow_le_pow_right (by omega) (by omega : i + 1 ≤ 5)) (by decide)
            have hAi := HM.out.1
            have hpw : 128 ^ (i + 1) ≤ 34359738368 := by rw [Nat.pow_succ, ← HI.out.1]; exact hSi
            exact ⟨i + 1, acc + 128 ^ i * (x % 128), 128 * S, by omega, by omega, by omega, by omega, by simp; omega, by rw [HP.out]; simp, by simp, Lib.hid ⟨by rw [HI.out.1, Nat.pow_succ, Nat.mul_comm], HM.out⟩⟩
          case measure => simp [intOf]; omega
      · have he' : ¬ (k : Int) + (i : Int) < (n : Int) := by omega
        have HZ := Lib.hid (tk_end HI.out.2 hi (by rw [HN.out]; omega))
        go_wp2
        go_ret3
        exact HT.out _ _ _ HZ.out rfl
    · obtain rfl : 5 = i := by omega
      have HZ := Lib.hid (tk_five HI.out.2)
      go_wp2
      all_goals (go_ret3; exact HT.out _ _ _ HZ.out rfl)
end Go.Proofs.Ytgcepjminlapiaa
