/- The walks of the reference's Dead and Hit. -/
import Derived.Test.YtgcepjminlapiaaPlaneE
import Derived.Test.YtgcepjminlapiaaHitData
namespace Go.Proofs.Ytgcepjminlapiaa
open Go.RowKit
set_option linter.unusedVariables false
set_option linter.unusedSimpArgs false
/-- some dead channel is c -/
def deadIs (p : PR) (c : Int) : Bool := !allUpto p.en (fun j => !(p.es j == c))
theorem deadIs_yes {p : PR} {c : Int} {k : Nat} (hk : k < p.en) (h : p.es k = c) : true = deadIs p c := by
  rw [deadIs, allUpto_false hk (by simp [h])]; rfl
theorem deadIs_no {p : PR} {c : Int} {k : Nat} (hk : k = p.en) (h : ∀ j, j < k → ¬ p.es j = c) : false = deadIs p c := by
  subst hk; rw [deadIs, allUpto_true (fun j hj => by simp [h j hj])]; rfl
theorem deadIs_iff {p : PR} {c : Int} : deadIs p c = true ↔ ∃ j, j < p.en ∧ p.es j = c := by
  simp [deadIs, allUpto]
set_option maxRecDepth 100000 in
set_option maxHeartbeats 1000000 in
theorem refDead_any (p : PR) (ch : Int) (w : World) (B : Nat) (hBw : B ≤ w.heap.size) (hm : p.mem B w) :
    Calls Try.prog 54 #[p.plane, .int .i64 ch] w fun e w' => e = .returned (.bool (deadIs p ch)) ∧ Below w.heap.size w w' := by
  obtain ⟨hdn, hen, hD, hI⟩ := hm
  have HY := Lib.hid (fun (k : Nat) hk h => @deadIs_yes p ch k hk h)
  have HN := Lib.hid (fun (k : Nat) hk h => @deadIs_no p ch k hk h)
  have HI := Lib.hid hI
  clear hD hI hdn
  unfold maxLen at hen
  obtain ⟨kind, view, z, first, pitch, strips, spill, olo, ohi, clo, chi, jitter, least, da, dn, dc, ea, en, ec, ds, es⟩ := p
  dsimp only at *
  go_enter Try.func54, Try.ntmps54
  go_wp2
  go_loop [5] (fun t => ∃ k : Nat, k ≤ en ∧ t = .int .i64 k ∧ ∀ j, j < k → ¬ es j = ch) (fun t => en - (intOf t).toNat)
  case atStart => exact ⟨0, Nat.zero_le _, rfl, fun j h => by omega⟩
  case round =>
    obtain ⟨k, hk, rfl, hall⟩ := hrel
    have HALL := Lib.hid hall
    clear hall
    by_cases hlt : k < en
    · rcases HI.out with hd | ⟨b, off, rfl, hbs, hcell⟩
      · omega
      have c0 := hcell k hlt
      have hbz0 : b < w.heap.size := by omega
      clear hcell
      by_cases he : es k = ch
      · have he' : (es k == ch) = true := by simp [he]
        have HE := Lib.hid (HY.out k hlt he)
        clear he
        go_wp2
        go_ret
        exact ⟨ret_bool HE.out, (Below.refl _ _).alloc (Nat.le_refl _) _⟩
      · have he' : (es k == ch) = false := by simp [he]
        have HE := Lib.hid he
        clear he
        go_wp2
        go_round
        case rel => exact ⟨k + 1, by omega, by go_num, fun j hj => by (by_cases e : j = k; subst e; exact HE.out; exact HALL.out j (by omega))⟩
        case measure => simp [intOf]; omega
    · go_wp2
      go_ret
      exact ⟨ret_bool (HN.out k (by omega) HALL.out), (Below.refl _ _).alloc (Nat.le_refl _) _⟩
end Go.Proofs.Ytgcepjminlapiaa
