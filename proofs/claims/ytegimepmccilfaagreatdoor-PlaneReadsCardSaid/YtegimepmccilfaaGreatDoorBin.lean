/- slices.BinarySearch over the dead channels. -/
import Derived.Test.YtegimepmccilfaaGreatDoorPlDead
import Derived.Deep.LoopGhost
namespace Go.Proofs.YtegimepmccilfaaGreatDoor
open Go.RowKit
set_option linter.unusedVariables false
set_option linter.unusedSimpArgs false
set_option maxHeartbeats 400000 in
theorem cmpNaN_any (x : Int) (w : World) : Calls Tryz.prog 101 #[.int .i64 x] w fun e w' => e = .returned (.bool false) ∧ w = w' := by
  go_enter Tryz.func101, Tryz.ntmps101
  go_wp2
  go_ret
  exact ⟨by simp, rfl⟩
set_option maxHeartbeats 400000 in
theorem slNaN_any (x : Int) (w : World) : Calls Tryz.prog 79 #[.int .i64 x] w fun e w' => e = .returned (.bool false) ∧ w = w' := by
  go_enter Tryz.func79, Tryz.ntmps79
  go_wp2
  go_ret
  exact ⟨by simp, rfl⟩
set_option maxHeartbeats 400000 in
theorem less_any (x y : Int) (w : World) : Calls Tryz.prog 78 #[.int .i64 x, .int .i64 y] w fun e w' => e = .returned (.bool (decide (x < y))) ∧ w = w' := by
  go_enter Tryz.func78, Tryz.ntmps78
  go_wp2_with (go_at_call 101; refine (cmpNaN_any _ _).mono ?_; rintro e w' ⟨rfl, rfl⟩)
  go_ret
  exact ⟨rfl, rfl⟩
/-- the elements rise -/
def Rising (n : Nat) (es : Nat → Int) : Prop := ∀ i j, i < j → j < n → es i < es j
theorem found_at {p : PR} {x : Int} {hi : Nat} (h1 : ∀ t, t < hi → p.es t < x) (h2 : ∀ t, hi ≤ t → t < p.en → x ≤ p.es t) (hs : Rising p.en p.es) : deadIs p x = decide (hi < p.en ∧ p.es hi = x) := by
  rw [Bool.eq_iff_iff, deadIs_iff, decide_eq_true_eq]
  constructor
  · rintro ⟨j, hj, he⟩
    have a1 : ¬ j < hi := fun h => by have := h1 j h; omega
    by_cases e : j = hi
    · subst e; exact ⟨hj, he⟩
    · have := hs hi j (by omega) hj
      have := h2 hi (Nat.le_refl _) (by omega)
      omega
  · rintro ⟨a, b⟩; exact ⟨hi, a, b⟩
set_option maxHeartbeats 2000000 in
set_option maxRecDepth 100000 in
theorem bin_any (p : PR) (x : Int) (w : World) (B : Nat) (hBw : B ≤ w.heap.size) (hm : p.mem B w) (hs : Rising p.en p.es) (hn : p.en ≤ 100) :
    Calls Tryz.prog 60 #[.slice p.ea p.en p.ec, .int .i64 x] w fun e w' => ∃ i, e = .returned (.tuple #[.int .i64 i, .bool (deadIs p x)]) ∧ w = w' := by
  obtain ⟨hdn, hen, hD, hI⟩ := hm
  have HS := Lib.hid hs
  have HI := Lib.hid hI
  have HF := Lib.hid (fun (hi : Nat) h1 h2 => @found_at p x hi h1 h2 hs)
  clear hs hI hD hen hdn
  obtain ⟨kind, view, z, first, pitch, strips, spill, olo, ohi, clo, chi, jitter, least, da, dn, dc, ea, en, ec, ds, es⟩ := p
  dsimp only at *
  generalize deadIs ⟨kind, view, z, first, pitch, strips, spill, olo, ohi, clo, chi, jitter, least, da, dn, dc, ea, en, ec, ds, es⟩ x = F at *
  go_enter Tryz.func60, Tryz.ntmps60
  go_wp2
  go_loopg [7, 8] en (fun g s7 s8 wr => ∃ lo hi : Nat, s7 = .int .i64 lo ∧ s8 = .int .i64 hi ∧ lo ≤ hi ∧ hi ≤ en ∧ hi - lo ≤ g ∧ wr = w ∧ Hid ((∀ t, t < lo → es t < x) ∧ (∀ t, hi ≤ t → t < en → x ≤ es t)))
  case atStart => exact ⟨0, en, rfl, rfl, Nat.zero_le _, Nat.le_refl _, by omega, rfl, Lib.hid ⟨fun t ht => absurd ht (Nat.not_lt_zero _), fun t h1 h2 => by omega⟩⟩
  case round =>
    obtain ⟨lo, hi, rfl, rfl, hlh, hin, hg, rfl, I⟩ := hrel
    by_cases hlt : lo < hi
    · rcases HI.out with h0 | ⟨b, off, rfl, hb, hc⟩
      · omega
      have cm := hc ((lo + hi) / 2) (by omega)
      clear hc
      have hmid : ((lo + hi) / 2 : Nat) < en := by omega
      generalize hy : es ((lo + hi) / 2) = y at cm
      have Y := Lib.hid hy
      clear hy
      by_cases hyx : y < x
      · go_wp2_with (first | (go_at_call 78; refine (less_any _ _ _).mono ?_; rintro e w' ⟨rfl, rfl⟩) | (go_at_call 79; refine (slNaN_any _ _).mono ?_; rintro e w' ⟨rfl, rfl⟩))
        go_roundg (hi - ((lo + hi) / 2 + 1))
        case measure => omega
        case rel =>
          refine ⟨(lo + hi) / 2 + 1, hi, by rw [show ((lo : Int) + (hi : Int)) / 2 + 1 = (((lo + hi) / 2 + 1 : Nat) : Int) by omega], rfl, by omega, hin, Nat.le_refl _, rfl, Lib.hid ⟨fun t ht => ?_, I.out.2⟩⟩
          have e := Y.out
          by_cases ht' : t = (lo + hi) / 2
          · subst ht'; omega
          · have := HS.out t ((lo + hi) / 2) (by omega) (by omega)
            omega
      · go_wp2_with (first | (go_at_call 78; refine (less_any _ _ _).mono ?_; rintro e w' ⟨rfl, rfl⟩) | (go_at_call 79; refine (slNaN_any _ _).mono ?_; rintro e w' ⟨rfl, rfl⟩))
        go_roundg ((lo + hi) / 2 - lo)
        case measure => omega
        case rel =>
          refine ⟨lo, (lo + hi) / 2, rfl, by rw [show ((lo : Int) + (hi : Int)) / 2 = (((lo + hi) / 2 : Nat) : Int) by omega], by omega, by omega, Nat.le_refl _, rfl, Lib.hid ⟨I.out.1, fun t ht htn => ?_⟩⟩
          have e := Y.out
          by_cases ht' : t = (lo + hi) / 2
          · subst ht'; omega
          · have := HS.out ((lo + hi) / 2) t (by omega) (by omega)
            omega
    · obtain rfl : hi = lo := by omega
      have hF := HF.out hi I.out.1 I.out.2
      by_cases hn' : hi < en
      · rcases HI.out with h0 | ⟨b, off, rfl, hb, hc⟩
        · omega
        have cl := hc hi hn'
        clear hc
        by_cases hyx : es hi = x
        · have HFF := Lib.hid (show F = true by rw [hF]; exact decide_eq_true ⟨hn', hyx⟩)
          clear hF
          rw [hyx] at cl
          clear hyx
          go_wp2_with (first | (go_at_call 78; refine (less_any _ _ _).mono ?_; rintro e w' ⟨rfl, rfl⟩) | (go_at_call 79; refine (slNaN_any _ _).mono ?_; rintro e w' ⟨rfl, rfl⟩))
          go_ret2
          exact ⟨_, by rw [HFF.out]; rfl, rfl⟩
        · have HFF := Lib.hid (show F = false by rw [hF]; exact decide_eq_false (fun h => hyx h.2))
          clear hF
          obtain ⟨y, hy⟩ : ∃ y, y = es hi := ⟨_, rfl⟩
          rw [← hy] at cl hyx
          clear hy
          have hyx' : (y == x) = false := by simp [hyx]
          go_wp2_with (first | (go_at_call 78; refine (less_any _ _ _).mono ?_; rintro e w' ⟨rfl, rfl⟩) | (go_at_call 79; refine (slNaN_any _ _).mono ?_; rintro e w' ⟨rfl, rfl⟩))
          go_ret2
          exact ⟨_, by rw [HFF.out]; rfl, rfl⟩
      · have HFF := Lib.hid (show F = false by rw [hF]; exact decide_eq_false (fun h => hn' h.1))
        clear hF
        go_wp2_with (first | (go_at_call 78; refine (less_any _ _ _).mono ?_; rintro e w' ⟨rfl, rfl⟩) | (go_at_call 79; refine (slNaN_any _ _).mono ?_; rintro e w' ⟨rfl, rfl⟩))
        go_ret2
        exact ⟨_, by rw [HFF.out]; rfl, rfl⟩
end Go.Proofs.YtegimepmccilfaaGreatDoor
