/- The walk of the reference's Unpack. -/
import Derived.Test.YtgcepjminlapiaaPackJ
import Derived.Test.YtgcepjminlapiaaPackK
namespace Go.Proofs.Ytgcepjminlapiaa
open Go.RowKit
set_option linter.unusedVariables false
set_option linter.unusedSimpArgs false
theorem refUnpack_long (a : Option Addr) (n c : Nat) (w : World) (hn : 40000 < n) (hm : n ≤ maxLen) : Calls Try.prog 43 #[.slice a n c] w fun e w' => e = .returned (.tuple #[.slice none 0 0, .int .i64 3]) ∧ Below w.heap.size w w' := by
  unfold maxLen at hm
  have h1 : (40000 : Int) < (n : Int) := by omega
  go_enter Try.func43, Try.ntmps43
  go_wp2
  all_goals (go_ret2; exact ⟨rfl, Below.refl _ _⟩)
set_option maxRecDepth 100000 in
theorem refUnpack_short (a : Option Addr) (n c : Nat) (w : World) (hn : n < 7) : Calls Try.prog 43 #[.slice a n c] w fun e w' => e = .returned (.tuple #[.slice none 0 0, .int .i64 4]) ∧ Below w.heap.size w w' := by
  have h1 : ¬ (40000 : Int) < (n : Int) := by omega
  have h2 : (n : Int) - 2 < 5 := by omega
  go_enter Try.func43, Try.ntmps43
  go_wp2
  all_goals (go_ret2; exact ⟨rfl, Below.refl _ _⟩)
set_option maxRecDepth 100000 in
set_option maxHeartbeats 1000000 in
theorem refUnpack_magic (b off n c : Nat) (f : Nat → Nat) (w : World) (hb : b < w.heap.size) (hc : ∀ i, i < n → w.cell? ⟨b, off + i, none⟩ = some (.int .u8 (f i : Int))) (hf : ∀ i, i < n → f i < 256) (h7 : 7 ≤ n) (hn : n ≤ 1000) (hnc : n ≤ c) (hcm : c ≤ maxLen) (hm : ¬ (f 0 = 79 ∧ f 1 = 86 ∧ f 2 = 69 ∧ f 3 = 49)) : Calls Try.prog 43 #[.slice (some ⟨b, off, none⟩) n c] w fun e w' => e = .returned (.tuple #[.slice none 0 0, .int .i64 4]) ∧ Below w.heap.size w w' := by
  (unfold maxLen at hcm; have h1 : ¬ (40000 : Int) < (n : Int) := (by omega); have h2 : ¬ (n : Int) - 2 < 5 := (by omega); have c0 : w.cell? ⟨b, off, none⟩ = some (.int .u8 (f 0 : Int)) := hc 0 (by omega); have c1 : w.cell? ⟨b, off + 1, none⟩ = some (.int .u8 (f 1 : Int)) := hc 1 (by omega); have c2 : w.cell? ⟨b, off + 2, none⟩ = some (.int .u8 (f 2 : Int)) := hc 2 (by omega); have c3 : w.cell? ⟨b, off + 3, none⟩ = some (.int .u8 (f 3 : Int)) := hc 3 (by omega); have q1 : (1 : Int) < (n : Int) := (by omega); have q2 : (2 : Int) < (n : Int) := (by omega); have q3 : (3 : Int) < (n : Int) := (by omega); have q0 : (0 : Int) < (n : Int) := (by omega))
  clear hc hf
  generalize f 0 = f0 at *
  generalize f 1 = f1 at *
  generalize f 2 = f2 at *
  generalize f 3 = f3 at *
  by_cases m0 : f0 = 79
  · subst m0
    by_cases m1 : f1 = 86
    · subst m1
      by_cases m2 : f2 = 69
      · subst m2
        have m3 : ((f3 : Int) == 49) = false := by rw [beq_eq_false_iff_ne]; omega
        clear hm
        go_enter Try.func43, Try.ntmps43
        go_wp2
        all_goals (go_ret2; exact ⟨rfl, Below.refl _ _⟩)
      · have m3 : ((f2 : Int) == 69) = false := by rw [beq_eq_false_iff_ne]; omega
        clear hm m2
        go_enter Try.func43, Try.ntmps43
        go_wp2
        all_goals (go_ret2; exact ⟨rfl, Below.refl _ _⟩)
    · have m3 : ((f1 : Int) == 86) = false := by rw [beq_eq_false_iff_ne]; omega
      clear hm m1
      go_enter Try.func43, Try.ntmps43
      go_wp2
      all_goals (go_ret2; exact ⟨rfl, Below.refl _ _⟩)
  · have m3 : ((f0 : Int) == 79) = false := by rw [beq_eq_false_iff_ne]; omega
    clear hm m0
    go_enter Try.func43, Try.ntmps43
    go_wp2
    all_goals (go_ret2; exact ⟨rfl, Below.refl _ _⟩)
set_option maxRecDepth 100000 in
set_option maxHeartbeats 1000000 in
theorem refUnpack_sum (b off n c : Nat) (f : Nat → Nat) (w : World) (hb : b < w.heap.size) (hc : ∀ i, i < n → w.cell? ⟨b, off + i, none⟩ = some (.int .u8 (f i : Int))) (hf : ∀ i, i < n → f i < 256) (h7 : 7 ≤ n) (hn : n ≤ 1000) (hnc : n ≤ c) (hcm : c ≤ maxLen) (g0 : f 0 = 79) (g1 : f 1 = 86) (g2 : f 2 = 69) (g3 : f 3 = 49) (hs : ¬ (chkN f (n - 2) / 256 = f (n - 2) ∧ chkN f (n - 2) % 256 = f (n - 1))) : Calls Try.prog 43 #[.slice (some ⟨b, off, none⟩) n c] w fun e w' => e = .returned (.tuple #[.slice none 0 0, .int .i64 4]) ∧ Below w.heap.size w w' := by
  (unfold maxLen at hcm; have h1 : ¬ (40000 : Int) < (n : Int) := (by omega); have h2 : ¬ (n : Int) - 2 < 5 := (by omega); have c0 : w.cell? ⟨b, off, none⟩ = some (.int .u8 (f 0 : Int)) := hc 0 (by omega); have c1 : w.cell? ⟨b, off + 1, none⟩ = some (.int .u8 (f 1 : Int)) := hc 1 (by omega); have c2 : w.cell? ⟨b, off + 2, none⟩ = some (.int .u8 (f 2 : Int)) := hc 2 (by omega); have c3 : w.cell? ⟨b, off + 3, none⟩ = some (.int .u8 (f 3 : Int)) := hc 3 (by omega); have q1 : (1 : Int) < (n : Int) := (by omega); have q2 : (2 : Int) < (n : Int) := (by omega); have q3 : (3 : Int) < (n : Int) := (by omega); have q0 : (0 : Int) < (n : Int) := (by omega))
  rw [g0] at c0
  rw [g1] at c1
  rw [g2] at c2
  rw [g3] at c3
  have p0 : w.cell? ⟨b, off + (n - 2), none⟩ = some (.int .u8 (f (n - 2) : Int)) := hc (n - 2) (by omega)
  have p1 : w.cell? ⟨b, off + (n - 1), none⟩ = some (.int .u8 (f (n - 1) : Int)) := hc (n - 1) (by omega)
  have HSM := Lib.hid (sum_any (some ⟨b, off, none⟩) (n - 2) c f w w.heap.size (Nat.le_refl _) (.inr ⟨b, off, rfl, hb, fun i hi => hc i (by omega)⟩) (fun i hi => hf i (by omega)) (by omega))
  have hck := chkN_lt f (n - 2)
  have hfa := hf (n - 2) (by omega)
  have hfb := hf (n - 1) (by omega)
  generalize chkN f (n - 2) = ck at *
  generalize f (n - 2) = fa at *
  generalize f (n - 1) = fb at *
  clear hc hf g0 g1 g2 g3
  (have i4 : ((n : Int) - 2).toNat = n - 2 := (by omega); have i8 : (n : Int) ≤ (c : Int) := (by omega); have i9 : (n : Int) - 2 < (n : Int) := (by omega); have i7 : ((n : Int) - 2 + 1).toNat = n - 1 := (by omega); have i6 : (n : Int) - 2 + 1 < (n : Int) := (by omega); have i5 : (0 : Int) ≤ (n : Int) - 2 := (by omega); have i3 : (0 : Int) ≤ (n : Int) - 2 + 1 := (by omega); have i2 : (n : Int) - 2 ≤ (c : Int) := (by omega))
  by_cases q0 : ck / 256 = fa
  · have z1 : ((fa : Int) == (ck : Int) / 256) = true := by rw [beq_iff_eq]; omega
    have z2 : ((fb : Int) == (ck : Int) % 256) = false := by rw [beq_eq_false_iff_ne]; omega
    clear hs q0
    go_enter Try.func43, Try.ntmps43
    go_wp2_with (go_at_call 71; refine HSM.out.mono ?_; rintro e wy ⟨rfl, rfl⟩)
    all_goals (go_ret2; exact ⟨rfl, Below.refl _ _⟩)
  · have z1 : ((fa : Int) == (ck : Int) / 256) = false := by rw [beq_eq_false_iff_ne]; omega
    clear hs q0
    go_enter Try.func43, Try.ntmps43
    go_wp2_with (go_at_call 71; refine HSM.out.mono ?_; rintro e wy ⟨rfl, rfl⟩)
    all_goals (go_ret2; exact ⟨rfl, Below.refl _ _⟩)
end Go.Proofs.Ytgcepjminlapiaa
