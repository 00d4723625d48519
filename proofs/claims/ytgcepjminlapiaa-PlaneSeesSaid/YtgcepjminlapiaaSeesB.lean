/- plane.Sees refusing. -/
import Derived.Test.YtgcepjminlapiaaSees
namespace Go.Proofs.Ytgcepjminlapiaa
open Go.RowKit Go.Shelf
set_option linter.unusedVariables false
set_option linter.unusedSimpArgs false
attribute [local go_sem] Oper.semAt_some
def seesB (n : Nat) (ps : Nat → PR) (k lo hi : Int) : Bool := checkB n ps && (withinB k 0 ((n : Int) - 1) && orderedB lo hi 1000000)
set_option maxRecDepth 100000 in
set_option maxHeartbeats 1000000 in
theorem Sees_bad (a : Option Addr) (n c : Nat) (ps : Nat → PR) (k lo hi : Int) (w : World) (B : Nat) (hBw : B ≤ w.heap.size) (hP : Planes B w a n ps) (hB : seesB n ps k lo hi = false) :
    Calls Try.prog 26 #[setupV a n c, .int .i64 k, .agg #[.int .i64 lo, .int .i64 hi]] w fun e w' => e = .returned (.tuple #[.bool false, .bool false, .int .i64 2]) ∧ Below w.heap.size w w' := by
  have hn : n ≤ 9223372036854775807 := hP.1
  have HC := Lib.hid (check_any a n c ps)
  have HP := Lib.hid hP
  clear hP
  unfold seesB at hB
  cases hC : checkB n ps
  · have hO := trivial
    have hW := trivial
    clear hB
    refine (callsIn_wide (n := 6)).1 ?_; refine callsIn_of_wp_marks Try.func26 rfl trivial ?_ rfl; simp only [Try.ntmps26, List.size_toArray, List.length_cons, List.length_nil, Nat.reduceAdd, Nat.reduceSub, Array.replicate_succ, Array.replicate_zero, List.push_toArray, List.append_toArray, List.nil_append, List.cons_append]; refine wpIn_wide.2 ?_
    go_wp2_with (first | (go_at_call 56; refine (HC.out _ B (by simp; omega) (HP.out.below (((Below.refl B w).alloc hBw _).alloc (by simp; omega) _))).mono ?_; rintro e w1 ⟨rfl, hb⟩; have hz1 : w.heap.size + 2 ≤ w1.heap.size := (by have := hb.size; simp at this; omega); have hz2 : w.heap.size + 1 < w1.heap.size := (by omega); have hB1 : Below w.heap.size w w1 := (((((Below.refl _ _).alloc (Nat.le_refl _) _).alloc (by simp) _)).trans (hb.mono (by simp; omega))); have hX := hb.mono (B' := w.heap.size + 2) (by simp); obtain ⟨hcx, hfx⟩ := bcell hX; clear hb; rw [hC]) | (go_at_call 57; refine (within_any _ _ _ _).mono ?_; rintro e w' ⟨rfl, rfl⟩; rw [hW]) | (go_at_call 58; refine (ordered_any _ _ _ _ (by decide) (by decide)).mono ?_; rintro e w2 ⟨rfl, hb2⟩; rw [hO]; have hB2 : Below w.heap.size w w2 := hB1.trans (hb2.mono (by omega)); clear hcx hfx hX hb2))
    exact ⟨_, by simp [results, Try.results26, go_sem], rfl, hB1⟩
  · cases hW : withinB k 0 ((n : Int) - 1)
    · have hO := trivial
      clear hB
      refine (callsIn_wide (n := 6)).1 ?_; refine callsIn_of_wp_marks Try.func26 rfl trivial ?_ rfl; simp only [Try.ntmps26, List.size_toArray, List.length_cons, List.length_nil, Nat.reduceAdd, Nat.reduceSub, Array.replicate_succ, Array.replicate_zero, List.push_toArray, List.append_toArray, List.nil_append, List.cons_append]; refine wpIn_wide.2 ?_
      go_wp2_with (first | (go_at_call 56; refine (HC.out _ B (by simp; omega) (HP.out.below (((Below.refl B w).alloc hBw _).alloc (by simp; omega) _))).mono ?_; rintro e w1 ⟨rfl, hb⟩; have hz1 : w.heap.size + 2 ≤ w1.heap.size := (by have := hb.size; simp at this; omega); have hz2 : w.heap.size + 1 < w1.heap.size := (by omega); have hB1 : Below w.heap.size w w1 := (((((Below.refl _ _).alloc (Nat.le_refl _) _).alloc (by simp) _)).trans (hb.mono (by simp; omega))); have hX := hb.mono (B' := w.heap.size + 2) (by simp); obtain ⟨hcx, hfx⟩ := bcell hX; clear hb; rw [hC]) | (go_at_call 57; refine (within_any _ _ _ _).mono ?_; rintro e w' ⟨rfl, rfl⟩; rw [hW]) | (go_at_call 58; refine (ordered_any _ _ _ _ (by decide) (by decide)).mono ?_; rintro e w2 ⟨rfl, hb2⟩; rw [hO]; have hB2 : Below w.heap.size w w2 := hB1.trans (hb2.mono (by omega)); clear hcx hfx hX hb2))
      exact ⟨_, by simp [results, Try.results26, go_sem], rfl, hB1⟩
    · have hO : orderedB lo hi 1000000 = false := by simpa [hC, hW] using hB
      clear hB
      refine (callsIn_wide (n := 6)).1 ?_; refine callsIn_of_wp_marks Try.func26 rfl trivial ?_ rfl; simp only [Try.ntmps26, List.size_toArray, List.length_cons, List.length_nil, Nat.reduceAdd, Nat.reduceSub, Array.replicate_succ, Array.replicate_zero, List.push_toArray, List.append_toArray, List.nil_append, List.cons_append]; refine wpIn_wide.2 ?_
      go_wp2_with (first | (go_at_call 56; refine (HC.out _ B (by simp; omega) (HP.out.below (((Below.refl B w).alloc hBw _).alloc (by simp; omega) _))).mono ?_; rintro e w1 ⟨rfl, hb⟩; have hz1 : w.heap.size + 2 ≤ w1.heap.size := (by have := hb.size; simp at this; omega); have hz2 : w.heap.size + 1 < w1.heap.size := (by omega); have hB1 : Below w.heap.size w w1 := (((((Below.refl _ _).alloc (Nat.le_refl _) _).alloc (by simp) _)).trans (hb.mono (by simp; omega))); have hX := hb.mono (B' := w.heap.size + 2) (by simp); obtain ⟨hcx, hfx⟩ := bcell hX; clear hb; rw [hC]) | (go_at_call 57; refine (within_any _ _ _ _).mono ?_; rintro e w' ⟨rfl, rfl⟩; rw [hW]) | (go_at_call 58; refine (ordered_any _ _ _ _ (by decide) (by decide)).mono ?_; rintro e w2 ⟨rfl, hb2⟩; rw [hO]; have hB2 : Below w.heap.size w w2 := hB1.trans (hb2.mono (by omega)); clear hcx hfx hX hb2))
      exact ⟨_, by simp [results, Try.results26, go_sem], rfl, hB2⟩
end Go.Proofs.Ytgcepjminlapiaa
