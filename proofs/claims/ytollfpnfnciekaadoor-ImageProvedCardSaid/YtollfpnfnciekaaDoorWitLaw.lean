/- Plain laws: an image with another span of a cell. -/
import Derived.Test.YtollfpnfnciekaaDoorGbA
import Derived.Test.YtollfpnfnciekaaDoorGhA
import Derived.Test.YtollfpnfnciekaaDoorGgA
namespace Go.Proofs.YtollfpnfnciekaaDoor
open Go.RowKit
set_option linter.unusedVariables false
set_option linter.unusedSimpArgs false
theorem setBox_self {box : Nat → SV} {c : Nat} {s : SV} : setBox box c s c = s := if_pos rfl
theorem setBox_ne {box : Nat → SV} {c i : Nat} {s : SV} (h : i ≠ c) : setBox box c s i = box i := if_neg h
theorem Shape.narrow {n m : Nat} {ss : Nat → SV} {bs : Nat → BM} (h : Shape n ss m bs) {c : Nat} {s : SV} (hs : 0 ≤ s.lo ∧ s.lo ≤ s.hi ∧ s.hi ≤ 1000) : Shape n (setBox ss c s) m bs :=
  ⟨h.n1, h.n40, h.m20, fun i hi => by
    by_cases e : i = c
    · subst e; rw [setBox_self]; exact hs
    · rw [setBox_ne e]; exact h.span i hi, h.wn, h.set, h.weight, h.bound⟩
theorem prod_narrow {ss : Nat → SV} {c : Nat} {s : SV} (hs : (ss c).lo ≤ s.lo ∧ s.lo ≤ s.hi ∧ s.hi ≤ (ss c).hi) : ∀ k, (∀ i, i < k → (ss i).lo ≤ (ss i).hi) → prodN (setBox ss c s) k ≤ prodN ss k
  | 0, _ => by simp [prodN]
  | k + 1, h => by
    have ih := prod_narrow hs k (fun i hi => h i (by omega))
    have h1 := prodN_pos (ss := ss) k (fun i hi => h i (by omega))
    have h0 := prodN_pos (ss := setBox ss c s) k (fun i hi => by
      by_cases e : i = c
      · subst e; rw [setBox_self]; exact hs.2.1
      · rw [setBox_ne e]; exact h i (by omega))
    have h2 := h k (by omega)
    rw [prodN, prodN]
    have h3 : (setBox ss c s k).hi - (setBox ss c s k).lo + 1 ≤ (ss k).hi - (ss k).lo + 1 := by
      by_cases e : k = c
      · subst e; rw [setBox_self]; omega
      · rw [setBox_ne e]; exact Int.le_refl _
    exact Int.mul_le_mul ih h3 (by
      by_cases e : k = c
      · subst e; rw [setBox_self]; omega
      · rw [setBox_ne e]; omega) (by omega)
theorem check_narrow {n m : Nat} {ss : Nat → SV} {bs : Nat → BM} (hC : checkN n ss m bs = 0) {c : Nat} (hc : c < n) {s : SV} (hs : (ss c).lo ≤ s.lo ∧ s.lo ≤ s.hi ∧ s.hi ≤ (ss c).hi) : checkN n (setBox ss c s) m bs = 0 := by
  have hS := checkN_shape hC
  have h1 := hS.span c hc
  have hS' : Shape n (setBox ss c s) m bs := hS.narrow (c := c) ⟨by omega, hs.2.1, by omega⟩
  have h2 := prod_narrow (ss := ss) (c := c) hs n (fun i hi => (hS.span i hi).2.1)
  unfold checkN longB at *
  rw [if_neg (by rw [shapeB_iff.2 hS]; decide)] at hC
  rw [if_neg (by rw [shapeB_iff.2 hS']; decide)]
  by_cases h3 : 200000 < prodN ss n
  · rw [if_pos (decide_eq_true h3)] at hC; cases hC
  · rw [if_neg (by rw [decide_eq_true_eq]; omega)]
theorem all_narrow {n m : Nat} {ss : Nat → SV} {bs : Nat → BM} {c : Nat} (hc : c < n) {s : SV} (hs : (ss c).lo ≤ s.lo ∧ s.hi ≤ (ss c).hi) : allF n (setBox ss c s) m bs = (allF n ss m bs).filter (fun g => inB (fOf g c) s.lo s.hi) := by
  refine sorted_filter allF_sorted allF_sorted (fun g => ?_)
  rw [allF_mem, allF_mem, inB_iff]
  constructor
  · rintro ⟨h1, h2, h3⟩
    have h4 := h3 c hc
    rw [setBox_self] at h4
    refine ⟨⟨h1, h2, fun i hi => ?_⟩, h4⟩
    have h5 := h3 i hi
    by_cases e : i = c
    · subst e; omega
    · rwa [setBox_ne e] at h5
  · rintro ⟨⟨h1, h2, h3⟩, h4⟩
    refine ⟨h1, h2, fun i hi => ?_⟩
    by_cases e : i = c
    · subst e; rw [setBox_self]; exact h4
    · rw [setBox_ne e]; exact h3 i hi
end Go.Proofs.YtollfpnfnciekaaDoor
