/- Plain laws: a field that somebody proposes; a proof that holds. -/
import Derived.Test.YtlfegmjdheddjaaDoorGoA
namespace Go.Proofs.YtlfegmjdheddjaaDoor
open Go.RowKit
set_option linter.unusedVariables false
set_option linter.unusedSimpArgs false
theorem fieldB_iff {n : Nat} {ss : Nat → SV} {k : Nat} {f : Nat → Int} : fieldB n ss k f = true ↔ k = n ∧ inBox n ss f := by
  unfold fieldB inBox
  rw [Bool.and_eq_true, allUpto_iff, beq_iff_eq]
  constructor
  · rintro ⟨h1, rfl⟩
    exact ⟨rfl, fun c hc => inB_iff.1 (h1 c (by omega))⟩
  · rintro ⟨rfl, h1⟩
    exact ⟨fun c hc => inB_iff.2 (h1 c (by omega)), rfl⟩
theorem inBox_den {n m : Nat} {ss : Nat → SV} {bs : Nat → BM} (hS : Shape n ss m bs) {f : Nat → Int} (h : inBox n ss f) : ∀ c, c < n → 0 ≤ f c ∧ f c ≤ 1000 := fun c hc => by
  have h1 := hS.span c hc
  have h2 := h c hc
  omega
theorem own_all {n m : Nat} {ss : Nat → SV} {bs : Nat → BM} (hS : Shape n ss m bs) {f : Nat → Int} (h : inBox n ss f) (ha : agreesB m bs f = true) : (List.range n).map f ∈ allF n ss m bs := by
  rw [allF_mem]
  refine ⟨?_, by simp, fun c hc => by rw [fOf_list hc]; exact h c hc⟩
  rw [agreesB_congr hS (g := f) (fun c hc => fOf_list hc)]
  exact ha
theorem own_none {n m : Nat} {ss : Nat → SV} {bs : Nat → BM} (hS : Shape n ss m bs) (hA : allF n ss m bs = []) {f : Nat → Int} (h : inBox n ss f) : agreesB m bs f = false := void_all hS hA f h
theorem all_field {n m : Nat} {ss : Nat → SV} {bs : Nat → BM} {g : List Int} (h : g ∈ allF n ss m bs) : inBox n ss (fOf g) ∧ agreesB m bs (fOf g) = true := ⟨(allF_mem.1 h).2.2, (allF_mem.1 h).1⟩
theorem holds_void {n m : Nat} {ss : Nat → SV} {bs : Nat → BM} {len : Nat} {ns : Nat → NM} (h : holdsB n ss m bs len ns = true) : checkN n ss m bs = 0 ∧ allF n ss m bs = [] := by
  unfold holdsB at h
  simp only [Bool.and_eq_true, decide_eq_true_eq, beq_iff_eq] at h
  obtain ⟨hC, _, hp, hl⟩ := h
  have hS := checkN_shape hC
  have hv := holds_sound hS _ _ _ (show holdsF n m bs len ns (len + 1) ss 0 ≠ 0 by omega)
  refine ⟨hC, ?_⟩
  cases hA : allF n ss m bs with
  | nil => rfl
  | cons g t =>
    obtain ⟨h1, h2⟩ := all_field (show g ∈ allF n ss m bs by rw [hA]; simp)
    rw [hv _ h1] at h2
    cases h2
theorem holds_some {n m : Nat} {ss : Nat → SV} {bs : Nat → BM} {len : Nat} {ns : Nat → NM} (hA : allF n ss m bs ≠ []) : holdsB n ss m bs len ns = false := by
  cases h : holdsB n ss m bs len ns
  · rfl
  · exact absurd (holds_void h).2 hA
end Go.Proofs.YtlfegmjdheddjaaDoor
