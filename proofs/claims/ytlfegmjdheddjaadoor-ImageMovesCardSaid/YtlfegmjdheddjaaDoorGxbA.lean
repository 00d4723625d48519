/- Texts put together: EiLaw, EpLaw. -/
import Derived.Test.YtlfegmjdheddjaaDoorGoA
import Derived.Test.YtlfegmjdheddjaaDoorGkA
import Derived.Test.YtlfegmjdheddjaaDoorGbA
namespace Go.Proofs.YtlfegmjdheddjaaDoor
open Go.RowKit
set_option linter.unusedVariables false
set_option linter.unusedSimpArgs false
theorem fieldB_iff {n : Nat} {ss : Nat → SV} {k : Nat} {f : Nat → Int} : fieldB n ss k f = true ↔ k = n ∧ inBox n ss f := by
  unfold fieldB inBox
  rw [Bool.and_eq_true, allUpto_iff, beq_iff_eq]
  constructor
  · rintro ⟨h1, rfl⟩
    exact ⟨rfl, fun c hc => inB_iff.1 (h1 c (by omega))⟩
  · rintro ⟨rfl, h1⟩
    exact ⟨fun c hc => inB_iff.2 (h1 c (by omega)), rfl⟩
theorem inBox_den {n m : Nat} {ss : Nat → SV} {bs : Nat → BM} (hS : Shape n ss m bs) {f : Nat → Int} (h : inBox n ss f) : ∀ c, c < n → 0 ≤ f c ∧ f c ≤ 1000 := fun c hc => by
  have h1 := hS.span c hc
  have h2 := h c hc
  omega
theorem own_all {n m : Nat} {ss : Nat → SV} {bs : Nat → BM} (hS : Shape n ss m bs) {f : Nat → Int} (h : inBox n ss f) (ha : agreesB m bs f = true) : (List.range n).map f ∈ allF n ss m bs := by
  rw [allF_mem]
  refine ⟨?_, by simp, fun c hc => by rw [fOf_list hc]; exact h c hc⟩
  rw [agreesB_congr hS (g := f) (fun c hc => fOf_list hc)]
  exact ha
theorem own_none {n m : Nat} {ss : Nat → SV} {bs : Nat → BM} (hS : Shape n ss m bs) (hA : allF n ss m bs = []) {f : Nat → Int} (h : inBox n ss f) : agreesB m bs f = false := void_all hS hA f h
theorem all_field {n m : Nat} {ss : Nat → SV} {bs : Nat → BM} {g : List Int} (h : g ∈ allF n ss m bs) : inBox n ss (fOf g) ∧ agreesB m bs (fOf g) = true := ⟨(allF_mem.1 h).2.2, (allF_mem.1 h).1⟩
theorem holds_void {n m : Nat} {ss : Nat → SV} {bs : Nat → BM} {len : Nat} {ns : Nat → NM} (h : holdsB n ss m bs len ns = true) : checkN n ss m bs = 0 ∧ allF n ss m bs = [] := by
  unfold holdsB at h
  simp only [Bool.and_eq_true, decide_eq_true_eq, beq_iff_eq] at h
  obtain ⟨hC, _, hp, hl⟩ := h
  have hS := checkN_shape hC
  have hv := holds_sound hS _ _ _ (show holdsF n m bs len ns (len + 1) ss 0 ≠ 0 by omega)
  refine ⟨hC, ?_⟩
  cases hA : allF n ss m bs with
  | nil => rfl
  | cons g t =>
    obtain ⟨h1, h2⟩ := all_field (show g ∈ allF n ss m bs by rw [hA]; simp)
    rw [hv _ h1] at h2
    cases h2
theorem holds_some {n m : Nat} {ss : Nat → SV} {bs : Nat → BM} {len : Nat} {ns : Nat → NM} (hA : allF n ss m bs ≠ []) : holdsB n ss m bs len ns = false := by
  cases h : holdsB n ss m bs len ns
  · rfl
  · exact absurd (holds_void h).2 hA
end Go.Proofs.YtlfegmjdheddjaaDoor
namespace Go.Proofs.YtlfegmjdheddjaaDoor
open Go.RowKit
set_option linter.unusedVariables false
set_option linter.unusedSimpArgs false
section
variable {n t : Nat} {c c' : Int} {L : Nat → List (List Int)}
theorem hist_mem {j : Nat} {f : List Int} (hj : j < t) : f ∈ histF n c L t j ↔ ∃ h, HistF n c L t h ∧ h j = f := by
  unfold histF
  rw [bwd_mem (t - 1 - j) f (by omega), show t - 1 - (t - 1 - j) = j by omega]
theorem hist_some {j : Nat} (hj : j < t) : histF n c L t j ≠ [] ↔ ∃ h, HistF n c L t h := by
  constructor
  · intro h
    obtain ⟨f, hf⟩ := List.exists_mem_of_ne_nil _ h
    obtain ⟨g, hg, _⟩ := (hist_mem hj).1 hf
    exact ⟨g, hg⟩
  · rintro ⟨h, hh⟩ e
    have h1 : h j ∈ histF n c L t j := (hist_mem hj).2 ⟨h, hh, rfl⟩
    rw [e] at h1
    cases h1
theorem hist_all (h : histF n c L t 0 ≠ []) : ∀ i, i < t → histF n c L t i ≠ [] := fun i hi => (hist_some hi).2 ((hist_some (by omega)).1 h)
theorem hist_none {i : Nat} (hi : i < t) (h : histF n c L t i = []) : histF n c L t 0 = [] := Classical.byContradiction fun e => hist_all e i hi h
theorem hist_mono {f : Nat → List Int} (h : c ≤ c') (hh : HistF n c L t f) : HistF n c' L t f := ⟨hh.mem, fun i hi => by have := hh.near i hi; omega⟩
theorem hist_more {i : Nat} (h : c ≤ c') (hi : i < t) : ∀ f ∈ histF n c L t i, f ∈ histF n c' L t i := fun f hf => by
  obtain ⟨g, hg, e⟩ := (hist_mem hi).1 hf
  exact (hist_mem hi).2 ⟨g, hist_mono h hg, e⟩
theorem calm_le1000 (hD : Dense n L t) (hne : ∀ i, i < t → L i ≠ []) (ht : 0 < t) : calmF n L t ≤ 1000 := by
  have hm : ∀ i, i < t → (L i).headD [] ∈ L i := fun i hi => by
    cases e : L i with
    | nil => exact absurd e (hne i hi)
    | cons x y => simp
  exact (calm_le hD hne ht (by omega)).2 ⟨fun i => (L i).headD [], ⟨hm, fun i hi => dense_apart hD (by omega) hi (hm i (by omega)) (hm (i + 1) hi)⟩⟩
theorem calm_hist (hD : Dense n L t) (hne : ∀ i, i < t → L i ≠ []) (ht : 0 < t) (hc : 0 ≤ c) : calmF n L t ≤ c ↔ histF n c L t 0 ≠ [] := by
  rw [calm_le hD hne ht hc, hist_some ht]
theorem calm_nat (hD : Dense n L t) (hne : ∀ i, i < t → L i ≠ []) (ht : 0 < t) : ∃ N : Nat, calmF n L t = (N : Int) ∧ N ≤ 1000 ∧ histF n (N : Int) L t 0 ≠ [] ∧ ∀ j : Nat, j < N → histF n (j : Int) L t 0 = [] := by
  have h0 := calm_nonneg (n := n) (L := L) (t := t)
  have h1 := calm_le1000 hD hne ht
  refine ⟨(calmF n L t).toNat, by omega, by omega, ?_, fun j hj => ?_⟩
  · exact (calm_hist hD hne ht (by omega)).1 (by omega)
  · refine Classical.byContradiction fun e => ?_
    have := (calm_hist hD hne ht (c := (j : Int)) (by omega)).2 e
    omega
end
/-- bounds of more fields are not narrower -/
theorem bnd_more (g : List Int → Int) {l l' : List (List Int)} (h : l ≠ []) (hs : ∀ f ∈ l, f ∈ l') : (bnd g l').lo ≤ (bnd g l).lo ∧ (bnd g l).hi ≤ (bnd g l').hi := by
  have h' : l' ≠ [] := fun e => by
    obtain ⟨f, hf⟩ := List.exists_mem_of_ne_nil _ h
    have := hs f hf
    rw [e] at this
    cases this
  have b := bnd_is g h
  have b' := bnd_is g h'
  obtain ⟨f1, m1, e1⟩ := b.lo
  obtain ⟨f2, m2, e2⟩ := b.hi
  have := b'.all f1 (hs f1 m1)
  have := b'.all f2 (hs f2 m2)
  omega
/-- a history that somebody proposes lies in the bounds -/
theorem own_bnd {n t : Nat} {c : Int} {L : Nat → List (List Int)} {h : Nat → List Int} (hh : HistF n c L t h) {i k : Nat} (hi : i < t) : (bnd (fun f => fOf f k) (histF n c L t i)).lo ≤ fOf (h i) k ∧ fOf (h i) k ≤ (bnd (fun f => fOf f k) (histF n c L t i)).hi := by
  have hm : h i ∈ histF n c L t i := (hist_mem hi).2 ⟨h, hh, rfl⟩
  exact (bnd_is (fun f => fOf f k) (fun e => by rw [e] at hm; cases hm)).all _ hm
theorem apartF_congr {f g f' g' : Nat → Int} : ∀ k, (∀ i, i < k → f i = f' i) → (∀ i, i < k → g i = g' i) → apartF f g k = apartF f' g' k
  | 0, _, _ => rfl
  | k + 1, h1, h2 => by
    rw [apartF, apartF, apartF_congr k (fun i hi => h1 i (by omega)) (fun i hi => h2 i (by omega)), h1 k (by omega), h2 k (by omega)]
end Go.Proofs.YtlfegmjdheddjaaDoor
