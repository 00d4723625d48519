/- Plain laws: a beam more; spans that are narrowed to their bounds. -/
import Derived.Test.YtollfpnfnciekaaDoorGbA
import Derived.Test.YtollfpnfnciekaaDoorGhA
import Derived.Test.YtollfpnfnciekaaDoorGgA
namespace Go.Proofs.YtollfpnfnciekaaDoor
open Go.RowKit
set_option linter.unusedVariables false
set_option linter.unusedSimpArgs false
/-- the beams of an image, and one more -/
def withB (m : Nat) (bs : Nat → BM) (p : BM) (i : Nat) : BM := if i < m then bs i else p
theorem withB_lt {m : Nat} {bs : Nat → BM} {p : BM} {i : Nat} (h : i < m) : withB m bs p i = bs i := if_pos h
theorem withB_end {m : Nat} {bs : Nat → BM} {p : BM} {i : Nat} (h : ¬ i < m) : withB m bs p i = p := if_neg h
theorem beamB_iff {n : Nat} {b : BM} : beamB n b = true ↔ (∀ k, k < b.wn → 1 ≤ b.ws k ∧ b.ws k ≤ 1000000) ∧ setB n b.cn b.cs = true ∧ b.wn = b.cn ∧ 0 ≤ b.lo ∧ b.lo ≤ b.hi ∧ b.hi ≤ 1000000000000 := by
  unfold beamB spanB
  simp only [Bool.and_eq_true, allUpto_iff, inB_iff, decide_eq_true_eq, beq_iff_eq, and_assoc]
theorem more_shape {n m : Nat} {ss : Nat → SV} {bs : Nat → BM} {p : BM} (hS : Shape n ss m bs) (hm : m < 20) (hp : beamB n p = true) : Shape n ss (m + 1) (withB m bs p) := by
  obtain ⟨h1, h2, h3, h4⟩ := beamB_iff.1 hp
  refine ⟨hS.n1, hS.n40, by omega, hS.span, fun i hi => ?_, fun i hi => ?_, fun i hi => ?_, fun i hi => ?_⟩
  · by_cases e : i < m
    · rw [withB_lt e]; exact hS.wn i e
    · rw [withB_end e]; exact h3
  · by_cases e : i < m
    · rw [withB_lt e]; exact hS.set i e
    · rw [withB_end e]; exact h2
  · by_cases e : i < m
    · rw [withB_lt e]; exact hS.weight i e
    · rw [withB_end e]; exact fun k hk => h1 k (by omega)
  · by_cases e : i < m
    · rw [withB_lt e]; exact hS.bound i e
    · rw [withB_end e]; exact h4
theorem check_of {n m : Nat} {ss : Nat → SV} {bs : Nat → BM} (hS : Shape n ss m bs) (h : prodN ss n ≤ 200000) : checkN n ss m bs = 0 := by
  unfold checkN longB
  rw [if_neg (by rw [shapeB_iff.2 hS]; decide), if_neg (by rw [decide_eq_true_eq]; omega)]
theorem check_prod {n m : Nat} {ss : Nat → SV} {bs : Nat → BM} (hC : checkN n ss m bs = 0) : prodN ss n ≤ 200000 := by
  have hS := checkN_shape hC
  unfold checkN longB at hC
  rw [if_neg (by rw [shapeB_iff.2 hS]; decide)] at hC
  by_cases h : 200000 < prodN ss n
  · rw [if_pos (decide_eq_true h)] at hC; cases hC
  · omega
theorem more_check {n m : Nat} {ss : Nat → SV} {bs : Nat → BM} {p : BM} (hC : checkN n ss m bs = 0) (hm : m < 20) (hp : beamB n p = true) : checkN n ss (m + 1) (withB m bs p) = 0 := check_of (more_shape (checkN_shape hC) hm hp) (check_prod hC)
theorem more_agrees {m : Nat} {bs : Nat → BM} {p : BM} {f : Nat → Int} : agreesB (m + 1) (withB m bs p) f = (agreesB m bs f && inB (ofN p f) p.lo p.hi) := by
  unfold agreesB
  rw [Bool.eq_iff_iff, Bool.and_eq_true, allUpto_iff, allUpto_iff]
  constructor
  · intro h
    refine ⟨fun i hi => ?_, ?_⟩
    · have := h i (by omega); rwa [withB_lt hi] at this
    · have := h m (by omega); rwa [withB_end (by omega)] at this
  · rintro ⟨h1, h2⟩ i hi
    by_cases e : i < m
    · rw [withB_lt e]; exact h1 i e
    · rw [withB_end e]; exact h2
theorem moreB_all {n m : Nat} {ss : Nat → SV} {bs : Nat → BM} {p : BM} : allF n ss (m + 1) (withB m bs p) = (allF n ss m bs).filter (fun g => inB (ofN p (fOf g)) p.lo p.hi) := by
  refine sorted_filter allF_sorted allF_sorted (fun g => ?_)
  rw [allF_mem, allF_mem, more_agrees, Bool.and_eq_true]
  constructor
  · rintro ⟨⟨h1, h2⟩, h3, h4⟩; exact ⟨⟨h1, h3, h4⟩, h2⟩
  · rintro ⟨⟨h1, h3, h4⟩, h2⟩; exact ⟨⟨h1, h2⟩, h3, h4⟩
theorem prod_within {ss st : Nat → SV} : ∀ k, (∀ i, i < k → (ss i).lo ≤ (st i).lo ∧ (st i).lo ≤ (st i).hi ∧ (st i).hi ≤ (ss i).hi) → prodN st k ≤ prodN ss k
  | 0, _ => by simp [prodN]
  | k + 1, h => by
    have ih := prod_within k (fun i hi => h i (by omega))
    have h1 := prodN_pos (ss := ss) k (fun i hi => by have := h i (by omega); omega)
    have h0 := prodN_pos (ss := st) k (fun i hi => by have := h i (by omega); omega)
    have h2 := h k (by omega)
    rw [prodN, prodN]
    exact Int.mul_le_mul ih (by omega) (by omega) (by omega)
theorem tight_in {n m : Nat} {ss : Nat → SV} {bs : Nat → BM} (hA : allF n ss m bs ≠ []) {i : Nat} (hi : i < n) : (ss i).lo ≤ (bnd (fun f => fOf f i) (allF n ss m bs)).lo ∧ (bnd (fun f => fOf f i) (allF n ss m bs)).lo ≤ (bnd (fun f => fOf f i) (allF n ss m bs)).hi ∧ (bnd (fun f => fOf f i) (allF n ss m bs)).hi ≤ (ss i).hi := by
  have hB := bnd_is (fun f => fOf f i) hA
  obtain ⟨f, hf, e⟩ := hB.lo
  obtain ⟨g, hg, e2⟩ := hB.hi
  have h1 := (allF_mem.1 hf).2.2 i hi
  have h2 := (allF_mem.1 hg).2.2 i hi
  have h3 := hB.all f hf
  try dsimp only at e e2 h3
  omega
theorem tight_shape {n m : Nat} {ss : Nat → SV} {bs : Nat → BM} (hS : Shape n ss m bs) (hA : allF n ss m bs ≠ []) : Shape n (fun i => bnd (fun f => fOf f i) (allF n ss m bs)) m bs :=
  ⟨hS.n1, hS.n40, hS.m20, fun i hi => by
    have h1 := tight_in hA hi
    have h2 := hS.span i hi
    try dsimp only
    omega, hS.wn, hS.set, hS.weight, hS.bound⟩
theorem tight_check {n m : Nat} {ss : Nat → SV} {bs : Nat → BM} (hC : checkN n ss m bs = 0) (hA : allF n ss m bs ≠ []) : checkN n (fun i => bnd (fun f => fOf f i) (allF n ss m bs)) m bs = 0 :=
  check_of (tight_shape (checkN_shape hC) hA) (Int.le_trans (prod_within (ss := ss) n (fun i hi => tight_in hA hi)) (check_prod hC))
theorem tight_all {n m : Nat} {ss : Nat → SV} {bs : Nat → BM} (hA : allF n ss m bs ≠ []) : allF n (fun i => bnd (fun f => fOf f i) (allF n ss m bs)) m bs = allF n ss m bs := by
  refine sorted_eq allF_sorted allF_sorted (fun g => ?_)
  rw [allF_mem]
  constructor
  · rintro ⟨h1, h2, h3⟩
    rw [allF_mem]
    refine ⟨h1, h2, fun c hc => ?_⟩
    have h4 := h3 c hc
    have h5 := tight_in hA hc
    try dsimp only at h4
    omega
  · intro h
    obtain ⟨h1, h2, _⟩ := allF_mem.1 h
    exact ⟨h1, h2, fun c _ => (bnd_is (fun f => fOf f c) hA).all g h⟩
theorem more_in {n m : Nat} {ss : Nat → SV} {bs : Nat → BM} {p : BM} (hK : allF n ss (m + 1) (withB m bs p) ≠ []) (i : Nat) : (bnd (fun f => fOf f i) (allF n ss m bs)).lo ≤ (bnd (fun f => fOf f i) (allF n ss (m + 1) (withB m bs p))).lo ∧ (bnd (fun f => fOf f i) (allF n ss (m + 1) (withB m bs p))).hi ≤ (bnd (fun f => fOf f i) (allF n ss m bs)).hi := by
  have hsub : ∀ f, f ∈ allF n ss (m + 1) (withB m bs p) → f ∈ allF n ss m bs := fun f hf => by
    rw [moreB_all] at hf
    exact (List.mem_filter.1 hf).1
  have hA : allF n ss m bs ≠ [] := fun e => by
    obtain ⟨f, hf⟩ := List.exists_mem_of_ne_nil _ hK
    have := hsub f hf
    rw [e] at this
    cases this
  have := (bnd_is (fun f => fOf f i) hK).sub (bnd_is (fun f => fOf f i) hA) hsub
  exact ⟨this.1, this.2.1⟩
theorem more_len {n m : Nat} {ss : Nat → SV} {bs : Nat → BM} {p : BM} : (allF n ss (m + 1) (withB m bs p)).length ≤ (allF n ss m bs).length := by
  rw [moreB_all]
  exact List.length_filter_le _ _
end Go.Proofs.YtollfpnfnciekaaDoor
