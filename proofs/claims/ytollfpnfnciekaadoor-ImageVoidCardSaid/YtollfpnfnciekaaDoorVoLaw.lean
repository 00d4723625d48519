/- Plain laws of voids: parts of a set. -/
import Derived.Test.YtollfpnfnciekaaDoorEiLaw
import Derived.Test.YtollfpnfnciekaaDoorImSumF
namespace Go.Proofs.YtollfpnfnciekaaDoor
open Go.RowKit
set_option linter.unusedVariables false
set_option linter.unusedSimpArgs false
/-- the cells of a set that have a mark, up to an index -/
def partL (bit : Nat → Bool) (cs : Nat → Int) (i : Nat) : List Int := ((List.range i).filter bit).map cs
theorem partL_succ {bit : Nat → Bool} {cs : Nat → Int} {i : Nat} : partL bit cs (i + 1) = if bit i = true then partL bit cs i ++ [cs i] else partL bit cs i := by
  unfold partL
  rw [List.range_succ, List.filter_append, List.map_append]
  by_cases h : bit i = true
  · rw [if_pos h]; simp [h]
  · rw [if_neg h]; simp [h]
theorem partL_len {bit : Nat → Bool} {cs : Nat → Int} {i : Nat} : (partL bit cs i).length ≤ i := by
  unfold partL
  rw [List.length_map]
  exact Nat.le_trans (List.length_filter_le _ _) (by simp)
theorem setB_incr {n k : Nat} {cs : Nat → Int} (h : setB n k cs = true) {i j : Nat} (hij : i < j) (hj : j < k) : cs i < cs j := by
  induction j with
  | zero => omega
  | succ j ih =>
    have h1 := setB_step h hj
    by_cases e : i = j
    · subst e; exact h1
    · have := ih (by omega) (by omega); omega
theorem setB_of {n : Nat} {L : List Int} (h1 : L.Pairwise (· < ·)) (h2 : ∀ x ∈ L, 0 ≤ x ∧ x < (n : Int)) : setB n L.length (fOf L) = true := by
  unfold setB
  refine allUpto_true (fun i hi => ?_)
  unfold setAt
  have e : ∀ j (hj : j < L.length), fOf L j = L[j] := fun j hj => by unfold fOf; rw [List.getD_eq_getElem?_getD, List.getElem?_eq_getElem hj]; rfl
  have h3 := h2 _ (List.getElem_mem hi)
  rw [Bool.and_eq_true, Bool.or_eq_true, inB_iff, beq_iff_eq, decide_eq_true_eq, e i hi]
  refine ⟨by omega, ?_⟩
  by_cases e0 : i = 0
  · exact .inl e0
  · right
    rw [e (i - 1) (by omega)]
    exact List.pairwise_iff_getElem.1 h1 (i - 1) i (by omega) hi (by omega)
theorem partL_set {n k : Nat} {cs : Nat → Int} (h : setB n k cs = true) (bit : Nat → Bool) : setB n (partL bit cs k).length (fOf (partL bit cs k)) = true := by
  refine setB_of ?_ ?_
  · unfold partL
    rw [List.pairwise_map]
    have h1 : ((List.range k).filter bit).Pairwise (· < ·) := List.pairwise_lt_range.sublist List.filter_sublist
    refine h1.imp_of_mem ?_
    intro a b ha hb hab
    have hb2 := List.mem_range.1 (List.mem_filter.1 hb).1
    exact setB_incr h hab hb2
  · intro x hx
    unfold partL at hx
    obtain ⟨i, hi, rfl⟩ := List.mem_map.1 hx
    exact setB_at h (List.mem_range.1 (List.mem_filter.1 hi).1)
theorem sumL_list {L : List Int} {f : Nat → Int} : sumL (fOf L) L.length f = (L.map (fun x => f x.toNat)).sum := by
  unfold sumL
  have h : ∀ j, j ≤ L.length → sumN (fun i => f (fOf L i).toNat) j = ((L.take j).map (fun x => f x.toNat)).sum := by
    intro j
    induction j with
    | zero => intro _; simp [sumN]
    | succ j ih =>
      intro hj
      rw [sumN, ih (by omega), List.take_add_one, List.getElem?_eq_getElem (by omega), List.map_append, List.sum_append]
      unfold fOf
      rw [List.getD_eq_getElem?_getD, List.getElem?_eq_getElem (by omega)]
      simp
  rw [h L.length (Nat.le_refl _), List.take_length]
theorem partL_le {n k : Nat} {cs : Nat → Int} (h : setB n k cs = true) (bit : Nat → Bool) {f : Nat → Int} (hf : ∀ c, c < n → 0 ≤ f c) : ∀ i, i ≤ k → ((partL bit cs i).map (fun x => f x.toNat)).sum ≤ sumN (fun q => f (cs q).toNat) i
  | 0, _ => by simp [partL, sumN]
  | i + 1, hi => by
    have ih := partL_le h bit hf i (by omega)
    have h1 := setB_at h (i := i) (by omega)
    have h2 := hf (cs i).toNat (by omega)
    rw [partL_succ, sumN]
    by_cases hb : bit i = true
    · rw [if_pos hb, List.map_append, List.sum_append]
      simp
      omega
    · rw [if_neg hb]; omega
theorem part_sum {n k : Nat} {cs : Nat → Int} (h : setB n k cs = true) (bit : Nat → Bool) {f : Nat → Int} (hf : ∀ c, c < n → 0 ≤ f c) : sumL (fOf (partL bit cs k)) (partL bit cs k).length f ≤ sumL cs k f := by
  rw [sumL_list]
  exact partL_le h bit hf k (Nat.le_refl _)
theorem part_bnd {n m k : Nat} {ss : Nat → SV} {bs : Nat → BM} {cs : Nat → Int} (hS : Shape n ss m bs) (hA : allF n ss m bs ≠ []) (h : setB n k cs = true) (bit : Nat → Bool) :
    (bnd (fun f => sumL (fOf (partL bit cs k)) (partL bit cs k).length (fOf f)) (allF n ss m bs)).hi ≤ (bnd (fun f => sumL cs k (fOf f)) (allF n ss m bs)).hi ∧ (bnd (fun f => sumL (fOf (partL bit cs k)) (partL bit cs k).length (fOf f)) (allF n ss m bs)).lo ≤ (bnd (fun f => sumL cs k (fOf f)) (allF n ss m bs)).lo := by
  have hT := bnd_is (fun f => sumL (fOf (partL bit cs k)) (partL bit cs k).length (fOf f)) hA
  have hG := bnd_is (fun f => sumL cs k (fOf f)) hA
  have hle : ∀ f ∈ allF n ss m bs, sumL (fOf (partL bit cs k)) (partL bit cs k).length (fOf f) ≤ sumL cs k (fOf f) := fun f hf => part_sum h bit (fun c hc => (inBox_den hS (all_field hf).1 c hc).1)
  obtain ⟨f, hf, ef⟩ := hT.hi
  obtain ⟨g, hg, eg⟩ := hG.lo
  have h1 := hle f hf
  have h2 := hG.all f hf
  have h3 := hle g hg
  have h4 := hT.all g hg
  exact ⟨by omega, by omega⟩
theorem sum_bnd {n m k : Nat} {ss : Nat → SV} {bs : Nat → BM} {cs : Nat → Int} (hS : Shape n ss m bs) (hA : allF n ss m bs ≠ []) (h : setB n k cs = true) : 0 ≤ (bnd (fun f => sumL cs k (fOf f)) (allF n ss m bs)).lo ∧ (bnd (fun f => sumL cs k (fOf f)) (allF n ss m bs)).lo ≤ (bnd (fun f => sumL cs k (fOf f)) (allF n ss m bs)).hi := by
  have hG := bnd_is (fun f => sumL cs k (fOf f)) hA
  obtain ⟨g, hg, eg⟩ := hG.lo
  have h1 := hG.all g hg
  have h2 := sumL_bound h (inBox_den hS (all_field hg).1) k (Nat.le_refl _)
  unfold sumL at *
  omega
theorem own_sum {n m k : Nat} {ss : Nat → SV} {bs : Nat → BM} {cs : Nat → Int} (hS : Shape n ss m bs) (h : setB n k cs = true) {f : Nat → Int} (hf : inBox n ss f) (ha : agreesB m bs f = true) : (bnd (fun f => sumL cs k (fOf f)) (allF n ss m bs)).lo ≤ sumL cs k f ∧ sumL cs k f ≤ (bnd (fun f => sumL cs k (fOf f)) (allF n ss m bs)).hi := by
  have hm := own_all hS hf ha
  have hG := (bnd_is (fun f => sumL cs k (fOf f)) (fun e => by rw [e] at hm; cases hm)).all _ hm
  have e : sumL cs k (fOf ((List.range n).map f)) = sumL cs k f := by
    unfold sumL
    refine sumN_congr k (fun i hi => ?_)
    have := setB_at h (i := i) hi
    exact fOf_list (by omega)
  rw [e] at hG
  exact hG
end Go.Proofs.YtollfpnfnciekaaDoor
