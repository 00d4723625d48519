/- ImageMerges: what its walk needs. -/
import Derived.Test.YtnfigielhnnpnaaDoorGxhA
import Derived.Test.YtnfigielhnnpnaaDoorImMg
import Derived.Test.YtnfigielhnnpnaaDoorRefMg
import Derived.Test.YtnfigielhnnpnaaDoorRefSm
namespace Go.Proofs.YtnfigielhnnpnaaDoor
open Go.RowKit
set_option linter.unusedVariables false
set_option linter.unusedSimpArgs false
/-- whether the first images are as defined, with as many cells as the first one -/
def vB (t : Nat) (im : Nat → IM) (i : Nat) : Bool := (decide (1 ≤ t) && decide (t ≤ 10)) && allUpto i (fun j => (im j).shape && (im j).cn == (im 0).cn)
theorem vB_succ {t : Nat} {im : Nat → IM} {i : Nat} : vB t im (i + 1) = (vB t im i && ((im i).shape && (im i).cn == (im 0).cn)) := by
  unfold vB
  rw [allUpto_succ]
  simp only [Bool.and_assoc]
theorem vB_iff {t : Nat} {im : Nat → IM} : vB t im t = true ↔ (1 ≤ t ∧ t ≤ 10) ∧ ∀ j, j < t → ShapedI (im 0).cn (im j) = true := by
  unfold vB
  rw [Bool.and_eq_true, Bool.and_eq_true, decide_eq_true_eq, decide_eq_true_eq, allUpto_iff]
  exact Iff.rfl
theorem mgE_bad {t : Nat} {im : Nat → IM} (h : vB t im t = false) : mgE t im = 2 := by
  unfold mgE
  by_cases ht : 1 ≤ t ∧ t ≤ 10
  · rw [if_neg (by simpa using ht), if_pos]
    cases e : allUpto t (fun i => ShapedI (im 0).cn (im i))
    · rfl
    · have := vB_iff.2 ⟨ht, fun j hj => allUpto_iff.1 e j hj⟩
      rw [h] at this
      cases this
  · rw [if_pos ht]
theorem mgE_good {t : Nat} {im : Nat → IM} (h : vB t im t = true) : mgE t im = if mgOk (im 0).cn im t = false then 7 else if 20 < (mgB im t).length ∨ longB (im 0).cn (mgC im t) 200000 = true then 3 else 0 := by
  obtain ⟨h1, h2⟩ := vB_iff.1 h
  unfold mgE
  rw [if_neg (by simpa using h1), if_neg (by rw [allUpto_true h2]; decide)]
theorem strip_len {im : Nat → IM} {t : Nat} {L : List BM} (h : L.map BM.strip = (mgB im t).map BM.strip) : L.length = (mgB im t).length := by simpa using congrArg List.length h
theorem strip_eq {L L' : List BM} (h : L.map BM.strip = L'.map BM.strip) : ∀ i, i < L.length → BmEq (beamL L i) (beamL L' i) := fun i hi => by
  have hl : L.length = L'.length := by simpa using congrArg List.length h
  have h1 : (L.map BM.strip)[i]? = (L'.map BM.strip)[i]? := by rw [h]
  rw [List.getElem?_map, List.getElem?_map, List.getElem?_eq_getElem hi, List.getElem?_eq_getElem (by omega)] at h1
  have e1 : beamL L i = L[i] := by unfold beamL; rw [List.getD_eq_getElem?_getD, List.getElem?_eq_getElem hi]; rfl
  have e2 : beamL L' i = L'[i]'(by omega) := by unfold beamL; rw [List.getD_eq_getElem?_getD, List.getElem?_eq_getElem (by omega)]; rfl
  rw [e1, e2]
  simp only [Option.map_some, Option.some.injEq, BM.strip, BM.mk.injEq] at h1
  obtain ⟨_, a1, _, _, a2, _, a3, a4, a5, a6⟩ := h1
  exact ⟨a1, a2, a3, a4, fun k _ => by rw [a5], fun k _ => by rw [a6]⟩
theorem spans_nil (W : World) (f : Nat → SV) : Spans W.heap.size W none 0 f := ⟨Nat.zero_le _, .inl rfl⟩
theorem beams_nil (W : World) (f : Nat → BM) : Beams W.heap.size W none 0 f := ⟨Nat.zero_le _, .inl rfl⟩
theorem sameImage_nil (W : World) : Calls Tryd.prog 11 #[.agg #[.slice none 0 0, .slice none 0 0], .agg #[.slice none 0 0, .slice none 0 0]] W fun e w' => e = .returned (.bool true) ∧ Below W.heap.size W w' :=
  r8SameImage_eq none 0 0 none 0 0 (fun _ => ⟨0, 0⟩) (fun _ => bm0) none 0 none 0 (fun _ => ⟨0, 0⟩) (fun _ => bm0) W (spans_nil W _) (beams_nil W _) (spans_nil W _) (beams_nil W _) ⟨fun i hi => by omega, fun i hi => by omega⟩
theorem sameImage_lists {n : Nat} {ss : Nat → SV} {cb cap cb' cap' : Nat} {oa oa' : Option Addr} {oc oc' : Nat} {L L' : List BM} {W : World} (h : Spans W.heap.size W (some ⟨cb, 0, none⟩) n ss ∧ Beams W.heap.size W oa L.length (beamL L)) (h' : Spans W.heap.size W (some ⟨cb', 0, none⟩) n ss ∧ Beams W.heap.size W oa' L'.length (beamL L')) (e : L.map BM.strip = L'.map BM.strip) :
    Calls Tryd.prog 11 #[.agg #[.slice (some ⟨cb, 0, none⟩) n cap, .slice oa L.length oc], .agg #[.slice (some ⟨cb', 0, none⟩) n cap', .slice oa' L'.length oc']] W fun e w' => e = .returned (.bool true) ∧ Below W.heap.size W w' := by
  have hl : L.length = L'.length := by simpa using congrArg List.length e
  have h1 := strip_eq e
  obtain ⟨k1, k2⟩ := h'
  rw [← hl] at k2 ⊢
  exact r8SameImage_eq _ n cap oa L.length oc ss (beamL L) _ cap' oa' oc' ss (beamL L') W h.1 h.2 k1 k2 ⟨fun i _ => ⟨rfl, rfl⟩, h1⟩
section
variable {a : Option Addr} {t c : Nat} {im : Nat → IM} {w W : World}
theorem IsIn.merge (h : IsIn a t im w) (hb : Below w.heap.size w W) : Calls Tryd.prog 8 #[.slice a t c] W (MgRes t im W) := by
  by_cases ht : 1 ≤ t ∧ t ≤ 10
  · exact Merge_any a t c im W w.heap.size hb.size (h.imgs.below hb) ht
  · exact Merge_bad a t c im W h.imgs.1 ht
theorem IsIn.mergeE (h : IsIn a t im w) {E : Int} (hE : mgE t im = E) (h0 : E ≠ 0) (hb : Below w.heap.size w W) : Calls Tryd.prog 8 #[.slice a t c] W fun e w' => e = .returned (.tuple #[.agg #[.slice none 0 0, .slice none 0 0], .int .i64 E]) ∧ Below W.heap.size W w' := by
  refine (h.merge (c := c) hb).mono ?_
  rintro e w' ⟨h1, h2⟩
  rcases h2 with ⟨_, h2⟩ | ⟨h2, _⟩
  · rw [hE] at h2
    exact ⟨h2, h1⟩
  · rw [hE] at h2
    exact absurd h2 h0
/-- what a merged image is -/
def MgIs (n t : Nat) (im : Nat → IM) (w : World) (v : Value) (w' : World) : Prop :=
  ∃ cb cap oa oc L, v = .agg #[.slice (some ⟨cb, 0, none⟩) n cap, .slice oa L.length oc] ∧ L.map BM.strip = (mgB im t).map BM.strip ∧ Fresh w.heap.size w' (fun W' => Spans W'.heap.size W' (some ⟨cb, 0, none⟩) n (mgC im t) ∧ Beams W'.heap.size W' oa L.length (beamL L))
theorem IsIn.mergeO (h : IsIn a t im w) (hE : mgE t im = 0) (hb : Below w.heap.size w W) : Calls Tryd.prog 8 #[.slice a t c] W fun e w' => ∃ cb cap oa oc L, e = .returned (.tuple #[.agg #[.slice (some ⟨cb, 0, none⟩) (im 0).cn cap, .slice oa L.length oc], .int .i64 0]) ∧ L.map BM.strip = (mgB im t).map BM.strip ∧ Fresh W.heap.size w' (fun W' => Spans W'.heap.size W' (some ⟨cb, 0, none⟩) (im 0).cn (mgC im t) ∧ Beams W'.heap.size W' oa L.length (beamL L)) ∧ Below W.heap.size W w' := by
  refine (h.merge (c := c) hb).mono ?_
  rintro e w' ⟨h1, h2⟩
  rcases h2 with ⟨h2, _⟩ | ⟨_, cb, cap, oa, oc, L, he, hL, hf⟩
  · exact absurd hE h2
  · exact ⟨cb, cap, oa, oc, L, he, hL, hf, h1⟩
theorem IsIn.rmerge (h : IsIn a t im w) (hv : vB t im t = true) (hb : Below w.heap.size w W) : Calls Tryd.prog 9 #[.slice a t c] W (R8Mg (im 0).cn t im W) := by
  obtain ⟨h1, h2⟩ := vB_iff.1 hv
  exact r8Merge_any a t c im W w.heap.size hb.size (h.imgs.below hb) (im 0).cn rfl h2 h1
end
theorem mg_cells {t : Nat} {im : Nat → IM} (hv : vB t im t = true) (hok : mgOk (im 0).cn im t = true) : ∀ c, c < (im 0).cn → 0 ≤ (mgC im t c).lo ∧ (mgC im t c).lo ≤ (mgC im t c).hi ∧ (mgC im t c).hi ≤ 1000 := fun c hc => by
  obtain ⟨h1, h2⟩ := vB_iff.1 hv
  obtain ⟨h3, _⟩ := ShapedI.shape (h2 0 (by omega))
  obtain ⟨k1, k2⟩ := mgC_range (n := (im 0).cn) (im := im) (fun c hc => ⟨(h3.span c hc).1, (h3.span c hc).2.2⟩) t c hc
  refine ⟨k1, ?_, k2⟩
  obtain ⟨k, hk⟩ : ∃ k, t = k + 1 := ⟨t - 1, by omega⟩
  rw [hk] at hok ⊢
  exact mgOk_le hok c hc
end Go.Proofs.YtnfigielhnnpnaaDoor
