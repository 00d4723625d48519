/- Texts put together: LawIs, LawEp0. -/
import Derived.Test.YtlfegmjdheddjaaDoorGrA
import Derived.Test.YtlfegmjdheddjaaDoorGyA
import Derived.Test.YtlfegmjdheddjaaDoorGxcA
import Derived.Test.YtlfegmjdheddjaaDoorGxbA
import Derived.Test.YtlfegmjdheddjaaDoorRefBd
import Derived.Test.YtlfegmjdheddjaaDoorGqA
namespace Go.Proofs.YtlfegmjdheddjaaDoor
open Go.RowKit
set_option linter.unusedVariables false
set_option linter.unusedSimpArgs false
/-- whether an image's lists are short; its shape; the number of its fields; its error -/
def IM.short (x : IM) : Bool := shortB x.cn x.bn x.bs
def IM.shape (x : IM) : Bool := shapeB x.cn x.ss x.bn x.bs
def IM.fields (x : IM) : Int := min (prodN x.ss x.cn) 200001
def IM.check (x : IM) : Int := checkN x.cn x.ss x.bn x.bs
structure IsIn (a : Option Addr) (t : Nat) (im : Nat → IM) (w : World) : Prop where
  imgs : Imgs w.heap.size w a t im
  tab : Lib.TabBelow Tryd.prog w.heap.size w "internal/strconv.uint64pow10" .u64 Lib.pow10Tab
section
variable {a : Option Addr} {t : Nat} {im : Nat → IM} {w W : World} {i : Nat}
theorem IsIn.known (h : IsIn a t im w) (hb : Below w.heap.size w W) : Calls Tryd.prog 11 #[] W fun e w' => e = .returned (.bool true) ∧ Below W.heap.size W w' := known_any W (h.tab W hb)
theorem IsIn.S (h : IsIn a t im w) (hi : i < t) (hb : Below w.heap.size w W) : Spans w.heap.size W (im i).ca (im i).cn (im i).ss := ((h.imgs.below hb).get hi).choose_spec.choose_spec.2.2.2.2.1
theorem IsIn.M (h : IsIn a t im w) (hi : i < t) (hb : Below w.heap.size w W) : Beams w.heap.size W (im i).ba (im i).bn (im i).bs := ((h.imgs.below hb).get hi).choose_spec.choose_spec.2.2.2.2.2
theorem IsIn.shortC (h : IsIn a t im w) (hi : i < t) (hb : Below w.heap.size w W) : Calls Tryd.prog 17 #[.agg #[.slice (im i).ca (im i).cn (im i).cc, .slice (im i).ba (im i).bn (im i).bc]] W fun e w' => e = .returned (.bool (im i).short) ∧ Below W.heap.size W w' :=
  short_any (im i).ca (im i).cn (im i).cc (im i).ba (im i).bn (im i).bc (im i).bs W w.heap.size hb.size (h.S hi hb).1 (h.M hi hb)
theorem IsIn.shapeC (h : IsIn a t im w) (hi : i < t) (hb : Below w.heap.size w W) : Calls Tryd.prog 28 #[.agg #[.slice (im i).ca (im i).cn (im i).cc, .slice (im i).ba (im i).bn (im i).bc]] W fun e w' => e = .returned (.bool (im i).shape) ∧ Below W.heap.size W w' :=
  r8Shape_any (im i).ca (im i).cn (im i).cc (im i).ba (im i).bn (im i).bc (im i).ss (im i).bs W w.heap.size hb.size (h.S hi hb) (h.M hi hb)
theorem IsIn.fieldsC (h : IsIn a t im w) (hi : i < t) (hs : (im i).shape = true) (hb : Below w.heap.size w W) : Calls Tryd.prog 18 #[.agg #[.slice (im i).ca (im i).cn (im i).cc, .slice (im i).ba (im i).bn (im i).bc]] W fun e w' => e = .returned (.int .i64 (im i).fields) ∧ Below W.heap.size W w' :=
  r8Fields_any (im i).ca (im i).cn (im i).cc (im i).ba (im i).bn (im i).bc (im i).ss W w.heap.size hb.size (h.S hi hb) (shapeB_iff.1 hs).span
theorem IsIn.checkC (h : IsIn a t im w) (hi : i < t) (hb : Below w.heap.size w W) : Calls Tryd.prog 13 #[.agg #[.slice (im i).ca (im i).cn (im i).cc, .slice (im i).ba (im i).bn (im i).bc]] W fun e w' => e = .returned (.int .i64 (im i).check) ∧ Below W.heap.size W w' :=
  r8Check_any (im i).ca (im i).cn (im i).cc (im i).ba (im i).bn (im i).bc (im i).ss (im i).bs W w.heap.size hb.size (h.S hi hb) (h.M hi hb)
end
theorem fields_pos {x : IM} (h : x.shape = true) : 1 ≤ x.fields ∧ x.fields ≤ 200001 := by
  have h1 := prodN_pos (ss := x.ss) x.cn (fun i hi => ((shapeB_iff.1 h).span i hi).2.1)
  unfold IM.fields
  omega
theorem long_fields {x : IM} : longB x.cn x.ss 1000 = decide (1000 < x.fields) := by
  unfold longB IM.fields
  rw [decide_eq_decide]
  omega
end Go.Proofs.YtlfegmjdheddjaaDoor
namespace Go.Proofs.YtlfegmjdheddjaaDoor
open Go.RowKit
set_option linter.unusedVariables false
set_option linter.unusedSimpArgs false
/-- whether the statement ends at an image -/
def quitI (x : IM) : Bool := !x.short || (x.shape && decide (200 < x.fields) && decide (x.fields ≤ 1000))
/-- whether one of the first images is too long -/
def lgB (im : Nat → IM) (i : Nat) : Bool := (List.range i).any fun j => (im j).shape && decide (1000 < (im j).fields)
theorem lgB_succ {im : Nat → IM} {i : Nat} : lgB im (i + 1) = (lgB im i || ((im i).shape && decide (1000 < (im i).fields))) := by
  unfold lgB
  rw [List.range_succ, List.any_append]
  simp
/-- whether the first images are as defined, with as many cells as the first one -/
def shB (t : Nat) (im : Nat → IM) (i : Nat) : Bool := decide (1 ≤ t) && allUpto i (fun j => (im j).shape && (im j).cn == (im 0).cn)
theorem shB_succ {t : Nat} {im : Nat → IM} {i : Nat} : shB t im (i + 1) = (shB t im i && ((im i).shape && (im i).cn == (im 0).cn)) := by
  unfold shB
  rw [allUpto_succ, Bool.and_assoc]
noncomputable def epFrom (k : Nat) : Code := dropSeq k (Tryd.f6.body.getD .skip)
def epPost (w : World) (e : Ending) (w' : World) : Prop := e = .returned (.bool true) ∧ Below w.heap.size w w'
def epV (t : Nat) (ch : Int) : Bool := decide (1 ≤ t) && inB ch 0 1000
theorem allUpto_iff' {n : Nat} {f : Nat → Bool} (h : allUpto n f = false) : ∃ j, j < n ∧ f j = false := by
  refine Classical.byContradiction fun e => ?_
  rw [allUpto_true (fun j hj => by cases hf : f j; exact absurd ⟨j, hj, hf⟩ e; rfl)] at h
  cases h
theorem least_of {P : Nat → Prop} : ∀ (k : Nat), P k → ∃ q, q ≤ k ∧ P q ∧ ∀ j, j < q → ¬ P j
  | 0, h => ⟨0, Nat.le_refl _, h, fun j hj => by omega⟩
  | k + 1, h => by
    by_cases e : ∃ j, j ≤ k ∧ P j
    · obtain ⟨j, hj, hp⟩ := e
      obtain ⟨q, h1, h2, h3⟩ := least_of j hp
      exact ⟨q, by omega, h2, h3⟩
    · exact ⟨k + 1, Nat.le_refl _, h, fun j hj hp => e ⟨j, by omega, hp⟩⟩
termination_by k => k
theorem shB_iff {t : Nat} {im : Nat → IM} : shB t im t = true ↔ 1 ≤ t ∧ ∀ j, j < t → ShapedI (im 0).cn (im j) = true := by
  unfold shB
  rw [Bool.and_eq_true, decide_eq_true_eq, allUpto_iff]
  exact Iff.rfl
theorem lgB_false {t : Nat} {im : Nat → IM} (h : lgB im t = false) {j : Nat} (hj : j < t) : ¬ ((im j).shape = true ∧ 1000 < (im j).fields) := fun ⟨h1, h2⟩ => by
  unfold lgB at h
  rw [List.any_eq_false] at h
  have := h j (List.mem_range.2 hj)
  rw [h1, decide_eq_true h2] at this
  exact this rfl
theorem lgB_true {t : Nat} {im : Nat → IM} (h : lgB im t = true) : ∃ j, j < t ∧ (im j).shape = true ∧ 1000 < (im j).fields := by
  unfold lgB at h
  rw [List.any_eq_true] at h
  obtain ⟨j, hj, h1⟩ := h
  rw [Bool.and_eq_true, decide_eq_true_eq] at h1
  exact ⟨j, List.mem_range.1 hj, h1⟩
section
variable {t : Nat} {im : Nat → IM}
theorem ep_many (h : 6 < t) (f : Bool) : movE t im f = 3 := by unfold movE; rw [if_pos h]
theorem ep_bad (h : ¬ 6 < t) (hs : shB t im t = false) (f : Bool) : movE t im f = 2 := by
  unfold movE
  rw [if_neg h]
  by_cases h0 : t = 0 ∨ f = false
  · rw [if_pos h0]
  · rw [if_neg h0, if_pos]
    cases e : allUpto t (fun i => ShapedI (im 0).cn (im i))
    · rfl
    · have := shB_iff.2 ⟨by omega, fun j hj => allUpto_iff.1 e j hj⟩
      rw [hs] at this
      cases this
theorem ep_fine (h : ¬ 6 < t) : movE t im false = 2 := by unfold movE; rw [if_neg h, if_pos (Or.inr rfl)]
theorem ep_head (h : ¬ 6 < t) (hs : shB t im t = true) : movE t im true = if allUpto t (fun i => !longB (im i).cn (im i).ss 1000) = false then 3 else if allUpto t (fun i => !(im i).F.isEmpty) = false then 5 else 0 := by
  obtain ⟨h1, h2⟩ := shB_iff.1 hs
  unfold movE
  rw [if_neg h, if_neg (by rintro (h | h); omega; cases h), if_neg (by rw [allUpto_true h2]; decide)]
theorem ep_long (h : ¬ 6 < t) (hs : shB t im t = true) (hl : lgB im t = true) : movE t im true = 3 := by
  rw [ep_head h hs, if_pos]
  obtain ⟨j, hj, h1, h2⟩ := lgB_true hl
  exact allUpto_false hj (by rw [long_fields, decide_eq_true h2]; rfl)
theorem ep_good (hs : shB t im t = true) (hl : lgB im t = false) : ∀ i, i < t → GoodI (im 0).cn (im i) := fun i hi => by
  have h1 := (shB_iff.1 hs).2 i hi
  refine ⟨h1, ?_⟩
  rw [long_fields]
  refine decide_eq_false (fun h2 => lgB_false hl hi ⟨?_, h2⟩)
  unfold ShapedI at h1
  rw [Bool.and_eq_true] at h1
  exact h1.1
theorem ep_end (h : ¬ 6 < t) (hs : shB t im t = true) (hl : lgB im t = false) : movE t im true = if allUpto t (fun i => !(im i).F.isEmpty) = false then 5 else 0 := by
  rw [ep_head h hs, if_neg]
  rw [allUpto_true (fun i hi => by rw [(ep_good hs hl i hi).2]; rfl)]
  decide
theorem IsIn.allC {a : Option Addr} {w W : World} {i n : Nat} (h : IsIn a t im w) (hi : i < t) (hg : GoodI n (im i)) (hb : Below w.heap.size w W) : Calls Tryd.prog 14 #[.agg #[.slice (im i).ca (im i).cn (im i).cc, .slice (im i).ba (im i).bn (im i).bc]] W fun e w' => (∃ la lc, e = .returned (.slice la (im i).F.length lc)) ∧ Below W.heap.size W w' := by
  have h1 := all_im (im i) n hg W w.heap.size hb.size (h.S hi hb) (h.M hi hb)
  rw [← (ShapedI.shape hg.1).2] at h1
  exact h1.mono fun e w' ⟨⟨la, lc, he, _⟩, hb⟩ => ⟨⟨la, lc, he⟩, hb⟩
theorem IsIn.calmE {a : Option Addr} {c : Nat} {w W : World} (h : IsIn a t im w) {E : Int} (hE : movE t im true = E) (h0 : E ≠ 0) (hb : Below w.heap.size w W) : Calls Tryd.prog 31 #[.slice a t c] W fun e w' => e = .returned (.tuple #[.int .i64 0, .int .i64 E]) ∧ Below W.heap.size W w' := by
  have h1 := Calm_bad a t c im W w.heap.size hb.size (h.imgs.below hb) (by rw [hE]; exact h0)
  rw [hE] at h1
  exact h1
theorem IsIn.epE {a : Option Addr} {c : Nat} {ch : Int} {w W : World} (h : IsIn a t im w) {E : Int} (hE : movE t im (inB ch 0 1000) = E) (h0 : E ≠ 0) (hb : Below w.heap.size w W) : Calls Tryd.prog 30 #[.slice a t c, .int .i64 ch] W fun e w' => e = .returned (.tuple #[.slice none 0 0, .int .i64 E]) ∧ Below W.heap.size W w' := by
  have h1 := Epochs_bad a t c im ch W w.heap.size hb.size (h.imgs.below hb) (by rw [hE]; exact h0)
  rw [hE] at h1
  exact h1
end
end Go.Proofs.YtlfegmjdheddjaaDoor
