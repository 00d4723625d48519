/- Texts put together: GrA, GxeA. -/
import Derived.Test.YtlfegmjdheddjaaDoorRef8
import Derived.Test.YtlfegmjdheddjaaDoorGgA
import Derived.Test.YtlfegmjdheddjaaDoorLawK
import Derived.Test.YtlfegmjdheddjaaDoorGyA
import Derived.Test.YtlfegmjdheddjaaDoorGxcA
import Derived.Test.YtlfegmjdheddjaaDoorGxbA
import Derived.Test.YtlfegmjdheddjaaDoorRefBd
import Derived.Test.YtlfegmjdheddjaaDoorGqA
namespace Go.Proofs.YtlfegmjdheddjaaDoor
open Go.RowKit
set_option linter.unusedVariables false
set_option linter.unusedSimpArgs false
def shortB (n m : Nat) (bs : Nat → BM) : Bool := allUpto m (fun i => decide ((bs i).cn ≤ 50) && decide ((bs i).wn ≤ 50)) && (decide (n ≤ 50) && decide (m ≤ 25))
theorem shortB_no {n m : Nat} {bs : Nat → BM} {i : Nat} (hi : i < m) (h : 50 < (bs i).cn ∨ 50 < (bs i).wn) : shortB n m bs = false := by
  unfold shortB
  rw [allUpto_false hi (by
    rcases h with h | h
    · rw [decide_eq_false (by omega), Bool.false_and]
    · rw [decide_eq_false (p := (bs i).wn ≤ 50) (by omega), Bool.and_false]), Bool.false_and]
theorem shortB_end {n m : Nat} {bs : Nat → BM} (h : ∀ i, i < m → (bs i).cn ≤ 50 ∧ (bs i).wn ≤ 50) : shortB n m bs = (decide (n ≤ 50) && decide (m ≤ 25)) := by
  unfold shortB
  rw [allUpto_true (fun i hi => by rw [decide_eq_true (h i hi).1, decide_eq_true (h i hi).2]; rfl), Bool.true_and]
set_option maxRecDepth 100000 in
set_option maxHeartbeats 1000000 in
theorem short_any (a : Option Addr) (n c : Nat) (ba : Option Addr) (m bc : Nat) (bs : Nat → BM) (w : World) (B : Nat) (hBw : B ≤ w.heap.size) (hn : n ≤ maxLen) (hM : Beams B w ba m bs) :
    Calls Tryd.prog 17 #[imageV a n c ba m bc] w fun e w' => e = .returned (.bool (shortB n m bs)) ∧ Below w.heap.size w w' := by
  have hm := hM.1
  unfold maxLen at hn hm
  have HM := Lib.hid hM
  have HNO := Lib.hid (fun (i : Nat) (hi : i < m) (h : 50 < (bs i).cn ∨ 50 < (bs i).wn) => shortB_no (n := n) hi h)
  have HYES := Lib.hid (fun (h : ∀ i, i < m → (bs i).cn ≤ 50 ∧ (bs i).wn ≤ 50) => shortB_end (n := n) h)
  generalize shortB n m bs = RES at *
  clear hM
  go_enter Tryd.func17, Tryd.ntmps17
  go_upto_region 1 with (fail)
  have HL := Lib.hid (show LI a n c ba m bc w (w.alloc (.cells #[.slice a n c, .slice ba m bc] 25)) from LI_start)
  generalize World.alloc w _ = V at *
  obtain ⟨l0, l1, l2, l3⟩ := HL.out
  go_wp2
  go_loopw [3] (fun t wr => ∃ i : Nat, i ≤ m ∧ t = .int .i64 (i : Int) ∧ wr = V ∧ Hid (∀ j, j < i → (bs j).cn ≤ 50 ∧ (bs j).wn ≤ 50)) (fun t _ => m - (intOf t).toNat)
  case atStart => exact ⟨0, Nat.zero_le _, rfl, rfl, Lib.hid (fun j h => by omega)⟩
  case round =>
    obtain ⟨i, hi, rfl, rfl, HA⟩ := hrel
    by_cases hlt : i < m
    · have hlt' : (i : Int) < (m : Int) := by omega
      obtain ⟨b, off, rfl, hbB, hat, hmem⟩ := HM.out.get hlt
      obtain ⟨c0, c1, c2, c3⟩ := hat.below (l3.mono hBw) hbB
      have HN := Lib.hid (HNO.out i hlt)
      have HB := Lib.hid (fun (h : (bs i).cn ≤ 50 ∧ (bs i).wn ≤ 50) j (hj : j < i + 1) => show (bs j).cn ≤ 50 ∧ (bs j).wn ≤ 50 from by (by_cases e : j = i; (subst e; exact h); exact HA.out j (by omega)))
      clear hat hmem
      by_cases h1 : 50 < (bs i).cn
      · have HE := Lib.hid (HN.out (.inl h1))
        have h1' : (50 : Int) < ((bs i).cn : Int) := by omega
        go_wp2
        go_ret
        exact ⟨ret_bool HE.out.symm, l3⟩
      · have h1' : ¬ (50 : Int) < ((bs i).cn : Int) := by omega
        by_cases h2 : 50 < (bs i).wn
        · have HE := Lib.hid (HN.out (.inr h2))
          have h2' : (50 : Int) < ((bs i).wn : Int) := by omega
          go_wp2
          go_ret
          exact ⟨ret_bool HE.out.symm, l3⟩
        · have h2' : ¬ (50 : Int) < ((bs i).wn : Int) := by omega
          have HE := Lib.hid (HB.out ⟨by omega, by omega⟩)
          go_wp2
          go_roundw
          case rel => exact ⟨i + 1, by omega, by go_num, by first | trivial | rfl, HE⟩
          case measure => simp [intOf]; omega
    · obtain rfl : i = m := by omega
      have hlt' : ¬ (i : Int) < (i : Int) := by omega
      have HE := Lib.hid (HYES.out HA.out)
      by_cases h1 : n ≤ 50
      · have h1' : (n : Int) ≤ 50 := by omega
        by_cases h2 : i ≤ 25
        · have h2' : (i : Int) ≤ 25 := by omega
          rw [decide_eq_true h1, decide_eq_true h2] at HE
          go_wp2
          go_ret
          exact ⟨ret_bool HE.out.symm, l3⟩
        · have h2' : ¬ (i : Int) ≤ 25 := by omega
          rw [decide_eq_true h1, decide_eq_false h2] at HE
          go_wp2
          go_ret
          exact ⟨ret_bool HE.out.symm, l3⟩
      · have h1' : ¬ (n : Int) ≤ 50 := by omega
        rw [decide_eq_false h1] at HE
        go_wp2
        go_ret
        exact ⟨ret_bool HE.out.symm, l3⟩
/-- few fields, or refused -/
def smallB (n : Nat) (ss : Nat → SV) (m : Nat) (bs : Nat → BM) (most : Int) : Bool := shortB n m bs && (!(checkN n ss m bs == 0) || decide (min (prodN ss n) 200001 ≤ most))
set_option maxRecDepth 100000 in
set_option maxHeartbeats 1000000 in
theorem small_any (a : Option Addr) (n c : Nat) (ba : Option Addr) (m bc : Nat) (ss : Nat → SV) (bs : Nat → BM) (most : Int) (w : World) (B : Nat) (hBw : B ≤ w.heap.size) (hS : Spans B w a n ss) (hM : Beams B w ba m bs) :
    Calls Tryd.prog 10 #[imageV a n c ba m bc, .int .i64 most] w fun e w' => e = .returned (.bool (smallB n ss m bs most)) ∧ Below w.heap.size w w' := by
  have HS := Lib.hid hS
  have HM := Lib.hid hM
  have HST := Lib.hid (fun (W : World) (hb : Below w.heap.size w W) => short_any a n c ba m bc bs W B (by have := hb.size; omega) hS.1 (hM.below (hb.mono hBw)))
  have HCK := Lib.hid (fun (W : World) (hb : Below w.heap.size w W) => r8Check_any a n c ba m bc ss bs W B (by have := hb.size; omega) (hS.below (hb.mono hBw)) (hM.below (hb.mono hBw)))
  unfold smallB
  cases h1 : shortB n m bs
  · rw [h1] at HST
    clear hS hM
    go_enter Tryd.func10, Tryd.ntmps10
    go_upto_region 1 with (fail)
    have HL := Lib.hid (show LI a n c ba m bc w (w.alloc (.cells #[.slice a n c, .slice ba m bc] 25)) from LI_start)
    generalize World.alloc w _ = V at *
    obtain ⟨l0, l1, l2, l3⟩ := HL.out
    go_wp2_with (go_at_call 17; refine (HST.out V l3).mono ?_; rintro e w2 ⟨rfl, hb2⟩)
    go_ret
    exact ⟨ret_bool rfl, l3.trans (hb2.mono l3.size)⟩
  · rw [h1] at HST
    by_cases h2 : checkN n ss m bs = 0
    · have HF := Lib.hid (fun (W : World) (hb : Below w.heap.size w W) => r8Fields_any a n c ba m bc ss W B (by have := hb.size; omega) (hS.below (hb.mono hBw)) (checkN_shape h2).span)
      rw [h2] at HCK
      rw [h2]
      generalize min (prodN ss n) 200001 = P at *
      clear hS hM h2
      by_cases h3 : P ≤ most
      · rw [decide_eq_true h3]
        go_enter Tryd.func10, Tryd.ntmps10
        go_upto_region 1 with (fail)
        have HL := Lib.hid (show LI a n c ba m bc w (w.alloc (.cells #[.slice a n c, .slice ba m bc] 25)) from LI_start)
        generalize World.alloc w _ = V at *
        obtain ⟨l0, l1, l2, l3⟩ := HL.out
        go_wp2_with (first | (go_at_call 17; refine (HST.out V l3).mono ?_; rintro e w2 ⟨rfl, hb2⟩; have HL2 := LI_step HL.out hb2; clear l0 l1 l2 l3; obtain ⟨l0, l1, l2, l3⟩ := HL2) | (go_at_call 13; refine (HCK.out w2 l3).mono ?_; rintro e w3 ⟨rfl, hb3⟩; have HL3 := LI_step ⟨l0, l1, l2, l3⟩ hb3; clear l0 l1 l2 l3; obtain ⟨l0, l1, l2, l3⟩ := HL3) | (go_at_call 18; refine (HF.out w3 l3).mono ?_; rintro e w4 ⟨rfl, hb4⟩))
        go_ret
        exact ⟨ret_bool (by first | rfl | simp [h3]), l3.trans (hb4.mono l3.size)⟩
      · rw [decide_eq_false h3]
        go_enter Tryd.func10, Tryd.ntmps10
        go_upto_region 1 with (fail)
        have HL := Lib.hid (show LI a n c ba m bc w (w.alloc (.cells #[.slice a n c, .slice ba m bc] 25)) from LI_start)
        generalize World.alloc w _ = V at *
        obtain ⟨l0, l1, l2, l3⟩ := HL.out
        go_wp2_with (first | (go_at_call 17; refine (HST.out V l3).mono ?_; rintro e w2 ⟨rfl, hb2⟩; have HL2 := LI_step HL.out hb2; clear l0 l1 l2 l3; obtain ⟨l0, l1, l2, l3⟩ := HL2) | (go_at_call 13; refine (HCK.out w2 l3).mono ?_; rintro e w3 ⟨rfl, hb3⟩; have HL3 := LI_step ⟨l0, l1, l2, l3⟩ hb3; clear l0 l1 l2 l3; obtain ⟨l0, l1, l2, l3⟩ := HL3) | (go_at_call 18; refine (HF.out w3 l3).mono ?_; rintro e w4 ⟨rfl, hb4⟩))
        go_ret
        exact ⟨ret_bool (by first | rfl | simp [h3]), l3.trans (hb4.mono l3.size)⟩
    · have h3 : (checkN n ss m bs == 0) = false := by rw [beq_eq_false_iff_ne]; exact h2
      rw [h3]
      generalize checkN n ss m bs = E at *
      have h4 : (E != 0) = true := by rw [bne, h3]; rfl
      clear hS hM h2
      go_enter Tryd.func10, Tryd.ntmps10
      go_upto_region 1 with (fail)
      have HL := Lib.hid (show LI a n c ba m bc w (w.alloc (.cells #[.slice a n c, .slice ba m bc] 25)) from LI_start)
      generalize World.alloc w _ = V at *
      obtain ⟨l0, l1, l2, l3⟩ := HL.out
      go_wp2_with (first | (go_at_call 17; refine (HST.out V l3).mono ?_; rintro e w2 ⟨rfl, hb2⟩; have HL2 := LI_step HL.out hb2; clear l0 l1 l2 l3; obtain ⟨l0, l1, l2, l3⟩ := HL2) | (go_at_call 13; refine (HCK.out w2 l3).mono ?_; rintro e w3 ⟨rfl, hb3⟩))
      go_ret
      exact ⟨ret_bool (by first | rfl | simp), l3.trans (hb3.mono l3.size)⟩
end Go.Proofs.YtlfegmjdheddjaaDoor
namespace Go.Proofs.YtlfegmjdheddjaaDoor
open Go.RowKit
set_option linter.unusedVariables false
set_option linter.unusedSimpArgs false
/-- what all these calls need of the image -/
structure ImIn (B : Nat) (a : Option Addr) (n c : Nat) (ba : Option Addr) (m bc : Nat) (ss : Nat → SV) (bs : Nat → BM) (w : World) : Prop where
  le : B ≤ w.heap.size
  spans : Spans B w a n ss
  beams : Beams B w ba m bs
  tab : Lib.TabBelow Tryd.prog w.heap.size w "internal/strconv.uint64pow10" .u64 Lib.pow10Tab
section
variable {B : Nat} {a : Option Addr} {n c : Nat} {ba : Option Addr} {m bc : Nat} {ss : Nat → SV} {bs : Nat → BM} {w W : World}
theorem ImIn.S (h : ImIn B a n c ba m bc ss bs w) (hb : Below w.heap.size w W) : Spans B W a n ss := h.spans.below (hb.mono h.le)
theorem ImIn.M (h : ImIn B a n c ba m bc ss bs w) (hb : Below w.heap.size w W) : Beams B W ba m bs := h.beams.below (hb.mono h.le)
theorem ImIn.B' (h : ImIn B a n c ba m bc ss bs w) (hb : Below w.heap.size w W) : B ≤ W.heap.size := Nat.le_trans h.le hb.size
theorem ImIn.known (h : ImIn B a n c ba m bc ss bs w) (hb : Below w.heap.size w W) : Calls Tryd.prog 11 #[] W fun e w' => e = .returned (.bool true) ∧ Below W.heap.size W w' := known_any W (h.tab W hb)
end
end Go.Proofs.YtlfegmjdheddjaaDoor
namespace Go.Proofs.YtlfegmjdheddjaaDoor
open Go.RowKit
set_option linter.unusedVariables false
set_option linter.unusedSimpArgs false
/-- whether an image's lists are short; its shape; the number of its fields; its error -/
def IM.short (x : IM) : Bool := shortB x.cn x.bn x.bs
def IM.shape (x : IM) : Bool := shapeB x.cn x.ss x.bn x.bs
def IM.fields (x : IM) : Int := min (prodN x.ss x.cn) 200001
def IM.check (x : IM) : Int := checkN x.cn x.ss x.bn x.bs
structure IsIn (a : Option Addr) (t : Nat) (im : Nat → IM) (w : World) : Prop where
  imgs : Imgs w.heap.size w a t im
  tab : Lib.TabBelow Tryd.prog w.heap.size w "internal/strconv.uint64pow10" .u64 Lib.pow10Tab
section
variable {a : Option Addr} {t : Nat} {im : Nat → IM} {w W : World} {i : Nat}
theorem IsIn.known (h : IsIn a t im w) (hb : Below w.heap.size w W) : Calls Tryd.prog 11 #[] W fun e w' => e = .returned (.bool true) ∧ Below W.heap.size W w' := known_any W (h.tab W hb)
theorem IsIn.S (h : IsIn a t im w) (hi : i < t) (hb : Below w.heap.size w W) : Spans w.heap.size W (im i).ca (im i).cn (im i).ss := ((h.imgs.below hb).get hi).choose_spec.choose_spec.2.2.2.2.1
theorem IsIn.M (h : IsIn a t im w) (hi : i < t) (hb : Below w.heap.size w W) : Beams w.heap.size W (im i).ba (im i).bn (im i).bs := ((h.imgs.below hb).get hi).choose_spec.choose_spec.2.2.2.2.2
theorem IsIn.shortC (h : IsIn a t im w) (hi : i < t) (hb : Below w.heap.size w W) : Calls Tryd.prog 17 #[.agg #[.slice (im i).ca (im i).cn (im i).cc, .slice (im i).ba (im i).bn (im i).bc]] W fun e w' => e = .returned (.bool (im i).short) ∧ Below W.heap.size W w' :=
  short_any (im i).ca (im i).cn (im i).cc (im i).ba (im i).bn (im i).bc (im i).bs W w.heap.size hb.size (h.S hi hb).1 (h.M hi hb)
theorem IsIn.shapeC (h : IsIn a t im w) (hi : i < t) (hb : Below w.heap.size w W) : Calls Tryd.prog 28 #[.agg #[.slice (im i).ca (im i).cn (im i).cc, .slice (im i).ba (im i).bn (im i).bc]] W fun e w' => e = .returned (.bool (im i).shape) ∧ Below W.heap.size W w' :=
  r8Shape_any (im i).ca (im i).cn (im i).cc (im i).ba (im i).bn (im i).bc (im i).ss (im i).bs W w.heap.size hb.size (h.S hi hb) (h.M hi hb)
theorem IsIn.fieldsC (h : IsIn a t im w) (hi : i < t) (hs : (im i).shape = true) (hb : Below w.heap.size w W) : Calls Tryd.prog 18 #[.agg #[.slice (im i).ca (im i).cn (im i).cc, .slice (im i).ba (im i).bn (im i).bc]] W fun e w' => e = .returned (.int .i64 (im i).fields) ∧ Below W.heap.size W w' :=
  r8Fields_any (im i).ca (im i).cn (im i).cc (im i).ba (im i).bn (im i).bc (im i).ss W w.heap.size hb.size (h.S hi hb) (shapeB_iff.1 hs).span
theorem IsIn.checkC (h : IsIn a t im w) (hi : i < t) (hb : Below w.heap.size w W) : Calls Tryd.prog 13 #[.agg #[.slice (im i).ca (im i).cn (im i).cc, .slice (im i).ba (im i).bn (im i).bc]] W fun e w' => e = .returned (.int .i64 (im i).check) ∧ Below W.heap.size W w' :=
  r8Check_any (im i).ca (im i).cn (im i).cc (im i).ba (im i).bn (im i).bc (im i).ss (im i).bs W w.heap.size hb.size (h.S hi hb) (h.M hi hb)
end
theorem fields_pos {x : IM} (h : x.shape = true) : 1 ≤ x.fields ∧ x.fields ≤ 200001 := by
  have h1 := prodN_pos (ss := x.ss) x.cn (fun i hi => ((shapeB_iff.1 h).span i hi).2.1)
  unfold IM.fields
  omega
theorem long_fields {x : IM} : longB x.cn x.ss 1000 = decide (1000 < x.fields) := by
  unfold longB IM.fields
  rw [decide_eq_decide]
  omega
end Go.Proofs.YtlfegmjdheddjaaDoor
namespace Go.Proofs.YtlfegmjdheddjaaDoor
open Go.RowKit
set_option linter.unusedVariables false
set_option linter.unusedSimpArgs false
/-- whether the statement ends at an image -/
def quitI (x : IM) : Bool := !x.short || (x.shape && decide (200 < x.fields) && decide (x.fields ≤ 1000))
/-- whether one of the first images is too long -/
def lgB (im : Nat → IM) (i : Nat) : Bool := (List.range i).any fun j => (im j).shape && decide (1000 < (im j).fields)
theorem lgB_succ {im : Nat → IM} {i : Nat} : lgB im (i + 1) = (lgB im i || ((im i).shape && decide (1000 < (im i).fields))) := by
  unfold lgB
  rw [List.range_succ, List.any_append]
  simp
/-- whether the first images are as defined, with as many cells as the first one -/
def shB (t : Nat) (im : Nat → IM) (i : Nat) : Bool := decide (1 ≤ t) && allUpto i (fun j => (im j).shape && (im j).cn == (im 0).cn)
theorem shB_succ {t : Nat} {im : Nat → IM} {i : Nat} : shB t im (i + 1) = (shB t im i && ((im i).shape && (im i).cn == (im 0).cn)) := by
  unfold shB
  rw [allUpto_succ, Bool.and_assoc]
noncomputable def epFrom (k : Nat) : Code := dropSeq k (Tryd.f6.body.getD .skip)
def epPost (w : World) (e : Ending) (w' : World) : Prop := e = .returned (.bool true) ∧ Below w.heap.size w w'
def epV (t : Nat) (ch : Int) : Bool := decide (1 ≤ t) && inB ch 0 1000
theorem allUpto_iff' {n : Nat} {f : Nat → Bool} (h : allUpto n f = false) : ∃ j, j < n ∧ f j = false := by
  refine Classical.byContradiction fun e => ?_
  rw [allUpto_true (fun j hj => by cases hf : f j; exact absurd ⟨j, hj, hf⟩ e; rfl)] at h
  cases h
theorem least_of {P : Nat → Prop} : ∀ (k : Nat), P k → ∃ q, q ≤ k ∧ P q ∧ ∀ j, j < q → ¬ P j
  | 0, h => ⟨0, Nat.le_refl _, h, fun j hj => by omega⟩
  | k + 1, h => by
    by_cases e : ∃ j, j ≤ k ∧ P j
    · obtain ⟨j, hj, hp⟩ := e
      obtain ⟨q, h1, h2, h3⟩ := least_of j hp
      exact ⟨q, by omega, h2, h3⟩
    · exact ⟨k + 1, Nat.le_refl _, h, fun j hj hp => e ⟨j, by omega, hp⟩⟩
termination_by k => k
theorem shB_iff {t : Nat} {im : Nat → IM} : shB t im t = true ↔ 1 ≤ t ∧ ∀ j, j < t → ShapedI (im 0).cn (im j) = true := by
  unfold shB
  rw [Bool.and_eq_true, decide_eq_true_eq, allUpto_iff]
  exact Iff.rfl
theorem lgB_false {t : Nat} {im : Nat → IM} (h : lgB im t = false) {j : Nat} (hj : j < t) : ¬ ((im j).shape = true ∧ 1000 < (im j).fields) := fun ⟨h1, h2⟩ => by
  unfold lgB at h
  rw [List.any_eq_false] at h
  have := h j (List.mem_range.2 hj)
  rw [h1, decide_eq_true h2] at this
  exact this rfl
theorem lgB_true {t : Nat} {im : Nat → IM} (h : lgB im t = true) : ∃ j, j < t ∧ (im j).shape = true ∧ 1000 < (im j).fields := by
  unfold lgB at h
  rw [List.any_eq_true] at h
  obtain ⟨j, hj, h1⟩ := h
  rw [Bool.and_eq_true, decide_eq_true_eq] at h1
  exact ⟨j, List.mem_range.1 hj, h1⟩
section
variable {t : Nat} {im : Nat → IM}
theorem ep_many (h : 6 < t) (f : Bool) : movE t im f = 3 := by unfold movE; rw [if_pos h]
theorem ep_bad (h : ¬ 6 < t) (hs : shB t im t = false) (f : Bool) : movE t im f = 2 := by
  unfold movE
  rw [if_neg h]
  by_cases h0 : t = 0 ∨ f = false
  · rw [if_pos h0]
  · rw [if_neg h0, if_pos]
    cases e : allUpto t (fun i => ShapedI (im 0).cn (im i))
    · rfl
    · have := shB_iff.2 ⟨by omega, fun j hj => allUpto_iff.1 e j hj⟩
      rw [hs] at this
      cases this
theorem ep_fine (h : ¬ 6 < t) : movE t im false = 2 := by unfold movE; rw [if_neg h, if_pos (Or.inr rfl)]
theorem ep_head (h : ¬ 6 < t) (hs : shB t im t = true) : movE t im true = if allUpto t (fun i => !longB (im i).cn (im i).ss 1000) = false then 3 else if allUpto t (fun i => !(im i).F.isEmpty) = false then 5 else 0 := by
  obtain ⟨h1, h2⟩ := shB_iff.1 hs
  unfold movE
  rw [if_neg h, if_neg (by rintro (h | h); omega; cases h), if_neg (by rw [allUpto_true h2]; decide)]
theorem ep_long (h : ¬ 6 < t) (hs : shB t im t = true) (hl : lgB im t = true) : movE t im true = 3 := by
  rw [ep_head h hs, if_pos]
  obtain ⟨j, hj, h1, h2⟩ := lgB_true hl
  exact allUpto_false hj (by rw [long_fields, decide_eq_true h2]; rfl)
theorem ep_good (hs : shB t im t = true) (hl : lgB im t = false) : ∀ i, i < t → GoodI (im 0).cn (im i) := fun i hi => by
  have h1 := (shB_iff.1 hs).2 i hi
  refine ⟨h1, ?_⟩
  rw [long_fields]
  refine decide_eq_false (fun h2 => lgB_false hl hi ⟨?_, h2⟩)
  unfold ShapedI at h1
  rw [Bool.and_eq_true] at h1
  exact h1.1
theorem ep_end (h : ¬ 6 < t) (hs : shB t im t = true) (hl : lgB im t = false) : movE t im true = if allUpto t (fun i => !(im i).F.isEmpty) = false then 5 else 0 := by
  rw [ep_head h hs, if_neg]
  rw [allUpto_true (fun i hi => by rw [(ep_good hs hl i hi).2]; rfl)]
  decide
theorem IsIn.allC {a : Option Addr} {w W : World} {i n : Nat} (h : IsIn a t im w) (hi : i < t) (hg : GoodI n (im i)) (hb : Below w.heap.size w W) : Calls Tryd.prog 14 #[.agg #[.slice (im i).ca (im i).cn (im i).cc, .slice (im i).ba (im i).bn (im i).bc]] W fun e w' => (∃ la lc, e = .returned (.slice la (im i).F.length lc)) ∧ Below W.heap.size W w' := by
  have h1 := all_im (im i) n hg W w.heap.size hb.size (h.S hi hb) (h.M hi hb)
  rw [← (ShapedI.shape hg.1).2] at h1
  exact h1.mono fun e w' ⟨⟨la, lc, he, _⟩, hb⟩ => ⟨⟨la, lc, he⟩, hb⟩
theorem IsIn.calmE {a : Option Addr} {c : Nat} {w W : World} (h : IsIn a t im w) {E : Int} (hE : movE t im true = E) (h0 : E ≠ 0) (hb : Below w.heap.size w W) : Calls Tryd.prog 31 #[.slice a t c] W fun e w' => e = .returned (.tuple #[.int .i64 0, .int .i64 E]) ∧ Below W.heap.size W w' := by
  have h1 := Calm_bad a t c im W w.heap.size hb.size (h.imgs.below hb) (by rw [hE]; exact h0)
  rw [hE] at h1
  exact h1
theorem IsIn.epE {a : Option Addr} {c : Nat} {ch : Int} {w W : World} (h : IsIn a t im w) {E : Int} (hE : movE t im (inB ch 0 1000) = E) (h0 : E ≠ 0) (hb : Below w.heap.size w W) : Calls Tryd.prog 30 #[.slice a t c, .int .i64 ch] W fun e w' => e = .returned (.tuple #[.slice none 0 0, .int .i64 E]) ∧ Below W.heap.size W w' := by
  have h1 := Epochs_bad a t c im ch W w.heap.size hb.size (h.imgs.below hb) (by rw [hE]; exact h0)
  rw [hE] at h1
  exact h1
end
end Go.Proofs.YtlfegmjdheddjaaDoor
