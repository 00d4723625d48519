/- Texts put together: LawS, LawIn, ImMovA, LawIs. -/
import Derived.Test.YtnfigielhnnpnaaDoorRef8
import Derived.Test.YtnfigielhnnpnaaDoorGgA
import Derived.Test.YtnfigielhnnpnaaDoorLawK
import Derived.Test.YtnfigielhnnpnaaDoorGkA
namespace Go.Proofs.YtnfigielhnnpnaaDoor
open Go.RowKit
set_option linter.unusedVariables false
set_option linter.unusedSimpArgs false
def shortB (n m : Nat) (bs : Nat → BM) : Bool := allUpto m (fun i => decide ((bs i).cn ≤ 50) && decide ((bs i).wn ≤ 50)) && (decide (n ≤ 50) && decide (m ≤ 25))
theorem shortB_no {n m : Nat} {bs : Nat → BM} {i : Nat} (hi : i < m) (h : 50 < (bs i).cn ∨ 50 < (bs i).wn) : shortB n m bs = false := by
  unfold shortB
  rw [allUpto_false hi (by
    rcases h with h | h
    · rw [decide_eq_false (by omega), Bool.false_and]
    · rw [decide_eq_false (p := (bs i).wn ≤ 50) (by omega), Bool.and_false]), Bool.false_and]
theorem shortB_end {n m : Nat} {bs : Nat → BM} (h : ∀ i, i < m → (bs i).cn ≤ 50 ∧ (bs i).wn ≤ 50) : shortB n m bs = (decide (n ≤ 50) && decide (m ≤ 25)) := by
  unfold shortB
  rw [allUpto_true (fun i hi => by rw [decide_eq_true (h i hi).1, decide_eq_true (h i hi).2]; rfl), Bool.true_and]
set_option maxRecDepth 100000 in
set_option maxHeartbeats 1000000 in
theorem short_any (a : Option Addr) (n c : Nat) (ba : Option Addr) (m bc : Nat) (bs : Nat → BM) (w : World) (B : Nat) (hBw : B ≤ w.heap.size) (hn : n ≤ maxLen) (hM : Beams B w ba m bs) :
    Calls Tryd.prog 6 #[imageV a n c ba m bc] w fun e w' => e = .returned (.bool (shortB n m bs)) ∧ Below w.heap.size w w' := by
  have hm := hM.1
  unfold maxLen at hn hm
  have HM := Lib.hid hM
  have HNO := Lib.hid (fun (i : Nat) (hi : i < m) (h : 50 < (bs i).cn ∨ 50 < (bs i).wn) => shortB_no (n := n) hi h)
  have HYES := Lib.hid (fun (h : ∀ i, i < m → (bs i).cn ≤ 50 ∧ (bs i).wn ≤ 50) => shortB_end (n := n) h)
  generalize shortB n m bs = RES at *
  clear hM
  go_enter Tryd.func6, Tryd.ntmps6
  go_upto_region 1 with (fail)
  have HL := Lib.hid (show LI a n c ba m bc w (w.alloc (.cells #[.slice a n c, .slice ba m bc] 28)) from LI_start)
  generalize World.alloc w _ = V at *
  obtain ⟨l0, l1, l2, l3⟩ := HL.out
  go_wp2
  go_loopw [3] (fun t wr => ∃ i : Nat, i ≤ m ∧ t = .int .i64 (i : Int) ∧ wr = V ∧ Hid (∀ j, j < i → (bs j).cn ≤ 50 ∧ (bs j).wn ≤ 50)) (fun t _ => m - (intOf t).toNat)
  case atStart => exact ⟨0, Nat.zero_le _, rfl, rfl, Lib.hid (fun j h => by omega)⟩
  case round =>
    obtain ⟨i, hi, rfl, rfl, HA⟩ := hrel
    by_cases hlt : i < m
    · have hlt' : (i : Int) < (m : Int) := by omega
      obtain ⟨b, off, rfl, hbB, hat, hmem⟩ := HM.out.get hlt
      obtain ⟨c0, c1, c2, c3⟩ := hat.below (l3.mono hBw) hbB
      have HN := Lib.hid (HNO.out i hlt)
      have HB := Lib.hid (fun (h : (bs i).cn ≤ 50 ∧ (bs i).wn ≤ 50) j (hj : j < i + 1) => show (bs j).cn ≤ 50 ∧ (bs j).wn ≤ 50 from by (by_cases e : j = i; (subst e; exact h); exact HA.out j (by omega)))
      clear hat hmem
      by_cases h1 : 50 < (bs i).cn
      · have HE := Lib.hid (HN.out (.inl h1))
        have h1' : (50 : Int) < ((bs i).cn : Int) := by omega
        go_wp2
        go_ret
        exact ⟨ret_bool HE.out.symm, l3⟩
      · have h1' : ¬ (50 : Int) < ((bs i).cn : Int) := by omega
        by_cases h2 : 50 < (bs i).wn
        · have HE := Lib.hid (HN.out (.inr h2))
          have h2' : (50 : Int) < ((bs i).wn : Int) := by omega
          go_wp2
          go_ret
          exact ⟨ret_bool HE.out.symm, l3⟩
        · have h2' : ¬ (50 : Int) < ((bs i).wn : Int) := by omega
          have HE := Lib.hid (HB.out ⟨by omega, by omega⟩)
          go_wp2
          go_roundw
          case rel => exact ⟨i + 1, by omega, by go_num, by first | trivial | rfl, HE⟩
          case measure => simp [intOf]; omega
    · obtain rfl : i = m := by omega
      have hlt' : ¬ (i : Int) < (i : Int) := by omega
      have HE := Lib.hid (HYES.out HA.out)
      by_cases h1 : n ≤ 50
      · have h1' : (n : Int) ≤ 50 := by omega
        by_cases h2 : i ≤ 25
        · have h2' : (i : Int) ≤ 25 := by omega
          rw [decide_eq_true h1, decide_eq_true h2] at HE
          go_wp2
          go_ret
          exact ⟨ret_bool HE.out.symm, l3⟩
        · have h2' : ¬ (i : Int) ≤ 25 := by omega
          rw [decide_eq_true h1, decide_eq_false h2] at HE
          go_wp2
          go_ret
          exact ⟨ret_bool HE.out.symm, l3⟩
      · have h1' : ¬ (n : Int) ≤ 50 := by omega
        rw [decide_eq_false h1] at HE
        go_wp2
        go_ret
        exact ⟨ret_bool HE.out.symm, l3⟩
end Go.Proofs.YtnfigielhnnpnaaDoor
namespace Go.Proofs.YtnfigielhnnpnaaDoor
open Go.RowKit
set_option linter.unusedVariables false
set_option linter.unusedSimpArgs false
/-- what all these calls need of the image -/
structure ImIn (B : Nat) (a : Option Addr) (n c : Nat) (ba : Option Addr) (m bc : Nat) (ss : Nat → SV) (bs : Nat → BM) (w : World) : Prop where
  le : B ≤ w.heap.size
  spans : Spans B w a n ss
  beams : Beams B w ba m bs
  tab : Lib.TabBelow Tryd.prog w.heap.size w "internal/strconv.uint64pow10" .u64 Lib.pow10Tab
section
variable {B : Nat} {a : Option Addr} {n c : Nat} {ba : Option Addr} {m bc : Nat} {ss : Nat → SV} {bs : Nat → BM} {w W : World}
theorem ImIn.S (h : ImIn B a n c ba m bc ss bs w) (hb : Below w.heap.size w W) : Spans B W a n ss := h.spans.below (hb.mono h.le)
theorem ImIn.M (h : ImIn B a n c ba m bc ss bs w) (hb : Below w.heap.size w W) : Beams B W ba m bs := h.beams.below (hb.mono h.le)
theorem ImIn.B' (h : ImIn B a n c ba m bc ss bs w) (hb : Below w.heap.size w W) : B ≤ W.heap.size := Nat.le_trans h.le hb.size
theorem ImIn.known (h : ImIn B a n c ba m bc ss bs w) (hb : Below w.heap.size w W) : Calls Tryd.prog 5 #[] W fun e w' => e = .returned (.bool true) ∧ Below W.heap.size W w' := known_any W (h.tab W hb)
end
end Go.Proofs.YtnfigielhnnpnaaDoor
namespace Go.Proofs.YtnfigielhnnpnaaDoor
open Go.RowKit Go.Shelf
set_option linter.unusedVariables false
set_option linter.unusedSimpArgs false
/-- what moving says -/
def movE (t : Nat) (im : Nat → IM) (fine : Bool) : Int :=
  if 6 < t then 3 else if t = 0 ∨ fine = false then 2 else if allUpto t (fun i => ShapedI (im 0).cn (im i)) = false then 2 else if allUpto t (fun i => !longB (im i).cn (im i).ss 1000) = false then 3 else if allUpto t (fun i => !(im i).F.isEmpty) = false then 5 else 0
theorem movE_zero {t : Nat} {im : Nat → IM} {fine : Bool} (h : movE t im fine = 0) : fine = true ∧ MovOk t (im 0).cn im := by
  unfold movE at h
  by_cases h6 : 6 < t
  · rw [if_pos h6] at h; cases h
  rw [if_neg h6] at h
  by_cases h0 : t = 0 ∨ fine = false
  · rw [if_pos h0] at h; cases h
  rw [if_neg h0] at h
  cases h1 : allUpto t (fun i => ShapedI (im 0).cn (im i))
  · rw [h1] at h; cases h
  cases h2 : allUpto t (fun i => !longB (im i).cn (im i).ss 1000)
  · rw [h1, h2] at h; cases h
  cases h3 : allUpto t (fun i => !(im i).F.isEmpty)
  · rw [h1, h2, h3] at h; cases h
  have hf : fine = true := by cases fine; exact absurd (Or.inr rfl) h0; rfl
  have hs := fun i hi => allUpto_iff.1 h1 i hi
  refine ⟨hf, ⟨by omega, by omega, fun i hi => ?_, fun i hi => (ShapedI.shape (hs i hi)).2, fun i hi => ?_, fun i hi e => ?_⟩⟩
  · exact shapeB_iff.2 (ShapedI.shape (hs i hi)).1
  · have := allUpto_iff.1 h2 i hi
    rwa [Bool.not_eq_true'] at this
  · have := allUpto_iff.1 h3 i hi
    rw [e] at this
    cases this
set_option maxRecDepth 100000 in
set_option maxHeartbeats 2000000 in
theorem moving_bad (a : Option Addr) (t c : Nat) (im : Nat → IM) (fine : Bool) (w : World) (B : Nat) (hBw : B ≤ w.heap.size) (hI : Imgs B w a t im) (hE : movE t im fine ≠ 0) :
    Calls Tryd.prog 51 #[.slice a t c, .bool fine] w fun e w' => e = .returned (.tuple #[.slice none 0 0, .int .i64 (movE t im fine)]) ∧ Below w.heap.size w w' := by
  have ht := hI.1
  unfold maxLen at ht
  have HB := Lib.hid (Below.refl w.heap.size w)
  unfold movE at hE ⊢
  by_cases h6 : 6 < t
  · rw [if_pos h6]
    have h6' : (6 : Int) < (t : Int) := by omega
    clear hE hI
    generalize hres : (fun (e : Ending) (w' : World) => e = Ending.returned (.tuple #[.slice none 0 0, .int .i64 3]) ∧ Below w.heap.size w w') = RES
    have HR := Lib.hid (fun (w' : World) (hb : Below w.heap.size w w') => show RES (.returned (.tuple #[.slice none 0 0, .int .i64 3])) w' from hres ▸ ⟨rfl, hb⟩)
    clear hres
    refine (callsIn_wide (n := 6)).1 ?_; refine callsIn_of_wp_marks Tryd.func51 rfl trivial ?_ rfl; simp only [Tryd.ntmps51, List.size_toArray, List.length_cons, List.length_nil, Nat.reduceAdd, Nat.reduceSub, Array.replicate_succ, Array.replicate_zero, List.push_toArray, List.append_toArray, List.nil_append, List.cons_append]; refine wpIn_wide.2 ?_
    go_wp2
    refine leave_marks (v := .tuple #[.slice none 0 0, .int .i64 3]) [] _ List.nodup_nil (fun D hD => by cases hD) (fun W' h1 h2 h3 h4 h5 => ⟨by exact results_tmp2 (t := 4) (u := 5) rfl _ _ _, HR.out W' ⟨h1.trans HB.out.os, h2.trans HB.out.tape, h3.trans HB.out.output, (by have := HB.out.size; omega), fun b hbl => (h5 b (by simp)).trans (HB.out.block b hbl)⟩⟩)
  rw [if_neg h6] at hE ⊢
  have h6' : ¬ (6 : Int) < (t : Int) := by omega
  by_cases h0 : t = 0 ∨ fine = false
  · rw [if_pos h0]
    clear hE
    generalize hres : (fun (e : Ending) (w' : World) => e = Ending.returned (.tuple #[.slice none 0 0, .int .i64 2]) ∧ Below w.heap.size w w') = RES
    have HR := Lib.hid (fun (w' : World) (hb : Below w.heap.size w w') => show RES (.returned (.tuple #[.slice none 0 0, .int .i64 2])) w' from hres ▸ ⟨rfl, hb⟩)
    clear hres hI
    by_cases h00 : t = 0
    · subst h00
      clear h0 h6 ht
      refine (callsIn_wide (n := 6)).1 ?_; refine callsIn_of_wp_marks Tryd.func51 rfl trivial ?_ rfl; simp only [Tryd.ntmps51, List.size_toArray, List.length_cons, List.length_nil, Nat.reduceAdd, Nat.reduceSub, Array.replicate_succ, Array.replicate_zero, List.push_toArray, List.append_toArray, List.nil_append, List.cons_append]; refine wpIn_wide.2 ?_
      go_wp2
      refine leave_marks (v := .tuple #[.slice none 0 0, .int .i64 2]) [] _ List.nodup_nil (fun D hD => by cases hD) (fun W' h1 h2 h3 h4 h5 => ⟨by exact results_tmp2 (t := 4) (u := 5) rfl _ _ _, HR.out W' ⟨h1.trans HB.out.os, h2.trans HB.out.tape, h3.trans HB.out.output, (by have := HB.out.size; omega), fun b hbl => (h5 b (by simp)).trans (HB.out.block b hbl)⟩⟩)
    · have hf : fine = false := by rcases h0 with h | h; exact absurd h h00; exact h
      subst hf
      have hz : ((t : Int) == 0) = false := by rw [beq_eq_false_iff_ne]; omega
      clear h0 h6 ht h00
      refine (callsIn_wide (n := 6)).1 ?_; refine callsIn_of_wp_marks Tryd.func51 rfl trivial ?_ rfl; simp only [Tryd.ntmps51, List.size_toArray, List.length_cons, List.length_nil, Nat.reduceAdd, Nat.reduceSub, Array.replicate_succ, Array.replicate_zero, List.push_toArray, List.append_toArray, List.nil_append, List.cons_append]; refine wpIn_wide.2 ?_
      go_wp2
      refine leave_marks (v := .tuple #[.slice none 0 0, .int .i64 2]) [] _ List.nodup_nil (fun D hD => by cases hD) (fun W' h1 h2 h3 h4 h5 => ⟨by exact results_tmp2 (t := 4) (u := 5) rfl _ _ _, HR.out W' ⟨h1.trans HB.out.os, h2.trans HB.out.tape, h3.trans HB.out.output, (by have := HB.out.size; omega), fun b hbl => (h5 b (by simp)).trans (HB.out.block b hbl)⟩⟩)
  rw [if_neg h0] at hE ⊢
  have hf : fine = true := by cases fine; exact absurd (Or.inr rfl) h0; rfl
  subst hf
  refine moving_gen a t c im (im 0).cn w B hBw hI (by omega) (by omega) rfl _ (fun w' ob hg hn _ hb _ => ?_) (fun w' i hi hs hb => ⟨?_, hb⟩) (fun w' i hs hi hl hb => ⟨?_, hb⟩) (fun w' i hg hi he hb => ⟨?_, hb⟩)
  · exfalso
    rw [allUpto_true (fun i hi => (hg i hi).1), allUpto_true (fun i hi => by rw [(hg i hi).2]; rfl), allUpto_true (fun i hi => by cases e : (im i).F; exact absurd e (hn i hi); rfl)] at hE
    exact hE rfl
  · rw [allUpto_false hi hs]; rfl
  · rw [allUpto_true hs, allUpto_false hi (by rw [hl]; rfl)]; rfl
  · rw [allUpto_true (fun i hi => (hg i hi).1), allUpto_true (fun i hi => by rw [(hg i hi).2]; rfl), allUpto_false hi (by rw [he]; rfl)]; rfl
end Go.Proofs.YtnfigielhnnpnaaDoor
namespace Go.Proofs.YtnfigielhnnpnaaDoor
open Go.RowKit
set_option linter.unusedVariables false
set_option linter.unusedSimpArgs false
/-- whether an image's lists are short; its shape; the number of its fields; its error -/
def IM.short (x : IM) : Bool := shortB x.cn x.bn x.bs
def IM.shape (x : IM) : Bool := shapeB x.cn x.ss x.bn x.bs
def IM.fields (x : IM) : Int := min (prodN x.ss x.cn) 200001
def IM.check (x : IM) : Int := checkN x.cn x.ss x.bn x.bs
structure IsIn (a : Option Addr) (t : Nat) (im : Nat → IM) (w : World) : Prop where
  imgs : Imgs w.heap.size w a t im
  tab : Lib.TabBelow Tryd.prog w.heap.size w "internal/strconv.uint64pow10" .u64 Lib.pow10Tab
section
variable {a : Option Addr} {t : Nat} {im : Nat → IM} {w W : World} {i : Nat}
theorem IsIn.known (h : IsIn a t im w) (hb : Below w.heap.size w W) : Calls Tryd.prog 5 #[] W fun e w' => e = .returned (.bool true) ∧ Below W.heap.size W w' := known_any W (h.tab W hb)
theorem IsIn.S (h : IsIn a t im w) (hi : i < t) (hb : Below w.heap.size w W) : Spans w.heap.size W (im i).ca (im i).cn (im i).ss := ((h.imgs.below hb).get hi).choose_spec.choose_spec.2.2.2.2.1
theorem IsIn.M (h : IsIn a t im w) (hi : i < t) (hb : Below w.heap.size w W) : Beams w.heap.size W (im i).ba (im i).bn (im i).bs := ((h.imgs.below hb).get hi).choose_spec.choose_spec.2.2.2.2.2
theorem IsIn.shortC (h : IsIn a t im w) (hi : i < t) (hb : Below w.heap.size w W) : Calls Tryd.prog 6 #[.agg #[.slice (im i).ca (im i).cn (im i).cc, .slice (im i).ba (im i).bn (im i).bc]] W fun e w' => e = .returned (.bool (im i).short) ∧ Below W.heap.size W w' :=
  short_any (im i).ca (im i).cn (im i).cc (im i).ba (im i).bn (im i).bc (im i).bs W w.heap.size hb.size (h.S hi hb).1 (h.M hi hb)
theorem IsIn.shapeC (h : IsIn a t im w) (hi : i < t) (hb : Below w.heap.size w W) : Calls Tryd.prog 7 #[.agg #[.slice (im i).ca (im i).cn (im i).cc, .slice (im i).ba (im i).bn (im i).bc]] W fun e w' => e = .returned (.bool (im i).shape) ∧ Below W.heap.size W w' :=
  r8Shape_any (im i).ca (im i).cn (im i).cc (im i).ba (im i).bn (im i).bc (im i).ss (im i).bs W w.heap.size hb.size (h.S hi hb) (h.M hi hb)
theorem IsIn.fieldsC (h : IsIn a t im w) (hi : i < t) (hs : (im i).shape = true) (hb : Below w.heap.size w W) : Calls Tryd.prog 10 #[.agg #[.slice (im i).ca (im i).cn (im i).cc, .slice (im i).ba (im i).bn (im i).bc]] W fun e w' => e = .returned (.int .i64 (im i).fields) ∧ Below W.heap.size W w' :=
  r8Fields_any (im i).ca (im i).cn (im i).cc (im i).ba (im i).bn (im i).bc (im i).ss W w.heap.size hb.size (h.S hi hb) (shapeB_iff.1 hs).span
theorem IsIn.checkC (h : IsIn a t im w) (hi : i < t) (hb : Below w.heap.size w W) : Calls Tryd.prog 12 #[.agg #[.slice (im i).ca (im i).cn (im i).cc, .slice (im i).ba (im i).bn (im i).bc]] W fun e w' => e = .returned (.int .i64 (im i).check) ∧ Below W.heap.size W w' :=
  r8Check_any (im i).ca (im i).cn (im i).cc (im i).ba (im i).bn (im i).bc (im i).ss (im i).bs W w.heap.size hb.size (h.S hi hb) (h.M hi hb)
end
theorem fields_pos {x : IM} (h : x.shape = true) : 1 ≤ x.fields ∧ x.fields ≤ 200001 := by
  have h1 := prodN_pos (ss := x.ss) x.cn (fun i hi => ((shapeB_iff.1 h).span i hi).2.1)
  unfold IM.fields
  omega
theorem long_fields {x : IM} : longB x.cn x.ss 1000 = decide (1000 < x.fields) := by
  unfold longB IM.fields
  rw [decide_eq_decide]
  omega
end Go.Proofs.YtnfigielhnnpnaaDoor
