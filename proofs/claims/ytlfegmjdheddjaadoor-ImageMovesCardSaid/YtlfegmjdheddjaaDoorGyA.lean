/- Texts put together: ImMovA, ImEpBad. -/
import Derived.Test.YtlfegmjdheddjaaDoorGkA
import Derived.Test.YtlfegmjdheddjaaDoorImEpochs
import Derived.Test.YtlfegmjdheddjaaDoorGpA
namespace Go.Proofs.YtlfegmjdheddjaaDoor
open Go.RowKit Go.Shelf
set_option linter.unusedVariables false
set_option linter.unusedSimpArgs false
/-- what moving says -/
def movE (t : Nat) (im : Nat → IM) (fine : Bool) : Int :=
  if 6 < t then 3 else if t = 0 ∨ fine = false then 2 else if allUpto t (fun i => ShapedI (im 0).cn (im i)) = false then 2 else if allUpto t (fun i => !longB (im i).cn (im i).ss 1000) = false then 3 else if allUpto t (fun i => !(im i).F.isEmpty) = false then 5 else 0
theorem movE_zero {t : Nat} {im : Nat → IM} {fine : Bool} (h : movE t im fine = 0) : fine = true ∧ MovOk t (im 0).cn im := by
  unfold movE at h
  by_cases h6 : 6 < t
  · rw [if_pos h6] at h; cases h
  rw [if_neg h6] at h
  by_cases h0 : t = 0 ∨ fine = false
  · rw [if_pos h0] at h; cases h
  rw [if_neg h0] at h
  cases h1 : allUpto t (fun i => ShapedI (im 0).cn (im i))
  · rw [h1] at h; cases h
  cases h2 : allUpto t (fun i => !longB (im i).cn (im i).ss 1000)
  · rw [h1, h2] at h; cases h
  cases h3 : allUpto t (fun i => !(im i).F.isEmpty)
  · rw [h1, h2, h3] at h; cases h
  have hf : fine = true := by cases fine; exact absurd (Or.inr rfl) h0; rfl
  have hs := fun i hi => allUpto_iff.1 h1 i hi
  refine ⟨hf, ⟨by omega, by omega, fun i hi => ?_, fun i hi => (ShapedI.shape (hs i hi)).2, fun i hi => ?_, fun i hi e => ?_⟩⟩
  · exact shapeB_iff.2 (ShapedI.shape (hs i hi)).1
  · have := allUpto_iff.1 h2 i hi
    rwa [Bool.not_eq_true'] at this
  · have := allUpto_iff.1 h3 i hi
    rw [e] at this
    cases this
set_option maxRecDepth 100000 in
set_option maxHeartbeats 2000000 in
theorem moving_bad (a : Option Addr) (t c : Nat) (im : Nat → IM) (fine : Bool) (w : World) (B : Nat) (hBw : B ≤ w.heap.size) (hI : Imgs B w a t im) (hE : movE t im fine ≠ 0) :
    Calls Tryd.prog 70 #[.slice a t c, .bool fine] w fun e w' => e = .returned (.tuple #[.slice none 0 0, .int .i64 (movE t im fine)]) ∧ Below w.heap.size w w' := by
  have ht := hI.1
  unfold maxLen at ht
  have HB := Lib.hid (Below.refl w.heap.size w)
  unfold movE at hE ⊢
  by_cases h6 : 6 < t
  · rw [if_pos h6]
    have h6' : (6 : Int) < (t : Int) := by omega
    clear hE hI
    generalize hres : (fun (e : Ending) (w' : World) => e = Ending.returned (.tuple #[.slice none 0 0, .int .i64 3]) ∧ Below w.heap.size w w') = RES
    have HR := Lib.hid (fun (w' : World) (hb : Below w.heap.size w w') => show RES (.returned (.tuple #[.slice none 0 0, .int .i64 3])) w' from hres ▸ ⟨rfl, hb⟩)
    clear hres
    refine (callsIn_wide (n := 6)).1 ?_; refine callsIn_of_wp_marks Tryd.func70 rfl trivial ?_ rfl; simp only [Tryd.ntmps70, List.size_toArray, List.length_cons, List.length_nil, Nat.reduceAdd, Nat.reduceSub, Array.replicate_succ, Array.replicate_zero, List.push_toArray, List.append_toArray, List.nil_append, List.cons_append]; refine wpIn_wide.2 ?_
    go_wp2
    refine leave_marks (v := .tuple #[.slice none 0 0, .int .i64 3]) [] _ List.nodup_nil (fun D hD => by cases hD) (fun W' h1 h2 h3 h4 h5 => ⟨by exact results_tmp2 (t := 4) (u := 5) rfl _ _ _, HR.out W' ⟨h1.trans HB.out.os, h2.trans HB.out.tape, h3.trans HB.out.output, (by have := HB.out.size; omega), fun b hbl => (h5 b (by simp)).trans (HB.out.block b hbl)⟩⟩)
  rw [if_neg h6] at hE ⊢
  have h6' : ¬ (6 : Int) < (t : Int) := by omega
  by_cases h0 : t = 0 ∨ fine = false
  · rw [if_pos h0]
    clear hE
    generalize hres : (fun (e : Ending) (w' : World) => e = Ending.returned (.tuple #[.slice none 0 0, .int .i64 2]) ∧ Below w.heap.size w w') = RES
    have HR := Lib.hid (fun (w' : World) (hb : Below w.heap.size w w') => show RES (.returned (.tuple #[.slice none 0 0, .int .i64 2])) w' from hres ▸ ⟨rfl, hb⟩)
    clear hres hI
    by_cases h00 : t = 0
    · subst h00
      clear h0 h6 ht
      refine (callsIn_wide (n := 6)).1 ?_; refine callsIn_of_wp_marks Tryd.func70 rfl trivial ?_ rfl; simp only [Tryd.ntmps70, List.size_toArray, List.length_cons, List.length_nil, Nat.reduceAdd, Nat.reduceSub, Array.replicate_succ, Array.replicate_zero, List.push_toArray, List.append_toArray, List.nil_append, List.cons_append]; refine wpIn_wide.2 ?_
      go_wp2
      refine leave_marks (v := .tuple #[.slice none 0 0, .int .i64 2]) [] _ List.nodup_nil (fun D hD => by cases hD) (fun W' h1 h2 h3 h4 h5 => ⟨by exact results_tmp2 (t := 4) (u := 5) rfl _ _ _, HR.out W' ⟨h1.trans HB.out.os, h2.trans HB.out.tape, h3.trans HB.out.output, (by have := HB.out.size; omega), fun b hbl => (h5 b (by simp)).trans (HB.out.block b hbl)⟩⟩)
    · have hf : fine = false := by rcases h0 with h | h; exact absurd h h00; exact h
      subst hf
      have hz : ((t : Int) == 0) = false := by rw [beq_eq_false_iff_ne]; omega
      clear h0 h6 ht h00
      refine (callsIn_wide (n := 6)).1 ?_; refine callsIn_of_wp_marks Tryd.func70 rfl trivial ?_ rfl; simp only [Tryd.ntmps70, List.size_toArray, List.length_cons, List.length_nil, Nat.reduceAdd, Nat.reduceSub, Array.replicate_succ, Array.replicate_zero, List.push_toArray, List.append_toArray, List.nil_append, List.cons_append]; refine wpIn_wide.2 ?_
      go_wp2
      refine leave_marks (v := .tuple #[.slice none 0 0, .int .i64 2]) [] _ List.nodup_nil (fun D hD => by cases hD) (fun W' h1 h2 h3 h4 h5 => ⟨by exact results_tmp2 (t := 4) (u := 5) rfl _ _ _, HR.out W' ⟨h1.trans HB.out.os, h2.trans HB.out.tape, h3.trans HB.out.output, (by have := HB.out.size; omega), fun b hbl => (h5 b (by simp)).trans (HB.out.block b hbl)⟩⟩)
  rw [if_neg h0] at hE ⊢
  have hf : fine = true := by cases fine; exact absurd (Or.inr rfl) h0; rfl
  subst hf
  refine moving_gen a t c im (im 0).cn w B hBw hI (by omega) (by omega) rfl _ (fun w' ob hg hn _ hb _ => ?_) (fun w' i hi hs hb => ⟨?_, hb⟩) (fun w' i hs hi hl hb => ⟨?_, hb⟩) (fun w' i hg hi he hb => ⟨?_, hb⟩)
  · exfalso
    rw [allUpto_true (fun i hi => (hg i hi).1), allUpto_true (fun i hi => by rw [(hg i hi).2]; rfl), allUpto_true (fun i hi => by cases e : (im i).F; exact absurd e (hn i hi); rfl)] at hE
    exact hE rfl
  · rw [allUpto_false hi hs]; rfl
  · rw [allUpto_true hs, allUpto_false hi (by rw [hl]; rfl)]; rfl
  · rw [allUpto_true (fun i hi => (hg i hi).1), allUpto_true (fun i hi => by rw [(hg i hi).2]; rfl), allUpto_false hi (by rw [he]; rfl)]; rfl
end Go.Proofs.YtlfegmjdheddjaaDoor
namespace Go.Proofs.YtlfegmjdheddjaaDoor
open Go.RowKit
set_option linter.unusedVariables false
set_option linter.unusedSimpArgs false
set_option maxRecDepth 100000 in
set_option maxHeartbeats 2000000 in
theorem Epochs_bad (a : Option Addr) (t c : Nat) (im : Nat → IM) (ch : Int) (w : World) (B : Nat) (hBw : B ≤ w.heap.size) (hI : Imgs B w a t im) (hE : movE t im (inB ch 0 1000) ≠ 0) :
    Calls Tryd.prog 30 #[.slice a t c, .int .i64 ch] w fun e w' => e = .returned (.tuple #[.slice none 0 0, .int .i64 (movE t im (inB ch 0 1000))]) ∧ Below w.heap.size w w' := by
  obtain ⟨fine, hin⟩ : ∃ fine, inB ch 0 1000 = fine := ⟨_, rfl⟩
  rw [hin] at hE ⊢
  have HMV := Lib.hid (moving_bad a t c im fine w B hBw hI hE)
  generalize movE t im fine = E at *
  have hne : (E == 0) = false := by rw [beq_eq_false_iff_ne]; exact hE
  have hne2 : (E != 0) = true := by rw [bne, hne]; rfl
  clear hI hE
  go_enter Tryd.func30, Tryd.ntmps30
  go_wp2_with (first | (go_at_call 62; refine (in_any _ _ _ _).mono ?_; rintro e w' ⟨rfl, rfl⟩; rw [hin]) | (go_at_call 70; refine HMV.out.mono ?_; rintro e w1 ⟨rfl, hb1⟩))
  refine bodyPost_ret (v := .tuple #[.slice none 0 0, .int .i64 E]) (by simp [results, Tryd.results30, go_sem]) rfl ?_
  exact ⟨rfl, hb1⟩
set_option maxRecDepth 100000 in
set_option maxHeartbeats 2000000 in
theorem Calm_bad (a : Option Addr) (t c : Nat) (im : Nat → IM) (w : World) (B : Nat) (hBw : B ≤ w.heap.size) (hI : Imgs B w a t im) (hE : movE t im true ≠ 0) :
    Calls Tryd.prog 31 #[.slice a t c] w fun e w' => e = .returned (.tuple #[.int .i64 0, .int .i64 (movE t im true)]) ∧ Below w.heap.size w w' := by
  have HMV := Lib.hid (moving_bad a t c im true w B hBw hI hE)
  generalize movE t im true = E at *
  have hne : (E == 0) = false := by rw [beq_eq_false_iff_ne]; exact hE
  have hne2 : (E != 0) = true := by rw [bne, hne]; rfl
  clear hI hE
  go_enter Tryd.func31, Tryd.ntmps31
  go_wp2_with (go_at_call 70; refine HMV.out.mono ?_; rintro e w1 ⟨rfl, hb1⟩)
  refine bodyPost_ret (v := .tuple #[.int .i64 0, .int .i64 E]) (by simp [results, Tryd.results31, go_sem]) rfl ?_
  exact ⟨rfl, hb1⟩
end Go.Proofs.YtlfegmjdheddjaaDoor
