/- Texts put together: LawS, LawIn. -/
import Derived.Test.YtlfegmjdheddjaaDoorRef8
import Derived.Test.YtlfegmjdheddjaaDoorGgA
import Derived.Test.YtlfegmjdheddjaaDoorLawK
namespace Go.Proofs.YtlfegmjdheddjaaDoor
open Go.RowKit
set_option linter.unusedVariables false
set_option linter.unusedSimpArgs false
def shortB (n m : Nat) (bs : Nat → BM) : Bool := allUpto m (fun i => decide ((bs i).cn ≤ 50) && decide ((bs i).wn ≤ 50)) && (decide (n ≤ 50) && decide (m ≤ 25))
theorem shortB_no {n m : Nat} {bs : Nat → BM} {i : Nat} (hi : i < m) (h : 50 < (bs i).cn ∨ 50 < (bs i).wn) : shortB n m bs = false := by
  unfold shortB
  rw [allUpto_false hi (by
    rcases h with h | h
    · rw [decide_eq_false (by omega), Bool.false_and]
    · rw [decide_eq_false (p := (bs i).wn ≤ 50) (by omega), Bool.and_false]), Bool.false_and]
theorem shortB_end {n m : Nat} {bs : Nat → BM} (h : ∀ i, i < m → (bs i).cn ≤ 50 ∧ (bs i).wn ≤ 50) : shortB n m bs = (decide (n ≤ 50) && decide (m ≤ 25)) := by
  unfold shortB
  rw [allUpto_true (fun i hi => by rw [decide_eq_true (h i hi).1, decide_eq_true (h i hi).2]; rfl), Bool.true_and]
set_option maxRecDepth 100000 in
set_option maxHeartbeats 1000000 in
theorem short_any (a : Option Addr) (n c : Nat) (ba : Option Addr) (m bc : Nat) (bs : Nat → BM) (w : World) (B : Nat) (hBw : B ≤ w.heap.size) (hn : n ≤ maxLen) (hM : Beams B w ba m bs) :
    Calls Tryd.prog 17 #[imageV a n c ba m bc] w fun e w' => e = .returned (.bool (shortB n m bs)) ∧ Below w.heap.size w w' := by
  have hm := hM.1
  unfold maxLen at hn hm
  have HM := Lib.hid hM
  have HNO := Lib.hid (fun (i : Nat) (hi : i < m) (h : 50 < (bs i).cn ∨ 50 < (bs i).wn) => shortB_no (n := n) hi h)
  have HYES := Lib.hid (fun (h : ∀ i, i < m → (bs i).cn ≤ 50 ∧ (bs i).wn ≤ 50) => shortB_end (n := n) h)
  generalize shortB n m bs = RES at *
  clear hM
  go_enter Tryd.func17, Tryd.ntmps17
  go_upto_region 1 with (fail)
  have HL := Lib.hid (show LI a n c ba m bc w (w.alloc (.cells #[.slice a n c, .slice ba m bc] 25)) from LI_start)
  generalize World.alloc w _ = V at *
  obtain ⟨l0, l1, l2, l3⟩ := HL.out
  go_wp2
  go_loopw [3] (fun t wr => ∃ i : Nat, i ≤ m ∧ t = .int .i64 (i : Int) ∧ wr = V ∧ Hid (∀ j, j < i → (bs j).cn ≤ 50 ∧ (bs j).wn ≤ 50)) (fun t _ => m - (intOf t).toNat)
  case atStart => exact ⟨0, Nat.zero_le _, rfl, rfl, Lib.hid (fun j h => by omega)⟩
  case round =>
    obtain ⟨i, hi, rfl, rfl, HA⟩ := hrel
    by_cases hlt : i < m
    · have hlt' : (i : Int) < (m : Int) := by omega
      obtain ⟨b, off, rfl, hbB, hat, hmem⟩ := HM.out.get hlt
      obtain ⟨c0, c1, c2, c3⟩ := hat.below (l3.mono hBw) hbB
      have HN := Lib.hid (HNO.out i hlt)
      have HB := Lib.hid (fun (h : (bs i).cn ≤ 50 ∧ (bs i).wn ≤ 50) j (hj : j < i + 1) => show (bs j).cn ≤ 50 ∧ (bs j).wn ≤ 50 from by (by_cases e : j = i; (subst e; exact h); exact HA.out j (by omega)))
      clear hat hmem
      by_cases h1 : 50 < (bs i).cn
      · have HE := Lib.hid (HN.out (.inl h1))
        have h1' : (50 : Int) < ((bs i).cn : Int) := by omega
        go_wp2
        go_ret
        exact ⟨ret_bool HE.out.symm, l3⟩
      · have h1' : ¬ (50 : Int) < ((bs i).cn : Int) := by omega
        by_cases h2 : 50 < (bs i).wn
        · have HE := Lib.hid (HN.out (.inr h2))
          have h2' : (50 : Int) < ((bs i).wn : Int) := by omega
          go_wp2
          go_ret
          exact ⟨ret_bool HE.out.symm, l3⟩
        · have h2' : ¬ (50 : Int) < ((bs i).wn : Int) := by omega
          have HE := Lib.hid (HB.out ⟨by omega, by omega⟩)
          go_wp2
          go_roundw
          case rel => exact ⟨i + 1, by omega, by go_num, by first | trivial | rfl, HE⟩
          case measure => simp [intOf]; omega
    · obtain rfl : i = m := by omega
      have hlt' : ¬ (i : Int) < (i : Int) := by omega
      have HE := Lib.hid (HYES.out HA.out)
      by_cases h1 : n ≤ 50
      · have h1' : (n : Int) ≤ 50 := by omega
        by_cases h2 : i ≤ 25
        · have h2' : (i : Int) ≤ 25 := by omega
          rw [decide_eq_true h1, decide_eq_true h2] at HE
          go_wp2
          go_ret
          exact ⟨ret_bool HE.out.symm, l3⟩
        · have h2' : ¬ (i : Int) ≤ 25 := by omega
          rw [decide_eq_true h1, decide_eq_false h2] at HE
          go_wp2
          go_ret
          exact ⟨ret_bool HE.out.symm, l3⟩
      · have h1' : ¬ (n : Int) ≤ 50 := by omega
        rw [decide_eq_false h1] at HE
        go_wp2
        go_ret
        exact ⟨ret_bool HE.out.symm, l3⟩
/-- few fields, or refused -/
def smallB (n : Nat) (ss : Nat → SV) (m : Nat) (bs : Nat → BM) (most : Int) : Bool := shortB n m bs && (!(checkN n ss m bs == 0) || decide (min (prodN ss n) 200001 ≤ most))
set_option maxRecDepth 100000 in
set_option maxHeartbeats 1000000 in
theorem small_any (a : Option Addr) (n c : Nat) (ba : Option Addr) (m bc : Nat) (ss : Nat → SV) (bs : Nat → BM) (most : Int) (w : World) (B : Nat) (hBw : B ≤ w.heap.size) (hS : Spans B w a n ss) (hM : Beams B w ba m bs) :
    Calls Tryd.prog 10 #[imageV a n c ba m bc, .int .i64 most] w fun e w' => e = .returned (.bool (smallB n ss m bs most)) ∧ Below w.heap.size w w' := by
  have HS := Lib.hid hS
  have HM := Lib.hid hM
  have HST := Lib.hid (fun (W : World) (hb : Below w.heap.size w W) => short_any a n c ba m bc bs W B (by have := hb.size; omega) hS.1 (hM.below (hb.mono hBw)))
  have HCK := Lib.hid (fun (W : World) (hb : Below w.heap.size w W) => r8Check_any a n c ba m bc ss bs W B (by have := hb.size; omega) (hS.below (hb.mono hBw)) (hM.below (hb.mono hBw)))
  unfold smallB
  cases h1 : shortB n m bs
  · rw [h1] at HST
    clear hS hM
    go_enter Tryd.func10, Tryd.ntmps10
    go_upto_region 1 with (fail)
    have HL := Lib.hid (show LI a n c ba m bc w (w.alloc (.cells #[.slice a n c, .slice ba m bc] 25)) from LI_start)
    generalize World.alloc w _ = V at *
    obtain ⟨l0, l1, l2, l3⟩ := HL.out
    go_wp2_with (go_at_call 17; refine (HST.out V l3).mono ?_; rintro e w2 ⟨rfl, hb2⟩)
    go_ret
    exact ⟨ret_bool rfl, l3.trans (hb2.mono l3.size)⟩
  · rw [h1] at HST
    by_cases h2 : checkN n ss m bs = 0
    · have HF := Lib.hid (fun (W : World) (hb : Below w.heap.size w W) => r8Fields_any a n c ba m bc ss W B (by have := hb.size; omega) (hS.below (hb.mono hBw)) (checkN_shape h2).span)
      rw [h2] at HCK
      rw [h2]
      generalize min (prodN ss n) 200001 = P at *
      clear hS hM h2
      by_cases h3 : P ≤ most
      · rw [decide_eq_true h3]
        go_enter Tryd.func10, Tryd.ntmps10
        go_upto_region 1 with (fail)
        have HL := Lib.hid (show LI a n c ba m bc w (w.alloc (.cells #[.slice a n c, .slice ba m bc] 25)) from LI_start)
        generalize World.alloc w _ = V at *
        obtain ⟨l0, l1, l2, l3⟩ := HL.out
        go_wp2_with (first | (go_at_call 17; refine (HST.out V l3).mono ?_; rintro e w2 ⟨rfl, hb2⟩; have HL2 := LI_step HL.out hb2; clear l0 l1 l2 l3; obtain ⟨l0, l1, l2, l3⟩ := HL2) | (go_at_call 13; refine (HCK.out w2 l3).mono ?_; rintro e w3 ⟨rfl, hb3⟩; have HL3 := LI_step ⟨l0, l1, l2, l3⟩ hb3; clear l0 l1 l2 l3; obtain ⟨l0, l1, l2, l3⟩ := HL3) | (go_at_call 18; refine (HF.out w3 l3).mono ?_; rintro e w4 ⟨rfl, hb4⟩))
        go_ret
        exact ⟨ret_bool (by first | rfl | simp [h3]), l3.trans (hb4.mono l3.size)⟩
      · rw [decide_eq_false h3]
        go_enter Tryd.func10, Tryd.ntmps10
        go_upto_region 1 with (fail)
        have HL := Lib.hid (show LI a n c ba m bc w (w.alloc (.cells #[.slice a n c, .slice ba m bc] 25)) from LI_start)
        generalize World.alloc w _ = V at *
        obtain ⟨l0, l1, l2, l3⟩ := HL.out
        go_wp2_with (first | (go_at_call 17; refine (HST.out V l3).mono ?_; rintro e w2 ⟨rfl, hb2⟩; have HL2 := LI_step HL.out hb2; clear l0 l1 l2 l3; obtain ⟨l0, l1, l2, l3⟩ := HL2) | (go_at_call 13; refine (HCK.out w2 l3).mono ?_; rintro e w3 ⟨rfl, hb3⟩; have HL3 := LI_step ⟨l0, l1, l2, l3⟩ hb3; clear l0 l1 l2 l3; obtain ⟨l0, l1, l2, l3⟩ := HL3) | (go_at_call 18; refine (HF.out w3 l3).mono ?_; rintro e w4 ⟨rfl, hb4⟩))
        go_ret
        exact ⟨ret_bool (by first | rfl | simp [h3]), l3.trans (hb4.mono l3.size)⟩
    · have h3 : (checkN n ss m bs == 0) = false := by rw [beq_eq_false_iff_ne]; exact h2
      rw [h3]
      generalize checkN n ss m bs = E at *
      have h4 : (E != 0) = true := by rw [bne, h3]; rfl
      clear hS hM h2
      go_enter Tryd.func10, Tryd.ntmps10
      go_upto_region 1 with (fail)
      have HL := Lib.hid (show LI a n c ba m bc w (w.alloc (.cells #[.slice a n c, .slice ba m bc] 25)) from LI_start)
      generalize World.alloc w _ = V at *
      obtain ⟨l0, l1, l2, l3⟩ := HL.out
      go_wp2_with (first | (go_at_call 17; refine (HST.out V l3).mono ?_; rintro e w2 ⟨rfl, hb2⟩; have HL2 := LI_step HL.out hb2; clear l0 l1 l2 l3; obtain ⟨l0, l1, l2, l3⟩ := HL2) | (go_at_call 13; refine (HCK.out w2 l3).mono ?_; rintro e w3 ⟨rfl, hb3⟩))
      go_ret
      exact ⟨ret_bool (by first | rfl | simp), l3.trans (hb3.mono l3.size)⟩
end Go.Proofs.YtlfegmjdheddjaaDoor
namespace Go.Proofs.YtlfegmjdheddjaaDoor
open Go.RowKit
set_option linter.unusedVariables false
set_option linter.unusedSimpArgs false
/-- what all these calls need of the image -/
structure ImIn (B : Nat) (a : Option Addr) (n c : Nat) (ba : Option Addr) (m bc : Nat) (ss : Nat → SV) (bs : Nat → BM) (w : World) : Prop where
  le : B ≤ w.heap.size
  spans : Spans B w a n ss
  beams : Beams B w ba m bs
  tab : Lib.TabBelow Tryd.prog w.heap.size w "internal/strconv.uint64pow10" .u64 Lib.pow10Tab
section
variable {B : Nat} {a : Option Addr} {n c : Nat} {ba : Option Addr} {m bc : Nat} {ss : Nat → SV} {bs : Nat → BM} {w W : World}
theorem ImIn.S (h : ImIn B a n c ba m bc ss bs w) (hb : Below w.heap.size w W) : Spans B W a n ss := h.spans.below (hb.mono h.le)
theorem ImIn.M (h : ImIn B a n c ba m bc ss bs w) (hb : Below w.heap.size w W) : Beams B W ba m bs := h.beams.below (hb.mono h.le)
theorem ImIn.B' (h : ImIn B a n c ba m bc ss bs w) (hb : Below w.heap.size w W) : B ≤ W.heap.size := Nat.le_trans h.le hb.size
theorem ImIn.known (h : ImIn B a n c ba m bc ss bs w) (hb : Below w.heap.size w W) : Calls Tryd.prog 11 #[] W fun e w' => e = .returned (.bool true) ∧ Below W.heap.size W w' := known_any W (h.tab W hb)
end
end Go.Proofs.YtlfegmjdheddjaaDoor
