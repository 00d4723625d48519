/- The walks of image.in, span, set, long. -/
import Derived.Test.YtkdopjkdokgipaaGreatDoorProg
import Derived.Test.YtkdopjkdokgipaaGreatDoorGaA
namespace Go.Proofs.YtkdopjkdokgipaaGreatDoor
open Go.RowKit
set_option linter.unusedVariables false
set_option linter.unusedSimpArgs false
set_option maxHeartbeats 400000 in
theorem in_any (a b c : Int) (w : World) :
    Calls Tryz.prog 49 #[.int .i64 a, .int .i64 b, .int .i64 c] w fun e w' => e = .returned (.bool (inB a b c)) ∧ w = w' := by
  by_cases h : b ≤ a
  · go_enter Tryz.func49, Tryz.ntmps49
    go_wp2
    go_ret
    exact ⟨ret_bool (by unfold inB; rw [decide_eq_true h, Bool.true_and]), rfl⟩
  · go_enter Tryz.func49, Tryz.ntmps49
    go_wp2
    go_ret
    exact ⟨ret_bool (by unfold inB; rw [decide_eq_false (by omega), Bool.false_and]), rfl⟩
set_option maxHeartbeats 400000 in
theorem span_any (lo hi most : Int) (w : World) :
    Calls Tryz.prog 32 #[.agg #[.int .i64 lo, .int .i64 hi], .int .i64 most] w fun e w' => e = .returned (.bool (spanB ⟨lo, hi⟩ most)) ∧ Below w.heap.size w w' := by
  by_cases h : 0 ≤ lo
  · by_cases h2 : lo ≤ hi
    · go_enter Tryz.func32, Tryz.ntmps32
      go_wp2
      go_ret
      exact ⟨ret_bool (by unfold spanB inB; rw [decide_eq_true h, decide_eq_true h2]; rfl), (Below.refl _ _).alloc (Nat.le_refl _) _⟩
    · go_enter Tryz.func32, Tryz.ntmps32
      go_wp2
      go_ret
      exact ⟨ret_bool (by unfold spanB inB; dsimp only; rw [decide_eq_false (p := lo ≤ hi) (by omega), Bool.and_false, Bool.false_and]), (Below.refl _ _).alloc (Nat.le_refl _) _⟩
  · go_enter Tryz.func32, Tryz.ntmps32
    go_wp2
    go_ret
    exact ⟨ret_bool (by unfold spanB inB; dsimp only; rw [decide_eq_false (p := 0 ≤ lo) (by omega), Bool.false_and, Bool.false_and]), (Below.refl _ _).alloc (Nat.le_refl _) _⟩
theorem setB_no {n k i : Nat} {cs : Nat → Int} (hi : i < k) (h : setAt n cs i = false) : false = setB n k cs := (allUpto_false hi h).symm
theorem setB_end {n k i : Nat} {cs : Nat → Int} (hi : i = k) (h : ∀ j, j < i → setAt n cs j = true) : true = setB n k cs := by subst hi; exact (allUpto_true h).symm
/-- an image in a box, and all that lay below it -/
abbrev LI (a : Option Addr) (n c : Nat) (ba : Option Addr) (m bc : Nat) (w wx : World) : Prop := wx.cell? ⟨w.heap.size, 0, none⟩ = some (.slice a n c) ∧ wx.cell? ⟨w.heap.size, 1, none⟩ = some (.slice ba m bc) ∧ w.heap.size < wx.heap.size ∧ Below w.heap.size w wx
theorem LI_step {a : Option Addr} {n c : Nat} {ba : Option Addr} {m bc : Nat} {w W wy : World} (h : LI a n c ba m bc w W) (hb : Below W.heap.size W wy) : LI a n c ba m bc w wy := by
  obtain ⟨h0, h1, h2, h3⟩ := h
  have c := (bcell hb).1
  exact ⟨(c _ _ h2).trans h0, (c _ _ h2).trans h1, by have := hb.size; omega, h3.trans (hb.mono h3.size)⟩
theorem LI_start {a : Option Addr} {n c : Nat} {ba : Option Addr} {m bc : Nat} {w : World} {t : TypeId} : LI a n c ba m bc w (w.alloc (.cells #[.slice a n c, .slice ba m bc] t)) :=
  ⟨cell_of_row _ _ _ _ _ _ (heap_alloc_new w _), cell_of_row _ _ _ _ _ _ (heap_alloc_new w _), by simp, (Below.refl _ _).alloc (Nat.le_refl _) _⟩
set_option maxRecDepth 100000 in
set_option maxHeartbeats 1000000 in
theorem set_any (a : Option Addr) (n c : Nat) (ba : Option Addr) (m bc : Nat) (ca : Option Addr) (k cc : Nat) (cs : Nat → Int) (w : World) (B : Nat) (hBw : B ≤ w.heap.size) (hn : n ≤ maxLen) (hk : k ≤ maxLen) (hC : Ints B w ca k cs) :
    Calls Tryz.prog 117 #[imageV a n c ba m bc, .slice ca k cc] w fun e w' => e = .returned (.bool (setB n k cs)) ∧ Below w.heap.size w w' := by
  unfold maxLen at hn hk
  have HC := Lib.hid hC
  clear hC
  go_enter Tryz.func117, Tryz.ntmps117
  go_wp2
  go_loopw [9] (fun t wr => ∃ i : Nat, i ≤ k ∧ t = .int .i64 (i : Int) ∧ (∀ j, j < i → setAt n cs j = true) ∧ Hid (LI a n c ba m bc w wr)) (fun t _ => k - (intOf t).toNat)
  case atStart => exact ⟨0, Nat.zero_le _, rfl, fun j h => by omega, Lib.hid LI_start⟩
  case round =>
    obtain ⟨i, hi, rfl, hall, HL⟩ := hrel
    have HALL := Lib.hid hall
    clear hall
    obtain ⟨l0, l1, l2, l3⟩ := HL.out
    by_cases hlt : i < k
    · have hlt' : (i : Int) < (k : Int) := by omega
      obtain ⟨b, off, rfl, hbB, c0⟩ := (HC.out.below (l3.mono hBw)).get hlt
      have hbz : b < wr.heap.size := by omega
      cases h1 : inB (cs i) 0 ((n : Int) - 1)
      · have HF := Lib.hid (setB_no (n := n) hlt (by unfold setAt; rw [h1, Bool.false_and]))
        go_wp2_with (go_at_call 49; refine (in_any _ _ _ _).mono ?_; rintro e w' ⟨rfl, rfl⟩)
        go_ret
        exact ⟨ret_bool HF.out, l3⟩
      · by_cases h0 : i = 0
        · have HOK := Lib.hid (show setAt n cs i = true by unfold setAt; rw [h1, Bool.true_and, Bool.or_eq_true]; exact .inl (by rw [beq_iff_eq]; exact h0))
          have h2 : decide (0 < i) = false := by simp; omega
          clear h0
          go_wp2_with (go_at_call 49; refine (in_any _ _ _ _).mono ?_; rintro e w' ⟨rfl, rfl⟩)
          go_roundw
          case rel => exact ⟨i + 1, by omega, by go_num, fun j hj => by (by_cases e : j = i; subst e; exact HOK.out; exact HALL.out j (by omega)), HL⟩
          case measure => simp [intOf]; omega
        · obtain ⟨b2, off2, e2, _, d0⟩ := (HC.out.below (l3.mono hBw)).get (i := i - 1) (by omega)
          injection e2 with e2
          injection e2 with e2 e3
          subst e2 e3
          have h2 : decide (0 < i) = true := by simp; omega
          have i1 : (0 : Int) ≤ (i : Int) - 1 := by omega
          have i2 : ((i : Int) - 1).toNat = i - 1 := by omega
          have i4 : i - 1 < k := by omega
          by_cases h3 : cs (i - 1) < cs i
          · have HOK := Lib.hid (show setAt n cs i = true by unfold setAt; rw [h1, Bool.true_and, Bool.or_eq_true]; exact .inr (decide_eq_true h3))
            have h4 : decide (cs i ≤ cs (i - 1)) = false := decide_eq_false (by omega)
            clear h0
            go_wp2_with (go_at_call 49; refine (in_any _ _ _ _).mono ?_; rintro e w' ⟨rfl, rfl⟩)
            go_roundw
            case rel => exact ⟨i + 1, by omega, by go_num, fun j hj => by (by_cases e : j = i; subst e; exact HOK.out; exact HALL.out j (by omega)), HL⟩
            case measure => simp [intOf]; omega
          · have HF := Lib.hid (setB_no (n := n) hlt (by unfold setAt; rw [h1, Bool.true_and, Bool.or_eq_false_iff]; exact ⟨by rw [beq_eq_false_iff_ne]; exact h0, decide_eq_false h3⟩))
            have h4 : decide (cs i ≤ cs (i - 1)) = true := decide_eq_true (by omega)
            clear h0
            go_wp2_with (go_at_call 49; refine (in_any _ _ _ _).mono ?_; rintro e w' ⟨rfl, rfl⟩)
            go_ret
            exact ⟨ret_bool HF.out, l3⟩
    · have hlt' : ¬ (i : Int) < (k : Int) := by omega
      go_wp2
      go_ret
      exact ⟨ret_bool (setB_end (by omega) HALL.out), l3⟩
set_option maxRecDepth 100000 in
set_option maxHeartbeats 1000000 in
theorem long_any (a : Option Addr) (n c : Nat) (ba : Option Addr) (m bc : Nat) (ss : Nat → SV) (most : Int) (w : World) (B : Nat) (hBw : B ≤ w.heap.size) (hS : Spans B w a n ss) (hr : ∀ i, i < n → 0 ≤ (ss i).lo ∧ (ss i).lo ≤ (ss i).hi ∧ (ss i).hi ≤ 1000) (hm : 1 ≤ most ∧ most ≤ 1000000) :
    Calls Tryz.prog 87 #[imageV a n c ba m bc, .int .i64 most] w fun e w' => e = .returned (.bool (longB n ss most)) ∧ Below w.heap.size w w' := by
  have hn := hS.1
  unfold maxLen at hn
  obtain ⟨m1, m2⟩ := hm
  have HS := Lib.hid hS
  have HR := Lib.hid hr
  have HP := Lib.hid (fun k (hk : k ≤ n) => prodN_pos (ss := ss) k (fun i hi => (hr i (by omega)).2.1))
  have HM := Lib.hid (fun k (hk : k ≤ n) => prodN_le (ss := ss) (k := k) (n := n) (fun i hi => (hr i hi).2.1) hk)
  have H0 := Lib.hid (show prodN ss 0 = 1 from rfl)
  have H1 := Lib.hid (fun k => show prodN ss (k + 1) = prodN ss k * ((ss k).hi - (ss k).lo + 1) from rfl)
  unfold longB
  generalize prodN ss = PN at *
  clear hS hr
  go_enter Tryz.func87, Tryz.ntmps87
  go_wp2
  go_loopw [5, 11] (fun s5 t wr => ∃ k : Nat, k ≤ n ∧ t = .int .i64 (k : Int) ∧ s5 = .int .i64 (PN k) ∧ PN k ≤ most ∧ Below w.heap.size w wr) (fun _ t _ => n - (intOf t).toNat)
  case atStart => exact ⟨0, Nat.zero_le _, rfl, by rw [H0.out], by rw [H0.out]; exact m1, (Below.refl _ _).alloc (Nat.le_refl _) _⟩
  case round =>
    obtain ⟨k, hk, rfl, rfl, hle, hb⟩ := hrel
    by_cases hlt : k < n
    · have hlt' : (k : Int) < (n : Int) := by omega
      obtain ⟨b, off, rfl, hbB, c0, c1⟩ := (HS.out.below (hb.mono hBw)).get hlt
      have hz := hb.size
      have hbz : b < wr.heap.size := by omega
      obtain ⟨r1, r2, r3⟩ := HR.out k hlt
      have p1 := HP.out k hk
      obtain ⟨X, hX⟩ : ∃ X, X = PN k * ((ss k).hi - (ss k).lo + 1) := ⟨_, rfl⟩
      have x1 : 0 ≤ X := by rw [hX]; exact Int.mul_nonneg (by omega) (by omega)
      have x2 : X ≤ 1000000 * 1001 := by rw [hX]; exact Int.mul_le_mul (by omega) (by omega) (by omega) (by omega)
      have HX := Lib.hid ((H1.out k).trans hX.symm)
      have hX2 := hX.symm
      clear hX
      by_cases hgt : most < X
      · have HF := Lib.hid (show true = decide (most < PN n) from (decide_eq_true (by have := HM.out (k + 1) hlt; rw [HX.out] at this; omega)).symm)
        go_wp2
        go_ret
        exact ⟨ret_bool HF.out, hb.alloc hb.size _⟩
      · go_wp2
        go_roundw
        case rel => exact ⟨k + 1, by omega, by go_num, by rw [HX.out], by rw [HX.out]; omega, hb.alloc hb.size _⟩
        case measure => simp [intOf]; omega
    · obtain rfl : k = n := by omega
      have hlt' : ¬ (k : Int) < (k : Int) := by omega
      have HF := Lib.hid (show false = decide (most < PN k) from (decide_eq_false (by omega)).symm)
      go_wp2
      go_ret
      exact ⟨ret_bool HF.out, hb⟩
end Go.Proofs.YtkdopjkdokgipaaGreatDoor
