/- The walk of the reference's Field. -/
import Derived.Test.YtkdopjkdokgipaaGreatDoorRef8
import Derived.Test.YtkdopjkdokgipaaGreatDoorGaA
namespace Go.Proofs.YtkdopjkdokgipaaGreatDoor
open Go.RowKit
set_option linter.unusedVariables false
set_option linter.unusedSimpArgs false
theorem fieldB_no {n : Nat} {ss : Nat → SV} {k : Nat} {f : Nat → Int} {i : Nat} (hi : i < min k n) (h : inB (f i) (ss i).lo (ss i).hi = false) : fieldB n ss k f = false := by
  unfold fieldB
  rw [allUpto_false hi h, Bool.false_and]
theorem fieldB_end {n : Nat} {ss : Nat → SV} {k : Nat} {f : Nat → Int} (h : ∀ i, i < min k n → inB (f i) (ss i).lo (ss i).hi = true) : fieldB n ss k f = (k == n) := by
  unfold fieldB
  rw [allUpto_true h, Bool.true_and]
set_option maxRecDepth 100000 in
set_option maxHeartbeats 1000000 in
theorem r8Field_any (a : Option Addr) (n c : Nat) (ba : Option Addr) (m bc : Nat) (ss : Nat → SV) (fa : Option Addr) (k fc : Nat) (f : Nat → Int) (w : World) (B : Nat) (hBw : B ≤ w.heap.size) (hS : Spans B w a n ss) (hF : Ints w.heap.size w fa k f) (hk : k ≤ maxLen) :
    Calls Tryz.prog 17 #[imageV a n c ba m bc, .slice fa k fc] w fun e w' => e = .returned (.bool (fieldB n ss k f)) ∧ Below w.heap.size w w' := by
  have hn := hS.1
  unfold maxLen at hn hk
  have HS := Lib.hid hS
  have HF := Lib.hid hF
  have HNO := Lib.hid (fun (i : Nat) (hi : i < min k n) (h : inB (f i) (ss i).lo (ss i).hi = false) => fieldB_no hi h)
  have HYES := Lib.hid (fun (h : ∀ i, i < min k n → inB (f i) (ss i).lo (ss i).hi = true) => fieldB_end h)
  generalize fieldB n ss k f = RES at *
  clear hS hF
  go_enter Tryz.func17, Tryz.ntmps17
  go_upto_region 1 with (fail)
  have HL := Lib.hid (show LI a n c ba m bc w (w.alloc (.cells #[.slice a n c, .slice ba m bc] 50)) from LI_start)
  generalize World.alloc w _ = V at *
  go_wp2
  go_loopw [5] (fun t wr => ∃ i : Nat, i ≤ min k n ∧ t = .int .i64 (i : Int) ∧ Hid ((∀ j, j < i → inB (f j) (ss j).lo (ss j).hi = true) ∧ LI a n c ba m bc w wr)) (fun t _ => min k n - (intOf t).toNat)
  case atStart => exact ⟨0, Nat.zero_le _, rfl, Lib.hid ⟨fun j h => by omega, HL.out⟩⟩
  case round =>
    clear HL
    obtain ⟨i, hi, rfl, HR⟩ := hrel
    obtain ⟨l0, l1, l2, l3⟩ := HR.out.2
    by_cases hlt : i < k
    · have hlt' : (i : Int) < (k : Int) := by omega
      by_cases hlt2 : i < n
      · have hlt2' : (i : Int) < (n : Int) := by omega
        obtain ⟨b, off, rfl, hbB, c0, c1⟩ := (HS.out.below (l3.mono hBw)).get hlt2
        obtain ⟨fb, fo, rfl, hfB, d0⟩ := (HF.out.below l3).get hlt
        have hbz : b < wr.heap.size := by omega
        have hfz : fb < wr.heap.size := by omega
        have HN := Lib.hid (HNO.out i (by omega))
        have HA := Lib.hid (fun h j (hj : j < i + 1) => show inB (f j) (ss j).lo (ss j).hi = true from by (by_cases e : j = i; (subst e; exact h); exact HR.out.1 j (by omega)))
        cases h1 : inB (f i) (ss i).lo (ss i).hi
        · have HE := Lib.hid (HN.out h1)
          go_upto_region 4 with (fail)
          (refine wp_region_calm (wr.heap.size) (by kernel_rfl) (by kernel_rfl) ?_; (repeat (first | go_big_quiet_step ((go_at_call 48; exact Calls.calm_same (r8in_any _ _ _ _))) | quiet_step ((go_at_call 48; exact Calls.calm_same (r8in_any _ _ _ _))))); refine wpQuiet_nil ?_; intro _ hw'; obtain ⟨xq, hw''⟩ := hw'; subst hw'')
          go_wp2
          go_ret
          exact ⟨ret_bool HE.out.symm, l3.trans ((Calm.below _).mono l3.size)⟩
        · have HE := Lib.hid (HA.out h1)
          go_upto_region 4 with (fail)
          (refine wp_region_calm (wr.heap.size) (by kernel_rfl) (by kernel_rfl) ?_; (repeat (first | go_big_quiet_step ((go_at_call 48; exact Calls.calm_same (r8in_any _ _ _ _))) | quiet_step ((go_at_call 48; exact Calls.calm_same (r8in_any _ _ _ _))))); refine wpQuiet_nil ?_; intro _ hw'; obtain ⟨xq, hw''⟩ := hw'; subst hw'')
          go_wp2
          go_roundw
          case rel => exact ⟨i + 1, by omega, by go_num, Lib.hid ⟨HE.out, LI_step HR.out.2 (Calm.below _)⟩⟩
          case measure => simp [intOf]; omega
      · obtain rfl : i = n := by omega
        have hlt2' : ¬ (i : Int) < (i : Int) := by omega
        have hkn : ((k : Int) == (i : Int)) = false := by rw [beq_eq_false_iff_ne]; omega
        have HE := Lib.hid (HYES.out (fun j hj => HR.out.1 j (by omega)))
        rw [show (k == i) = false from by rw [beq_eq_false_iff_ne]; omega] at HE
        go_wp2
        go_ret
        exact ⟨ret_bool HE.out.symm, l3⟩
    · have hlt' : ¬ (i : Int) < (k : Int) := by omega
      have HE := Lib.hid (HYES.out (fun j hj => HR.out.1 j (by omega)))
      by_cases e : k = n
      · have hkn : ((k : Int) == (n : Int)) = true := by rw [beq_iff_eq]; omega
        rw [show (k == n) = true from by rw [beq_iff_eq]; exact e] at HE
        clear e
        go_wp2
        go_ret
        exact ⟨ret_bool HE.out.symm, l3⟩
      · have hkn : ((k : Int) == (n : Int)) = false := by rw [beq_eq_false_iff_ne]; omega
        rw [show (k == n) = false from by rw [beq_eq_false_iff_ne]; exact e] at HE
        clear e
        go_wp2
        go_ret
        exact ⟨ret_bool HE.out.symm, l3⟩
end Go.Proofs.YtkdopjkdokgipaaGreatDoor
