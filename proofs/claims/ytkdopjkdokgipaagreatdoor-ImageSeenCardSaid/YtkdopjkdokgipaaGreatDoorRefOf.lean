/- The walk of the reference's Of. -/
import Derived.Test.YtkdopjkdokgipaaGreatDoorRef8
import Derived.Test.YtkdopjkdokgipaaGreatDoorGaA
namespace Go.Proofs.YtkdopjkdokgipaaGreatDoor
open Go.RowKit
set_option linter.unusedVariables false
set_option linter.unusedSimpArgs false
theorem sum_bound {n : Nat} {b : BM} (hs : setB n b.cn b.cs = true) (hw : ∀ k, k < b.cn → 1 ≤ b.ws k ∧ b.ws k ≤ 1000000) {f : Nat → Int} (hf : ∀ c, c < n → 0 ≤ f c ∧ f c ≤ 1000) : ∀ k, k ≤ b.cn → 0 ≤ sumN (fun k => b.ws k * f (b.cs k).toNat) k ∧ sumN (fun k => b.ws k * f (b.cs k).toNat) k ≤ 1000000000 * (k : Int)
  | 0, _ => by simp [sumN]
  | k + 1, hk => by
    have ih := sum_bound hs hw hf k (by omega)
    have h1 := hw k (by omega)
    have h2 := setB_at hs (i := k) (by omega)
    have h3 := hf (b.cs k).toNat (by omega)
    have h4 : 0 ≤ b.ws k * f (b.cs k).toNat := Int.mul_nonneg (by omega) (by omega)
    have h5 : b.ws k * f (b.cs k).toNat ≤ 1000000 * 1000 := Int.mul_le_mul (by omega) (by omega) (by omega) (by omega)
    rw [sumN]
    omega
set_option maxRecDepth 100000 in
set_option maxHeartbeats 1000000 in
theorem r8Of_any (p : BM) (n : Nat) (fa : Option Addr) (fc : Nat) (f : Nat → Int) (w : World) (B : Nat) (hBw : B ≤ w.heap.size) (hp : p.mem B w) (hF : Ints w.heap.size w fa n f) (hn : n ≤ 40) (hs : setB n p.cn p.cs = true) (hwn : p.wn = p.cn) (hw : ∀ k, k < p.cn → 1 ≤ p.ws k ∧ p.ws k ≤ 1000000) (hf : ∀ c, c < n → 0 ≤ f c ∧ f c ≤ 1000) :
    Calls Tryz.prog 14 #[p.val, .slice fa n fc] w fun e w' => e = .returned (.int .i64 (ofN p f)) ∧ Below w.heap.size w w' := by
  have HSB := Lib.hid (fun k hk => sum_bound hs hw hf k hk)
  have HST := Lib.hid (fun k => show sumN (fun k => p.ws k * f (p.cs k).toNat) (k + 1) = sumN (fun k => p.ws k * f (p.cs k).toNat) k + p.ws k * f (p.cs k).toNat from rfl)
  have HW := Lib.hid hw
  have HFD := Lib.hid hf
  have HSA := Lib.hid (fun k (hk : k < p.cn) => setB_at hs hk)
  have hcn : p.cn ≤ 40 := by
    false_or_by_contra
    have h1 := setB_at hs (i := 0) (by omega)
    have h2 : ∀ k, k < p.cn → (k : Int) ≤ p.cs k := fun k hk => by
      induction k with
      | zero => exact h1.1
      | succ k ih => have := ih (by omega); have := setB_step hs hk; omega
    have h3 := h2 40 (by omega)
    have h4 := setB_at hs (i := 40) (by omega)
    omega
  unfold ofN
  have H0 := Lib.hid (show sumN (fun k => p.ws k * f (p.cs k).toNat) 0 = 0 from rfl)
  generalize sumN (fun k => p.ws k * f (p.cs k).toNat) = SM at *
  obtain ⟨qca, qcn, qcc, qwa, qwn, qwc, qlo, qhi, qcs, qws⟩ := p
  obtain ⟨qm1, qm2, qm3, qm4⟩ := hp
  dsimp only at qm1 qm2 qm3 qm4 hwn HSB HST HW HSA hcn
  dsimp only [BM.val]
  subst hwn
  have HQ3 := Lib.hid qm3
  have HQ4 := Lib.hid qm4
  have HF := Lib.hid hF
  clear qm3 qm4 qm1 qm2 hs hw hf hF
  go_enter Tryz.func14, Tryz.ntmps14
  go_upto_region 1 with (fail)
  have HX := Lib.hid (show BX w.heap.size qca qwn qcc qwa qwn qwc qlo qhi (w.alloc (.cells #[.slice qca qwn qcc, .slice qwa qwn qwc, .int .i64 qlo, .int .i64 qhi] 31)) from BX_new)
  have HB := Lib.hid (show Below w.heap.size w (w.alloc (.cells #[.slice qca qwn qcc, .slice qwa qwn qwc, .int .i64 qlo, .int .i64 qhi] 31)) from (Below.refl _ _).alloc (Nat.le_refl _) _)
  generalize World.alloc w _ = V at *
  have hzV := HB.out.size
  go_wp2
  go_loopw [5, 6] (fun s t wr => ∃ i : Nat, i ≤ qwn ∧ t = .int .i64 (i : Int) ∧ s = .int .i64 (SM i) ∧ Hid (Below w.heap.size w wr ∧ BX w.heap.size qca qwn qcc qwa qwn qwc qlo qhi wr)) (fun _ t _ => qwn - (intOf t).toNat)
  case atStart => exact ⟨0, Nat.zero_le _, rfl, by rw [H0.out], Lib.hid ⟨HB.out, HX.out⟩⟩
  case round =>
    clear HB HX
    obtain ⟨i, hi, rfl, rfl, HR⟩ := hrel
    obtain ⟨x0, x1, x2, x3, x4⟩ := HR.out.2
    have hzr := HR.out.1.size
    by_cases hlt : i < qwn
    · have hlt' : (i : Int) < (qwn : Int) := by omega
      obtain ⟨wb, woff, rfl, hwB, d0⟩ := (HQ4.out.below (HR.out.1.mono hBw)).get hlt
      obtain ⟨cb, coff, rfl, hcB, d1⟩ := (HQ3.out.below (HR.out.1.mono hBw)).get hlt
      obtain ⟨g1, g2⟩ := HSA.out i hlt
      have g3 : (qcs i).toNat < n := by omega
      obtain ⟨fb, foff, rfl, hfB, d2⟩ := (HF.out.below HR.out.1).get g3
      obtain ⟨r1, r2⟩ := HW.out i hlt
      obtain ⟨r3, r4⟩ := HFD.out _ g3
      obtain ⟨r5, r6⟩ := HSB.out i hi
      have HSI := Lib.hid (HST.out i)
      have l1 : wb < wr.heap.size := by omega
      have l2 : cb < wr.heap.size := by omega
      have l3 : fb < wr.heap.size := by omega
      generalize qws i = W at *
      generalize f (qcs i).toNat = F at *
      generalize qcs i = C at *
      have HP := Lib.hid (show 0 ≤ W * F ∧ W * F ≤ 1000000 * 1000 from ⟨Int.mul_nonneg (by omega) (by omega), Int.mul_le_mul (by omega) (by omega) (by omega) (by omega)⟩)
      obtain ⟨p1, p2⟩ := HP.out
      have r7 : SM i ≤ 40000000000 := by omega
      have r8 : SM i + W * F ≤ 50000000000 := by omega
      have r9 : 0 ≤ SM i + W * F := by omega
      generalize hS : SM i = S at *
      have HSS := Lib.hid hS
      clear hS r6
      go_upto_region 5 with (fail)
      (refine wp_region_calm (wr.heap.size) (by kernel_rfl) (by kernel_rfl) ?_; (repeat (first | go_big_quiet_step (fail) | quiet_step (fail))); refine wpQuiet_nil ?_; intro _ hw'; obtain ⟨xq, hw''⟩ := hw'; subst hw'')
      go_wp2
      go_roundw
      case rel => exact ⟨i + 1, by omega, by go_num, by rw [HSI.out], Lib.hid ⟨HR.out.1.trans ((Calm.below _).mono hzr), BX_step HR.out.2 (Calm.below _)⟩⟩
      case measure => simp [intOf]; omega
    · obtain rfl : i = qwn := by omega
      have hlt' : ¬ (i : Int) < (i : Int) := by omega
      go_wp2
      go_ret
      exact ⟨rfl, HR.out.1⟩
theorem agreesB_no {m : Nat} {bs : Nat → BM} {f : Nat → Int} {i : Nat} (hi : i < m) (h : inB (ofN (bs i) f) (bs i).lo (bs i).hi = false) : agreesB m bs f = false := by
  unfold agreesB; rw [allUpto_false hi h]
theorem agreesB_yes {m : Nat} {bs : Nat → BM} {f : Nat → Int} (h : ∀ i, i < m → inB (ofN (bs i) f) (bs i).lo (bs i).hi = true) : agreesB m bs f = true := by
  unfold agreesB; rw [allUpto_true h]
end Go.Proofs.YtkdopjkdokgipaaGreatDoor
