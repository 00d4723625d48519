/- Texts put together: RefAg, RefFd. -/
import Derived.Test.YtnfigielhnnpnaaDoorRef8
import Derived.Test.YtnfigielhnnpnaaDoorGaA
namespace Go.Proofs.YtnfigielhnnpnaaDoor
open Go.RowKit
set_option linter.unusedVariables false
set_option linter.unusedSimpArgs false
theorem sum_bound {n : Nat} {b : BM} (hs : setB n b.cn b.cs = true) (hw : ∀ k, k < b.cn → 1 ≤ b.ws k ∧ b.ws k ≤ 1000000) {f : Nat → Int} (hf : ∀ c, c < n → 0 ≤ f c ∧ f c ≤ 1000) : ∀ k, k ≤ b.cn → 0 ≤ sumN (fun k => b.ws k * f (b.cs k).toNat) k ∧ sumN (fun k => b.ws k * f (b.cs k).toNat) k ≤ 1000000000 * (k : Int)
  | 0, _ => by simp [sumN]
  | k + 1, hk => by
    have ih := sum_bound hs hw hf k (by omega)
    have h1 := hw k (by omega)
    have h2 := setB_at hs (i := k) (by omega)
    have h3 := hf (b.cs k).toNat (by omega)
    have h4 : 0 ≤ b.ws k * f (b.cs k).toNat := Int.mul_nonneg (by omega) (by omega)
    have h5 : b.ws k * f (b.cs k).toNat ≤ 1000000 * 1000 := Int.mul_le_mul (by omega) (by omega) (by omega) (by omega)
    rw [sumN]
    omega
set_option maxRecDepth 100000 in
set_option maxHeartbeats 1000000 in
theorem r8Of_any (p : BM) (n : Nat) (fa : Option Addr) (fc : Nat) (f : Nat → Int) (w : World) (B : Nat) (hBw : B ≤ w.heap.size) (hp : p.mem B w) (hF : Ints w.heap.size w fa n f) (hn : n ≤ 40) (hs : setB n p.cn p.cs = true) (hwn : p.wn = p.cn) (hw : ∀ k, k < p.cn → 1 ≤ p.ws k ∧ p.ws k ≤ 1000000) (hf : ∀ c, c < n → 0 ≤ f c ∧ f c ≤ 1000) :
    Calls Tryd.prog 35 #[p.val, .slice fa n fc] w fun e w' => e = .returned (.int .i64 (ofN p f)) ∧ Below w.heap.size w w' := by
  have HSB := Lib.hid (fun k hk => sum_bound hs hw hf k hk)
  have HST := Lib.hid (fun k => show sumN (fun k => p.ws k * f (p.cs k).toNat) (k + 1) = sumN (fun k => p.ws k * f (p.cs k).toNat) k + p.ws k * f (p.cs k).toNat from rfl)
  have HW := Lib.hid hw
  have HFD := Lib.hid hf
  have HSA := Lib.hid (fun k (hk : k < p.cn) => setB_at hs hk)
  have hcn : p.cn ≤ 40 := by
    false_or_by_contra
    have h1 := setB_at hs (i := 0) (by omega)
    have h2 : ∀ k, k < p.cn → (k : Int) ≤ p.cs k := fun k hk => by
      induction k with
      | zero => exact h1.1
      | succ k ih => have := ih (by omega); have := setB_step hs hk; omega
    have h3 := h2 40 (by omega)
    have h4 := setB_at hs (i := 40) (by omega)
    omega
  unfold ofN
  have H0 := Lib.hid (show sumN (fun k => p.ws k * f (p.cs k).toNat) 0 = 0 from rfl)
  generalize sumN (fun k => p.ws k * f (p.cs k).toNat) = SM at *
  obtain ⟨qca, qcn, qcc, qwa, qwn, qwc, qlo, qhi, qcs, qws⟩ := p
  obtain ⟨qm1, qm2, qm3, qm4⟩ := hp
  dsimp only at qm1 qm2 qm3 qm4 hwn HSB HST HW HSA hcn
  dsimp only [BM.val]
  subst hwn
  have HQ3 := Lib.hid qm3
  have HQ4 := Lib.hid qm4
  have HF := Lib.hid hF
  clear qm3 qm4 qm1 qm2 hs hw hf hF
  go_enter Tryd.func35, Tryd.ntmps35
  go_upto_region 1 with (fail)
  have HX := Lib.hid (show BX w.heap.size qca qwn qcc qwa qwn qwc qlo qhi (w.alloc (.cells #[.slice qca qwn qcc, .slice qwa qwn qwc, .int .i64 qlo, .int .i64 qhi] 57)) from BX_new)
  have HB := Lib.hid (show Below w.heap.size w (w.alloc (.cells #[.slice qca qwn qcc, .slice qwa qwn qwc, .int .i64 qlo, .int .i64 qhi] 57)) from (Below.refl _ _).alloc (Nat.le_refl _) _)
  generalize World.alloc w _ = V at *
  have hzV := HB.out.size
  go_wp2
  go_loopw [5, 6] (fun s t wr => ∃ i : Nat, i ≤ qwn ∧ t = .int .i64 (i : Int) ∧ s = .int .i64 (SM i) ∧ Hid (Below w.heap.size w wr ∧ BX w.heap.size qca qwn qcc qwa qwn qwc qlo qhi wr)) (fun _ t _ => qwn - (intOf t).toNat)
  case atStart => exact ⟨0, Nat.zero_le _, rfl, by rw [H0.out], Lib.hid ⟨HB.out, HX.out⟩⟩
  case round =>
    clear HB HX
    obtain ⟨i, hi, rfl, rfl, HR⟩ := hrel
    obtain ⟨x0, x1, x2, x3, x4⟩ := HR.out.2
    have hzr := HR.out.1.size
    by_cases hlt : i < qwn
    · have hlt' : (i : Int) < (qwn : Int) := by omega
      obtain ⟨wb, woff, rfl, hwB, d0⟩ := (HQ4.out.below (HR.out.1.mono hBw)).get hlt
      obtain ⟨cb, coff, rfl, hcB, d1⟩ := (HQ3.out.below (HR.out.1.mono hBw)).get hlt
      obtain ⟨g1, g2⟩ := HSA.out i hlt
      have g3 : (qcs i).toNat < n := by omega
      obtain ⟨fb, foff, rfl, hfB, d2⟩ := (HF.out.below HR.out.1).get g3
      obtain ⟨r1, r2⟩ := HW.out i hlt
      obtain ⟨r3, r4⟩ := HFD.out _ g3
      obtain ⟨r5, r6⟩ := HSB.out i hi
      have HSI := Lib.hid (HST.out i)
      have l1 : wb < wr.heap.size := by omega
      have l2 : cb < wr.heap.size := by omega
      have l3 : fb < wr.heap.size := by omega
      generalize qws i = W at *
      generalize f (qcs i).toNat = F at *
      generalize qcs i = C at *
      have HP := Lib.hid (show 0 ≤ W * F ∧ W * F ≤ 1000000 * 1000 from ⟨Int.mul_nonneg (by omega) (by omega), Int.mul_le_mul (by omega) (by omega) (by omega) (by omega)⟩)
      obtain ⟨p1, p2⟩ := HP.out
      have r7 : SM i ≤ 40000000000 := by omega
      have r8 : SM i + W * F ≤ 50000000000 := by omega
      have r9 : 0 ≤ SM i + W * F := by omega
      generalize hS : SM i = S at *
      have HSS := Lib.hid hS
      clear hS r6
      go_upto_region 5 with (fail)
      (refine wp_region_calm (wr.heap.size) (by kernel_rfl) (by kernel_rfl) ?_; (repeat (first | go_big_quiet_step (fail) | quiet_step (fail))); refine wpQuiet_nil ?_; intro _ hw'; obtain ⟨xq, hw''⟩ := hw'; subst hw'')
      go_wp2
      go_roundw
      case rel => exact ⟨i + 1, by omega, by go_num, by rw [HSI.out], Lib.hid ⟨HR.out.1.trans ((Calm.below _).mono hzr), BX_step HR.out.2 (Calm.below _)⟩⟩
      case measure => simp [intOf]; omega
    · obtain rfl : i = qwn := by omega
      have hlt' : ¬ (i : Int) < (i : Int) := by omega
      go_wp2
      go_ret
      exact ⟨rfl, HR.out.1⟩
theorem agreesB_no {m : Nat} {bs : Nat → BM} {f : Nat → Int} {i : Nat} (hi : i < m) (h : inB (ofN (bs i) f) (bs i).lo (bs i).hi = false) : agreesB m bs f = false := by
  unfold agreesB; rw [allUpto_false hi h]
theorem agreesB_yes {m : Nat} {bs : Nat → BM} {f : Nat → Int} (h : ∀ i, i < m → inB (ofN (bs i) f) (bs i).lo (bs i).hi = true) : agreesB m bs f = true := by
  unfold agreesB; rw [allUpto_true h]
set_option maxRecDepth 100000 in
set_option maxHeartbeats 1000000 in
theorem r8Agrees_any (a : Option Addr) (n c : Nat) (ba : Option Addr) (m bc : Nat) (ss : Nat → SV) (bs : Nat → BM) (fa : Option Addr) (fc : Nat) (f : Nat → Int) (w : World) (B : Nat) (hBw : B ≤ w.heap.size) (hM : Beams B w ba m bs) (hSh : Shape n ss m bs) (hF : Ints w.heap.size w fa n f) (hf : ∀ c, c < n → 0 ≤ f c ∧ f c ≤ 1000) :
    Calls Tryd.prog 14 #[imageV a n c ba m bc, .slice fa n fc] w fun e w' => e = .returned (.bool (agreesB m bs f)) ∧ Below w.heap.size w w' := by
  have hm := hSh.m20
  have hn := hSh.n40
  have HM := Lib.hid hM
  have HF := Lib.hid hF
  have HFD := Lib.hid hf
  have HSH := Lib.hid hSh
  have HNO := Lib.hid (fun (i : Nat) (hi : i < m) (h : inB (ofN (bs i) f) (bs i).lo (bs i).hi = false) => agreesB_no hi h)
  have HYES := Lib.hid (agreesB_yes (m := m) (bs := bs) (f := f))
  generalize agreesB m bs f = RES at *
  clear hM hF hf hSh
  go_enter Tryd.func14, Tryd.ntmps14
  go_upto_region 1 with (fail)
  have HL := Lib.hid (show LI a n c ba m bc w (w.alloc (.cells #[.slice a n c, .slice ba m bc] 28)) from LI_start)
  generalize World.alloc w _ = V at *
  go_wp2
  go_loopw [5] (fun t wr => ∃ i : Nat, i ≤ m ∧ t = .int .i64 (i : Int) ∧ Hid ((∀ j, j < i → inB (ofN (bs j) f) (bs j).lo (bs j).hi = true) ∧ LI a n c ba m bc w wr)) (fun t _ => m - (intOf t).toNat)
  case atStart => exact ⟨0, Nat.zero_le _, rfl, Lib.hid ⟨fun j h => by omega, HL.out⟩⟩
  case round =>
    clear HL
    obtain ⟨i, hi, rfl, HR⟩ := hrel
    obtain ⟨l0, l1, l2, l3⟩ := HR.out.2
    by_cases hlt : i < m
    · have hlt' : (i : Int) < (m : Int) := by omega
      obtain ⟨b, off, rfl, hbB, hat, hmem⟩ := HM.out.get hlt
      obtain ⟨c0, c1, c2, c3⟩ := hat.below (l3.mono hBw) hbB
      have hbz : b < wr.heap.size := by omega
      have HOF := Lib.hid (fun (W : World) (hb : Below wr.heap.size wr W) => r8Of_any (bs i) n fa fc f W B (by have := hb.size; omega) (hmem.below ((l3.trans (hb.mono l3.size)).mono hBw)) ((HF.out.below (l3.trans (hb.mono l3.size))).up (l3.trans (hb.mono l3.size)).size) hn (HSH.out.set i hlt) (HSH.out.wn i hlt) (HSH.out.weight i hlt) HFD.out)
      have HN := Lib.hid (HNO.out i hlt)
      have HA := Lib.hid (fun h j (hj : j < i + 1) => show inB (ofN (bs j) f) (bs j).lo (bs j).hi = true from by (by_cases e : j = i; (subst e; exact h); exact HR.out.1 j (by omega)))
      dsimp only [BM.val] at HOF
      clear hat hmem
      generalize ofN (bs i) f = X at *
      cases h1 : inB X (bs i).lo (bs i).hi
      · have HE := Lib.hid (HN.out h1)
        go_upto_region 4 with (fail)
        (refine wp_region_calm (wr.heap.size) (by kernel_rfl) (by kernel_rfl) ?_; (repeat (first | go_big_quiet_step ((first | (go_at_call 27; exact Calls.calm_same (r8in_any _ _ _ _)) | (go_at_call 35; exact Calls.calm_of (Nat.le_refl _) (HOF.out _ (Calm.below _))))) | quiet_step ((first | (go_at_call 27; exact Calls.calm_same (r8in_any _ _ _ _)) | (go_at_call 35; exact Calls.calm_of (Nat.le_refl _) (HOF.out _ (Calm.below _))))))); refine wpQuiet_nil ?_; intro _ hw'; obtain ⟨xq, hw''⟩ := hw'; subst hw'')
        go_wp2
        go_ret
        exact ⟨ret_bool HE.out.symm, l3.trans ((Calm.below _).mono l3.size)⟩
      · have HE := Lib.hid (HA.out h1)
        go_upto_region 4 with (fail)
        (refine wp_region_calm (wr.heap.size) (by kernel_rfl) (by kernel_rfl) ?_; (repeat (first | go_big_quiet_step ((first | (go_at_call 27; exact Calls.calm_same (r8in_any _ _ _ _)) | (go_at_call 35; exact Calls.calm_of (Nat.le_refl _) (HOF.out _ (Calm.below _))))) | quiet_step ((first | (go_at_call 27; exact Calls.calm_same (r8in_any _ _ _ _)) | (go_at_call 35; exact Calls.calm_of (Nat.le_refl _) (HOF.out _ (Calm.below _))))))); refine wpQuiet_nil ?_; intro _ hw'; obtain ⟨xq, hw''⟩ := hw'; subst hw'')
        go_wp2
        go_roundw
        case rel => exact ⟨i + 1, by omega, by go_num, Lib.hid ⟨HE.out, LI_step HR.out.2 (Calm.below _)⟩⟩
        case measure => simp [intOf]; omega
    · obtain rfl : i = m := by omega
      have hlt' : ¬ (i : Int) < (i : Int) := by omega
      have HE := Lib.hid (HYES.out HR.out.1)
      go_wp2
      go_ret
      exact ⟨ret_bool HE.out.symm, l3⟩
end Go.Proofs.YtnfigielhnnpnaaDoor
namespace Go.Proofs.YtnfigielhnnpnaaDoor
open Go.RowKit
set_option linter.unusedVariables false
set_option linter.unusedSimpArgs false
theorem fieldB_no {n : Nat} {ss : Nat → SV} {k : Nat} {f : Nat → Int} {i : Nat} (hi : i < min k n) (h : inB (f i) (ss i).lo (ss i).hi = false) : fieldB n ss k f = false := by
  unfold fieldB
  rw [allUpto_false hi h, Bool.false_and]
theorem fieldB_end {n : Nat} {ss : Nat → SV} {k : Nat} {f : Nat → Int} (h : ∀ i, i < min k n → inB (f i) (ss i).lo (ss i).hi = true) : fieldB n ss k f = (k == n) := by
  unfold fieldB
  rw [allUpto_true h, Bool.true_and]
set_option maxRecDepth 100000 in
set_option maxHeartbeats 1000000 in
theorem r8Field_any (a : Option Addr) (n c : Nat) (ba : Option Addr) (m bc : Nat) (ss : Nat → SV) (fa : Option Addr) (k fc : Nat) (f : Nat → Int) (w : World) (B : Nat) (hBw : B ≤ w.heap.size) (hS : Spans B w a n ss) (hF : Ints w.heap.size w fa k f) (hk : k ≤ maxLen) :
    Calls Tryd.prog 13 #[imageV a n c ba m bc, .slice fa k fc] w fun e w' => e = .returned (.bool (fieldB n ss k f)) ∧ Below w.heap.size w w' := by
  have hn := hS.1
  unfold maxLen at hn hk
  have HS := Lib.hid hS
  have HF := Lib.hid hF
  have HNO := Lib.hid (fun (i : Nat) (hi : i < min k n) (h : inB (f i) (ss i).lo (ss i).hi = false) => fieldB_no hi h)
  have HYES := Lib.hid (fun (h : ∀ i, i < min k n → inB (f i) (ss i).lo (ss i).hi = true) => fieldB_end h)
  generalize fieldB n ss k f = RES at *
  clear hS hF
  go_enter Tryd.func13, Tryd.ntmps13
  go_upto_region 1 with (fail)
  have HL := Lib.hid (show LI a n c ba m bc w (w.alloc (.cells #[.slice a n c, .slice ba m bc] 28)) from LI_start)
  generalize World.alloc w _ = V at *
  go_wp2
  go_loopw [5] (fun t wr => ∃ i : Nat, i ≤ min k n ∧ t = .int .i64 (i : Int) ∧ Hid ((∀ j, j < i → inB (f j) (ss j).lo (ss j).hi = true) ∧ LI a n c ba m bc w wr)) (fun t _ => min k n - (intOf t).toNat)
  case atStart => exact ⟨0, Nat.zero_le _, rfl, Lib.hid ⟨fun j h => by omega, HL.out⟩⟩
  case round =>
    clear HL
    obtain ⟨i, hi, rfl, HR⟩ := hrel
    obtain ⟨l0, l1, l2, l3⟩ := HR.out.2
    by_cases hlt : i < k
    · have hlt' : (i : Int) < (k : Int) := by omega
      by_cases hlt2 : i < n
      · have hlt2' : (i : Int) < (n : Int) := by omega
        obtain ⟨b, off, rfl, hbB, c0, c1⟩ := (HS.out.below (l3.mono hBw)).get hlt2
        obtain ⟨fb, fo, rfl, hfB, d0⟩ := (HF.out.below l3).get hlt
        have hbz : b < wr.heap.size := by omega
        have hfz : fb < wr.heap.size := by omega
        have HN := Lib.hid (HNO.out i (by omega))
        have HA := Lib.hid (fun h j (hj : j < i + 1) => show inB (f j) (ss j).lo (ss j).hi = true from by (by_cases e : j = i; (subst e; exact h); exact HR.out.1 j (by omega)))
        cases h1 : inB (f i) (ss i).lo (ss i).hi
        · have HE := Lib.hid (HN.out h1)
          go_upto_region 4 with (fail)
          (refine wp_region_calm (wr.heap.size) (by kernel_rfl) (by kernel_rfl) ?_; (repeat (first | go_big_quiet_step ((go_at_call 27; exact Calls.calm_same (r8in_any _ _ _ _))) | quiet_step ((go_at_call 27; exact Calls.calm_same (r8in_any _ _ _ _))))); refine wpQuiet_nil ?_; intro _ hw'; obtain ⟨xq, hw''⟩ := hw'; subst hw'')
          go_wp2
          go_ret
          exact ⟨ret_bool HE.out.symm, l3.trans ((Calm.below _).mono l3.size)⟩
        · have HE := Lib.hid (HA.out h1)
          go_upto_region 4 with (fail)
          (refine wp_region_calm (wr.heap.size) (by kernel_rfl) (by kernel_rfl) ?_; (repeat (first | go_big_quiet_step ((go_at_call 27; exact Calls.calm_same (r8in_any _ _ _ _))) | quiet_step ((go_at_call 27; exact Calls.calm_same (r8in_any _ _ _ _))))); refine wpQuiet_nil ?_; intro _ hw'; obtain ⟨xq, hw''⟩ := hw'; subst hw'')
          go_wp2
          go_roundw
          case rel => exact ⟨i + 1, by omega, by go_num, Lib.hid ⟨HE.out, LI_step HR.out.2 (Calm.below _)⟩⟩
          case measure => simp [intOf]; omega
      · obtain rfl : i = n := by omega
        have hlt2' : ¬ (i : Int) < (i : Int) := by omega
        have hkn : ((k : Int) == (i : Int)) = false := by rw [beq_eq_false_iff_ne]; omega
        have HE := Lib.hid (HYES.out (fun j hj => HR.out.1 j (by omega)))
        rw [show (k == i) = false from by rw [beq_eq_false_iff_ne]; omega] at HE
        go_wp2
        go_ret
        exact ⟨ret_bool HE.out.symm, l3⟩
    · have hlt' : ¬ (i : Int) < (k : Int) := by omega
      have HE := Lib.hid (HYES.out (fun j hj => HR.out.1 j (by omega)))
      by_cases e : k = n
      · have hkn : ((k : Int) == (n : Int)) = true := by rw [beq_iff_eq]; omega
        rw [show (k == n) = true from by rw [beq_iff_eq]; exact e] at HE
        clear e
        go_wp2
        go_ret
        exact ⟨ret_bool HE.out.symm, l3⟩
      · have hkn : ((k : Int) == (n : Int)) = false := by rw [beq_eq_false_iff_ne]; omega
        rw [show (k == n) = false from by rw [beq_eq_false_iff_ne]; exact e] at HE
        clear e
        go_wp2
        go_ret
        exact ⟨ret_bool HE.out.symm, l3⟩
end Go.Proofs.YtnfigielhnnpnaaDoor
