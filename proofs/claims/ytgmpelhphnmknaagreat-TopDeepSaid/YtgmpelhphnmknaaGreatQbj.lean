/- Texts put together: ImAgr, ToTpL. -/
import Derived.Test.YtgmpelhphnmknaaGreatQaj
import Derived.Test.YtgmpelhphnmknaaGreatQaf
import Derived.Test.YtgmpelhphnmknaaGreatQbh
import Derived.Test.YtgmpelhphnmknaaGreatQbi
set_option maxRecDepth 100000
set_option maxHeartbeats 8000000
set_option linter.unusedVariables false
set_option linter.unusedSimpArgs false
namespace Go.Proofs.YtgmpelhphnmknaaGreat
open Go.RowKit
def fineB (n : Nat) (ss : Nat → SV) (k : Nat) (f : Nat → Int) (i : Nat) : Bool := (k == n) && allUpto i (fun j => inB (f j) (ss j).lo (ss j).hi)
theorem fineB_zero {n : Nat} {ss : Nat → SV} {k : Nat} {f : Nat → Int} : fineB n ss k f 0 = (k == n) := by unfold fineB; rw [allUpto_true (fun j h => by omega), Bool.and_true]
theorem fineB_step {n : Nat} {ss : Nat → SV} {k : Nat} {f : Nat → Int} {i : Nat} (h : fineB n ss k f i = true) : fineB n ss k f (i + 1) = inB (f i) (ss i).lo (ss i).hi := by
 unfold fineB at *
 rw [Bool.and_eq_true, allUpto_iff] at h
 rw [h.1, Bool.true_and]
 cases e : inB (f i) (ss i).lo (ss i).hi
 ·exact allUpto_false (Nat.lt_succ_self i) e
 ·refine allUpto_true (fun j hj => ?_)
  by_cases e2 : j = i
  ·subst e2; exact e
  ·exact h.2 j (by omega)
theorem fineB_stay {n : Nat} {ss : Nat → SV} {k : Nat} {f : Nat → Int} {i : Nat} (h : fineB n ss k f i = false) : fineB n ss k f (i + 1) = false := by
 unfold fineB at *
 rw [Bool.and_eq_false_iff] at *
 rcases h with h | h
 ·exact .inl h
 ·refine .inr ?_
  cases e : allUpto (i + 1) (fun j => inB (f j) (ss j).lo (ss j).hi)
  ·rfl
  ·rw [allUpto_true (fun j hj => allUpto_iff.1 e j (by omega))] at h
   cases h
theorem fineB_len {n : Nat} {ss : Nat → SV} {k : Nat} {f : Nat → Int} {i : Nat} (h : fineB n ss k f i = true) : k = n := by
 unfold fineB at h
 rw [Bool.and_eq_true, beq_iff_eq] at h
 exact h.1
theorem fineB_end {n : Nat} {ss : Nat → SV} {k : Nat} {f : Nat → Int} : fineB n ss k f k = fieldB n ss k f := by
 unfold fineB fieldB
 by_cases e : k = n
 ·subst e
  rw [Nat.min_self, Bool.and_comm]
 ·rw [show (k == n) = false from by rw [beq_eq_false_iff_ne]; exact e, Bool.false_and, Bool.and_false]
def AgrRes (n : Nat) (ss : Nat → SV) (m : Nat) (bs : Nat → BM) (k : Nat) (f : Nat → Int) (w : World) (e : Ending) (w' : World) : Prop :=
 e = .returned (.tuple #[.bool (decide (checkF n ss m bs (fieldB n ss k f) = 0) && agreesB m bs f), .int .i64 (checkF n ss m bs (fieldB n ss k f))]) ∧ Below w.heap.size w w'
theorem field_den {n : Nat} {ss : Nat → SV} {m : Nat} {bs : Nat → BM} (hS : Shape n ss m bs) {k : Nat} {f : Nat → Int} (h : fieldB n ss k f = true) : k = n ∧ ∀ c, c < n → 0 ≤ f c ∧ f c ≤ 1000 := by
 unfold fieldB at h
 rw [Bool.and_eq_true, allUpto_iff, beq_iff_eq] at h
 obtain ⟨h1, rfl⟩ := h
 exact ⟨rfl, fun c hc => by
  have h2 := inB_iff.1 (h1 c (by omega))
  have h3 := hS.span c hc
  omega⟩
theorem checkF_shape {n : Nat} {ss : Nat → SV} {m : Nat} {bs : Nat → BM} {b : Bool} (h : checkF n ss m bs b = 0) : Shape n ss m bs ∧ b = true := by
 unfold checkF at h
 split at h
 ·cases h
 ·rename_i h1
  rw [not_or] at h1
  exact ⟨shapeB_iff.1 (by simpa using h1.1), by simpa using h1.2⟩
theorem setB_cn {n : Nat} {p : BM} (hs : setB n p.cn p.cs = true) (hn : n ≤ 40) : p.cn ≤ 40 := by
 false_or_by_contra
 have h1 := setB_at hs (i := 0) (by omega)
 have h2 : ∀ k, k < p.cn → (k : Int) ≤ p.cs k := fun k hk => by
  induction k with
  | zero => exact h1.1
  | succ k ih => have := ih (by omega); have := setB_step hs hk; omega
 have h3 := h2 40 (by omega)
 have h4 := setB_at hs (i := 40) (by omega)
 omega
theorem AgreesI_any (a : Option Addr) (n c : Nat) (ba : Option Addr) (m bc : Nat) (ss : Nat → SV) (bs : Nat → BM) (fa : Option Addr) (k fc : Nat) (f : Nat → Int) (w : World) (B : Nat) (hBw : B ≤ w.heap.size) (hS : Spans B w a n ss) (hM : Beams B w ba m bs) (hF : Ints w.heap.size w fa k f) (hk : k ≤ maxLen) :
  Calls Tryz.prog 18 #[imageV a n c ba m bc, .slice fa k fc] w (AgrRes n ss m bs k f w) := by
 have hn := hS.1
 have hmm := hM.1
 unfold maxLen at hk hn hmm
 have HS := Lib.hid hS
 have HM := Lib.hid hM
 have HF := Lib.hid hF
 have HZ := Hd (fineB_zero (n := n) (ss := ss) (k := k) (f := f))
 have HST := Hd (fun i => fineB_step (n := n) (ss := ss) (k := k) (f := f) (i := i))
 have HSY := Hd (fun i => fineB_stay (n := n) (ss := ss) (k := k) (f := f) (i := i))
 have HLE := Hd (fun i => fineB_len (n := n) (ss := ss) (k := k) (f := f) (i := i))
 have HEN := Hd (fineB_end (n := n) (ss := ss) (k := k) (f := f))
 have HCF := Hd (fun (W : World) (hb : Below w.heap.size w W) => checked_any a n c ba m bc ss bs (fieldB n ss k f) W B (Nat.le_trans hBw hb.size) (hS.below (hb.mono hBw)) (hM.below (hb.mono hBw)))
 have HSH := Hd (fun (h : checkF n ss m bs (fieldB n ss k f) = 0) => (⟨(checkF_shape h).1, field_den (checkF_shape h).1 (checkF_shape h).2⟩ : Shape n ss m bs ∧ k = n ∧ ∀ c, c < n → 0 ≤ f c ∧ f c ≤ 1000))
 have HRZ := Hd (fun (W : World) (hb : Below w.heap.size w W) (h : checkF n ss m bs (fieldB n ss k f) ≠ 0) => show AgrRes n ss m bs k f w (.returned (.tuple #[.bool false, .int .i64 (checkF n ss m bs (fieldB n ss k f))])) W from ⟨by rw [decide_eq_false h, Bool.false_and], hb⟩)
 have HRY := Hd (fun (W : World) (hb : Below w.heap.size w W) (h : checkF n ss m bs (fieldB n ss k f) = 0) (b : Bool) (h2 : agreesB m bs f = b) => show AgrRes n ss m bs k f w (.returned (.tuple #[.bool b, .int .i64 0])) W from ⟨by rw [h2, h, decide_eq_true rfl, Bool.true_and], hb⟩)
 have HNO := Hd (fun (i : Nat) (hi : i < m) (h : inB (ofN (bs i) f) (bs i).lo (bs i).hi = false) => agreesB_no hi h)
 have HYES := Hd (agreesB_yes (m := m) (bs := bs) (f := f))
 generalize checkF n ss m bs (fieldB n ss k f) = E at *
 generalize fieldB n ss k f = FE at *
 generalize agreesB m bs f = AB at *
 generalize AgrRes n ss m bs k f w = RES at *
 generalize fineB n ss k f = FB at *
 clear hS hM hF
 go_enter Tryz.func18, Tryz.ntmps18
 go_upto_region 1 with (fail)
 have HL := Hd (show LI a n c ba m bc w (w.alloc (.cells #[.slice a n c, .slice ba m bc] 59)) from LI_start)
 generalize World.alloc w _ = V at *
 obtain ⟨l0, l1, l2, l3⟩ := HL.out
 have HE0 := Hd (show ((k : Int) == (n : Int)) = FB 0 from by
  rw [HZ.out]
  by_cases e : k = n
  ·subst e; simp
  ·rw [show (k == n) = false from by rw [beq_eq_false_iff_ne]; exact e, beq_eq_false_iff_ne]; omega)
 go_wp2
 go_loopw [6, 22] (fun s6 t wr => ∃ i : Nat, i ≤ k ∧ t = .int .i64 (i : Int) ∧ s6 = .bool (FB i) ∧ Hid (LI a n c ba m bc w wr)) (fun _ t _ => k - (intOf t).toNat)
 case atStart => exact ⟨0, Nat.zero_le _, rfl, congrArg Value.bool HE0.out, HL⟩
 case round =>
  clear HL l0 l1 l2 l3
  obtain ⟨i, hi, rfl, rfl, HR⟩ := hrel
  obtain ⟨l0, l1, l2, l3⟩ := HR.out
  by_cases hlt : i < k
  ·have hlt' : (i : Int) < (k : Int) := by omega
   have HS1 := Hd (HST.out i)
   have HS2 := Hd (HSY.out i)
   cases hfb : FB i
   ·have HE := Hd (HS2.out hfb)
    go_upto_region 5 with (fail)
    (refine wp_region_calm (wr.heap.size) (by kernel_rfl) (by kernel_rfl) ?_; (repeat (first | go_big_quiet_step ((go_at_call 49; exact Calls.calm_same (in_any _ _ _ _))) | quiet_step ((go_at_call 49; exact Calls.calm_same (in_any _ _ _ _))))); refine wpQuiet_nil (wqn ?_); intro xq)
    go_wp2
    go_roundw
    case rel => exact ⟨i + 1, by omega, by go_num, by rw [HE.out], Hd (LI_step HR.out (Calm.below _))⟩
    case measure => simp [intOf]; omega
   ·obtain rfl := HLE.out i hfb
    have HE := Hd (HS1.out hfb)
    obtain ⟨fb, fo, rfl, hfB, d0⟩ := (HF.out.below l3).get hlt
    obtain ⟨b, off, rfl, hbB, c0, c1⟩ := (HS.out.below (l3.mono hBw)).get hlt
    have hbz : b < wr.heap.size := by omega
    have hfz : fb < wr.heap.size := by omega
    go_upto_region 5 with (fail)
    (refine wp_region_calm (wr.heap.size) (by kernel_rfl) (by kernel_rfl) ?_; (repeat (first | go_big_quiet_step ((go_at_call 49; exact Calls.calm_same (in_any _ _ _ _))) | quiet_step ((go_at_call 49; exact Calls.calm_same (in_any _ _ _ _))))); refine wpQuiet_nil (wqn ?_); intro xq)
    go_wp2
    go_roundw
    case rel => exact ⟨i + 1, by omega, by go_num, by rw [HE.out], Hd (LI_step HR.out (Calm.below _))⟩
    case measure => simp [intOf]; omega
  ·obtain rfl : i = k := by omega
   have hlt' : ¬ (i : Int) < (i : Int) := by omega
   rw [HEN.out]
   clear HST HSY HLE HEN HZ HE0
   by_cases hE : E = 0
   ·obtain ⟨hSh, rfl, hden⟩ := HSH.out hE
    have hn40 := hSh.n40
    have hm20 := hSh.m20
    have HSP := Lib.hid hSh
    have HFD := Lib.hid hden
    have HRY2 := Hd (fun (W : World) (hb : Below w.heap.size w W) (b : Bool) (h2 : AB = b) => HRY.out W hb hE b h2)
    clear hSh hden HRZ HRY HSH
    subst hE
    go_upto_region 10 with (go_at_call 50; refine (HCF.out wr l3).mono ?_; rintro e w2 ⟨rfl, hb2⟩)
    have HL2 := Hd (LI_step HR.out hb2)
    clear HR l0 l1 l2 l3 hb2 HCF
    obtain ⟨l0, l1, l2, l3⟩ := HL2.out
    go_wp2
    go_loopw [55] (fun t wr => ∃ j : Nat, j ≤ m ∧ t = .int .i64 (j : Int) ∧ Hid ((∀ q, q < j → inB (ofN (bs q) f) (bs q).lo (bs q).hi = true) ∧ LI a i c ba m bc w wr)) (fun t _ => m - (intOf t).toNat)
    case atStart => exact ⟨0, Nat.zero_le _, rfl, Lib.hid ⟨fun j h => by omega, HL2.out⟩⟩
    case round =>
     clear HL2 l0 l1 l2 l3
     obtain ⟨j, hj, rfl, HR⟩ := hrel
     obtain ⟨l0, l1, l2, l3⟩ := HR.out.2
     by_cases hlt2 : j < m
     ·have hlt2' : (j : Int) < (m : Int) := by omega
      obtain ⟨b, off, rfl, hbB, hat, hmem⟩ := HM.out.get hlt2
      obtain ⟨c0, c1, c2, c3⟩ := hat.below (l3.mono hBw) hbB
      rename World => wj
      have hbz : b < wj.heap.size := by have := l3.size; omega
      have HN := Hd (HNO.out j hlt2)
      have HA := Hd (fun h q (hq : q < j + 1) => show inB (ofN (bs q) f) (bs q).lo (bs q).hi = true from by (by_cases e : q = j; (subst e; exact h); exact HR.out.1 q (by omega)))
      have hs := HSP.out.set j hlt2
      have hw := HSP.out.weight j hlt2
      have hwn := HSP.out.wn j hlt2
      have hcn := setB_cn hs hn40
      have HSB := Hd (fun k hk => sum_bound hs hw HFD.out k hk)
      have HST := Hd (fun k => show sumN (fun k => (bs j).ws k * f ((bs j).cs k).toNat) (k + 1) = sumN (fun k => (bs j).ws k * f ((bs j).cs k).toNat) k + (bs j).ws k * f ((bs j).cs k).toNat from rfl)
      have HSA := Hd (fun k (hk : k < (bs j).cn) => setB_at hs hk)
      have HW := Lib.hid hw
      have H0 := Hd (show sumN (fun k => (bs j).ws k * f ((bs j).cs k).toNat) 0 = 0 from rfl)
      unfold ofN at HN HA
      have HLR := Lib.hid HR.out.2
      clear hat hs hw HR
      generalize bs j = p at *
      obtain ⟨qca, qcn, qcc, qwa, qwn, qwc, qlo, qhi, qcs, qws⟩ := p
      obtain ⟨qm1, qm2, qm3, qm4⟩ := hmem
      dsimp only at c0 c1 c2 c3 qm1 qm2 qm3 qm4 hwn HSB HST HW HSA hcn HN HA H0
      generalize sumN (fun k => qws k * f (qcs k).toNat) = SM at *
      subst hwn
      have HQ3 := Lib.hid qm3
      have HQ4 := Lib.hid qm4
      clear qm1 qm2 qm3 qm4
      go_upto_region 13 with (fail)
      have HX := Hd (show BX wj.heap.size qca qwn qcc qwa qwn qwc qlo qhi (wj.alloc (.cells #[.slice qca qwn qcc, .slice qwa qwn qwc, .int .i64 qlo, .int .i64 qhi] 62)) from BX_new)
      have HL3 := Hd (LI_step HLR.out (show Below wj.heap.size wj (wj.alloc (.cells #[.slice qca qwn qcc, .slice qwa qwn qwc, .int .i64 qlo, .int .i64 qhi] 62)) from (Below.refl _ _).alloc (Nat.le_refl _) _))
      clear HLR l0 l1 l2 l3 c0 c1 c2 c3
      generalize World.alloc wj _ = V2 at *
      obtain ⟨x0, x1, x2, x3, x4⟩ := HX.out
      go_wp2
      go_loopw [11, 62] (fun s t wr => ∃ q : Nat, q ≤ qwn ∧ t = .int .i64 (q : Int) ∧ s = .int .i64 (SM q) ∧ Hid (LI a i c (some ⟨b, off, none⟩) m bc w wr ∧ BX wj.heap.size qca qwn qcc qwa qwn qwc qlo qhi wr)) (fun _ t _ => qwn - (intOf t).toNat)
      case atStart => exact ⟨0, Nat.zero_le _, rfl, by rw [H0.out], Lib.hid ⟨HL3.out, HX.out⟩⟩
      case round =>
       clear HL3 HX x0 x1 x2 x3 x4
       obtain ⟨q, hq, rfl, rfl, HR⟩ := hrel
       obtain ⟨x0, x1, x2, x3, x4⟩ := HR.out.2
       obtain ⟨l0, l1, l2, l3⟩ := HR.out.1
       rename World => wx
       have hzr := l3.size
       by_cases hlt3 : q < qwn
       ·have hlt3' : (q : Int) < (qwn : Int) := by omega
        obtain ⟨wb, woff, rfl, hwB, d0⟩ := (HQ4.out.below (l3.mono hBw)).get hlt3
        obtain ⟨cb, coff, rfl, hcB, d1⟩ := (HQ3.out.below (l3.mono hBw)).get hlt3
        obtain ⟨g1, g2⟩ := HSA.out q hlt3
        have g3 : (qcs q).toNat < i := by omega
        obtain ⟨fb, foff, rfl, hfB, d2⟩ := (HF.out.below l3).get g3
        obtain ⟨r1, r2⟩ := HW.out q hlt3
        obtain ⟨r3, r4⟩ := HFD.out _ g3
        obtain ⟨r5, r6⟩ := HSB.out q hq
        have HSI := Hd (HST.out q)
        have k1 : wb < wx.heap.size := by omega
        have k2 : cb < wx.heap.size := by omega
        have k3 : fb < wx.heap.size := by omega
        generalize qws q = W at *
        generalize f (qcs q).toNat = F at *
        generalize qcs q = C at *
        have HP := Hd (show 0 ≤ W * F ∧ W * F ≤ 1000000 * 1000 from ⟨Int.mul_nonneg (by omega) (by omega), Int.mul_le_mul (by omega) (by omega) (by omega) (by omega)⟩)
        obtain ⟨p1, p2⟩ := HP.out
        have r7 : SM q ≤ 40000000000 := by omega
        have r8 : SM q + W * F ≤ 50000000000 := by omega
        have r9 : 0 ≤ SM q + W * F := by omega
        generalize hS : SM q = S at *
        have HSS := Lib.hid hS
        clear hS r6
        go_upto_region 17 with (fail)
        (refine wp_region_calm (wx.heap.size) (by kernel_rfl) (by kernel_rfl) ?_; (repeat (first | go_big_quiet_step (fail) | quiet_step (fail))); refine wpQuiet_nil (wqn ?_); intro xq)
        go_wp2
        go_roundw
        case rel => exact ⟨q + 1, by omega, by go_num, by rw [HSI.out], Lib.hid ⟨LI_step HR.out.1 (Calm.below _), BX_step HR.out.2 (Calm.below _)⟩⟩
        case measure => simp [intOf]; omega
       ·obtain rfl : q = qwn := by omega
        have hlt3' : ¬ (q : Int) < (q : Int) := by omega
        cases h1 : inB (SM q) qlo qhi
        ·have HE := Hd (HN.out h1)
         go_wp2_with (go_at_call 49; refine (in_any _ _ _ _).mono ?_; rintro e w' ⟨rfl, rfl⟩)
         exact HRY2.out _ l3 false HE.out
        ·have HE := Hd (HA.out h1)
         go_wp2_with (go_at_call 49; refine (in_any _ _ _ _).mono ?_; rintro e w' ⟨rfl, rfl⟩)
         go_roundw
         case rel => exact ⟨j + 1, by omega, by go_num, Lib.hid ⟨HE.out, HR.out.1⟩⟩
         case measure => simp [intOf]; omega
     ·obtain rfl : j = m := by omega
      have hlt2' : ¬ (j : Int) < (j : Int) := by omega
      have HE := Hd (HYES.out HR.out.1)
      go_wp2
      exact HRY2.out _ l3 true HE.out
   ·have hne : (E == 0) = false := by rw [beq_eq_false_iff_ne]; exact hE
    have hne2 : (E != 0) = true := by rw [bne, hne]; rfl
    have HE := Hd (fun (W : World) (hb : Below w.heap.size w W) => HRZ.out W hb hE)
    clear hE HRZ HRY HSH
    go_wp2_with (go_at_call 50; refine (HCF.out wr l3).mono ?_; rintro e w2 ⟨rfl, hb2⟩)
    exact HE.out _ (l3.trans (hb2.mono l3.size))
end Go.Proofs.YtgmpelhphnmknaaGreat
namespace Go.Proofs.YtgmpelhphnmknaaGreat
open Go Go.RowKit
theorem fOf_lst {n : Nat} {f : Nat → Int} {c : Nat} (hc : c < n) : fOf ((List.range n).map f) c = f c := by
 unfold fOf
 rw [List.getD_eq_getElem?_getD]
 simp [hc]
theorem td_all {n m : Nat} {ss : Nat → SV} {bs : Nat → BM} (hS : Shape n ss m bs) {f : Nat → Int} (h : ∀ c, c < n → (ss c).lo ≤ f c ∧ f c ≤ (ss c).hi) (ha : agreesB m bs f = true) : (List.range n).map f ∈ allF n ss m bs := by
 rw [allF_mem]
 refine ⟨?_, by simp, fun c hc => by rw [fOf_lst hc]; exact h c hc⟩
 rw [agreesB_congr hS (g := f) (fun c hc => fOf_lst hc)]
 exact ha
def bndT (n : Nat) (ss : Nat → SV) (m : Nat) (bs : Nat → BM) (i : Nat) : SV := bnd (fun f => fOf f i) (allF n ss m bs)
theorem td_bnd {n m : Nat} {ss : Nat → SV} {bs : Nat → BM} (hS : Shape n ss m bs) {f : Nat → Int} (h : ∀ c, c < n → (ss c).lo ≤ f c ∧ f c ≤ (ss c).hi) (ha : agreesB m bs f = true) {i : Nat} (hi : i < n) : (bndT n ss m bs i).lo ≤ f i ∧ f i ≤ (bndT n ss m bs i).hi := by
 unfold bndT
 have hm := td_all hS h ha
 have := (bnd_is (fun f => fOf f i) (fun e => by rw [e] at hm; cases hm)).all _ hm
 rwa [fOf_lst hi] at this
section
variable {a : Option Addr} {n c : Nat} {ba : Option Addr} {m bc : Nat} {ss : Nat → SV} {bs : Nat → BM} {w : World}
theorem td_agrees {fa : Option Addr} {k fc : Nat} {f : Nat → Int} (hS : Spans w.heap.size w a n ss) (hM : Beams w.heap.size w ba m bs) (hF : Ints w.heap.size w fa k f) (hk : k ≤ maxLen) (hC : checkN n ss m bs = 0) (hf : fieldB n ss k f = true) (ha : agreesB m bs f = true) :
  Calls Tryz.prog 18 #[imageV a n c ba m bc, .slice fa k fc] w fun e w' => e = .returned (.tuple #[.bool true, .int .i64 0]) ∧ Below w.heap.size w w' :=
 (AgreesI_any a n c ba m bc ss bs fa k fc f w w.heap.size (Nat.le_refl _) hS hM hF hk).mono fun e w' h => by
  unfold AgrRes at h
  rw [hf, checkF_true, hC, ha] at h
  exact h
theorem td_bounds (hS : Spans w.heap.size w a n ss) (hM : Beams w.heap.size w ba m bs) (hC : checkN n ss m bs = 0) (hA : allF n ss m bs ≠ []) :
  Calls Tryz.prog 19 #[imageV a n c ba m bc] w fun e w' => (∃ ob, e = .returned (.tuple #[.slice (some ⟨ob, 0, none⟩) n n, .int .i64 0]) ∧ ob < w'.heap.size ∧ ∀ i, i < n → w'.cell? ⟨ob, i * 2, none⟩ = some (.int .i64 (bndT n ss m bs i).lo) ∧ w'.cell? ⟨ob, i * 2 + 1, none⟩ = some (.int .i64 (bndT n ss m bs i).hi)) ∧ Below w.heap.size w w' :=
 (Bounds_any a n c ba m bc ss bs w w.heap.size (Nat.le_refl _) hS hM).mono fun e w' h' => by
  have h2 := h'.2
  rw [if_pos hC, if_neg hA] at h2
  obtain ⟨ob, he, _, hs⟩ := h2
  exact ⟨⟨ob, he, hs.lt, fun i hi => hs.cell hi⟩, h'.1⟩
end
end Go.Proofs.YtgmpelhphnmknaaGreat
