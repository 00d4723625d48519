/- The walk of image.Sum's closure, of widen with it. -/
import Derived.Test.YtollfpnfnciekaaDoorGmA
import Derived.Test.YtollfpnfnciekaaDoorRefAg
namespace Go.Proofs.YtollfpnfnciekaaDoor
open Go.RowKit Go.Shelf
set_option linter.unusedVariables false
set_option linter.unusedSimpArgs false
/-- a field's sum over some cells -/
def sumL (cs : Nat → Int) (k : Nat) (f : Nat → Int) : Int := sumN (fun i => f (cs i).toNat) k
theorem sumL_bound {n : Nat} {cs : Nat → Int} {k : Nat} (hs : setB n k cs = true) {f : Nat → Int} (hf : ∀ c, c < n → 0 ≤ f c ∧ f c ≤ 1000) : ∀ j, j ≤ k → 0 ≤ sumN (fun i => f (cs i).toNat) j ∧ sumN (fun i => f (cs i).toNat) j ≤ 1000 * (j : Int)
  | 0, _ => by simp [sumN]
  | j + 1, hj => by
    have ih := sumL_bound hs hf j (by omega)
    have h2 := setB_at hs (i := j) (by omega)
    have h3 := hf (cs j).toNat (by omega)
    rw [sumN]
    omega
set_option maxRecDepth 100000 in
set_option maxHeartbeats 1000000 in
theorem sumF_any (a : Option Addr) (n cap : Nat) (f : Nat → Int) (j : Int) (cb : Nat) (ca : Option Addr) (k cc : Nat) (cs : Nat → Int) (hn : n ≤ 40) (hs : setB n k cs = true) (hf : ∀ c, c < n → 0 ≤ f c ∧ f c ≤ 1000) (w : World) (hF : Ints w.heap.size w a n f) (hcb : w.cell? ⟨cb, 0, none⟩ = some (.slice ca k cc)) (hC : Ints w.heap.size w ca k cs) :
    Calls Tryd.prog 62 #[.slice a n cap, .int .i64 j, .pointer (some ⟨cb, 0, none⟩)] w fun e w' => e = .returned (.int .i64 (sumL cs k f)) ∧ w = w' := by
  have hk0 := setB_len hs
  have hk : k ≤ 40 := by omega
  have HSB := Lib.hid (fun q hq => sumL_bound hs hf q hq)
  have HST := Lib.hid (fun q => show sumN (fun i => f (cs i).toNat) (q + 1) = sumN (fun i => f (cs i).toNat) q + f (cs q).toNat from rfl)
  have HSA := Lib.hid (fun q (hq : q < k) => setB_at hs hq)
  have H0 := Lib.hid (show sumN (fun i => f (cs i).toNat) 0 = 0 from rfl)
  have HFD := Lib.hid hf
  unfold sumL
  generalize sumN (fun i => f (cs i).toNat) = SM at *
  have HF := Lib.hid hF
  have HC := Lib.hid hC
  clear hs hf hF hC
  go_enter Tryd.func62, Tryd.ntmps62
  go_wp2
  go_loopw [6, 11] (fun s t wr => ∃ q : Nat, q ≤ k ∧ t = .int .i64 (q : Int) ∧ s = .int .i64 (SM q) ∧ wr = w) (fun _ t _ => k - (intOf t).toNat)
  case atStart => exact ⟨0, Nat.zero_le _, rfl, by rw [H0.out], rfl⟩
  case round =>
    obtain ⟨q, hq, rfl, rfl, rfl⟩ := hrel
    by_cases hlt : q < k
    · have hlt' : (q : Int) < (k : Int) := by omega
      obtain ⟨b, off, rfl, hb, c0⟩ := HC.out.get hlt
      obtain ⟨g1, g2⟩ := HSA.out q hlt
      have g3 : (cs q).toNat < n := by omega
      obtain ⟨fb, fo, rfl, hfb, d0⟩ := HF.out.get g3
      obtain ⟨r3, r4⟩ := HFD.out _ g3
      obtain ⟨r5, r6⟩ := HSB.out q hq
      have HSI := Lib.hid (HST.out q)
      generalize f (cs q).toNat = F at *
      generalize cs q = C at *
      have r7 : SM q ≤ 40000 := by omega
      generalize hS : SM q = S at *
      have HSS := Lib.hid hS
      clear hS r6
      go_wp2
      go_roundw
      case rel => exact ⟨q + 1, by omega, by go_num, by rw [HSI.out], by first | trivial | rfl⟩
      case measure => simp [intOf]; omega
    · obtain rfl : q = k := by omega
      have hlt' : ¬ (q : Int) < (q : Int) := by omega
      go_wp2
      go_ret
      exact ⟨rfl, rfl⟩
set_option maxRecDepth 100000 in
set_option maxHeartbeats 2000000 in
theorem widenS_any (cb ob k kc : Nat) (g : Nat → SV) (known : Bool) (xa : Option Addr) (n xc : Nat) (num : Nat → Int) (hk : k ≤ 1000000) (w : World) (hS : SR 41 w ob k g)
    (hnum : ∀ i, i < k → ∀ W', w.grownBy W' (some ob) → Calls Tryd.prog 62 #[.slice xa n xc, .int .i64 (i : Int), .pointer (some ⟨cb, 0, none⟩)] W' fun e W'' => e = .returned (.int .i64 (num i)) ∧ Below W'.heap.size W' W'') :
    Calls Tryd.prog 45 #[.slice (some ⟨ob, 0, none⟩) k kc, .bool known, .slice xa n xc, .func (.func 62) #[] #[.pointer (some ⟨cb, 0, none⟩)]] w fun e w' => e = .returned (.tuple #[]) ∧ w.grownBy w' (some ob) ∧ SR 41 w' ob k (fun i => widS known (g i) (num i)) := by
  have HS := Lib.hid hS
  have HNUM := Lib.hid hnum
  clear hS hnum
  go_enter Tryd.func45, Tryd.ntmps45
  go_wp2
  go_loopw [12] (fun t wr => ∃ i : Nat, i ≤ k ∧ t = .int .i64 (i : Int) ∧ Hid (w.grownBy wr (some ob) ∧ SR 41 wr ob k (fun j => if j < i then widS known (g j) (num j) else g j))) (fun t _ => k - (intOf t).toNat)
  case atStart => exact ⟨0, Nat.zero_le _, rfl, Lib.hid ⟨⟨rfl, rfl, rfl, Nat.le_refl _, fun _ _ _ => rfl⟩, HS.out.congr (fun j _ => by simp)⟩⟩
  case round =>
    clear HS
    obtain ⟨i, hi, rfl, HX⟩ := hrel
    by_cases hlt : i < k
    · have hlt' : (i : Int) < (k : Int) := by omega
      have HC := Lib.hid (HNUM.out i hlt wr HX.out.1)
      cases known
      · go_wp2_with (fail)
        refine HC.out.mono ?_
        rintro e w2 ⟨rfl, hb⟩
        have HSR := Lib.hid (HX.out.2.step hb)
        have HG := Lib.hid (show w.grownBy w2 (some ob) from ⟨hb.os.trans HX.out.1.os, hb.tape.trans HX.out.1.tape, hb.output.trans HX.out.1.output, Nat.le_trans HX.out.1.size hb.size, fun b hl hn => (hb.block b (Nat.lt_of_lt_of_le hl HX.out.1.size)).trans (HX.out.1.block b hl hn)⟩)
        clear HC HX hb
        obtain ⟨c0, c1⟩ := HSR.out.cell hlt
        have f0 := HSR.out.frozen (i * 2)
        have f1 := HSR.out.frozen (i * 2 + 1)
        dsimp only
        generalize hx : num i = x at *
        have HXX := Lib.hid hx
        clear hx
        go_upto_region 6 with (fail)
        have HSR2 := Lib.hid (HSR.out.set hlt x x)
        have HGV := Lib.hid (grown_set (o := i * 2 + 1) (grown_set (o := i * 2) HG.out (.int .i64 x)) (.int .i64 x))
        have hzz : ((w2.setCell ⟨ob, i * 2, none⟩ (.int .i64 x)).setCell ⟨ob, i * 2 + 1, none⟩ (.int .i64 x)).heap.size = w2.heap.size := by simp
        clear c0 c1 f0 f1
        generalize (w2.setCell ⟨ob, i * 2, none⟩ (.int .i64 x)).setCell ⟨ob, i * 2 + 1, none⟩ (.int .i64 x) = V at *
        obtain ⟨c0, c1⟩ := HSR2.out.cell hlt
        rw [if_pos rfl] at c0 c1
        have f0 := HSR2.out.frozen (i * 2)
        have f1 := HSR2.out.frozen (i * 2 + 1)
        go_region
        have HW1 := Lib.hid (grown_drew (grown_set (o := i * 2 + 1) (grown_set (o := i * 2) HGV.out (.int .i64 x)) (.int .i64 x)))
        have HW2 := Lib.hid (SR.drew (HSR2.out.set hlt x x))
        clear HSR HSR2 HGV HG c0 c1 f0 f1 hzz
        generalize World.drew _ = V2 at *
        go_wp2
        go_roundw
        case rel => exact ⟨i + 1, by omega, by go_num, Lib.hid ⟨HW1.out, HW2.out.congr (fun j _ => by (have hw := wid_step (known := false) (g := g) (num := num) (j := j) (i := i) (x := x) HXX.out.symm (s := ⟨x, x⟩) rfl; by_cases e : j = i; (rw [if_pos e] at hw ⊢; exact hw); (rw [if_neg e] at hw ⊢; rw [if_neg e]; exact hw)))⟩⟩
        case measure => simp [intOf]; omega
      · go_wp2_with (fail)
        refine HC.out.mono ?_
        rintro e w2 ⟨rfl, hb⟩
        have HSR := Lib.hid (HX.out.2.step hb)
        have HG := Lib.hid (grown_below HX.out.1 hb)
        clear HC HX hb
        obtain ⟨c0, c1⟩ := HSR.out.cell hlt
        rw [if_neg (Nat.lt_irrefl i)] at c0 c1
        have f0 := HSR.out.frozen (i * 2)
        have f1 := HSR.out.frozen (i * 2 + 1)
        dsimp only
        generalize hx : num i = x at *
        have HXX := Lib.hid hx
        clear hx
        go_upto_region 6 with (fail)
        go_region
        have HW1 := Lib.hid (grown_drew (grown_set (o := i * 2 + 1) (grown_set (o := i * 2) HG.out (.int .i64 (if x < (g i).lo then x else (g i).lo))) (.int .i64 (if (g i).hi < x then x else (g i).hi))))
        have HW2 := Lib.hid (SR.drew (HSR.out.set hlt (if x < (g i).lo then x else (g i).lo) (if (g i).hi < x then x else (g i).hi)))
        clear HSR HG c0 c1 f0 f1
        generalize World.drew _ = V2 at *
        go_wp2
        go_roundw
        case rel => exact ⟨i + 1, by omega, by go_num, Lib.hid ⟨HW1.out, HW2.out.congr (fun j _ => wid_step (known := true) HXX.out.symm rfl)⟩⟩
        case measure => simp [intOf]; omega
    · obtain rfl : i = k := by omega
      have hlt' : ¬ (i : Int) < (i : Int) := by omega
      have HF := Lib.hid (HX.out.2.congr (g := fun j => widS known (g j) (num j)) (fun j hj => by rw [if_pos hj]))
      go_wp2
      go_end0
      exact ⟨rfl, HX.out.1, HF.out⟩
end Go.Proofs.YtollfpnfnciekaaDoor
