/- Texts put together: ToFlxR, ChShelf, ShS, ToLnA. -/
import Derived.Test.YtgmpelhphnmknaaGreatQaw
import Derived.Shelf.SlSortCmp.NoneTotal
import Derived.Shelf.SlicesG.Cmp
import Derived.Ground.SlsfProg
import Derived.Ground.SlgcProg
import Derived.Test.YtgmpelhphnmknaaGreatProg
import Derived.Test.YtgmpelhphnmknaaGreatQal
set_option maxRecDepth 100000
set_option maxHeartbeats 8000000
set_option linter.unusedVariables false
set_option linter.unusedSimpArgs false
namespace Go.Proofs.YtgmpelhphnmknaaGreat
open Go Go.RowKit Go.Shelf
def fxSt (s : SK) (tn : Nat) (t : Nat → RW) (bin : Nat) (p : Nat → SPL) (pn : Nat) : List FS := cvRun (mLo s tn t bin p pn) (mHi s tn t bin p pn) (cvIn tn t)
def fFr (S : List FS) (i : Nat) : Int := (S.getD i FS.zero).fr
def fLw (S : List FS) (i : Nat) : Int := (S.getD i FS.zero).lo
def fHg (S : List FS) (i : Nat) : Int := (S.getD i FS.zero).hi
def OpRes (S : List FS) (L H : Int) (w : World) (e : Ending) (w' : World) : Prop :=
 Below w.heap.size w w' ∧ (if opI S.length (fLw S) (fHg S) L H < S.length then e = .returned (.tuple #[spV (fFr S (opI S.length (fLw S) (fHg S) L H)) (opTo S.length (fFr S) (fLw S) (fHg S) L H), .int .i64 0]) else e = .returned (.tuple #[spV 0 0, .int .i64 5]))
theorem opJ_at {K : Nat} {lo hi : Nat → Int} {L H : Int} {k : Nat} (h1 : opI K lo hi L H ≤ k) (h2 : k ≤ K) (ha : ∀ j, opI K lo hi L H ≤ j → j < k → agrB lo hi L H j = true) (hn : k < K → agrB lo hi L H k = false) : opJ K lo hi L H = k := by
 unfold opJ
 generalize opI K lo hi L H = i at *
 have : fstN (K - i) (fun d => !agrB lo hi L H (i + d)) = k - i := by
  rcases Nat.lt_or_ge k K with h3 | h3
  ·refine fstN_at (by omega) (fun j hj => ?_) ?_
   ·rw [ha (i + j) (by omega) (by omega)]
    rfl
   ·rw [show i + (k - i) = k by omega, hn h3]
    rfl
  ·obtain rfl : k = K := by omega
   refine fstN_none fun j hj => ?_
   rw [ha (i + j) (by omega) (by omega)]
   rfl
 rw [this]
 omega
def opH (S : List FS) (i k : Nat) : Int := if k = i then 0 else if k < S.length then fFr S k - 1 else 1000000
theorem fr_bound {S : List FS} {el eh : Int → Int} (h : CurveOk S.length (fFr S) (fLw S) (fHg S) el eh) {i : Nat} (hi : i < S.length) : 0 ≤ fFr S i ∧ fFr S i ≤ 1000000 := by
 have h1 := h.rises (i := 0) (d := i) (by omega)
 rw [h.zero, Nat.zero_add] at h1
 exact ⟨h1, h.deep i hi⟩
structure OpB (s : SK) (w : World) (L H : Int) (W : World) : Prop where
 sky : W.heap[w.heap.size]? = some (.cells #[.int .i64 s.P, .slice s.ba s.bn s.bc, .int .i64 s.be0, .int .i64 s.be1, .int .i64 s.al0, .int .i64 s.al1] 30)
 rates : W.heap[w.heap.size + 1]? = some (.cells #[.int .i64 L, .int .i64 H] 28)
 res : W.heap[w.heap.size + 1 + 1]? = some (.cells #[.int .i64 0, .int .i64 0] 28)
 below : Below w.heap.size w W
theorem OpB.lt {s : SK} {w W : World} {L H : Int} (h : OpB s w L H W) : w.heap.size + 3 ≤ W.heap.size := by
 have := (blkL h.res)
 omega
theorem OpB.step {s : SK} {w W W' : World} {L H : Int} (h : OpB s w L H W) (hb : Below W.heap.size W W') : OpB s w L H W' :=
 ⟨keep_at h.sky hb, keep_at h.rates hb, keep_at h.res hb, h.below.trans (hb.mono h.below.size)⟩
theorem OpB.set {s : SK} {w W : World} {L H : Int} (h : OpB s w L H W) {ob : Nat} (ho : w.heap.size + 3 ≤ ob) (j : Nat) (v : Value) : OpB s w L H (W.setCell ⟨ob, j, none⟩ v) :=
 ⟨(heap_setCell_other W ⟨ob, j, none⟩ _ _ (by dsimp only; omega)).trans h.sky, (heap_setCell_other W ⟨ob, j, none⟩ _ _ (by dsimp only; omega)).trans h.rates, (heap_setCell_other W ⟨ob, j, none⟩ _ _ (by dsimp only; omega)).trans h.res, h.below.setCell (by dsimp only; omega) _⟩
theorem OpB.grow {s : SK} {w W W' : World} {L H : Int} {mb : Nat} (h : OpB s w L H W) (hg : W.grownBy W' (some mb)) (hm : w.heap.size + 3 ≤ mb) : OpB s w L H W' :=
 ⟨grown_at hg (by omega) h.sky, grown_at hg (by omega) h.rates, grown_at hg (by omega) h.res, h.below.trans (grown_bel hg (by omega) h.below.size)⟩
theorem Opacity_any (s : SK) (ta : Option Addr) (tn tc : Nat) (t : Nat → RW) (pa : Option Addr) (pn pc : Nat) (p : Nat → SPL) (bin : Nat) (L H : Int) (B : Nat) (w : World) (hI : FxIn s ta tn t pa pn p B w) (hbin : bin < s.bn) (hr : 0 ≤ L ∧ L ≤ H ∧ H ≤ s.P) (hC : CurveOk (fxSt s tn t bin p pn).length (fFr (fxSt s tn t bin p pn)) (fLw (fxSt s tn t bin p pn)) (fHg (fxSt s tn t bin p pn)) (mLo s tn t bin p pn) (mHi s tn t bin p pn)) :
  Calls Tryz.prog 15 #[.agg s.cells, .slice ta tn tc, .int .i64 (bin : Int), .agg #[.int .i64 L, .int .i64 H], .slice pa pn pc] w (OpRes (fxSt s tn t bin p pn) L H w) := by
 have HBL := Hd (fun (W : World) (hb : Below B w W) => below_any s ta tn tc t (bin : Int) 0 B W (hI.below hb).le (hI.below hb).sky hI.sok (hI.below hb).tab hI.tl hI.tok ⟨by omega, by omega⟩ ⟨by decide, by decide⟩)
 have HSP := Hd (fun (W : World) (hb : Below B w W) => spelled_any pa pn pc p B W (hI.below hb).le (hI.below hb).sp hI.pl hI.pok)
 have HSN := Hd (fun (W : World) => spanned_any L H 0 s.P W)
 rw [fspanB_true hr] at HSN
 have HCV := Hd (fun (gb mb : Nat) (W : World) (hb : Below B w W) (hG : GrdAt s ta tn tc gb mb W) (hm : B ≤ mb) (hM : W.heap[mb]? = some (.map #[] 0)) => show Calls Tryz.prog 41 _ W (CurveRes W mb (fxSt s tn t bin p pn)) from curve_any s ta tn tc gb mb t pa pn pc p bin B W (hI.below hb) hG hm hM hbin)
 have hlen : (fxSt s tn t bin p pn).length ≤ 200 := by
  have h1 := cvRun_len (mLo s tn t bin p pn) (mHi s tn t bin p pn) (cvIn tn t)
  have h2 : (cvIn tn t).length ≤ (cvAt tn t).length := (List.takeWhile_sublist (l := cvAt tn t) fun x => decide (x ≤ 1000000)).length_le
  have h3 := cvAt_len tn t
  have h4 := hI.tl
  unfold fxSt
  omega
 have HFB := Hd (fun i (hi : i < (fxSt s tn t bin p pn).length) => fr_bound hC hi)
 generalize fxSt s tn t bin p pn = S at *
 have HIX := Hd (fun (a : Option Addr) (c b : Nat) (W : World) (hT : RWs W.heap.size W a S.length (tS S)) (hx : W.heap[b]? = some (.cells #[.int .i64 L, .int .i64 H] 28)) => indexS_any a S.length c (tS S) L H b W.heap.size W (Nat.le_refl _) hlen hT hx)
 have HTS := Hd (fun (i b : Nat) (W : World) (hx : W.heap[b]? = some (.cells #[.int .i64 L, .int .i64 H] 28)) => show Calls Tryz.prog 42 #[(tS S i).agg, .pointer (some ⟨b, 0, none⟩)] W fun e w' => e = .returned (.bool (agrB (fLw S) (fHg S) L H i)) ∧ Below W.heap.size W w' from testS_any (tS S i) L H b W hx)
 have HRY := Hd (fun (W : World) (hb : Below w.heap.size w W) (h : opI S.length (fLw S) (fHg S) L H < S.length) => show OpRes S L H w (.returned (.tuple #[.agg #[.int .i64 (fFr S (opI S.length (fLw S) (fHg S) L H)), .int .i64 (opTo S.length (fFr S) (fLw S) (fHg S) L H)], .int .i64 0])) W from ⟨hb, by rw [if_pos h]; rfl⟩)
 have HRN := Hd (fun (W : World) (hb : Below w.heap.size w W) (h : ¬ opI S.length (fLw S) (fHg S) L H < S.length) => show OpRes S L H w (.returned (.tuple #[.agg #[.int .i64 0, .int .i64 0], .int .i64 5])) W from ⟨hb, by rw [if_neg h]; rfl⟩)
 have HOI := Hd (show fstN S.length (fun i => decide ((tS S i).lo ≤ H ∧ L ≤ (tS S i).hi)) = opI S.length (fLw S) (fHg S) L H from rfl)
 rw [HOI.out] at HIX
 have HBw := Lib.hid hI.le
 obtain ⟨I, hII⟩ : ∃ I, opI S.length (fLw S) (fHg S) L H = I := ⟨_, rfl⟩
 have HJ := Hd (fun k (h1 : I ≤ k) (h2 : k ≤ S.length) (ha : ∀ j, I ≤ j → j < k → agrB (fLw S) (fHg S) L H j = true) (hn : k < S.length → agrB (fLw S) (fHg S) L H k = false) => show opJ S.length (fLw S) (fHg S) L H = k from opJ_at (by rw [hII]; exact h1) h2 (by rw [hII]; exact ha) hn)
 have HOT := Hd (show opTo S.length (fFr S) (fLw S) (fHg S) L H = if opJ S.length (fLw S) (fHg S) L H < S.length then fFr S (opJ S.length (fLw S) (fHg S) L H) - 1 else 1000000 from rfl)
 have HIA := Hd (fun (h : I < S.length) => show agrB (fLw S) (fHg S) L H I = true from by rw [← hII] at h ⊢; exact fst_is h)
 rw [hII] at HIX HRY HRN
 generalize opTo S.length (fFr S) (fLw S) (fHg S) L H = OT at *
 generalize opJ S.length (fLw S) (fHg S) L H = OJ at *
 generalize agrB (fLw S) (fHg S) L H = ag at *
 obtain ⟨h1, h2, h3, h4⟩ := fx_three w (.cells #[.int .i64 s.P, .slice s.ba s.bn s.bc, .int .i64 s.be0, .int .i64 s.be1, .int .i64 s.al0, .int .i64 s.al1] 30) (.cells #[.int .i64 L, .int .i64 H] 28) (.cells #[.int .i64 0, .int .i64 0] 28)
 have HB0 := Hd (show OpB s w L H _ from ⟨h2, h3, h4, h1⟩)
 generalize OpRes S L H w = RES at *
 clear hI hbin hr hC HOI h1 h2 h3 h4
 unfold SK.cells at *
 go_enter Tryz.func15, Tryz.ntmps15
 go_upto_region 1 with (fail)
 generalize World.alloc (World.alloc (World.alloc w _) _) _ = V at *
 obtain ⟨k0, k1, k2, k3, k4, k5⟩ := cr6 HB0.out.sky
 simp only [hnq] at k0 k1 k2 k3 k4 k5
 go_upto_region 2 with (go_at_call 36; refine (HBL.out _ (HB0.out.below.mono HBw.out)).mono ?_; rintro e W1 ⟨hb1, gb, mb, h1, h2, rfl, hG, hM⟩; have HB1 := Hd (HB0.out.step hb1); have HG := Lib.hid hG; have HM := Lib.hid hM; have hl0 := HB0.out.lt; have hmb : w.heap.size + 3 ≤ mb := (by omega); clear hb1 hG hM h1 h2 hl0 k0 k1 k2 k3 k4 k5 HB0 HBL)
 have k0 := cell_of_row _ _ 0 _ _ _ HB1.out.sky
 obtain ⟨r0, r1⟩ := cr2 HB1.out.rates
 simp only [hnq] at k0 r0 r1
 go_upto_region 4 with (first
  | (go_at_call 37; refine (HSP.out _ (HB1.out.below.mono HBw.out)).mono ?_; rintro e W2 ⟨rfl, hb2⟩; have HB2 := Hd (HB1.out.step hb2); have HG2 := Hd (GrdAt.step HG.out hb2); have HM2 := Hd (keep_at HM.out hb2); clear hb2 HB1 HG HM k0 r0 r1; have k0 := cell_of_row _ _ 0 _ _ _ HB2.out.sky; obtain ⟨r0, r1⟩ := cr2 HB2.out.rates; simp only [hnq] at k0 r0 r1)
  | (go_at_call 40; refine (HSN.out _).mono ?_; rintro e W3 ⟨rfl, hb3⟩; have HB3 := Hd (HB2.out.step hb3); have HG3 := Hd (GrdAt.step HG2.out hb3); have HM3 := Hd (keep_at HM2.out hb3); clear hb3 HB2 HG2 HM2 k0 r0 r1))
 have HCV2 := Hd (HCV.out gb mb W3 (HB3.out.below.mono HBw.out) HG3.out (by have := HBw.out; omega) HM3.out)
 clear HCV HSP HSN HG3 HM3
 go_upto_region 6 with (go_at_call 41; refine HCV2.out.mono ?_; rintro e W4 ⟨a, c, rfl, hown, hg4⟩; have HB4 := Hd (HB3.out.grow hg4 hmb); have HRW := Hd (rws_of_own hown); clear hown hg4 HB3 HCV2)
 have HIX2 := Hd (HIX.out a c (w.heap.size + 1) W4 HRW.out HB4.out.rates)
 clear HIX
 by_cases hop : I < S.length
 ·rw [if_pos hop] at HIX2
  have hop' : (I : Int) < (S.length : Int) := by omega
  have HRY2 := Hd (fun (W : World) (hb : Below w.heap.size w W) => HRY.out W hb hop)
  have HIA2 := Hd (HIA.out hop)
  clear HRY HRN HIA
  go_upto_region 7 with (go_at_call 43; refine HIX2.out.mono ?_; rintro e W5 ⟨rfl, hb5⟩; have HB5 := Hd (HB4.out.step hb5); have HRW5 := Hd ((HRW.out.below hb5).up hb5.size); clear hb5 HB4 HRW)
  obtain ⟨b, off, rfl, hbB, c0, _, _⟩ := HRW5.out.get hop
  have hfb := HFB.out I hop
  obtain ⟨fI, hfI⟩ : ∃ v, (tS S I).key = v := ⟨_, rfl⟩
  have HFI := Hd (show fFr S I = fI from hfI)
  rw [hfI] at c0
  clear hfI
  have HRY3 := Hd (fun (W : World) (hb : Below w.heap.size w W) => HRY2.out W hb)
  rw [HFI.out] at HRY3
  clear HRY2
  go_upto_region 10 with (fail)
  have hb6 := al_below W5 (.cells #[.int .i64 fI, .int .i64 0] 28)
  have HOB0 := Hd (heap_alloc_new W5 (.cells #[.int .i64 fI, .int .i64 0] 28))
  have HB6 := Hd (HB5.out.step hb6)
  have HRW6 := Hd (HRW5.out.below hb6)
  have HOL := Hd (HB5.out.lt)
  clear hb6 HB5 HRW5 c0 HIX2
  generalize World.alloc W5 _ = V6 at *
  generalize W5.heap.size = ob at *
  go_wp2
  go_loopw [18] (fun s18 wr => ∃ k : Nat, I ≤ k ∧ k ≤ S.length ∧ s18 = .int .i64 (k : Int) ∧ Hid (∀ j, I ≤ j → j < k → ag j = true) ∧ Hid (OpB s w L H wr ∧ wr.heap[ob]? = some (.cells #[.int .i64 fI, .int .i64 (opH S I k)] 28) ∧ RWs ob wr (some ⟨b, off, none⟩) S.length (tS S) ∧ ob < wr.heap.size)) (fun s18 _ => S.length - (intOf s18).toNat)
  case atStart => exact ⟨I, Nat.le_refl _, by omega, rfl, Hd (fun j h1 h2 => by omega), Lib.hid ⟨HB6.out, by unfold opH; rw [if_pos rfl]; exact HOB0.out, HRW6.out, (blkL HOB0.out)⟩⟩
  case round =>
   clear HB6 HOB0 HRW6
   obtain ⟨k, hk1, hk2, rfl, HA, HW⟩ := hrel
   have hol := HOL.out
   by_cases hlt : k < S.length
   ·have hlt' : (k : Int) < (S.length : Int) := by omega
    obtain ⟨b1, off1, hba, hbB1, c0, c1, c2⟩ := HW.out.2.2.1.get hlt
    injection hba with hba
    injection hba with e1 e2
    subst e1
    subst e2
    have HTk := Hd (HTS.out k (w.heap.size + 1) wr HW.out.1.rates)
    have hsl := Lib.hid hlen
    cases hag : ag k with
    | true =>
     rw [hag] at HTk
     have HA2 := Hd (show ∀ j, I ≤ j → j < k + 1 → ag j = true from fun j h1 h2 => by
      by_cases e : j = k
      ·rw [e]; exact hag
      ·exact HA.out j h1 (by omega))
     obtain ⟨rk, hrk⟩ : ∃ r, tS S k = r := ⟨_, rfl⟩
     rw [hrk] at c0 c1 c2 HTk
     obtain ⟨key, lo, hi⟩ := rk
     unfold RW.agg at HTk
     dsimp only at c0 c1 c2 HTk
     have HB7 := HW
     clear HW hag hrk HA
     go_upto_region 13 with (go_at_call 42; refine HTk.out.mono ?_; rintro e W7 ⟨rfl, hb7⟩; have HB8 := Hd (HB7.out.1.step hb7); have HOB := Hd (keep_at HB7.out.2.1 hb7); have HR8 := Hd (HB7.out.2.2.1.below (hb7.mono (Nat.le_of_lt HB7.out.2.2.2))); clear hb7 HB7 c0 c1 c2 HTk)
     obtain ⟨p0, p1⟩ := cr2 HOB.out
     have g1 := frozen_of_row _ _ 1 _ _ HOB.out
     simp only [hnq] at p0 p1
     have HB9 := Hd (HB8.out.set hol 1 (.int .i64 1000000))
     have HO9 := Hd (heap_setCell_same W7 _ 1 _ _ (.int .i64 1000000) HOB.out)
     have HR9 := Hd (HR8.out.below ((Below.refl ob W7).setCell (p := ⟨ob, 1, none⟩) (Nat.le_refl _) (.int .i64 1000000)))
     clear HB8 HOB HR8
     go_upto_region 14 with (fail)
     clear p0 p1 g1
     generalize World.setCell W7 _ _ = V8 at *
     by_cases hk3 : k + 1 < S.length
     ·have hk3' : (k : Int) + 1 < (S.length : Int) := by omega
      obtain ⟨b2, off2, hba, hbB2, d0, _, _⟩ := HR9.out.get hk3
      injection hba with hba
      injection hba with e1 e2
      subst e1
      subst e2
      have hfb2 := HFB.out (k + 1) hk3
      have HF1 := Hd (show opH S I (k + 1) = fFr S (k + 1) - 1 from by unfold opH; rw [if_neg (by omega), if_pos hk3])
      obtain ⟨f1, hf1⟩ : ∃ v, (tS S (k + 1)).key = v := ⟨_, rfl⟩
      have hf2 : fFr S (k + 1) = f1 := hf1
      rw [hf1] at d0
      rw [hf2] at hfb2 HF1
      clear hf1 hf2
      have g1 := frozen_of_row _ _ 1 _ _ HO9.out
      have p1 := cell_of_row _ _ 1 _ _ _ HO9.out
      have hz9 := (blkL HO9.out)
      have HB10 := Hd (HB9.out.set hol 1 (.int .i64 (f1 - 1)))
      have HO10 := Hd (heap_setCell_same V8 _ 1 _ _ (.int .i64 (f1 - 1)) HO9.out)
      have HR10 := Hd (HR9.out.below ((Below.refl ob V8).setCell (p := ⟨ob, 1, none⟩) (Nat.le_refl _) (.int .i64 (f1 - 1))))
      have HZ10 := Hd (show ob < (V8.setCell ⟨ob, 1, none⟩ (.int .i64 (f1 - 1))).heap.size from by simpa [World.setCell] using hz9)
      clear HB9 HO9 HR9
      go_wp2
      go_roundw
      case rel => first | exact ⟨k + 1, by omega, by omega, by go_num, HA2, Lib.hid ⟨HB10.out, by rw [HF1.out]; exact HO10.out, HR10.out, HZ10.out⟩⟩ | ((repeat apply Exists.intro); exact ⟨⟨k + 1, by omega, by omega, by go_num, HA2, Lib.hid ⟨HB10.out, by rw [HF1.out]; exact HO10.out, HR10.out, HZ10.out⟩⟩, rfl⟩)
      case measure => simp [intOf]; omega
     ·have hk3' : ¬ (k : Int) + 1 < (S.length : Int) := by omega
      have HF1 := Hd (show opH S I (k + 1) = 1000000 from by unfold opH; rw [if_neg (by omega), if_neg hk3])
      have HZ9 := Hd ((blkL HO9.out))
      go_wp2
      go_roundw
      case rel => first | exact ⟨k + 1, by omega, by omega, by go_num, HA2, Lib.hid ⟨HB9.out, by rw [HF1.out]; exact HO9.out, HR9.out, HZ9.out⟩⟩ | ((repeat apply Exists.intro); exact ⟨⟨k + 1, by omega, by omega, by go_num, HA2, Lib.hid ⟨HB9.out, by rw [HF1.out]; exact HO9.out, HR9.out, HZ9.out⟩⟩, rfl⟩)
      case measure => simp [intOf]; omega
    | false =>
     have HJk := Hd (HJ.out k hk1 hk2 HA.out (fun _ => hag))
     have hki : k ≠ I := fun e => by rw [e, HIA2.out] at hag; cases hag
     have HOE := Hd (show opH S I k = OT from by rw [HOT.out, HJk.out]; unfold opH; rw [if_neg hki])
     rw [HOE.out] at HW
     rw [hag] at HTk
     obtain ⟨rk, hrk⟩ : ∃ r, tS S k = r := ⟨_, rfl⟩
     rw [hrk] at c0 c1 c2 HTk
     obtain ⟨key, lo, hi⟩ := rk
     unfold RW.agg at HTk
     dsimp only at c0 c1 c2 HTk
     have HB7 := HW
     clear HW hag hrk HA
     go_upto_region 16 with (go_at_call 42; refine HTk.out.mono ?_; rintro e W7 ⟨rfl, hb7⟩; have HB8 := Hd (HB7.out.1.step hb7); have HOB := Hd (keep_at HB7.out.2.1 hb7); clear hb7 HB7 c0 c1 c2 HTk)
     (((obtain ⟨a0, a1⟩ := cr2 HOB.out; simp only [hnq] at a0 a1); obtain ⟨r0, r1⟩ := cr2 HB8.out.res; simp only [hnq] at r0 r1; obtain ⟨f0, f1⟩ := fr2 HB8.out.res; have HRW6 := Hd (heap_setCell_same _ _ 1 _ _ (.int .i64 OT) (heap_setCell_same W7 _ 0 _ _ (.int .i64 fI) HB8.out.res)); have HBE := Hd ((HB8.out.below.setCell (p := ⟨w.heap.size + 1 + 1, 0, none⟩) (by dsimp only; omega) (.int .i64 fI)).setCell (p := ⟨w.heap.size + 1 + 1, 1, none⟩) (by dsimp only; omega) (.int .i64 OT)); go_wp2; generalize World.setCell (World.setCell W7 _ _) _ _ = V6 at *; obtain ⟨q0, q1⟩ := cr2 HRW6.out; exact bodyPost_ret (v := .tuple #[.agg #[.int .i64 fI, .int .i64 OT], .int .i64 0]) (by simp [results, Tryz.results15, go_sem, q0, q1]) rfl (HRY3.out _ HBE.out)))
   ·obtain rfl : k = S.length := by omega
    have hlt' : ¬ ((S.length : Nat) : Int) < (S.length : Int) := by omega
    have HJk := Hd (HJ.out S.length hk1 (Nat.le_refl _) HA.out (fun h => by omega))
    have HOE := Hd (show opH S I S.length = OT from by rw [HOT.out, HJk.out]; unfold opH; rw [if_neg (by omega)])
    rw [HOE.out] at HW
    have HB8 := Lib.hid HW.out.1
    have HOB := Lib.hid HW.out.2.1
    clear HW HA
    go_upto_region 16 with (fail)
    (((obtain ⟨a0, a1⟩ := cr2 HOB.out; simp only [hnq] at a0 a1); obtain ⟨r0, r1⟩ := cr2 HB8.out.res; simp only [hnq] at r0 r1; obtain ⟨f0, f1⟩ := fr2 HB8.out.res; have HRW6 := Hd (heap_setCell_same _ _ 1 _ _ (.int .i64 OT) (heap_setCell_same wr _ 0 _ _ (.int .i64 fI) HB8.out.res)); have HBE := Hd ((HB8.out.below.setCell (p := ⟨w.heap.size + 1 + 1, 0, none⟩) (by dsimp only; omega) (.int .i64 fI)).setCell (p := ⟨w.heap.size + 1 + 1, 1, none⟩) (by dsimp only; omega) (.int .i64 OT)); go_wp2; generalize World.setCell (World.setCell wr _ _) _ _ = V6 at *; obtain ⟨q0, q1⟩ := cr2 HRW6.out; exact bodyPost_ret (v := .tuple #[.agg #[.int .i64 fI, .int .i64 OT], .int .i64 0]) (by simp [results, Tryz.results15, go_sem, q0, q1]) rfl (HRY3.out _ HBE.out)))
 ·rw [if_neg hop] at HIX2
  have HRN2 := Hd (fun (W : World) (hb : Below w.heap.size w W) => HRN.out W hb hop)
  clear HRY HRN HIA
  go_upto_region 8 with (go_at_call 43; refine HIX2.out.mono ?_; rintro e W5 ⟨rfl, hb5⟩; have HB5 := Hd (HB4.out.step hb5); clear hb5 HB4 HRW)
  (obtain ⟨a0, a1⟩ := cr2 HB5.out.res; simp only [hnq] at a0 a1)
  obtain ⟨f0, f1⟩ := fr2 HB5.out.res
  have hrow := heap_setCell_same _ _ 1 _ _ (.int .i64 0) (heap_setCell_same W5 _ 0 _ _ (.int .i64 0) HB5.out.res)
  have HRW6 := Lib.hid hrow
  have HBE := Hd ((HB5.out.below.setCell (p := ⟨w.heap.size + 1 + 1, 0, none⟩) (by dsimp only; omega) (.int .i64 0)).setCell (p := ⟨w.heap.size + 1 + 1, 1, none⟩) (by dsimp only; omega) (.int .i64 0))
  clear hrow
  go_wp2
  generalize World.setCell (World.setCell W5 _ _) _ _ = V6 at *
  obtain ⟨q0, q1⟩ := cr2 HRW6.out
  exact bodyPost_ret (v := .tuple #[.agg #[.int .i64 0, .int .i64 0], .int .i64 5]) (by simp [results, Tryz.results15, go_sem, q0, q1]) rfl (HRN2.out _ HBE.out)
end Go.Proofs.YtgmpelhphnmknaaGreat
namespace Go.Proofs
open Go.Shelf
def Tryz.laysSortCh_ren : Go.Shelf.Ren := ⟨fun | 6 => 46 | 15 => 94 | 14 => 93 | 28 => 146 | 29 => 147 | 20 => 138 | 21 => 139 | 22 => 140 | 23 => 141 | 24 => 142 | 25 => 143 | 26 => 144 | 27 => 145 | 46 => 183 | 47 => 184 | 48 => 185 | 49 => 186 | 50 => 187 | 57 => 199 | n => n, fun | 22 => 116 | 24 => 122 | 25 => 124 | 3 => 3 | 39 => 190 | 0 => 0 | 53 => 245 | 55 => 247 | 4 => 4 | 46 => 239 | 45 => 238 | 50 => 40 | 5 => 5 | 9 => 9 | 66 => 273 | 70 => 277 | 76 => 285 | 77 => 286 | n => n, fun | n => n⟩
theorem Tryz.laysSortCh : Go.Proofs.SlLaysF0.n6 Tryz.prog Tryz.laysSortCh_ren := {
  mixed := by kernel_rfl
  f6 := ⟨Tryz.f46.name, by decide, Tryz.func46.trans (congrArg some (by kernel_rfl))⟩
  f14 := ⟨Tryz.f93.name, by decide, Tryz.func93.trans (congrArg some (by kernel_rfl))⟩
  f15 := Tryz.func94.trans (congrArg some (by kernel_rfl))
  f20 := ⟨Tryz.f138.name, by decide, Tryz.func138.trans (congrArg some (by kernel_rfl))⟩
  f21 := ⟨Tryz.f139.name, by decide, Tryz.func139.trans (congrArg some (by kernel_rfl))⟩
  f22 := ⟨Tryz.f140.name, by decide, Tryz.func140.trans (congrArg some (by kernel_rfl))⟩
  f23 := ⟨Tryz.f141.name, by decide, Tryz.func141.trans (congrArg some (by kernel_rfl))⟩
  f24 := ⟨Tryz.f142.name, by decide, Tryz.func142.trans (congrArg some (by kernel_rfl))⟩
  f25 := ⟨Tryz.f143.name, by decide, Tryz.func143.trans (congrArg some (by kernel_rfl))⟩
  f26 := ⟨Tryz.f144.name, by decide, Tryz.func144.trans (congrArg some (by kernel_rfl))⟩
  f27 := ⟨Tryz.f145.name, by decide, Tryz.func145.trans (congrArg some (by kernel_rfl))⟩
  f28 := Tryz.func146.trans (congrArg some (by kernel_rfl))
  f29 := Tryz.func147.trans (congrArg some (by kernel_rfl))
  f46 := ⟨Tryz.f183.name, by decide, Tryz.func183.trans (congrArg some (by kernel_rfl))⟩
  f47 := Tryz.func184.trans (congrArg some (by kernel_rfl))
  f48 := Tryz.func185.trans (congrArg some (by kernel_rfl))
  f49 := ⟨Tryz.f186.name, by decide, Tryz.func186.trans (congrArg some (by kernel_rfl))⟩
  f50 := ⟨Tryz.f187.name, by decide, Tryz.func187.trans (congrArg some (by kernel_rfl))⟩
  f57 := ⟨Tryz.f199.name, by decide, Tryz.func199.trans (congrArg some (by kernel_rfl))⟩
  t0 := Tryz.underlying0
  a0 := Tryz.isAgg0
  z0 := Tryz.sizeOf0
  v0 := Tryz.zeroValue0
  t3 := Tryz.underlying3
  a3 := Tryz.isAgg3
  z3 := Tryz.sizeOf3
  v3 := Tryz.zeroValue3
  t4 := Tryz.underlying4
  a4 := Tryz.isAgg4
  z4 := Tryz.sizeOf4
  v4 := Tryz.zeroValue4
  t5 := Tryz.underlying5
  a5 := Tryz.isAgg5
  z5 := Tryz.sizeOf5
  v5 := Tryz.zeroValue5
  t9 := Tryz.underlying9
  a9 := Tryz.isAgg9
  z9 := Tryz.sizeOf9
  v9 := Tryz.zeroValue9
  t22 := Tryz.underlying116
  a22 := Tryz.isAgg116
  z22 := Tryz.sizeOf116
  v22 := Tryz.zeroValue116
  t25 := Tryz.underlying124
  a25 := Tryz.isAgg124
  z25 := Tryz.sizeOf124
  v25 := Tryz.zeroValue124
  t39 := Tryz.underlying190
  a39 := Tryz.isAgg190
  z39 := Tryz.sizeOf190
  v39 := Tryz.zeroValue190
  t45 := Tryz.underlying238
  a45 := Tryz.isAgg238
  z45 := Tryz.sizeOf238
  v45 := Tryz.zeroValue238
  t46 := Tryz.underlying239
  a46 := Tryz.isAgg239
  z46 := Tryz.sizeOf239
  v46 := Tryz.zeroValue239
  t50 := Tryz.underlying40
  a50 := Tryz.isAgg40
  z50 := Tryz.sizeOf40
  v50 := Tryz.zeroValue40
  t53 := Tryz.underlying245
  a53 := Tryz.isAgg245
  z53 := Tryz.sizeOf245
  v53 := Tryz.zeroValue245
  t55 := Tryz.underlying247
  a55 := Tryz.isAgg247
  z55 := Tryz.sizeOf247
  v55 := Tryz.zeroValue247
  t66 := Tryz.underlying273
  a66 := Tryz.isAgg273
  z66 := Tryz.sizeOf273
  v66 := Tryz.zeroValue273
  t70 := Tryz.underlying277
  a70 := Tryz.isAgg277
  z70 := Tryz.sizeOf277
  v70 := Tryz.zeroValue277
  t76 := Tryz.underlying285
  a76 := Tryz.isAgg285
  z76 := Tryz.sizeOf285
  v76 := Tryz.zeroValue285
  t77 := Tryz.underlying286
  a77 := Tryz.isAgg286
  z77 := Tryz.sizeOf286
  v77 := Tryz.zeroValue286 }
def Tryz.laysCmpCh_ren : Go.Shelf.Ren := ⟨fun | 5 => 48 | 7 => 95 | n => n, fun | 22 => 3 | 3 => 3 | 4 => 4 | n => n, fun | n => n⟩
theorem Tryz.laysCmpCh : Go.Proofs.SlLaysC2.n5 Tryz.prog Tryz.laysCmpCh_ren := {
  mixed := by kernel_rfl
  f5 := ⟨Tryz.f48.name, by decide, Tryz.func48.trans (congrArg some (by kernel_rfl))⟩
  f7 := ⟨Tryz.f95.name, by decide, Tryz.func95.trans (congrArg some (by kernel_rfl))⟩
  t3 := Tryz.underlying3
  a3 := Tryz.isAgg3
  z3 := Tryz.sizeOf3
  v3 := Tryz.zeroValue3
  t4 := Tryz.underlying4
  a4 := Tryz.isAgg4
  z4 := Tryz.sizeOf4
  v4 := Tryz.zeroValue4
  t22 := Tryz.underlying3
  a22 := Tryz.isAgg3
  z22 := Tryz.sizeOf3
  v22 := Tryz.zeroValue3 }
end Go.Proofs
namespace Go.Proofs.YtgmpelhphnmknaaGreat
open Go.RowKit
def encCh (x : CH) : List Value := [.int .i64 x.1, .int .i64 x.2]
instance : Inhabited CH := ⟨(0, 0)⟩
def cfCh (x y : CH) : Int := Lib.compareInt x.1 y.1
theorem cfCh_lt (x y : CH) : ltOf cfCh x y = true ↔ x.1 < y.1 := by
 unfold ltOf cfCh Lib.compareInt
 rw [decide_eq_true_iff]
 split
 ·rename_i h; exact ⟨fun _ => h, fun _ => by decide⟩
 ·rename_i h
  split
  ·exact ⟨fun h2 => absurd h2 (by decide), fun h2 => absurd h2 h⟩
  ·exact ⟨fun h2 => absurd h2 (by decide), fun h2 => absurd h2 h⟩
theorem cfCh_swo : Go.Sort.SWO (ltOf cfCh) where
 irrefl x := by rw [Bool.eq_false_iff]; intro h; have := (cfCh_lt x x).1 h; omega
 trans x y z h1 h2 := by rw [cfCh_lt] at *; omega
 ntrans x y z h1 h2 := by
  rw [Bool.eq_false_iff] at *
  intro h
  rw [ne_eq, cfCh_lt] at h1 h2
  rw [cfCh_lt] at h
  omega
theorem closureCh (x y : CH) (W : World) : Calls Tryz.prog 47 #[.agg #[.int .i64 x.1, .int .i64 x.2], .agg #[.int .i64 y.1, .int .i64 y.2]] W fun e w' => e = .returned (.int .i64 (Lib.compareInt x.1 y.1)) ∧ ∃ q os', w' = Go.Sort.grow (W.drewN q) os' := by
 have hcon := fun W' => AnyG.cmp_Compare_int Tryz.laysCmpCh x.1 y.1 W'
 change ∀ W', Calls Tryz.prog 48 _ _ _ at hcon
 generalize Lib.compareInt x.1 y.1 = r at hcon ⊢
 obtain ⟨x1, x2⟩ := x
 obtain ⟨y1, y2⟩ := y
 dsimp only at hcon ⊢
 go_enter Tryz.func47, Tryz.ntmps47
 go_wp2_with (go_at_call 48; refine (hcon _).mono ?_; rintro e w' ⟨rfl, rfl⟩)
 go_ret
 exact ⟨rfl, 0, _, by rw [Go.Sort.alloc_eq_grow, Go.Sort.alloc_eq_grow, Go.Sort.grow_grow]; rfl⟩
theorem heap_sortedK (W : World) (blk n : Nat) (dk : Array CH) (os : Array Obj) (k : Nat) (hk : k < W.heap.size) (hn : k ≠ blk) : (sortWorldK encCh 2 W blk 0 n dk os).heap[k]? = W.heap[k]? := by
 unfold sortWorldK Go.Sort.putRowK
 rw [Go.Sort.heap_grow_old _ _ (by simpa [Go.Sort.putRow, Go.Sort.mapBlock, Go.Sort.ahead] using hk)]
 simp [Go.Sort.putRow, Go.Sort.mapBlock, Go.Sort.ahead, Array.getElem?_modify, Ne.symm hn]
theorem size_sortedK (W : World) (blk n : Nat) (dk : Array CH) (os : Array Obj) : W.heap.size ≤ (sortWorldK encCh 2 W blk 0 n dk os).heap.size := by
 simp [sortWorldK, Go.Sort.grow, Go.Sort.putRowK, Go.Sort.putRow, Go.Sort.mapBlock, Go.Sort.ahead]
theorem crow_ne (x : CH) : ∀ v ∈ encCh x, v.oneCell' = true := by
 intro v hv
 simp [encCh] at hv
 rcases hv with rfl | rfl <;> rfl
theorem shSort : ShSort := by
 intro W base ca cc L hown hbs hsz
 rcases Nat.eq_zero_or_pos L.length with h0 | hpos
 ·have hL : L = [] := List.eq_nil_of_length_eq_zero h0
  subst hL
  have hcon := AnyF.slices_SortFunc_none Tryz.laysSortCh ca cc (.func (.func 47) #[] #[]) W
  change Calls Tryz.prog 46 _ _ _ at hcon
  refine hcon.mono fun e w' ⟨he, hw⟩ => ⟨he, [], List.Perm.refl _, List.Pairwise.nil, .inl rfl, ?_⟩
  subst hw
  exact Below.refl _ _
 ·obtain ⟨b, rfl, hb1, hb2⟩ := own_at hown hpos
  have hsize : L.toArray.size = L.length := by simp
  have hget : ∀ i (h : i < L.length), L.toArray[i]! = L.getD i ch0 := fun i h => by
   rw [getElem!_pos _ i (by simpa using h), List.getD_eq_getElem?_getD, List.getElem?_eq_getElem h]; simp
  have hH : Go.Sort.HoldsK encCh 2 W b 0 L.toArray := fun j hj => by
   rw [Go.Sort.size_flatK] at hj
   have hj2 : j < L.length * 2 := by simpa using hj
   have e1 : j / 2 < L.length := by omega
   have hc := crC_get L (j / 2) e1
   rw [Go.Sort.get_flatK _ _ _ _ hj, hget _ e1, Nat.zero_add]
   have hcell := hown.cellAt j (by omega)
   refine ⟨?_, hown.frozenAt j⟩
   rcases Nat.mod_two_eq_zero_or_one j with h | h
   ·have e2 : j = j / 2 * 2 := by omega
    rw [h]
    rw [e2] at hcell ⊢
    rw [hcell, hc.1]
    simp [encCh]
   ·have e2 : j = j / 2 * 2 + 1 := by omega
    rw [h]
    rw [e2] at hcell ⊢
    rw [hcell, hc.2]
    have : (j / 2 * 2 + 1) / 2 = j / 2 := by omega
    simp [encCh, this]
  have eg : ∀ args w, (callFunc 47 args).run Tryz.prog w = .ok (.enter 47 args) w := enters_of Tryz.func47 (by kernel_rfl) rfl
  have hcmp : CmpLays Tryz.prog 47 #[] encCh 2 cfCh b 0 L.toArray.size W := fun _ _ _ _ x y => closureCh x y _
  have hcon := AnyQ.slices_SortFunc Tryz.laysSortCh 2 Tryz.isAgg122 Tryz.sizeOf122 encCh (fun _ => rfl) crow_ne cfCh cfCh_swo 47 #[] b 0 cc L.toArray W eg hcmp hH hb2 (by rw [hsize]; omega)
  rw [hsize] at hcon
  change Calls Tryz.prog 46 _ _ _ at hcon
  refine hcon.mono fun e w' ⟨he, d', q, os, hp', hs', hw⟩ => ⟨he, d'.toList, ?_, ?_, ?_, ?_⟩
  ·have hd : d'.size = L.length := by rw [hp'.1, hsize]
   have := hp'.2.2
   rw [show d'.extract 0 L.length = d' from by rw [← hd]; simp, show L.toArray.extract 0 L.length = L.toArray from by rw [← hsize]; simp] at this
   simpa using this
  ·have hd : d'.size = L.length := by rw [hp'.1, hsize]
   rw [List.pairwise_iff_getElem]
   intro i j hi hj hij
   have hi' : i < d'.size := by simpa using hi
   have hj' : j < d'.size := by simpa using hj
   have h1 := hs' i j (Nat.zero_le _) hij (by omega)
   rw [getElem!_pos d' j hj', getElem!_pos d' i hi', Bool.eq_false_iff, ne_eq, cfCh_lt] at h1
   simp only [Array.getElem_toList]
   omega
  ·have hd : d'.size = L.length := by rw [hp'.1, hsize]
   have hz := size_sortedK W b q d' os
   refine .inr ⟨b, rfl, by rw [hw]; omega, fun i hi => ?_⟩
   have hi' : i < d'.size := by simpa using hi
   have hh := holdsK_sortWorldK_c encCh 2 W b 0 L.toArray d' q os hH hb2 (by rw [hd, hsize])
   have c0 := (hh.cell (i := i) (c := 0) hi' (by decide)).1
   have c1 := (hh.cell (i := i) (c := 1) hi' (by decide)).1
   have hg : d'[i]! = d'.toList.getD i ch0 := by rw [getElem!_pos d' i hi', List.getD_eq_getElem?_getD, List.getElem?_eq_getElem hi]; simp
   rw [hg] at c0 c1
   rw [hw]
   refine ⟨?_, ?_⟩
   ·have := c0; rw [Nat.zero_add, Nat.add_zero] at this; rw [this]; simp [encCh]
   ·have := c1; rw [Nat.zero_add] at this; rw [this]; simp [encCh]
  ·rw [hw]
   exact ⟨rfl, rfl, rfl, size_sortedK W b q d' os |> Nat.le_trans (Nat.le_refl _), fun k hk => heap_sortedK W b q d' os k (by omega) (by omega)⟩
end Go.Proofs.YtgmpelhphnmknaaGreat
namespace Go.Proofs.YtgmpelhphnmknaaGreat
open Go Go.RowKit Go.Shelf
theorem lnIn_any (a b c : Int) (w : World) : Calls Tryz.prog 60 #[.int .i64 a, .int .i64 b, .int .i64 c] w fun e w' => e = .returned (.bool (withinB a b c)) ∧ w = w' := by
 by_cases h1 : b ≤ a
 ·by_cases h2 : a ≤ c
  ·rw [withinB_true h1 h2]
   go_enter Tryz.func60, Tryz.ntmps60
   go_wp2
   go_ret
   exact ⟨rfl, rfl⟩
  ·rw [withinB_no (fun h => h2 h.2)]
   go_enter Tryz.func60, Tryz.ntmps60
   go_wp2
   go_ret
   exact ⟨rfl, rfl⟩
 ·rw [withinB_no (fun h => h1 h.1)]
  go_enter Tryz.func60, Tryz.ntmps60
  go_wp2
  go_ret
  exact ⟨rfl, rfl⟩
structure GtOk (n : Nat) (t : Nat → RW) : Prop where
 len : 1 ≤ n ∧ n ≤ 24
 z : ∀ i, i < n → 0 ≤ (t i).key ∧ (t i).key ≤ 100000
 span : ∀ i, i < n → -1000000 ≤ (t i).lo ∧ (t i).lo ≤ (t i).hi ∧ (t i).hi ≤ 1000000
theorem gate_any' (k lo hi : Int) (w : World) (hz : 0 ≤ k ∧ k ≤ 100000) (hs : -1000000 ≤ lo ∧ lo ≤ hi ∧ hi ≤ 1000000) :
  Calls Tryz.prog 150 #[.agg #[.int .i64 k, .int .i64 lo, .int .i64 hi]] w fun e w' => e = .returned (.bool true) ∧ Below w.heap.size w w' := by
 have HB := Hd (al_below w (.cells #[.int .i64 k, .int .i64 lo, .int .i64 hi] 93))
 have HW := Hd (withinB_true hz.1 hz.2)
 obtain ⟨h1, h2, h3⟩ := hs
 clear hz
 go_enter Tryz.func150, Tryz.ntmps150
 go_wp2_with (go_at_call 60; refine (lnIn_any _ _ _ _).mono ?_; rintro e w' ⟨rfl, rfl⟩; rw [HW.out])
 go_ret
 exact ⟨rfl, HB.out⟩
theorem lnChecked_any (a : Option Addr) (n c : Nat) (t : Nat → RW) (B : Nat) (w : World) (hBw : B ≤ w.heap.size) (hT : RWs B w a n t) (hO : GtOk n t) :
  Calls Tryz.prog 102 #[.slice a n c] w fun e w' => e = .returned (.bool true) ∧ Below w.heap.size w w' := by
 have HT := Lib.hid hT
 have HG := Hd (fun i (hi : i < n) W => gate_any' (t i).key (t i).lo (t i).hi W (hO.z i hi) (hO.span i hi))
 have HB0 := Hd (Below.refl w.heap.size w)
 have hl := hO.len
 have hn1 : withinB (n : Int) 1 24 = true := withinB_true (by omega) (by omega)
 have HN := Lib.hid hn1
 clear hT hO hn1
 go_enter Tryz.func102, Tryz.ntmps102
 go_wp2
 go_loopw [7] (fun x wr => ∃ i : Nat, i ≤ n ∧ x = .int .i64 (i : Int) ∧ Hid (Below w.heap.size w wr)) (fun x _ => n - (intOf x).toNat)
 case atStart => exact ⟨0, Nat.zero_le _, rfl, HB0⟩
 case round =>
  clear HB0
  obtain ⟨i, hi, rfl, HB⟩ := hrel
  by_cases hlt : i < n
  ·have hlt' : (i : Int) < (n : Int) := by omega
   obtain ⟨b, off, rfl, hbB, c0, c1, c2⟩ := (HT.out.below (HB.out.mono hBw)).get hlt
   have HGi := Hd (HG.out i hlt)
   generalize t i = ti at *
   obtain ⟨k, lo, hi'⟩ := ti
   dsimp only at *
   clear HG
   go_upto_region 4 with (fail)
   have HB1 := Hd (HB.out.trans ((al_below wr (.cells #[.int .i64 k, .int .i64 lo, .int .i64 hi'] 93)).mono HB.out.size))
   have hx := heap_alloc_new wr (.cells #[.int .i64 k, .int .i64 lo, .int .i64 hi'] 93)
   generalize World.alloc wr _ = V at *
   obtain ⟨e0, e1, e2⟩ := cr3 hx
   simp only [hnq] at e0 e1 e2
   clear hx c0 c1 c2
   go_wp2_with (go_at_call 150; refine (HGi.out _).mono ?_; rintro e W2 ⟨rfl, hb2⟩; have HB2 := Hd (HB1.out.trans (hb2.mono HB1.out.size)); clear hb2 e0 e1 e2)
   go_roundw
   case rel => exact ⟨i + 1, by omega, by go_num, HB2⟩
   case measure => simp [intOf]; omega
  ·obtain rfl : i = n := by omega
   have hlt' : ¬ (i : Int) < (i : Int) := by omega
   go_wp2_with (go_at_call 60; refine (lnIn_any _ _ _ _).mono ?_; rintro e w' ⟨rfl, rfl⟩; rw [HN.out])
   go_ret
   exact ⟨rfl, HB.out⟩
theorem gcd_any (a b : Nat) (w : World) (ha : a ≤ 1000000000000000) (hb : b ≤ 1000000000000000) :
  Calls Tryz.prog 156 #[.int .i64 (a : Int), .int .i64 (b : Int)] w fun e w' => e = .returned (.int .i64 (Nat.gcd a b : Int)) ∧ Below w.heap.size w w' := by
 have HB0 := Hd (Below.refl w.heap.size w)
 have HG0 := Hd (show Nat.gcd a b = Nat.gcd a b from rfl)
 obtain ⟨G, hG⟩ : ∃ G, Nat.gcd a b = G := ⟨_, rfl⟩
 rw [hG]
 have HG := Lib.hid hG
 clear hG HG0
 go_enter Tryz.func156, Tryz.ntmps156
 go_wp2
 go_loopw [0, 1] (fun x y wr => ∃ p q : Nat, x = .int .i64 (p : Int) ∧ y = .int .i64 (q : Int) ∧ p ≤ 1000000000000000 ∧ q ≤ 1000000000000000 ∧ Hid (Nat.gcd p q = G) ∧ Hid (Below w.heap.size w wr)) (fun _ y _ => (intOf y).toNat)
 case atStart => exact ⟨a, b, rfl, rfl, ha, hb, HG, HB0⟩
 case round =>
  clear HB0
  obtain ⟨p, q, rfl, rfl, hp, hq, HE, HB⟩ := hrel
  by_cases h0 : 0 < q
  ·have h0' : (0 : Int) < (q : Int) := by omega
   have hqz : (q : Int) ≠ 0 := by omega
   have hm : ((p : Int)).tmod (q : Int) = ((p % q : Nat) : Int) := by rw [Int.ofNat_tmod]
   have hm2 : (p : Int) % (q : Int) = ((p % q : Nat) : Int) := by rw [Int.natCast_emod]
   have hlt := Nat.mod_lt p h0
   have HE2 := Hd (show Nat.gcd q (p % q) = G from by rw [← HE.out, Nat.gcd_comm p q, Nat.gcd_rec q p, Nat.gcd_comm])
   generalize p % q = r at *
   go_upto_region 2 with (fail)
   (refine wp_region_calm (wr.heap.size) (by kernel_rfl) (by kernel_rfl) ?_; (repeat (first | go_big_quiet_step (fail) | quiet_step (fail))); refine wpQuiet_nil (wqn ?_); intro xq)
   have HB2 := Hd (HB.out.trans (xq.below.mono HB.out.size))
   generalize Calm.val xq = V2 at *
   clear HB HE hm hm2
   go_wp2
   go_roundw
   case rel => exact ⟨q, r, rfl, rfl, hq, by omega, HE2, HB2⟩
   case measure => simp [intOf]; omega
  ·obtain rfl : q = 0 := by omega
   have HE2 := Hd (show p = G from by rw [← HE.out, Nat.gcd_zero_right])
   clear HE
   go_wp2
   go_ret
   exact ⟨by rw [← HE2.out]; rfl, HB.out⟩
def frN (num den : Int) : Int := num.tdiv (Nat.gcd num.natAbs den.natAbs : Int)
def frD (num den : Int) : Int := den.tdiv (Nat.gcd num.natAbs den.natAbs : Int)
theorem frac_any (num den : Int) (w : World) (hn : -1000000000000000 ≤ num ∧ num ≤ 1000000000000000) (hd : 1 ≤ den ∧ den ≤ 1000000000000000) :
  Calls Tryz.prog 107 #[.int .i64 num, .int .i64 den] w fun e w' => e = .returned (spV (frN num den) (frD num den)) ∧ Below w.heap.size w w' := by
 have HGC := Hd (fun W => gcd_any num.natAbs den.natAbs W (by omega) (by omega))
 have hg1 : 1 ≤ Nat.gcd num.natAbs den.natAbs := Nat.gcd_pos_of_pos_right _ (by omega)
 have hg2 : (Nat.gcd num.natAbs den.natAbs : Int) ≤ den := by have := Nat.gcd_le_right num.natAbs (show 0 < den.natAbs by omega); omega
 unfold frN frD spV
 have hq1 : num.tdiv (Nat.gcd num.natAbs den.natAbs : Int) ≤ 1000000000000000 ∧ -1000000000000000 ≤ num.tdiv (Nat.gcd num.natAbs den.natAbs : Int) := by
  have h1 : (num.tdiv (Nat.gcd num.natAbs den.natAbs : Int)).natAbs ≤ num.natAbs := by rw [Int.natAbs_tdiv]; exact Nat.div_le_self _ _
  omega
 have hq2 : den.tdiv (Nat.gcd num.natAbs den.natAbs : Int) ≤ 1000000000000000 ∧ -1000000000000000 ≤ den.tdiv (Nat.gcd num.natAbs den.natAbs : Int) := by
  have h1 : (den.tdiv (Nat.gcd num.natAbs den.natAbs : Int)).natAbs ≤ den.natAbs := by rw [Int.natAbs_tdiv]; exact Nat.div_le_self _ _
  omega
 have hda : ((den.natAbs : Nat) : Int) = den := by omega
 have hna : ((num.natAbs : Nat) : Int) = max num (-num) := by omega
 rw [hda] at HGC
 have hdd : den / (Nat.gcd num.natAbs den.natAbs : Int) = den.tdiv (Nat.gcd num.natAbs den.natAbs : Int) := (Int.tdiv_eq_ediv_of_nonneg (by omega)).symm
 generalize hG : Nat.gcd num.natAbs den.natAbs = G at *
 generalize hN : num.tdiv (G : Int) = N at *
 generalize hD : den.tdiv (G : Int) = D at *
 generalize num.natAbs = na at *
 clear hG hda
 have HB := Hd (al_below w (.cells #[.int .i64 0, .int .i64 0] 68))
 have HX := Hd (heap_alloc_new w (.cells #[.int .i64 0, .int .i64 0] 68))
 have HGZ : (G : Int) ≠ 0 := by omega
 have hm1 : IntKind.i64.wrap (-num) = -num := IntWalk.i64_in _ (by omega)
 have hm2 : IntKind.i64.wrap N = N := IntWalk.i64_in _ (by omega)
 have hm3 : IntKind.i64.wrap D = D := IntWalk.i64_in _ (by omega)
 rw [hna] at HGC
 clear hna
 go_enter Tryz.func107, Tryz.ntmps107
 go_upto_region 1 with (fail)
 generalize World.alloc w _ = V at *
 go_upto_region 2 with (go_at_call 156; with_reducible refine (HGC.out _).mono ?_; rintro e W1 ⟨rfl, hb1⟩; have HB1 := Hd (HB.out.trans (hb1.mono HB.out.size)); have HX1 := Hd (keep_at HX.out hb1); clear hb1)
 (refine wp_region_calm_tail (W1.heap.size) 7 (by kernel_rfl) (by kernel_rfl) ?_; simp only [List.take_succ_cons, List.take_zero, List.drop_succ_cons, List.drop_zero]; (repeat (first | go_big_quiet_step (fail) | quiet_step (fail))); refine wpQuiet_nil (wqn ?_); intro xq)
 have hq := xq.below
 have HB2 := Hd (HB1.out.trans (hq.mono HB1.out.size))
 have HX2 := Hd (keep_at HX1.out hq)
 clear hq
 generalize Calm.val xq = V2 at *
 obtain ⟨p0, p1⟩ := cr2 HX2.out
 obtain ⟨f0, f1⟩ := fr2 HX2.out
 simp only [hnq] at p0 p1
 go_wp2
 have hrow := heap_setCell_same _ _ 1 _ _ (.int .i64 D) (heap_setCell_same V2 _ 0 _ _ (.int .i64 N) HX2.out)
 have hbl := (HB2.out.setCell (p := ⟨w.heap.size, 0, none⟩) (by dsimp only; omega) (.int .i64 N)).setCell (p := ⟨w.heap.size, 1, none⟩) (by dsimp only; omega) (.int .i64 D)
 generalize World.setCell (World.setCell V2 _ _) _ _ = V5 at *
 obtain ⟨q0, q1⟩ := cr2 hrow
 exact bodyPost_ret (v := .agg #[.int .i64 N, .int .i64 D]) (by simp [results, Tryz.results107, go_sem, q0, q1]) rfl ⟨rfl, hbl⟩
end Go.Proofs.YtgmpelhphnmknaaGreat
