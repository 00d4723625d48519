/- Texts put together: ToGeo, ToRfX, ToRfY, ToTpI, ToTpF, ToTpW. -/
import Derived.Test.YtgmpelhphnmknaaGreatQbg
import Derived.Test.YtgmpelhphnmknaaGreatQam
import Derived.Test.YtgmpelhphnmknaaGreatQax
import Derived.Test.YtgmpelhphnmknaaGreatProg
import Derived.Test.YtgmpelhphnmknaaGreatQac
import Derived.KernelRfl
set_option maxRecDepth 100000
set_option maxHeartbeats 8000000
set_option linter.unusedVariables false
set_option linter.unusedSimpArgs false
namespace Go.Proofs.YtgmpelhphnmknaaGreat
open Go.RowKit
theorem isM_is {v : VO} {r : RY} (hv : v.Ok) (hr : r.Ok) : ∃ m, IsM v r m := by
 false_or_by_contra
 rename_i hno
 have h : ∀ j, ∀ i, i ≤ j → 0 ≤ atF v r i := fun j => by
  induction j with
  | zero =>
   intro i hi
   have : i = 0 := by omega
   subst this
   exact Int.le_refl 0
  | succ j ih =>
   intro i hi
   by_cases e : i ≤ j
   ·exact ih i e
   ·have : i = j + 1 := by omega
    subst this
    show 0 ≤ nxF v r (atF v r j)
    false_or_by_contra
    exact hno ⟨j, ih, by omega⟩
 have h1 := atF_up hv hr 43200000001 (fun i hi => h _ i hi)
 have h2 := (atF_low hv hr 43200000001).2
 omega
theorem sum_ok {u lo hi : Int} (h : 0 ≤ lo ∧ lo ≤ hi ∧ hi ≤ 1000000) (hu : 1 ≤ u ∧ u ≤ 900000) : 0 ≤ lo * u ∧ lo * u ≤ smHi hi u ∧ smHi hi u ≤ 1000000000000 := by
 have h1 := Int.mul_nonneg h.1 (show 0 ≤ u by omega)
 have h2 := Int.mul_le_mul_of_nonneg_right h.2.1 (show 0 ≤ u by omega)
 have h3 : hi * u ≤ 1000000 * 900000 := Int.mul_le_mul h.2.2 hu.2 (by omega) (by omega)
 unfold smHi
 split <;> omega
theorem bm_beam {v : VO} {r : RY} (hv : v.Ok) (hr : r.Ok) {gn : Nat} {g : Nat → Int} (hg : grB v gn g = true) {m : Nat} (hM : IsM v r m) {S : List CH} (hP : S.Perm (chs (prN v r g (m + 1)))) (hS : S.Pairwise (fun x y => x.1 ≤ y.1)) (hC : ∀ y ∈ chsR (prN v r g (m + 1)), y.2 ≤ 1000000) {n : Nat} (hn : (n : Int) = v.nx * v.ny * v.nz) {lo hi : Int} (hsp : 0 ≤ lo ∧ lo ≤ hi ∧ hi ≤ 1000000000000) {ca : Option Addr} {cc : Nat} {wa : Option Addr} {wc : Nat} : beamB n (bmS ca cc wa wc lo hi S) = true := by
 have hap : (chs (prN v r g (m + 1))).Pairwise (fun x y => x.1 ≠ y.1) := chsR_apart (prN_apart hv hr hM g (m + 1) (Nat.le_refl _))
 have hne : S.Pairwise (fun x y => x.1 ≠ y.1) := (hP.pairwise_iff (fun h => Ne.symm h)).2 hap
 have hlt : S.Pairwise (fun x y => x.1 < y.1) := by
  have := List.Pairwise.and hS hne
  exact this.imp fun h => by have := h.1; have := h.2; omega
 have hok := prN_ok hv hr (gr_mod hv hg) (m + 1)
 have hin : ∀ x ∈ S, (0 ≤ x.1 ∧ x.1 < (n : Int)) ∧ 1 ≤ x.2 ∧ x.2 ≤ 1000000 := fun x hx => by
  have h1 := hP.mem_iff.1 hx
  have h2 := hC x h1
  obtain ⟨p, hp, rfl⟩ := List.mem_map.1 h1
  obtain ⟨h3, h4, _⟩ := hok p hp
  dsimp only at *
  omega
 have hget : ∀ i, i < S.length → S.getD i ch0 ∈ S := fun i hi => by
  rw [List.getD_eq_getElem?_getD, List.getElem?_eq_getElem hi]
  exact List.getElem_mem hi
 simp only [beamB, spanB, setB, bmS, Bool.and_eq_true, allUpto_iff, inB_iff, decide_eq_true_eq, beq_iff_eq]
 refine ⟨fun i hi => (hin _ (hget i hi)).2, fun i hi => ?_, trivial, ⟨hsp.1, hsp.2.1⟩, decide_eq_true hsp.2.2⟩
 have h1 := (hin _ (hget i hi)).1
 simp only [setAt, Bool.and_eq_true, inB_iff, Bool.or_eq_true, beq_iff_eq, decide_eq_true_eq]
 refine ⟨by omega, ?_⟩
 by_cases e : i = 0
 ·exact .inl e
 ·refine .inr ?_
  have h2 := List.pairwise_iff_getElem.1 hlt (i - 1) i (by omega) hi (by omega)
  rw [List.getD_eq_getElem?_getD, List.getD_eq_getElem?_getD, List.getElem?_eq_getElem hi, List.getElem?_eq_getElem (by omega)]
  exact h2
theorem check_beams {n : Nat} {ss : Nat → SV} {m : Nat} {bs0 bs : Nat → BM} (h0 : checkN n ss 0 bs0 = 0) (hm : m ≤ 20) (hb : ∀ i, i < m → beamB n (bs i) = true) : checkN n ss m bs = 0 := by
 have h1 : shapeB n ss 0 bs0 = true := by
  unfold checkN at h0
  cases e : shapeB n ss 0 bs0
  ·rw [e] at h0; simp at h0
  ·rfl
 have h2 : longB n ss 200000 = false := by
  unfold checkN at h0
  rw [h1] at h0
  cases e : longB n ss 200000
  ·rfl
  ·rw [e] at h0; simp at h0
 have h3 : shapeB n ss m bs = true := by
  simp only [shapeB, Bool.and_eq_true, allUpto_iff, decide_eq_true_eq] at h1 ⊢
  exact ⟨h1.1, hb, h1.2.2.1, hm⟩
 unfold checkN
 rw [h2, h3]
 rfl
end Go.Proofs.YtgmpelhphnmknaaGreat
namespace Go.Proofs.YtgmpelhphnmknaaGreat
open Go Go.RowKit Go.Shelf
theorem fspanB_no {lo hi a b : Int} (h : ¬ (a ≤ lo ∧ lo ≤ hi ∧ hi ≤ b)) : fspanB lo hi a b = false := by
 cases e : fspanB lo hi a b
 ·rfl
 ·exact absurd (fspanB_is e) h
theorem r5in_any (a b c : Int) (w : World) : Calls Tryz.prog 26 #[.int .i64 a, .int .i64 b, .int .i64 c] w fun e w' => e = .returned (.bool (withinB a b c)) ∧ w = w' := by
 by_cases h1 : b ≤ a
 ·by_cases h2 : a ≤ c
  ·rw [withinB_true h1 h2]
   go_enter Tryz.func26, Tryz.ntmps26
   go_wp2
   go_ret
   exact ⟨rfl, rfl⟩
  ·rw [withinB_no (fun h => h2 h.2)]
   go_enter Tryz.func26, Tryz.ntmps26
   go_wp2
   go_ret
   exact ⟨rfl, rfl⟩
 ·rw [withinB_no (fun h => h1 h.1)]
  go_enter Tryz.func26, Tryz.ntmps26
  go_wp2
  go_ret
  exact ⟨rfl, rfl⟩
theorem r5Span_any (lo hi a b : Int) (w : World) : Calls Tryz.prog 27 #[.agg #[.int .i64 lo, .int .i64 hi], .int .i64 a, .int .i64 b] w fun e w' => e = .returned (.bool (fspanB lo hi a b)) ∧ Below w.heap.size w w' := by
 have HB := Hd (al_below w (.cells #[.int .i64 lo, .int .i64 hi] 28))
 by_cases h1 : a ≤ lo
 ·by_cases h2 : lo ≤ hi
  ·by_cases h3 : hi ≤ b
   ·rw [fspanB_true ⟨h1, h2, h3⟩]
    go_enter Tryz.func27, Tryz.ntmps27
    go_wp2
    go_ret
    exact ⟨rfl, HB.out⟩
   ·rw [fspanB_no (fun h => h3 h.2.2)]
    go_enter Tryz.func27, Tryz.ntmps27
    go_wp2
    go_ret
    exact ⟨rfl, HB.out⟩
  ·rw [fspanB_no (fun h => h2 h.2.1)]
   go_enter Tryz.func27, Tryz.ntmps27
   go_wp2
   go_ret
   exact ⟨rfl, HB.out⟩
 ·rw [fspanB_no (fun h => h1 h.1)]
  go_enter Tryz.func27, Tryz.ntmps27
  go_wp2
  go_ret
  exact ⟨rfl, HB.out⟩
theorem rxbad1_ToRfX {P : Prop} (h : P := by (((refine wp_region_calm (V.heap.size) (by kernel_rfl) (by kernel_rfl) ?_; (repeat (first | go_big_quiet_step ((first | (go_at_call 26; exact Calls.calm_same (HIN.out _)) | (go_at_call 27; exact Calls.calm_of (Nat.le_refl _) (HS1.out _)))) | quiet_step ((first | (go_at_call 26; exact Calls.calm_same (HIN.out _)) | (go_at_call 27; exact Calls.calm_of (Nat.le_refl _) (HS1.out _)))))); refine wpQuiet_nil (wqn ?_); intro xq); have HB2 := Hd (HB1.out.trans (xq.below.mono HB1.out.size)); generalize Calm.val xq = V2 at *; go_wp2; go_ret; exact ⟨.inr rfl, HB2.out⟩))) : P := h
theorem rxgood_ToRfX {P : Prop} (h : P := by (((refine wp_region_calm (V.heap.size) (by kernel_rfl) (by kernel_rfl) ?_; (repeat (first | go_big_quiet_step ((first | (go_at_call 26; exact Calls.calm_same (HIN.out _)) | (go_at_call 27; exact Calls.calm_of (Nat.le_refl _) (HS1.out _)))) | quiet_step ((first | (go_at_call 26; exact Calls.calm_same (HIN.out _)) | (go_at_call 27; exact Calls.calm_of (Nat.le_refl _) (HS1.out _)))))); refine wpQuiet_nil (wqn ?_); intro xq); have HB2 := Hd (HB1.out.trans (xq.below.mono HB1.out.size)); generalize Calm.val xq = V2 at *; go_wp2; go_roundw; (case rel => first | exact ⟨_, by omega, by go_num, HN2, HB2⟩ | ((repeat apply Exists.intro); exact ⟨⟨_, by omega, by go_num, HN2, HB2⟩, rfl⟩)); (case measure => (simp [intOf]; omega))))) : P := h
structure RwRanges (P : Int) (t : Nat → RW) (i : Nat) : Prop where
 key : ∀ j, j < i → 1 ≤ (t j).key ∧ (t j).key ≤ 1000000
 span : ∀ j, j < i → 0 ≤ (t j).lo ∧ (t j).lo ≤ (t j).hi ∧ (t j).hi ≤ P
 step : ∀ j, j + 1 < i → (t j).key < (t (j + 1)).key ∧ (t j).lo ≤ (t (j + 1)).lo ∧ (t j).hi ≤ (t (j + 1)).hi
theorem RwRanges.start (P : Int) (t : Nat → RW) : RwRanges P t 0 := ⟨fun j h => by omega, fun j h => by omega, fun j h => by omega⟩
theorem RwRanges.next {P : Int} {t : Nat → RW} {i : Nat} (h : RwRanges P t i) (h1 : 1 ≤ (t i).key ∧ (t i).key ≤ 1000000) (h2 : 0 ≤ (t i).lo ∧ (t i).lo ≤ (t i).hi ∧ (t i).hi ≤ P) (h3 : ∀ j, j + 1 = i → (t j).key < (t (j + 1)).key ∧ (t j).lo ≤ (t (j + 1)).lo ∧ (t j).hi ≤ (t (j + 1)).hi) : RwRanges P t (i + 1) :=
 ⟨fun j hj => by
  by_cases e : j = i
  ·rw [e]; exact h1
  ·exact h.key j (by omega), fun j hj => by
  by_cases e : j = i
  ·rw [e]; exact h2
  ·exact h.span j (by omega), fun j hj => by
  by_cases e : j + 1 = i
  ·exact h3 j e
  ·exact h.step j (by omega)⟩
theorem r5Ranges_any (a : Option Addr) (n c : Nat) (t : Nat → RW) (B : Nat) (w : World) (hBw : B ≤ w.heap.size) (hn : n ≤ maxLen) (hT : RWs B w a n t) :
  Calls Tryz.prog 7 #[.slice a n c] w fun e w' => ((e = .returned (.bool true) ∧ n ≤ 40 ∧ TabOk n t) ∨ e = .returned (.bool false)) ∧ Below w.heap.size w w' := by
 have HT := Lib.hid hT
 have HB0 := Hd (Below.refl w.heap.size w)
 unfold maxLen at hn
 clear hT
 go_enter Tryz.func7, Tryz.ntmps7
 go_wp2
 go_loopw [3] (fun x wr => ∃ i : Nat, i ≤ n ∧ x = .int .i64 (i : Int) ∧ Hid (RwRanges 1000000 t i) ∧ Hid (Below w.heap.size w wr)) (fun x _ => n - (intOf x).toNat)
 case atStart => exact ⟨0, Nat.zero_le _, rfl, Hd (RwRanges.start _ t), HB0⟩
 case round =>
  clear HB0
  obtain ⟨i, hi', rfl, HN, HB⟩ := hrel
  by_cases hlt : i < n
  ·have hlt' : (i : Int) < (n : Int) := by omega
   obtain ⟨b, off, rfl, hbB, c0, c1, c2⟩ := (HT.out.below (HB.out.mono hBw)).get hlt
   have HNX := Hd (fun h1 h2 h3 => HN.out.next h1 h2 h3)
   obtain ⟨r, hr⟩ : ∃ r, t i = r := ⟨_, rfl⟩
   have HR := Lib.hid hr
   rw [hr] at c0 c1 c2 HNX
   obtain ⟨k, lo, hi⟩ := r
   dsimp only at c0 c1 c2 HNX
   clear hr
   have HS1 := Hd (fun W => r5Span_any lo hi 0 1000000 W)
   have HIN := Hd (fun W => r5in_any k 1 1000000 W)
   by_cases hk : 1 ≤ k ∧ k ≤ 1000000
   ·rw [withinB_true hk.1 hk.2] at HIN
    by_cases hs : 0 ≤ lo ∧ lo ≤ hi ∧ hi ≤ 1000000
    ·rw [fspanB_true hs] at HS1
     by_cases h0 : i = 0
     ·have HN2 := Hd (HNX.out hk hs (fun j hj => by omega))
      have h00 : decide ((0 : Int) < (i : Int)) = false := decide_eq_false (by omega)
      have h01 : ¬ 0 < i := by omega
      have h02 : decide (0 < i) = false := decide_eq_false (by omega)
      clear HN HNX h0
      go_upto_region 5 with (fail)
      (have HB1 := Hd (HB.out.trans ((al_below wr (.cells #[.int .i64 k, .int .i64 lo, .int .i64 hi] 89)).mono HB.out.size)); have hx := heap_alloc_new wr (.cells #[.int .i64 k, .int .i64 lo, .int .i64 hi] 89); have lt0 : wr.heap.size < (wr.alloc (.cells #[.int .i64 k, .int .i64 lo, .int .i64 hi] 89)).heap.size := (by simp); generalize World.alloc wr _ = V at *; obtain ⟨e0, e1, e2⟩ := cr3 hx; simp only [hnq] at e0 e1 e2; clear hx c0 c1 c2)
      exact rxgood_ToRfX
     ·obtain ⟨j, rfl⟩ : ∃ j, i = j + 1 := ⟨i - 1, by omega⟩
      obtain ⟨b2, off2, hb2, hb2B, d0, d1, d2⟩ := (HT.out.below (HB.out.mono hBw)).get (i := j) (by omega)
      injection hb2 with hb2
      injection hb2 with hb2 hb3
      subst hb2
      subst hb3
      have HNX2 := Hd (fun h3 => HNX.out hk hs h3)
      clear HNX HN
      go_upto_region 5 with (fail)
      (have HB1 := Hd (HB.out.trans ((al_below wr (.cells #[.int .i64 k, .int .i64 lo, .int .i64 hi] 89)).mono HB.out.size)); have hx := heap_alloc_new wr (.cells #[.int .i64 k, .int .i64 lo, .int .i64 hi] 89); have lt0 : wr.heap.size < (wr.alloc (.cells #[.int .i64 k, .int .i64 lo, .int .i64 hi] 89)).heap.size := (by simp); generalize World.alloc wr _ = V at *; obtain ⟨e0, e1, e2⟩ := cr3 hx; simp only [hnq] at e0 e1 e2; clear hx c0 c1 c2)
      have d0 := ((bcell (HB1.out.mono hBw)).1 _ _ hbB).trans (((bcell (HB.out.mono hBw)).1 _ _ hbB).symm.trans d0)
      have d1 := ((bcell (HB1.out.mono hBw)).1 _ _ hbB).trans (((bcell (HB.out.mono hBw)).1 _ _ hbB).symm.trans d1)
      have d2 := ((bcell (HB1.out.mono hBw)).1 _ _ hbB).trans (((bcell (HB.out.mono hBw)).1 _ _ hbB).symm.trans d2)
      have ltb : b < V.heap.size := by have := HB1.out.size; omega
      have HTJ := Hd (show ∀ q, q + 1 = j + 1 → (t q).key = (t j).key ∧ (t q).lo = (t j).lo ∧ (t q).hi = (t j).hi from fun q hq => by rw [show q = j by omega]; exact ⟨rfl, rfl, rfl⟩)
      obtain ⟨k', hk'⟩ : ∃ v, (t j).key = v := ⟨_, rfl⟩
      obtain ⟨lo', hlo'⟩ : ∃ v, (t j).lo = v := ⟨_, rfl⟩
      obtain ⟨hi2, hhi2⟩ : ∃ v, (t j).hi = v := ⟨_, rfl⟩
      rw [hk', hlo', hhi2] at HTJ
      rw [hk'] at d0
      rw [hlo'] at d1
      rw [hhi2] at d2
      clear hk' hlo' hhi2
      have u0 : (0 : Int) < (j : Int) + 1 := by omega
      have u1 : IntKind.i64.wrap ((j : Int) + 1 - 1) = (j : Int) := by rw [Int.add_sub_cancel]; exact IntWalk.i64_in _ (by omega)
      have u1b : IntKind.i64.wrap (j : Int) = (j : Int) := IntWalk.i64_in _ (by omega)
      have u2 : (0 : Int) ≤ (j : Int) := by omega
      have u3 : ((j : Int)).toNat = j := by omega
      have u4 : (j : Int) < (n : Int) := by omega
      by_cases q1 : k ≤ k'
      ·exact rxbad1_ToRfX
      ·by_cases q2 : lo < lo'
       ·exact rxbad1_ToRfX
       ·by_cases q3 : hi < hi2
        ·exact rxbad1_ToRfX
        ·have HN2 := Hd (HNX2.out (fun q hq => by
          obtain ⟨a1, a2, a3⟩ := HTJ.out q hq
          have a4 := HR.out
          rw [hq, a1, a2, a3, a4]
          dsimp only
          omega))
         clear HNX2 HTJ HR
         exact rxgood_ToRfX
    ·rw [fspanB_no hs] at HS1
     clear HN HNX hs
     go_upto_region 5 with (fail)
     (have HB1 := Hd (HB.out.trans ((al_below wr (.cells #[.int .i64 k, .int .i64 lo, .int .i64 hi] 89)).mono HB.out.size)); have hx := heap_alloc_new wr (.cells #[.int .i64 k, .int .i64 lo, .int .i64 hi] 89); have lt0 : wr.heap.size < (wr.alloc (.cells #[.int .i64 k, .int .i64 lo, .int .i64 hi] 89)).heap.size := (by simp); generalize World.alloc wr _ = V at *; obtain ⟨e0, e1, e2⟩ := cr3 hx; simp only [hnq] at e0 e1 e2; clear hx c0 c1 c2)
     exact rxbad1_ToRfX
   ·rw [withinB_no hk] at HIN
    clear HN HNX hk
    go_upto_region 5 with (fail)
    (have HB1 := Hd (HB.out.trans ((al_below wr (.cells #[.int .i64 k, .int .i64 lo, .int .i64 hi] 89)).mono HB.out.size)); have hx := heap_alloc_new wr (.cells #[.int .i64 k, .int .i64 lo, .int .i64 hi] 89); have lt0 : wr.heap.size < (wr.alloc (.cells #[.int .i64 k, .int .i64 lo, .int .i64 hi] 89)).heap.size := (by simp); generalize World.alloc wr _ = V at *; obtain ⟨e0, e1, e2⟩ := cr3 hx; simp only [hnq] at e0 e1 e2; clear hx c0 c1 c2)
    exact rxbad1_ToRfX
  ·obtain rfl : i = n := by omega
   have hlt' : ¬ (i : Int) < (i : Int) := by omega
   by_cases hc : 1 ≤ (i : Int) ∧ (i : Int) ≤ 40
   ·have HW1 := Hd (withinB_true hc.1 hc.2)
    have HOK := Hd (show TabOk i t from ⟨by omega, HN.out.key, HN.out.span, HN.out.step⟩)
    go_wp2_with (go_at_call 26; refine (r5in_any _ _ _ _).mono ?_; rintro e w' ⟨rfl, rfl⟩; rw [HW1.out])
    go_ret
    exact ⟨.inl ⟨rfl, by omega, HOK.out⟩, HB.out⟩
   ·have HW1 := Hd (withinB_no hc)
    go_wp2_with (go_at_call 26; refine (r5in_any _ _ _ _).mono ?_; rintro e w' ⟨rfl, rfl⟩; rw [HW1.out])
    go_ret
    exact ⟨.inr rfl, HB.out⟩
structure Rwbin (P : Int) (t : Nat → RW) (i : Nat) : Prop where
 key : ∀ j, j < i → 1 ≤ (t j).key ∧ (t j).key ≤ 1000000
 span : ∀ j, j < i → 0 ≤ (t j).lo ∧ (t j).lo ≤ (t j).hi ∧ (t j).hi ≤ P
 step : ∀ j, j + 1 < i → (t j).key < (t (j + 1)).key ∧ (t (j + 1)).lo ≤ (t j).lo ∧ (t (j + 1)).hi ≤ (t j).hi
theorem Rwbin.start (P : Int) (t : Nat → RW) : Rwbin P t 0 := ⟨fun j h => by omega, fun j h => by omega, fun j h => by omega⟩
theorem Rwbin.next {P : Int} {t : Nat → RW} {i : Nat} (h : Rwbin P t i) (h1 : 1 ≤ (t i).key ∧ (t i).key ≤ 1000000) (h2 : 0 ≤ (t i).lo ∧ (t i).lo ≤ (t i).hi ∧ (t i).hi ≤ P) (h3 : ∀ j, j + 1 = i → (t j).key < (t (j + 1)).key ∧ (t (j + 1)).lo ≤ (t j).lo ∧ (t (j + 1)).hi ≤ (t j).hi) : Rwbin P t (i + 1) :=
 ⟨fun j hj => by
  by_cases e : j = i
  ·rw [e]; exact h1
  ·exact h.key j (by omega), fun j hj => by
  by_cases e : j = i
  ·rw [e]; exact h2
  ·exact h.span j (by omega), fun j hj => by
  by_cases e : j + 1 = i
  ·exact h3 j e
  ·exact h.step j (by omega)⟩
theorem r5bin_any (P : Int) (a : Option Addr) (n c : Nat) (t : Nat → RW) (B : Nat) (w : World) (hBw : B ≤ w.heap.size) (hn : n ≤ maxLen) (hT : RWs B w a n t) :
  Calls Tryz.prog 28 #[.int .i64 P, .slice a n c] w fun e w' => ((e = .returned (.bool true) ∧ n ≤ 40 ∧ (BinOk P n t ∧ ∀ j, j < n → 1 ≤ (t j).key ∧ (t j).key ≤ 1000000)) ∨ e = .returned (.bool false)) ∧ Below w.heap.size w w' := by
 have HT := Lib.hid hT
 have HB0 := Hd (Below.refl w.heap.size w)
 unfold maxLen at hn
 clear hT
 go_enter Tryz.func28, Tryz.ntmps28
 go_wp2
 go_loopw [5] (fun x wr => ∃ i : Nat, i ≤ n ∧ x = .int .i64 (i : Int) ∧ Hid (Rwbin P t i) ∧ Hid (Below w.heap.size w wr)) (fun x _ => n - (intOf x).toNat)
 case atStart => exact ⟨0, Nat.zero_le _, rfl, Hd (Rwbin.start _ t), HB0⟩
 case round =>
  clear HB0
  obtain ⟨i, hi', rfl, HN, HB⟩ := hrel
  by_cases hlt : i < n
  ·have hlt' : (i : Int) < (n : Int) := by omega
   obtain ⟨b, off, rfl, hbB, c0, c1, c2⟩ := (HT.out.below (HB.out.mono hBw)).get hlt
   have HNX := Hd (fun h1 h2 h3 => HN.out.next h1 h2 h3)
   obtain ⟨r, hr⟩ : ∃ r, t i = r := ⟨_, rfl⟩
   have HR := Lib.hid hr
   rw [hr] at c0 c1 c2 HNX
   obtain ⟨k, lo, hi⟩ := r
   dsimp only at c0 c1 c2 HNX
   clear hr
   have HS1 := Hd (fun W => r5Span_any lo hi 0 P W)
   have HIN := Hd (fun W => r5in_any k 1 1000000 W)
   by_cases hk : 1 ≤ k ∧ k ≤ 1000000
   ·rw [withinB_true hk.1 hk.2] at HIN
    by_cases hs : 0 ≤ lo ∧ lo ≤ hi ∧ hi ≤ P
    ·rw [fspanB_true hs] at HS1
     by_cases h0 : i = 0
     ·have HN2 := Hd (HNX.out hk hs (fun j hj => by omega))
      have h00 : decide ((0 : Int) < (i : Int)) = false := decide_eq_false (by omega)
      have h01 : ¬ 0 < i := by omega
      have h02 : decide (0 < i) = false := decide_eq_false (by omega)
      clear HN HNX h0
      go_upto_region 5 with (fail)
      (have HB1 := Hd (HB.out.trans ((al_below wr (.cells #[.int .i64 k, .int .i64 lo, .int .i64 hi] 134)).mono HB.out.size)); have hx := heap_alloc_new wr (.cells #[.int .i64 k, .int .i64 lo, .int .i64 hi] 134); have lt0 : wr.heap.size < (wr.alloc (.cells #[.int .i64 k, .int .i64 lo, .int .i64 hi] 134)).heap.size := (by simp); generalize World.alloc wr _ = V at *; obtain ⟨e0, e1, e2⟩ := cr3 hx; simp only [hnq] at e0 e1 e2; clear hx c0 c1 c2)
      exact rxgood_ToRfX
     ·obtain ⟨j, rfl⟩ : ∃ j, i = j + 1 := ⟨i - 1, by omega⟩
      obtain ⟨b2, off2, hb2, hb2B, d0, d1, d2⟩ := (HT.out.below (HB.out.mono hBw)).get (i := j) (by omega)
      injection hb2 with hb2
      injection hb2 with hb2 hb3
      subst hb2
      subst hb3
      have HNX2 := Hd (fun h3 => HNX.out hk hs h3)
      clear HNX HN
      go_upto_region 5 with (fail)
      (have HB1 := Hd (HB.out.trans ((al_below wr (.cells #[.int .i64 k, .int .i64 lo, .int .i64 hi] 134)).mono HB.out.size)); have hx := heap_alloc_new wr (.cells #[.int .i64 k, .int .i64 lo, .int .i64 hi] 134); have lt0 : wr.heap.size < (wr.alloc (.cells #[.int .i64 k, .int .i64 lo, .int .i64 hi] 134)).heap.size := (by simp); generalize World.alloc wr _ = V at *; obtain ⟨e0, e1, e2⟩ := cr3 hx; simp only [hnq] at e0 e1 e2; clear hx c0 c1 c2)
      have d0 := ((bcell (HB1.out.mono hBw)).1 _ _ hbB).trans (((bcell (HB.out.mono hBw)).1 _ _ hbB).symm.trans d0)
      have d1 := ((bcell (HB1.out.mono hBw)).1 _ _ hbB).trans (((bcell (HB.out.mono hBw)).1 _ _ hbB).symm.trans d1)
      have d2 := ((bcell (HB1.out.mono hBw)).1 _ _ hbB).trans (((bcell (HB.out.mono hBw)).1 _ _ hbB).symm.trans d2)
      have ltb : b < V.heap.size := by have := HB1.out.size; omega
      have HTJ := Hd (show ∀ q, q + 1 = j + 1 → (t q).key = (t j).key ∧ (t q).lo = (t j).lo ∧ (t q).hi = (t j).hi from fun q hq => by rw [show q = j by omega]; exact ⟨rfl, rfl, rfl⟩)
      obtain ⟨k', hk'⟩ : ∃ v, (t j).key = v := ⟨_, rfl⟩
      obtain ⟨lo', hlo'⟩ : ∃ v, (t j).lo = v := ⟨_, rfl⟩
      obtain ⟨hi2, hhi2⟩ : ∃ v, (t j).hi = v := ⟨_, rfl⟩
      rw [hk', hlo', hhi2] at HTJ
      rw [hk'] at d0
      rw [hlo'] at d1
      rw [hhi2] at d2
      clear hk' hlo' hhi2
      have u0 : (0 : Int) < (j : Int) + 1 := by omega
      have u1 : IntKind.i64.wrap ((j : Int) + 1 - 1) = (j : Int) := by rw [Int.add_sub_cancel]; exact IntWalk.i64_in _ (by omega)
      have u1b : IntKind.i64.wrap (j : Int) = (j : Int) := IntWalk.i64_in _ (by omega)
      have u2 : (0 : Int) ≤ (j : Int) := by omega
      have u3 : ((j : Int)).toNat = j := by omega
      have u4 : (j : Int) < (n : Int) := by omega
      by_cases q1 : k ≤ k'
      ·exact rxbad1_ToRfX
      ·by_cases q2 : lo' < lo
       ·exact rxbad1_ToRfX
       ·by_cases q3 : hi2 < hi
        ·exact rxbad1_ToRfX
        ·have HN2 := Hd (HNX2.out (fun q hq => by
          obtain ⟨a1, a2, a3⟩ := HTJ.out q hq
          have a4 := HR.out
          rw [hq, a1, a2, a3, a4]
          dsimp only
          omega))
         clear HNX2 HTJ HR
         exact rxgood_ToRfX
    ·rw [fspanB_no hs] at HS1
     clear HN HNX hs
     go_upto_region 5 with (fail)
     (have HB1 := Hd (HB.out.trans ((al_below wr (.cells #[.int .i64 k, .int .i64 lo, .int .i64 hi] 134)).mono HB.out.size)); have hx := heap_alloc_new wr (.cells #[.int .i64 k, .int .i64 lo, .int .i64 hi] 134); have lt0 : wr.heap.size < (wr.alloc (.cells #[.int .i64 k, .int .i64 lo, .int .i64 hi] 134)).heap.size := (by simp); generalize World.alloc wr _ = V at *; obtain ⟨e0, e1, e2⟩ := cr3 hx; simp only [hnq] at e0 e1 e2; clear hx c0 c1 c2)
     exact rxbad1_ToRfX
   ·rw [withinB_no hk] at HIN
    clear HN HNX hk
    go_upto_region 5 with (fail)
    (have HB1 := Hd (HB.out.trans ((al_below wr (.cells #[.int .i64 k, .int .i64 lo, .int .i64 hi] 134)).mono HB.out.size)); have hx := heap_alloc_new wr (.cells #[.int .i64 k, .int .i64 lo, .int .i64 hi] 134); have lt0 : wr.heap.size < (wr.alloc (.cells #[.int .i64 k, .int .i64 lo, .int .i64 hi] 134)).heap.size := (by simp); generalize World.alloc wr _ = V at *; obtain ⟨e0, e1, e2⟩ := cr3 hx; simp only [hnq] at e0 e1 e2; clear hx c0 c1 c2)
    exact rxbad1_ToRfX
  ·obtain rfl : i = n := by omega
   have hlt' : ¬ (i : Int) < (i : Int) := by omega
   by_cases hc : 1 ≤ (i : Int) ∧ (i : Int) ≤ 40
   ·have HW1 := Hd (withinB_true hc.1 hc.2)
    obtain ⟨b, off, rfl, hbB, c0, _, _⟩ := (HT.out.below (HB.out.mono hBw)).get (i := 0) (by omega)
    rw [Nat.zero_mul, Nat.add_zero] at c0
    obtain ⟨k0, hk0⟩ : ∃ v, (t 0).key = v := ⟨_, rfl⟩
    rw [hk0] at c0
    have hi0 : (0 : Int) < (i : Int) := by omega
    by_cases hone : k0 = 1
    ·have HOK := Hd (show BinOk P i t ∧ ∀ j, j < i → 1 ≤ (t j).key ∧ (t j).key ≤ 1000000 from ⟨⟨by omega, by rw [hk0]; exact hone, HN.out.span, HN.out.step⟩, HN.out.key⟩)
     clear hk0
     subst hone
     go_wp2_with (go_at_call 26; refine (r5in_any _ _ _ _).mono ?_; rintro e w' ⟨rfl, rfl⟩; rw [HW1.out])
     go_ret
     exact ⟨.inl ⟨rfl, by omega, HOK.out⟩, HB.out⟩
    ·have hone' : (k0 == 1) = false := by rw [beq_eq_false_iff_ne]; exact hone
     clear hk0
     go_wp2_with (go_at_call 26; refine (r5in_any _ _ _ _).mono ?_; rintro e w' ⟨rfl, rfl⟩; rw [HW1.out])
     go_ret
     exact ⟨.inr rfl, HB.out⟩
   ·have HW1 := Hd (withinB_no hc)
    go_wp2_with (go_at_call 26; refine (r5in_any _ _ _ _).mono ?_; rintro e w' ⟨rfl, rfl⟩; rw [HW1.out])
    go_ret
    exact ⟨.inr rfl, HB.out⟩
end Go.Proofs.YtgmpelhphnmknaaGreat
namespace Go.Proofs.YtgmpelhphnmknaaGreat
open Go Go.RowKit Go.Shelf
theorem r5Sky_any (s : SK) (B : Nat) (w : World) (hBw : B ≤ w.heap.size) (hS : s.mem B w) (hn : s.bn ≤ maxLen) (hln : ∀ i, i < s.bn → s.ln i ≤ maxLen) :
  Calls Tryz.prog 6 #[.agg s.cells] w fun e w' => ((e = .returned (.bool true) ∧ s.ok) ∨ e = .returned (.bool false)) ∧ Below w.heap.size w w' := by
 have HS := Lib.hid hS
 have HBN := Hd (fun i (hi : i < s.bn) (W : World) (hb : Below B w W) => r5bin_any s.P (s.la i) (s.ln i) (s.lc i) (s.l i) B W (Nat.le_trans hBw hb.size) (hln i hi) ((hS.below hb).rows i hi))
 have HOK := Hd (fun h1 h2 h3 h4 h5 => show s.ok from ⟨h1, h2, h3, h4, h5⟩)
 generalize s.ok = OKs at *
 have HW0 := Hd (al_below w (.cells s.cells 30))
 have HX0 := Hd (heap_alloc_new w (.cells s.cells 30))
 unfold maxLen at hn
 obtain ⟨P, ba, bn, bc, be0, be1, al0, al1, la, ln, lc, l⟩ := s
 unfold SK.cells at *
 dsimp only at *
 have HB1 := Hd (fun W => r5Span_any be0 be1 (-100) 100 W)
 have HB2 := Hd (fun W => r5Span_any al0 al1 (-100) 100 W)
 clear hS hln
 by_cases c1 : 2 ≤ P ∧ P ≤ 1000000
 rotate_left
 ·have HP := Hd (withinB_no c1)
  clear HBN HOK HS c1
  go_enter Tryz.func6, Tryz.ntmps6
  go_upto_region 1 with (fail)
  generalize World.alloc w _ = V at *
  (obtain ⟨k0, k1, k2, k3, k4, k5⟩ := cr6 HX0.out; simp only [hnq] at k0 k1 k2 k3 k4 k5)
  go_wp2_with (go_at_call 26; refine (r5in_any _ _ _ _).mono ?_; rintro e w' ⟨rfl, rfl⟩; rw [HP.out])
  go_ret
  exact ⟨.inr rfl, HW0.out⟩
 have HP := Hd (withinB_true c1.1 c1.2)
 by_cases c2 : 1 ≤ (bn : Int) ∧ (bn : Int) ≤ 20
 rotate_left
 ·have HN := Hd (withinB_no c2)
  clear HBN HOK HS c1 c2
  go_enter Tryz.func6, Tryz.ntmps6
  go_upto_region 1 with (fail)
  generalize World.alloc w _ = V at *
  (obtain ⟨k0, k1, k2, k3, k4, k5⟩ := cr6 HX0.out; simp only [hnq] at k0 k1 k2 k3 k4 k5)
  go_wp2_with (go_at_call 26; refine (r5in_any _ _ _ _).mono ?_; rintro e w' ⟨rfl, rfl⟩; first | rw [HP.out] | rw [HN.out])
  go_ret
  exact ⟨.inr rfl, HW0.out⟩
 have HN := Hd (withinB_true c2.1 c2.2)
 by_cases c3 : -100 ≤ be0 ∧ be0 ≤ be1 ∧ be1 ≤ 100
 rotate_left
 ·rw [fspanB_no c3] at HB1
  clear HBN HOK HS c1 c2 c3
  go_enter Tryz.func6, Tryz.ntmps6
  go_upto_region 1 with (fail)
  generalize World.alloc w _ = V at *
  (obtain ⟨k0, k1, k2, k3, k4, k5⟩ := cr6 HX0.out; simp only [hnq] at k0 k1 k2 k3 k4 k5)
  go_wp2_with (first | (go_at_call 26; refine (r5in_any _ _ _ _).mono ?_; rintro e w' ⟨rfl, rfl⟩; first | rw [HP.out] | rw [HN.out]) | (go_at_call 27; with_reducible refine (HB1.out _).mono ?_; rintro e W1 ⟨rfl, hb1⟩; have HW1 := Hd (HW0.out.trans (hb1.mono HW0.out.size)); have HX1 := Hd (keep_at HX0.out hb1); clear hb1; clear k0 k1 k2 k3 k4 k5; (obtain ⟨k0, k1, k2, k3, k4, k5⟩ := cr6 HX1.out; simp only [hnq] at k0 k1 k2 k3 k4 k5)))
  go_ret
  exact ⟨.inr rfl, HW1.out⟩
 rw [fspanB_true c3] at HB1
 by_cases c4 : -100 ≤ al0 ∧ al0 ≤ al1 ∧ al1 ≤ 100
 rotate_left
 ·rw [fspanB_no c4] at HB2
  clear HBN HOK HS c1 c2 c3 c4
  go_enter Tryz.func6, Tryz.ntmps6
  go_upto_region 1 with (fail)
  generalize World.alloc w _ = V at *
  (obtain ⟨k0, k1, k2, k3, k4, k5⟩ := cr6 HX0.out; simp only [hnq] at k0 k1 k2 k3 k4 k5)
  go_wp2_with (first | (go_at_call 26; refine (r5in_any _ _ _ _).mono ?_; rintro e w' ⟨rfl, rfl⟩; first | rw [HP.out] | rw [HN.out]) | (go_at_call 27; with_reducible refine (HB1.out _).mono ?_; rintro e W1 ⟨rfl, hb1⟩; have HW1 := Hd (HW0.out.trans (hb1.mono HW0.out.size)); have HX1 := Hd (keep_at HX0.out hb1); clear hb1; clear k0 k1 k2 k3 k4 k5; (obtain ⟨k0, k1, k2, k3, k4, k5⟩ := cr6 HX1.out; simp only [hnq] at k0 k1 k2 k3 k4 k5)) | (go_at_call 27; with_reducible refine (HB2.out _).mono ?_; rintro e W2 ⟨rfl, hb2⟩; have HW2 := Hd (HW1.out.trans (hb2.mono HW1.out.size)); have HX2 := Hd (keep_at HX1.out hb2); clear hb2; clear k0 k1 k2 k3 k4 k5; (obtain ⟨k0, k1, k2, k3, k4, k5⟩ := cr6 HX2.out; simp only [hnq] at k0 k1 k2 k3 k4 k5)))
  go_ret
  exact ⟨.inr rfl, HW2.out⟩
 rw [fspanB_true c4] at HB2
 have HO2 := Hd (HOK.out c1 ⟨by omega, by omega⟩ c3 c4)
 clear HOK c1 c3 c4
 go_enter Tryz.func6, Tryz.ntmps6
 go_upto_region 1 with (fail)
 generalize World.alloc w _ = V at *
 (obtain ⟨k0, k1, k2, k3, k4, k5⟩ := cr6 HX0.out; simp only [hnq] at k0 k1 k2 k3 k4 k5)
 go_upto_region 3 with (first | (go_at_call 26; refine (r5in_any _ _ _ _).mono ?_; rintro e w' ⟨rfl, rfl⟩; first | rw [HP.out] | rw [HN.out]) | (go_at_call 27; with_reducible refine (HB1.out _).mono ?_; rintro e W1 ⟨rfl, hb1⟩; have HW1 := Hd (HW0.out.trans (hb1.mono HW0.out.size)); have HX1 := Hd (keep_at HX0.out hb1); clear hb1; clear k0 k1 k2 k3 k4 k5; (obtain ⟨k0, k1, k2, k3, k4, k5⟩ := cr6 HX1.out; simp only [hnq] at k0 k1 k2 k3 k4 k5)) | (go_at_call 27; with_reducible refine (HB2.out _).mono ?_; rintro e W2 ⟨rfl, hb2⟩; have HW2 := Hd (HW1.out.trans (hb2.mono HW1.out.size)); have HX2 := Hd (keep_at HX1.out hb2); clear hb2; clear k0 k1 k2 k3 k4 k5; (obtain ⟨k0, k1, k2, k3, k4, k5⟩ := cr6 HX2.out; simp only [hnq] at k0 k1 k2 k3 k4 k5)))
 go_wp2
 clear k0 k1 k2 k3 k4 k5
 clear HB1 HB2 HP HN HX0 HX1 HW0 HW1
 go_loopw [3] (fun x wr => ∃ i : Nat, i ≤ bn ∧ x = .int .i64 (i : Int) ∧ Hid (∀ j, j < i → ln j ≤ 40 ∧ BinOk P (ln j) (l j) ∧ ∀ q, q < ln j → 1 ≤ (l j q).key ∧ (l j q).key ≤ 1000000) ∧ Hid (Below w.heap.size w wr ∧ wr.heap[w.heap.size]? = some (.cells #[.int .i64 P, .slice ba bn bc, .int .i64 be0, .int .i64 be1, .int .i64 al0, .int .i64 al1] 30))) (fun x _ => bn - (intOf x).toNat)
 case atStart => exact ⟨0, Nat.zero_le _, rfl, Hd (fun j h => by omega), Lib.hid ⟨HW2.out, HX2.out⟩⟩
 case round =>
  clear HW2 HX2
  obtain ⟨i, hi, rfl, HA, HB⟩ := hrel
  have HX := Lib.hid HB.out.2
  by_cases hlt : i < bn
  ·have hlt' : (i : Int) < (bn : Int) := by omega
   obtain ⟨b, off, hba, hbB, c0⟩ := (HS.out.below (HB.out.1.mono hBw)).get hlt
   dsimp only at hba c0
   subst hba
   have HBi := Hd (HBN.out i hlt)
   have HA2 := Hd (fun (h : ln i ≤ 40 ∧ BinOk P (ln i) (l i) ∧ ∀ q, q < ln i → 1 ≤ (l i q).key ∧ (l i q).key ≤ 1000000) => show ∀ j, j < i + 1 → ln j ≤ 40 ∧ BinOk P (ln j) (l j) ∧ ∀ q, q < ln j → 1 ≤ (l j q).key ∧ (l j q).key ≤ 1000000 from fun j hj => by
    by_cases e : j = i
    ·rw [e]; exact h
    ·exact HA.out j (by omega))
   generalize la i = lai at *
   generalize lc i = lci at *
   obtain ⟨lni, hlni⟩ : ∃ x, ln i = x := ⟨_, rfl⟩
   obtain ⟨li, hli⟩ : ∃ x, l i = x := ⟨_, rfl⟩
   rw [hlni] at c0 HBi HA2
   rw [hli] at HBi HA2
   clear hlni hli HBN HA
   have lt1 : b < wr.heap.size := by have := HB.out.1.size; omega
   have lt2 := (blkL HX.out)
   (obtain ⟨k0, k1, k2, k3, k4, k5⟩ := cr6 HX.out; simp only [hnq] at k0 k1 k2 k3 k4 k5)
   go_upto_region 6 with (fail)
   (refine wp_region_calm_tail (wr.heap.size) 7 (by kernel_rfl) (by kernel_rfl) ?_; simp only [List.take_succ_cons, List.take_zero, List.drop_succ_cons, List.drop_zero]; (repeat (first | go_big_quiet_step (fail) | quiet_step (fail))); refine wpQuiet_nil (wqn ?_); intro xq)
   have hq := xq.below
   have HB3 := Hd (And.intro (HB.out.1.trans (hq.mono HB.out.1.size)) (keep_at HX.out hq))
   clear k0 k1 k2 k3 k4 k5
   clear hq HB HX c0 lt1 lt2
   generalize Calm.val xq = V3 at *
   go_step
   go_step
   refine (HBi.out _ (HB3.out.1.mono hBw)).mono ?_
   rintro e W4 ⟨(⟨rfl, hok⟩ | rfl), hb4⟩
   ·have HB4 := Hd (And.intro (HB3.out.1.trans (hb4.mono HB3.out.1.size)) (keep_at HB3.out.2 hb4))
    have HA3 := Hd (HA2.out hok)
    clear hok hb4 HB3 HA2 HBi
    have HX := Lib.hid HB4.out.2
    (obtain ⟨k0, k1, k2, k3, k4, k5⟩ := cr6 HX.out; simp only [hnq] at k0 k1 k2 k3 k4 k5)
    go_wp2
    go_roundw
    case rel => first | exact ⟨i + 1, by omega, by go_num, HA3, HB4⟩ | ((repeat apply Exists.intro); exact ⟨⟨i + 1, by omega, by go_num, HA3, HB4⟩, rfl⟩)
    case measure => simp [intOf]; omega
   ·have HB4 := Hd (HB3.out.1.trans (hb4.mono HB3.out.1.size))
    clear hb4 HB3 HA2 HBi
    go_wp2
    go_ret
    exact ⟨.inr rfl, HB4.out⟩
  ·obtain rfl : i = bn := by omega
   have hlt' : ¬ (i : Int) < (i : Int) := by omega
   have HOE := Hd (HO2.out HA.out)
   (obtain ⟨k0, k1, k2, k3, k4, k5⟩ := cr6 HX.out; simp only [hnq] at k0 k1 k2 k3 k4 k5)
   go_wp2
   go_ret
   exact ⟨.inl ⟨rfl, HOE.out⟩, HB.out.1⟩
end Go.Proofs.YtgmpelhphnmknaaGreat
namespace Go.Proofs.YtgmpelhphnmknaaGreat
open Go Go.RowKit Go.Shelf
theorem SK.mem.up {s : SK} {B B' : Nat} {w : World} (h : s.mem B w) (hb : B ≤ B') : s.mem B' w := ⟨by
 rcases h.bins with h | ⟨b, off, ha, hB, hc⟩
 ·exact .inl h
 ·exact .inr ⟨b, off, ha, by omega, hc⟩, fun i hi => (h.rows i hi).up hb⟩
def spl1 : Nat → SPL := fun _ => ⟨1, ⟨0, 0, 0, 0⟩⟩
theorem spl1_ok (i : Nat) : (spl1 i).ok := ⟨(by decide : (1 : Int) ≤ 1 ∧ (1 : Int) ≤ 1000000), (by decide : (-1000 : Int) ≤ 0 ∧ (0 : Int) ≤ 0 ∧ (0 : Int) ≤ 1000), (by decide : (-1000 : Int) ≤ 0 ∧ (0 : Int) ≤ 0 ∧ (0 : Int) ≤ 1000)⟩
structure TdIn (v : VO) (ga : Option Addr) (gn : Nat) (g : Nat → Int) (sa : Option Addr) (sn : Nat) (ss : Nat → SV) (da : Option Addr) (dn : Nat) (d : Nat → Int) (s : SK) (ta : Option Addr) (tn : Nat) (t : Nat → RW) (w : World) : Prop where
 volb : volB v = true
 grb : grB v gn g = true
 cells : (sn : Int) = v.nx * v.ny * v.nz
 chk : ∀ bs, checkN sn ss 0 bs = 0
 fld : fieldB sn ss dn d = true
 gl : gn ≤ maxLen
 gr : Ints w.heap.size w ga gn g
 sp : Spans w.heap.size w sa sn ss
 de : Ints w.heap.size w da dn d
 dl : dn ≤ maxLen
 sky : s.mem w.heap.size w
 sok : s.ok
 tab : RWs w.heap.size w ta tn t
 tl : tn ≤ 40
 tok : TabOk tn t
theorem check_any {n : Nat} {ss : Nat → SV} {bs bs' : Nat → BM} (h : checkN n ss 0 bs = 0) : checkN n ss 0 bs' = 0 := check_beams h (by decide) (fun i hi => by omega)
section
variable {v : VO} {ga : Option Addr} {gn : Nat} {g : Nat → Int} {sa : Option Addr} {sn : Nat} {ss : Nat → SV} {da : Option Addr} {dn : Nat} {d : Nat → Int} {s : SK} {ta : Option Addr} {tn : Nat} {t : Nat → RW} {w W : World}
theorem TdIn.den (h : TdIn v ga gn g sa sn ss da dn d s ta tn t w) : dn = sn ∧ denB dn d = true ∧ ∀ i, i < sn → inB (d i) (ss i).lo (ss i).hi = true := by
 have hf := h.fld
 unfold fieldB at hf
 rw [Bool.and_eq_true, allUpto_iff, beq_iff_eq] at hf
 obtain ⟨h1, rfl⟩ := hf
 rw [Nat.min_self] at h1
 refine ⟨rfl, denB_iff.2 fun i hi => ?_, h1⟩
 have h2 := inB_iff.1 (h1 i hi)
 have h3 := (checkN_shape (h.chk fun _ => se0)).span i hi
 omega
theorem TdIn.vol (h : TdIn v ga gn g sa sn ss da dn d s ta tn t w) : v.Ok := volB_iff.1 h.volb
theorem TdIn.G (h : TdIn v ga gn g sa sn ss da dn d s ta tn t w) (hb : Below w.heap.size w W) : Ints W.heap.size W ga gn g := (h.gr.below hb).up hb.size
theorem TdIn.D (h : TdIn v ga gn g sa sn ss da dn d s ta tn t w) (hb : Below w.heap.size w W) : Ints W.heap.size W da dn d := (h.de.below hb).up hb.size
theorem TdIn.S (h : TdIn v ga gn g sa sn ss da dn d s ta tn t w) (hb : Below w.heap.size w W) : Spans W.heap.size W sa sn ss := (h.sp.below hb).up hb.size
theorem TdIn.deep (h : TdIn v ga gn g sa sn ss da dn d s ta tn t w) (k : LQ) (hk : k.ok s.bn) (m : Nat) (hM : IsM v k.r m) : 0 ≤ opS d (prN v k.r g (m + 1)) ∧ (0 ≤ (opS d (prN v k.r g (m + 1))).tdiv k.unit ∧ (opS d (prN v k.r g (m + 1))).tdiv k.unit ≤ 432000000000000) := by
 have hr := rayB_iff.1 hk.ray
 have hd := denB_iff.1 h.den.2.1
 have h1 := prN_ok h.vol hr (gr_mod h.vol h.grb) (m + 1)
 rw [← h.cells, ← h.den.1] at h1
 have h2 := opS_bound (N := (dn : Int)) (d := d) (fun c hc => hd c (by omega)) _ h1
 have h3 := Int.le_trans (prN_lenS h.vol hr g m hM.1) (atF_low h.vol hr m).2
 have hu := hk.unit
 refine ⟨h2.1, ?_⟩
 rw [Int.tdiv_eq_ediv_of_nonneg h2.1]
 refine ⟨Int.ediv_nonneg h2.1 (by omega), ?_⟩
 have h4 := Int.ediv_le_self k.unit h2.1
 omega
theorem TdIn.looks (h : TdIn v ga gn g sa sn ss da dn d s ta tn t w) (gc dc : Nat) (k : LQ) (hk : k.ok s.bn) (m : Nat) (hM : IsM v k.r m) (hb : Below w.heap.size w W) :
  Calls Tryz.prog 9 #[v.val, .slice ga gn gc, .slice da dn dc, .agg s.cells, k.val] W fun e w' => e = .returned (.tuple #[.int .i64 ((opS d (prN v k.r g (m + 1))).tdiv k.unit), .bool (chB (prN v k.r g (m + 1)) && decide ((opS d (prN v k.r g (m + 1))).tdiv k.unit < 1000000))]) ∧ Below W.heap.size W w' :=
 looks_ok v s k h.vol m hM ga gn gc g da dn dc d W h.gl (h.G hb) h.grb (h.D hb) (by rw [h.den.1]; exact h.cells) h.den.2.1 hk _ rfl (h.deep k hk m hM).2
theorem TdIn.fx (h : TdIn v ga gn g sa sn ss da dn d s ta tn t w) (hb : Below w.heap.size w W) {sb : Nat} {st : TypeId} (hs : W.heap[sb]? = some (.cells #[.int .i64 1, .int .i64 0, .int .i64 0, .int .i64 0, .int .i64 0] st)) : FxIn s ta tn t (some ⟨sb, 0, none⟩) 1 spl1 W.heap.size W := by
 refine ⟨Nat.le_refl _, ?_, h.sok, ?_, h.tl, h.tok, .inr ⟨sb, 0, rfl, (blkL hs), fun i hi => ?_⟩, by decide, fun i hi => spl1_ok i⟩
 ·exact (h.sky.below hb).up hb.size
 ·exact (h.tab.below hb).up hb.size
 ·obtain rfl : i = 0 := by omega
  exact ⟨cell_of_row _ _ 0 _ _ _ hs, cell_of_row _ _ 1 _ _ _ hs, cell_of_row _ _ 2 _ _ _ hs, cell_of_row _ _ 3 _ _ _ hs, cell_of_row _ _ 4 _ _ _ hs⟩
theorem TdIn.exp (h : TdIn v ga gn g sa sn ss da dn d s ta tn t w) {bin : Nat} (hbin : bin < s.bn) (x : Int) : 0 ≤ eLo s tn t bin x ∧ eLo s tn t bin x ≤ eHi s tn t bin x ∧ eHi s tn t bin x ≤ s.P := ex_ok h.tok (h.sok.rows bin hbin).2.1 x
theorem TdIn.calm (h : TdIn v ga gn g sa sn ss da dn d s ta tn t w) {bin : Nat} (hbin : bin < s.bn) (x : Int) : mLo s tn t bin spl1 1 x = eLo s tn t bin x ∧ mHi s tn t bin spl1 1 x = eHi s tn t bin x := mn_calm s _ _ spl1 h.sok.parts (h.exp hbin x) (by decide) rfl
theorem TdIn.mean (h : TdIn v ga gn g sa sn ss da dn d s ta tn t w) (tc : Nat) (hb : Below w.heap.size w W) {sb : Nat} {st : TypeId} (hs : W.heap[sb]? = some (.cells #[.int .i64 1, .int .i64 0, .int .i64 0, .int .i64 0, .int .i64 0] st)) {bin : Nat} (hbin : bin < s.bn) {x : Int} (hx : 0 ≤ x ∧ x ≤ 1000000) :
  Calls Tryz.prog 10 #[.agg s.cells, .slice ta tn tc, .int .i64 (bin : Int), .int .i64 x, .slice (some ⟨sb, 0, none⟩) 1 1] W fun e w' => e = .returned (.tuple #[.agg #[.int .i64 (eLo s tn t bin x), .int .i64 (eHi s tn t bin x)], .int .i64 0]) ∧ Below W.heap.size W w' := by
 have := Mean_any s ta tn tc t (some ⟨sb, 0, none⟩) 1 1 spl1 bin x W.heap.size W (h.fx hb hs) hbin hx
 rw [(h.calm hbin x).1, (h.calm hbin x).2] at this
 exact this
theorem TdIn.curve (h : TdIn v ga gn g sa sn ss da dn d s ta tn t w) (bin : Nat) : CurveOk (fxSt s tn t bin spl1 1).length (fFr (fxSt s tn t bin spl1 1)) (fLw (fxSt s tn t bin spl1 1)) (fHg (fxSt s tn t bin spl1 1)) (mLo s tn t bin spl1 1) (mHi s tn t bin spl1 1) := curve_ok h.tok (fun y => mnLo s y spl1 1) (fun y => mnHi s y spl1 1)
theorem TdIn.opac (h : TdIn v ga gn g sa sn ss da dn d s ta tn t w) (tc : Nat) (hb : Below w.heap.size w W) {sb : Nat} {st : TypeId} (hs : W.heap[sb]? = some (.cells #[.int .i64 1, .int .i64 0, .int .i64 0, .int .i64 0, .int .i64 0] st)) {bin : Nat} (hbin : bin < s.bn) {L H : Int} (hr : 0 ≤ L ∧ L ≤ H ∧ H ≤ s.P) :
  Calls Tryz.prog 15 #[.agg s.cells, .slice ta tn tc, .int .i64 (bin : Int), .agg #[.int .i64 L, .int .i64 H], .slice (some ⟨sb, 0, none⟩) 1 1] W (OpRes (fxSt s tn t bin spl1 1) L H W) :=
 Opacity_any s ta tn tc t (some ⟨sb, 0, none⟩) 1 1 spl1 bin L H W.heap.size W (h.fx hb hs) hbin hr (h.curve bin)
def oLo (s : SK) (tn : Nat) (t : Nat → RW) (bin : Nat) (L H : Int) : Int := fFr (fxSt s tn t bin spl1 1) (opI (fxSt s tn t bin spl1 1).length (fLw (fxSt s tn t bin spl1 1)) (fHg (fxSt s tn t bin spl1 1)) L H)
def oHi (s : SK) (tn : Nat) (t : Nat → RW) (bin : Nat) (L H : Int) : Int := opTo (fxSt s tn t bin spl1 1).length (fFr (fxSt s tn t bin spl1 1)) (fLw (fxSt s tn t bin spl1 1)) (fHg (fxSt s tn t bin spl1 1)) L H
theorem TdIn.has (h : TdIn v ga gn g sa sn ss da dn d s ta tn t w) {bin : Nat} (hbin : bin < s.bn) {x L H : Int} (hx : 0 ≤ x ∧ x ≤ 1000000) (hL : eLo s tn t bin x ≤ H) (hH : L ≤ eHi s tn t bin x) :
  opI (fxSt s tn t bin spl1 1).length (fLw (fxSt s tn t bin spl1 1)) (fHg (fxSt s tn t bin spl1 1)) L H < (fxSt s tn t bin spl1 1).length ∧ oLo s tn t bin L H ≤ x ∧ x ≤ oHi s tn t bin L H := by
 refine op_has (h.curve bin) (fun x y h0 hxy _ => ?_) hx.1 hx.2 (by rw [(h.calm hbin x).1]; exact hL) (by rw [(h.calm hbin x).2]; exact hH)
 rw [(h.calm hbin x).1, (h.calm hbin x).2, (h.calm hbin y).1, (h.calm hbin y).2]
 exact ex_anti h.tok (h.sok.rows bin hbin).2.1 h0 hxy
theorem TdIn.span (h : TdIn v ga gn g sa sn ss da dn d s ta tn t w) {bin : Nat} (hbin : bin < s.bn) {x L H : Int} (hx : 0 ≤ x ∧ x ≤ 1000000) (hL : eLo s tn t bin x ≤ H) (hH : L ≤ eHi s tn t bin x) : 0 ≤ oLo s tn t bin L H ∧ oLo s tn t bin L H ≤ x ∧ x ≤ oHi s tn t bin L H ∧ oHi s tn t bin L H ≤ 1000000 := by
 have h1 := h.has hbin hx hL hH
 have h2 := op_ok (h.curve bin) h1.1
 exact ⟨h2.1, h1.2.1, h1.2.2, h2.2.2⟩
theorem TdIn.opac_has (h : TdIn v ga gn g sa sn ss da dn d s ta tn t w) (tc : Nat) (hb : Below w.heap.size w W) {sb : Nat} {st : TypeId} (hs : W.heap[sb]? = some (.cells #[.int .i64 1, .int .i64 0, .int .i64 0, .int .i64 0, .int .i64 0] st)) {bin : Nat} (hbin : bin < s.bn) {L H : Int} (hr : 0 ≤ L ∧ L ≤ H ∧ H ≤ s.P) {x : Int} (hx : 0 ≤ x ∧ x ≤ 1000000) (hL : eLo s tn t bin x ≤ H) (hH : L ≤ eHi s tn t bin x) :
  Calls Tryz.prog 15 #[.agg s.cells, .slice ta tn tc, .int .i64 (bin : Int), .agg #[.int .i64 L, .int .i64 H], .slice (some ⟨sb, 0, none⟩) 1 1] W fun e w' => e = .returned (.tuple #[.agg #[.int .i64 (oLo s tn t bin L H), .int .i64 (oHi s tn t bin L H)], .int .i64 0]) ∧ Below W.heap.size W w' :=
 (h.opac tc hb hs hbin hr).mono fun e w' h1 => ⟨by have h2 := h1.2; rw [if_pos (h.has hbin hx hL hH).1] at h2; exact h2, h1.1⟩
end
end Go.Proofs.YtgmpelhphnmknaaGreat
namespace Go.Proofs.YtgmpelhphnmknaaGreat
open Go Go.RowKit Go.Shelf
theorem Td_rock (v : VO) (ga : Option Addr) (gn gc : Nat) (g : Nat → Int) (sa : Option Addr) (sn sc : Nat) (ss : Nat → SV) (bs : Nat → BM) (da : Option Addr) (dn dc : Nat) (d : Nat → Int) (s : SK) (tv lv : Value) (w : World) (hgn : gn ≤ maxLen) (hG : Ints w.heap.size w ga gn g) (hS : Spans w.heap.size w sa sn ss) (hD : Ints w.heap.size w da dn d) (hdn : dn ≤ maxLen) (hno : rockB v gn g sn ss bs dn d 5000 = false) :
  Calls Tryz.prog 4 #[v.val, .slice ga gn gc, .slice sa sn sc, .slice da dn dc, .agg s.cells, tv, lv] w fun e w' => e = .returned (.bool true) ∧ Below w.heap.size w w' := by
 have HRK := Hd (fun (W : World) (hb : Below w.heap.size w W) => rocky_any v ga gn gc g sa sn sc ss bs da dn dc d 5000 W hgn ((hG.below hb).up hb.size) ((hS.below hb).up hb.size) ((hD.below hb).up hb.size) hdn)
 have HKN := Hd (fun (W : World) => known11_any W)
 rw [hno] at HRK
 have HB := Hd (((Below.refl _ w).alloc (Nat.le_refl _) (.cells #[.int .i64 v.nx, .int .i64 v.ny, .int .i64 v.nz, .int .i64 v.size] 23)).alloc (by simp) (.cells s.cells 30))
 have e1 := (Below.heap_alloc (w.alloc (.cells #[.int .i64 v.nx, .int .i64 v.ny, .int .i64 v.nz, .int .i64 v.size] 23)) (.cells s.cells 30) w.heap.size (by simp)).trans (heap_alloc_new w _)
 unfold VO.val SK.cells at *
 clear hG hS hD
 go_enter Tryz.func4, Tryz.ntmps4
 go_upto_region 1 with (fail)
 generalize World.alloc (World.alloc w _) _ = V at *
 obtain ⟨v0, v1, v2, v3⟩ := cr4 e1
 clear e1
 go_wp2_with (first
  | (go_at_call 5; refine (HRK.out _ HB.out).mono ?_; rintro e W1 ⟨rfl, hb1⟩; have HB1 := Hd (HB.out.trans (hb1.mono HB.out.size)); clear hb1 v0 v1 v2 v3)
  | (go_at_call 8; refine (HKN.out _).mono ?_; rintro e W2 ⟨rfl, hb2⟩; have HB2 := Hd (HB1.out.trans (hb2.mono HB1.out.size)); clear hb2))
 go_ret
 exact ⟨rfl, HB2.out⟩
end Go.Proofs.YtgmpelhphnmknaaGreat
namespace Go.Proofs.YtgmpelhphnmknaaGreat
open Go.RowKit
theorem size_look : (Tryz.prog.info? 35).map (·.size) = some 11 := by kernel_rfl
theorem load_look (ρ : Operand → Value) (x : Operand) (dst : Option Tmp) (ty : TypeId) (pos : String) (after : Array Edge) (guard : Option (Nat × Bool)) (w : World) (hx : ρ x = .pointer (some ⟨(addrOf (ρ x)).block, (addrOf (ρ x)).off, none⟩))
  (h : (w.cell? ⟨(addrOf (ρ x)).block, (addrOf (ρ x)).off, none⟩).isSome = true ∧ (w.cell? ⟨(addrOf (ρ x)).block, (addrOf (ρ x)).off + 1, none⟩).isSome = true ∧ (w.cell? ⟨(addrOf (ρ x)).block, (addrOf (ρ x)).off + 2, none⟩).isSome = true ∧ (w.cell? ⟨(addrOf (ρ x)).block, (addrOf (ρ x)).off + 3, none⟩).isSome = true ∧ (w.cell? ⟨(addrOf (ρ x)).block, (addrOf (ρ x)).off + 4, none⟩).isSome = true ∧ (w.cell? ⟨(addrOf (ρ x)).block, (addrOf (ρ x)).off + 5, none⟩).isSome = true ∧ (w.cell? ⟨(addrOf (ρ x)).block, (addrOf (ρ x)).off + 6, none⟩).isSome = true ∧ (w.cell? ⟨(addrOf (ρ x)).block, (addrOf (ρ x)).off + 7, none⟩).isSome = true ∧ (w.cell? ⟨(addrOf (ρ x)).block, (addrOf (ρ x)).off + 8, none⟩).isSome = true ∧ (w.cell? ⟨(addrOf (ρ x)).block, (addrOf (ρ x)).off + 9, none⟩).isSome = true ∧ (w.cell? ⟨(addrOf (ρ x)).block, (addrOf (ρ x)).off + 10, none⟩).isSome = true) :
  Sem.run Tryz.prog (execOp ρ ⟨dst, .load 35 x, ty, pos, after, guard⟩) w = .ok (.value (.agg #[(w.cell? ⟨(addrOf (ρ x)).block, (addrOf (ρ x)).off, none⟩).getD undef, (w.cell? ⟨(addrOf (ρ x)).block, (addrOf (ρ x)).off + 1, none⟩).getD undef, (w.cell? ⟨(addrOf (ρ x)).block, (addrOf (ρ x)).off + 2, none⟩).getD undef, (w.cell? ⟨(addrOf (ρ x)).block, (addrOf (ρ x)).off + 3, none⟩).getD undef, (w.cell? ⟨(addrOf (ρ x)).block, (addrOf (ρ x)).off + 4, none⟩).getD undef, (w.cell? ⟨(addrOf (ρ x)).block, (addrOf (ρ x)).off + 5, none⟩).getD undef, (w.cell? ⟨(addrOf (ρ x)).block, (addrOf (ρ x)).off + 6, none⟩).getD undef, (w.cell? ⟨(addrOf (ρ x)).block, (addrOf (ρ x)).off + 7, none⟩).getD undef, (w.cell? ⟨(addrOf (ρ x)).block, (addrOf (ρ x)).off + 8, none⟩).getD undef, (w.cell? ⟨(addrOf (ρ x)).block, (addrOf (ρ x)).off + 9, none⟩).getD undef, (w.cell? ⟨(addrOf (ρ x)).block, (addrOf (ρ x)).off + 10, none⟩).getD undef])) w := by
 obtain ⟨h0, h1, h2, h3, h4, h5, h6, h7, h8, h9, h10⟩ := h
 exact exec_load_n 11 Tryz.underlying35 rfl size_look ρ x _ rfl w _ _ hx (fun j hj => by match j, hj with | 0, _ => exact h0 | 1, _ => exact h1 | 2, _ => exact h2 | 3, _ => exact h3 | 4, _ => exact h4 | 5, _ => exact h5 | 6, _ => exact h6 | 7, _ => exact h7 | 8, _ => exact h8 | 9, _ => exact h9 | 10, _ => exact h10 | k + 11, h => omega)
attribute [go_sem ↓] load_look
end Go.Proofs.YtgmpelhphnmknaaGreat
