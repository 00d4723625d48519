/- Texts put together: ToFlxL, ToFlxM, ToCvLaw. -/
import Derived.Test.YtgmpelhphnmknaaGreatQau
import Derived.Deep.CutBlock
import Derived.Test.YtgmpelhphnmknaaGreatQad
import Derived.Lib.SlicesCompact
set_option maxRecDepth 100000
set_option maxHeartbeats 8000000
set_option linter.unusedVariables false
set_option linter.unusedSimpArgs false
namespace Go.Proofs.YtgmpelhphnmknaaGreat
open Go Go.RowKit Go.Shelf
structure MnB (w W : World) (lo hi a b : Int) : Prop where
 rates : W.heap[w.heap.size]? = some (.cells #[.int .i64 lo, .int .i64 hi] 28)
 res : W.heap[w.heap.size + 1]? = some (.cells #[.int .i64 0, .int .i64 0] 28)
 sums : W.heap[w.heap.size + 1 + 1]? = some (.cells #[.int .i64 a, .int .i64 b] 173)
 below : Below w.heap.size w W
theorem MnB.lt {w W : World} {lo hi a b : Int} (h : MnB w W lo hi a b) : w.heap.size + 3 ≤ W.heap.size := by
 have := (blkL h.sums)
 omega
theorem MnB.step {w W W' : World} {lo hi a b : Int} (h : MnB w W lo hi a b) (hb : Below W.heap.size W W') : MnB w W' lo hi a b :=
 ⟨keep_at h.rates hb, keep_at h.res hb, keep_at h.sums hb, h.below.trans (hb.mono h.below.size)⟩
theorem MnB.set0 {w W : World} {lo hi a b : Int} (h : MnB w W lo hi a b) (v : Int) : MnB w (W.setCell ⟨w.heap.size + 1 + 1, 0, none⟩ (.int .i64 v)) lo hi v b :=
 ⟨(heap_setCell_other W ⟨w.heap.size + 1 + 1, 0, none⟩ _ _ (by dsimp only; omega)).trans h.rates, (heap_setCell_other W ⟨w.heap.size + 1 + 1, 0, none⟩ _ _ (by dsimp only; omega)).trans h.res, heap_setCell_same W _ 0 _ _ _ h.sums, h.below.setCell (by dsimp only; omega) _⟩
theorem MnB.set1 {w W : World} {lo hi a b : Int} (h : MnB w W lo hi a b) (v : Int) : MnB w (W.setCell ⟨w.heap.size + 1 + 1, 1, none⟩ (.int .i64 v)) lo hi a v :=
 ⟨(heap_setCell_other W ⟨w.heap.size + 1 + 1, 1, none⟩ _ _ (by dsimp only; omega)).trans h.rates, (heap_setCell_other W ⟨w.heap.size + 1 + 1, 1, none⟩ _ _ (by dsimp only; omega)).trans h.res, heap_setCell_same W _ 1 _ _ _ h.sums, h.below.setCell (by dsimp only; omega) _⟩
theorem ix_m0 (a b c d : Int) (f g : Value) : ∀ W : World, (Instr.index 176 (.agg #[.int .i64 a, .int .i64 b, f, .int .i64 c, .int .i64 d, g]) (.int .i64 0)).run Tryz.prog W = .ok (.agg #[.int .i64 a, .int .i64 b, f]) W := by intro W; kernel_rfl
theorem ix_m1 (a b c d : Int) (f g : Value) : ∀ W : World, (Instr.index 176 (.agg #[.int .i64 a, .int .i64 b, f, .int .i64 c, .int .i64 d, g]) (.int .i64 1)).run Tryz.prog W = .ok (.agg #[.int .i64 c, .int .i64 d, g]) W := by intro W; kernel_rfl
theorem mtk_ToFlxL {P : Program} {md : Region.Mode} {Q : Exit → Act → World → Prop} {S : World → Prop} {l : List Oper} {n f : Nat} {listed : Array Bool} {a : Act} {w : World} {v : Value} {oi : Oper} {X : Prop} (i : Nat) (q : X) (hi : l.toArray[i]? = some oi := by rfl) (hB : TkB md l n listed i = true := by kernel_rfl) (hQ : ∀ c a w, Q (.panic c) (a.put oi.dst v) w → Q (.panic c) a w := by exact fun _ _ _ h => h) (hy : YieldsIf P l.toArray S oi v a := by (refine Or.inl ⟨by rfl, ?_⟩; intro w' hSw; (try dsimp only at hSw); obtain ⟨z1, z2⟩ := hSw; (obtain ⟨g0, g1, g2, g3, g4, g5, g6, g7⟩ := cr8 z1; simp only [hnq] at g0 g1 g2 g3 g4 g5 g6 g7); obtain ⟨k0, k1, k2, k3, k4⟩ := cr5 z2; simp only [hnq] at k0 k1 k2 k3 k4; clear z1 z2; (try simp only [hng]); go_simp; (try with_reducible rfl))) (hS : S w := by assumption) (hx : X → headH P md l.toArray Q S n (tailL P md l Q n) f (listed.setIfInBounds i true) (a.put oi.dst v) w := by (intro qq; refine hnm ?_; exact qq)) : headH P md l.toArray Q S n (tailL P md l Q n) (f + 1) listed a w := headH_take hi hB hQ hy hS (hx q)
theorem mean_any (s : SK) (ta : Option Addr) (tn tc gb mb : Nat) (a : Option Addr) (n c : Nat) (t : Nat → SPL) (lo hi : Int) (B : Nat) (w : World) (hBw : B ≤ w.heap.size) (hO : s.ok) (hG : GrdAt s ta tn tc gb mb w) (hT : Spls B w a n t) (hn : 1 ≤ n ∧ n ≤ 50) (ht : ∀ i, i < n → (t i).ok) (hlo : 0 ≤ lo ∧ lo ≤ 1000000) (hhi : 0 ≤ hi ∧ hi ≤ 1000000) :
  Calls Tryz.prog 38 #[.pointer (some ⟨gb, 0, none⟩), .agg #[.int .i64 lo, .int .i64 hi], .slice a n c] w fun e w' => e = .returned (spV (mnLo s lo t n) (mnHi s hi t n)) ∧ Below w.heap.size w w' := by
 have HT := Lib.hid hT
 have HG := Hd (fun (W : World) (hb : Below w.heap.size w W) => show GrdAt s ta tn tc gb mb W from hG.step hb)
 have HF := Hd (fun i (hi : i < n) W => factors_any s (t i).w hO.beta hO.alpha (ht i hi).w W)
 have hfl : ∀ i, i < n → 0 ≤ fLo s (t i) ∧ fLo s (t i) ≤ 201000 := fun i hi => mnF_bound (facF_bound s (t i).w hO.beta hO.alpha (ht i hi).w) 16
 have hfh : ∀ i, i < n → 0 ≤ fHi s (t i) ∧ fHi s (t i) ≤ 201000 := fun i hi => mxF_bound (facF_bound s (t i).w hO.beta hO.alpha (ht i hi).w) 16
 have HFL := Lib.hid hfl
 have HFH := Lib.hid hfh
 have HL := Hd (fun i (hi : i < n) (W : World) (hb : Below w.heap.size w W) => least_any s ta tn tc gb mb lo (fLo s (t i)) W (hG.step hb) hlo (hfl i hi))
 have HM := Hd (fun i (hx : i < n) (W : World) (hb : Below w.heap.size w W) => most_any s ta tn tc gb mb hi (fHi s (t i)) W (hG.step hb) hhi (hfh i hx))
 have hll : ∀ i, i < n → 0 ≤ lstF s.P lo (fLo s (t i)) ∧ lstF s.P lo (fLo s (t i)) ≤ 1000000 := fun i hi => lstF_bound hO.parts hlo (hfl i hi)
 have hmm : ∀ i, i < n → 0 ≤ mstF s.P hi (fHi s (t i)) ∧ mstF s.P hi (fHi s (t i)) ≤ 1000000 := fun i hx => mstF_bound hO.parts hhi (hfh i hx)
 have HSL := Hd (fun k (hk : k ≤ n) => slS_bound ht k hk)
 have HS0 := Hd (fun k (hk : k ≤ n) => s0S_bound ht hll k hk)
 have HS1 := Hd (fun k (hk : k ≤ n) => s1S_bound ht hmm k hk)
 have HLL := Lib.hid hll
 have HMM := Lib.hid hmm
 have HTO := Lib.hid ht
 have HGL := Hd (blkL hG)
 have HRES := Hd (show mnLo s lo t n = s0S s lo t n / slS t n ∧ mnHi s hi t n = (s1S s hi t n + slS t n - 1) / slS t n from ⟨rfl, rfl⟩)
 obtain ⟨h1, h2, h3, h4⟩ := fx_three w (.cells #[.int .i64 lo, .int .i64 hi] 28) (.cells #[.int .i64 0, .int .i64 0] 28) (.cells #[.int .i64 0, .int .i64 0] 173)
 have HB0 := Hd (show MnB w _ lo hi (s0S s lo t 0) (s1S s hi t 0) from ⟨h2, h3, h4, h1⟩)
 unfold spV at *
 unfold SK.cells WX.cells at HF
 generalize mnLo s lo t n = RLO at *
 generalize mnHi s hi t n = RHI at *
 clear hT hG hO ht hlo hhi hfl hfh hll hmm h1 h2 h3 h4
 go_enter Tryz.func38, Tryz.ntmps38
 go_upto_region 3 with (fail)
 generalize World.alloc (World.alloc (World.alloc w _) _) _ = V at *
 go_wp2
 go_loopw [7, 17] (fun s7 s17 wr => ∃ i : Nat, i ≤ n ∧ s17 = .int .i64 (i : Int) ∧ s7 = .int .i64 (slS t i) ∧ Hid (MnB w wr lo hi (s0S s lo t i) (s1S s hi t i))) (fun _ s17 _ => n - (intOf s17).toNat)
 case atStart => exact ⟨0, Nat.zero_le _, rfl, rfl, HB0⟩
 case round =>
  clear HB0
  obtain ⟨i, hi', rfl, rfl, HB⟩ := hrel
  by_cases hlt : i < n
  ·have hlt' : (i : Int) < (n : Int) := by omega
   obtain ⟨b, off, rfl, hbB, c0, c1, c2, c3, c4⟩ := (HT.out.below (HB.out.below.mono hBw)).get hlt
   have HFi := Hd (HF.out i hlt)
   have HLi := Hd (HL.out i hlt)
   have HMi := Hd (HM.out i hlt)
   have hll := HLL.out i hlt
   have hmm := HMM.out i hlt
   have hsl := HSL.out i hi'
   have hs0 := HS0.out i hi'
   have hs1 := HS1.out i hi'
   have hto := (HTO.out i hlt).slots
   have e1 : slS t (i + 1) = slS t i + (t i).slots := rfl
   have e2 : s0S s lo t (i + 1) = s0S s lo t i + (t i).slots * lstF s.P lo (fLo s (t i)) := rfl
   have e3 : s1S s hi t (i + 1) = s1S s hi t i + (t i).slots * mstF s.P hi (fHi s (t i)) := rfl
   have hm1 := sm_bound hto hll
   have hm2 := sm_bound hto hmm
   unfold fLo fHi at *
   generalize mnF (facF s (t i).w) 16 = F1 at *
   generalize mxF (facF s (t i).w) 16 = F2 at *
   generalize lstF s.P lo F1 = L1 at *
   generalize mstF s.P hi F2 = L2 at *
   generalize hX1 : (t i).slots * L1 = X1 at *
   generalize hX2 : (t i).slots * L2 = X2 at *
   have HE := Hd (And.intro e1 (And.intro e2 e3))
   have HX12 := Hd (And.intro hX1 hX2)
   generalize slS t i = SL at *
   generalize s0S s lo t i = A0 at *
   generalize s1S s hi t i = A1 at *
   generalize t i = ti at *
   obtain ⟨sl, p0, p1, x0, x1⟩ := ti
   dsimp only at *
   clear e1 e2 e3 hX1 hX2 hll hmm HF HL HM HLL HMM HSL HS0 HS1 HTO
   go_upto_region 6 with (fail)
   have hb1 := al_below wr (.cells #[.int .i64 sl, .int .i64 p0, .int .i64 p1, .int .i64 x0, .int .i64 x1] 48)
   have HX := Hd (heap_alloc_new wr (.cells #[.int .i64 sl, .int .i64 p0, .int .i64 p1, .int .i64 x0, .int .i64 x1] 48))
   have HB1 := Hd (HB.out.step hb1)
   have HPB := Lib.hid HB.out.lt
   clear HB c0 c1 c2 c3 c4 hb1
   generalize World.alloc wr _ = V1 at *
   generalize wr.heap.size = pb at *
   have HGr := Hd (HG.out V1 HB1.out.below)
   unfold GrdAt at HGr
   go_cut [11] from 21 to 27 (fun s11 wx => ∃ fb, s11 = .pointer (some ⟨fb, 0, none⟩) ∧ Hid (wx.heap[fb]? = some (.cells #[.int .i64 F1, .int .i64 F2] 28) ∧ Below V1.heap.size V1 wx))
   case first =>
    refine wp_region_any (by kernel_rfl) ?_
    change wpAny _ _ _ _ _ _ _ (World.drew V1)
    have HBx := Hd (show Below V1.heap.size V1 (World.drew V1) from (Below.refl _ V1).drew)
    have HGx := Hd (show (World.drew V1).heap[gb]? = _ from HGr.out)
    have HPx := Hd (show (World.drew V1).heap[pb]? = _ from HX.out)
    clear HGr HX HB1
    generalize World.drew V1 = V2 at *
    refine any_of_tail 8 8 (fun w' => w'.heap[gb]? = some (.cells #[.int .i64 s.P, .slice s.ba s.bn s.bc, .int .i64 s.be0, .int .i64 s.be1, .int .i64 s.al0, .int .i64 s.al1, .slice ta tn tc, .map (some mb)] 171) ∧ w'.heap[pb]? = some (.cells #[.int .i64 sl, .int .i64 p0, .int .i64 p1, .int .i64 x0, .int .i64 x1] 48)) (by kernel_rfl) ⟨HGx.out, HPx.out⟩ (fun hS => ?_)
    refine mtk_ToFlxL 0 ?_
    refine mtk_ToFlxL 1 ?_
    refine mtk_ToFlxL 2 ?_
    refine mtk_ToFlxL 3 ?_
    refine mtk_ToFlxL 4 ?_
    refine mtk_ToFlxL 5 ?_
    refine headH_two 6 7 ?_ ?_
    ·(refine headH_op rfl (fun K hK => ?_); (try simp only [hng]); go_simp); refine (HFi.out _).mono ?_; rintro e V3 ⟨rfl, hb⟩; (try dsimp only); (have HBn := Hd (HBx.out.trans (hb.mono HBx.out.size)); have HGn := Hd (keep_at HGx.out hb); have HPn := Hd (keep_at HPx.out hb); clear HBx HGx HPx; have HBx := HBn; have HGx := HGn; have HPx := HPn; clear HBn HGn HPn; (try (have HNn := Hd (keep_at HN.out hb); clear HN; have HN := HNn; clear HNn)); clear hb); (refine hK.out _ _ ⟨HGx.out, HPx.out⟩ (fun hS => ?_); clear hK K hS; have hS := And.intro HGx.out HPx.out; refine hnm ?_)
     refine headH_one 7 ?_
     (refine headH_op rfl (fun K hK => ?_); (try simp only [hng]); go_simp); have hb := al_below V3 (.cells #[.int .i64 0, .int .i64 0] 28); have HN0 := Hd (heap_alloc_new V3 (.cells #[.int .i64 0, .int .i64 0] 28)); have hfl : V1.heap.size ≤ (V3).heap.size := HBx.out.size; generalize World.alloc V3 _ = V4 at *; (have HBn := Hd (HBx.out.trans (hb.mono HBx.out.size)); have HGn := Hd (keep_at HGx.out hb); have HPn := Hd (keep_at HPx.out hb); clear HBx HGx HPx; have HBx := HBn; have HGx := HGn; have HPx := HPn; clear HBn HGn HPn; (try (have HNn := Hd (keep_at HN.out hb); clear HN; have HN := HNn; clear HNn)); clear hb); have HN := HN0; clear HN0; generalize (V3).heap.size = fb at *; (refine hK.out _ _ ⟨HGx.out, HPx.out⟩ (fun hS => ?_); clear hK K hS; have hS := And.intro HGx.out HPx.out; refine hnm ?_)
     refine ⟨by kernel_rfl, ?_⟩; obtain ⟨q0, q1⟩ := cr2 HN.out; obtain ⟨q2, q3⟩ := fr2 HN.out; simp only [hnq] at q0 q1; go_wp2; go_meet; exact ⟨fb, rfl, Lib.hid ⟨heap_setCell_same _ _ 1 _ _ (.int .i64 F2) (heap_setCell_same V4 _ 0 _ _ (.int .i64 F1) HN.out), (HBx.out.setCell (p := ⟨fb, 0, none⟩) hfl (.int .i64 F1)).setCell (p := ⟨fb, 1, none⟩) hfl (.int .i64 F2)⟩⟩
    ·(refine headH_op rfl (fun K hK => ?_); (try simp only [hng]); go_simp); have hb := al_below V2 (.cells #[.int .i64 0, .int .i64 0] 28); have HN0 := Hd (heap_alloc_new V2 (.cells #[.int .i64 0, .int .i64 0] 28)); have hfl : V1.heap.size ≤ (V2).heap.size := HBx.out.size; generalize World.alloc V2 _ = V3 at *; (have HBn := Hd (HBx.out.trans (hb.mono HBx.out.size)); have HGn := Hd (keep_at HGx.out hb); have HPn := Hd (keep_at HPx.out hb); clear HBx HGx HPx; have HBx := HBn; have HGx := HGn; have HPx := HPn; clear HBn HGn HPn; (try (have HNn := Hd (keep_at HN.out hb); clear HN; have HN := HNn; clear HNn)); clear hb); have HN := HN0; clear HN0; generalize (V2).heap.size = fb at *; (refine hK.out _ _ ⟨HGx.out, HPx.out⟩ (fun hS => ?_); clear hK K hS; have hS := And.intro HGx.out HPx.out; refine hnm ?_)
     refine headH_one 6 ?_
     (refine headH_op rfl (fun K hK => ?_); (try simp only [hng]); go_simp); refine (HFi.out _).mono ?_; rintro e V4 ⟨rfl, hb⟩; (try dsimp only); (have HBn := Hd (HBx.out.trans (hb.mono HBx.out.size)); have HGn := Hd (keep_at HGx.out hb); have HPn := Hd (keep_at HPx.out hb); clear HBx HGx HPx; have HBx := HBn; have HGx := HGn; have HPx := HPn; clear HBn HGn HPn; (try (have HNn := Hd (keep_at HN.out hb); clear HN; have HN := HNn; clear HNn)); clear hb); (refine hK.out _ _ ⟨HGx.out, HPx.out⟩ (fun hS => ?_); clear hK K hS; have hS := And.intro HGx.out HPx.out; refine hnm ?_)
     refine ⟨by kernel_rfl, ?_⟩; obtain ⟨q0, q1⟩ := cr2 HN.out; obtain ⟨q2, q3⟩ := fr2 HN.out; simp only [hnq] at q0 q1; go_wp2; go_meet; exact ⟨fb, rfl, Lib.hid ⟨heap_setCell_same _ _ 1 _ _ (.int .i64 F2) (heap_setCell_same V4 _ 0 _ _ (.int .i64 F1) HN.out), (HBx.out.setCell (p := ⟨fb, 0, none⟩) hfl (.int .i64 F1)).setCell (p := ⟨fb, 1, none⟩) hfl (.int .i64 F2)⟩⟩
   case rest =>
    obtain ⟨fb, rfl, hcx⟩ := hcut
    obtain ⟨hn1, hbc⟩ := hcx.out
    have hpb : w.heap.size + 3 ≤ pb := HPB.out
    have HB2 := Hd (HB1.out.step hbc)
    have HX2 := Hd (keep_at HX.out hbc)
    have k0 := cell_of_row _ _ 0 _ _ _ HX2.out
    obtain ⟨r0, r1⟩ := cr2 HB2.out.rates
    obtain ⟨f0, f1⟩ := cr2 hn1
    simp only [hnq] at k0 r0 r1 f0 f1
    clear HGr hn1 hbc HX HB1 hcx
    go_wp2
    clear k0 r0 r1 f0 f1
    go_loopw [47] (fun s47 wy => ∃ j : Nat, j ≤ 2 ∧ s47 = .int .i64 (j : Int) ∧ Hid (MnB w wy lo hi (if 0 < j then A0 + X1 else A0) (if 1 < j then A1 + X2 else A1) ∧ wy.heap[pb]? = some (.cells #[.int .i64 sl, .int .i64 p0, .int .i64 p1, .int .i64 x0, .int .i64 x1] 48))) (fun s47 _ => 2 - (intOf s47).toNat)
    case atStart => exact ⟨0, by omega, rfl, Lib.hid ⟨by simpa using HB2.out, HX2.out⟩⟩
    case round =>
     clear HB2 HX2
     obtain ⟨j, hj, rfl, hy⟩ := hrel
     obtain ⟨hmb, hxb⟩ := hy.out
     clear hy
     by_cases hlj : j < 2
     ·have hlj' : (j : Int) < 2 := by omega
      rcases (show j = 0 ∨ j = 1 by omega) with hj0 | hj0
      ·obtain rfl : j = 0 := by omega
       simp only [Nat.lt_irrefl, if_false, Nat.not_lt_zero] at hmb
       have hix := ix_m0 lo F1 hi F2 (.func (.func 84) #[.pointer (some ⟨gb, 0, none⟩)] #[]) (.func (.func 85) #[.pointer (some ⟨gb, 0, none⟩)] #[])
       go_upto_region 11 with (fail)
       have hb3 := al_below wr (.cells #[.int .i64 lo, .int .i64 F1, .func (.func 84) #[.pointer (some ⟨gb, 0, none⟩)] #[]] 175)
       have HQ := Hd (heap_alloc_new wr (.cells #[.int .i64 lo, .int .i64 F1, .func (.func 84) #[.pointer (some ⟨gb, 0, none⟩)] #[]] 175))
       have HB3 := Hd (hmb.step hb3)
       have HX3 := Hd (keep_at hxb hb3)
       clear hmb hxb hb3 hix
       generalize World.alloc wr _ = V3 at *
       generalize wr.heap.size = qb at *
       have HL3 := Hd (fun (W : World) (hb : Below V3.heap.size V3 W) => HLi.out W (HB3.out.below.trans (hb.mono HB3.out.below.size)))
       obtain ⟨a0, a1⟩ := cr2 HB3.out.sums
       have b0 := cell_of_row _ _ 0 _ _ _ HX3.out
       obtain ⟨d0, d1, d2⟩ := cr3 HQ.out
       simp only [hnq] at a0 a1 b0 d0 d1 d2
       have lt1 := (blkL HB3.out.sums)
       have lt2 := (blkL HX3.out)
       have lt3 := (blkL HQ.out)
       obtain ⟨hX1, hX2⟩ := HX12.out
       (refine wp_region_calm_tail (V3.heap.size) 15 (by kernel_rfl) (by kernel_rfl) ?_; simp only [List.take_succ_cons, List.take_zero, List.drop_succ_cons, List.drop_zero]; (repeat (first | go_big_quiet_step ((go_at_call 84; exact Calls.calm_same (HL3.out _ (Calm.below _)))) | quiet_step ((go_at_call 84; exact Calls.calm_same (HL3.out _ (Calm.below _)))))); refine wpQuiet_nil (wqn ?_); intro xq)
       have hq := xq.below
       have HB4 := Hd (HB3.out.step hq)
       have HX4 := Hd (keep_at HX3.out hq)
       clear hq HB3 HX3 HQ HL3 a0 a1 b0 d0 d1 d2 lt1 lt2 lt3 hX1 hX2
       generalize Calm.val xq = V4 at *
       obtain ⟨a0, a1⟩ := cr2 HB4.out.sums
       obtain ⟨f0, f1⟩ := fr2 HB4.out.sums
       simp only [hnq] at a0 a1
       go_wp2
       have HB5 := Hd (HB4.out.set0 (A0 + X1))
       have HX5 := Hd ((heap_setCell_other V4 ⟨w.heap.size + 1 + 1, 0, none⟩ pb (.int .i64 (A0 + X1)) (by dsimp only; omega)).trans HX4.out)
       go_roundw
       case rel => exact ⟨0 + 1, by omega, by go_num, Lib.hid ⟨by simpa using HB5.out, HX5.out⟩⟩
       case measure => simp [intOf]
      ·obtain rfl : j = 1 := by omega
       simp only [Nat.lt_irrefl, Nat.zero_lt_one, if_true, if_false] at hmb
       have hix := ix_m1 lo F1 hi F2 (.func (.func 84) #[.pointer (some ⟨gb, 0, none⟩)] #[]) (.func (.func 85) #[.pointer (some ⟨gb, 0, none⟩)] #[])
       go_upto_region 11 with (fail)
       have hb3 := al_below wr (.cells #[.int .i64 hi, .int .i64 F2, .func (.func 85) #[.pointer (some ⟨gb, 0, none⟩)] #[]] 175)
       have HQ := Hd (heap_alloc_new wr (.cells #[.int .i64 hi, .int .i64 F2, .func (.func 85) #[.pointer (some ⟨gb, 0, none⟩)] #[]] 175))
       have HB3 := Hd (hmb.step hb3)
       have HX3 := Hd (keep_at hxb hb3)
       clear hmb hxb hb3 hix
       generalize World.alloc wr _ = V3 at *
       generalize wr.heap.size = qb at *
       have HL3 := Hd (fun (W : World) (hb : Below V3.heap.size V3 W) => HMi.out W (HB3.out.below.trans (hb.mono HB3.out.below.size)))
       obtain ⟨a0, a1⟩ := cr2 HB3.out.sums
       have b0 := cell_of_row _ _ 0 _ _ _ HX3.out
       obtain ⟨d0, d1, d2⟩ := cr3 HQ.out
       simp only [hnq] at a0 a1 b0 d0 d1 d2
       have lt1 := (blkL HB3.out.sums)
       have lt2 := (blkL HX3.out)
       have lt3 := (blkL HQ.out)
       obtain ⟨hX1, hX2⟩ := HX12.out
       (refine wp_region_calm_tail (V3.heap.size) 15 (by kernel_rfl) (by kernel_rfl) ?_; simp only [List.take_succ_cons, List.take_zero, List.drop_succ_cons, List.drop_zero]; (repeat (first | go_big_quiet_step ((go_at_call 85; exact Calls.calm_same (HL3.out _ (Calm.below _)))) | quiet_step ((go_at_call 85; exact Calls.calm_same (HL3.out _ (Calm.below _)))))); refine wpQuiet_nil (wqn ?_); intro xq)
       have hq := xq.below
       have HB4 := Hd (HB3.out.step hq)
       have HX4 := Hd (keep_at HX3.out hq)
       clear hq HB3 HX3 HQ HL3 a0 a1 b0 d0 d1 d2 lt1 lt2 lt3 hX1 hX2
       generalize Calm.val xq = V4 at *
       obtain ⟨a0, a1⟩ := cr2 HB4.out.sums
       obtain ⟨f0, f1⟩ := fr2 HB4.out.sums
       simp only [hnq] at a0 a1
       go_wp2
       have HB5 := Hd (HB4.out.set1 (A1 + X2))
       have HX5 := Hd ((heap_setCell_other V4 ⟨w.heap.size + 1 + 1, 1, none⟩ pb (.int .i64 (A1 + X2)) (by dsimp only; omega)).trans HX4.out)
       go_roundw
       case rel => exact ⟨1 + 1, by omega, by go_num, Lib.hid ⟨by simpa using HB5.out, HX5.out⟩⟩
       case measure => simp [intOf]
     ·obtain rfl : j = 2 := by omega
      have hlj' : ¬ ((2 : Nat) : Int) < 2 := by omega
      simp only [Nat.lt_add_one, Nat.zero_lt_succ, if_true] at hmb
      have HB6 := Hd (show MnB w wr lo hi (s0S s lo t (i + 1)) (s1S s hi t (i + 1)) from by rw [HE.out.2.1, HE.out.2.2]; exact hmb)
      have hE1 := HE.out.1
      have HE1 := Lib.hid hE1
      clear hmb hxb hE1
      go_wp2
      go_roundw
      case rel => first | exact ⟨i + 1, by omega, by go_num, by rw [HE1.out], HB6⟩ | ((repeat apply Exists.intro); exact ⟨⟨i + 1, by omega, by go_num, by rw [HE1.out], HB6⟩, rfl⟩)
      case measure => simp [intOf]; omega
  ·obtain rfl : i = n := by omega
   have hlt' : ¬ (i : Int) < (i : Int) := by omega
   have hsl := HSL.out i (Nat.le_refl _)
   have hs0 := HS0.out i (Nat.le_refl _)
   have hs1 := HS1.out i (Nat.le_refl _)
   clear HF HL HM HLL HMM HSL HS0 HS1 HTO HT HFL HFH HG HGL
   generalize slS t i = SL at *
   generalize s0S s lo t i = A0 at *
   generalize s1S s hi t i = A1 at *
   obtain ⟨a0, a1⟩ := cr2 HB.out.sums
   obtain ⟨r0, r1⟩ := cr2 HB.out.res
   obtain ⟨f0, f1⟩ := fr2 HB.out.res
   simp only [hnq] at a0 a1 r0 r1
   have lt1 := (blkL HB.out.sums)
   have hq0 : (A0).tdiv SL = RLO := by rw [HRES.out.1]; exact Int.tdiv_eq_ediv_of_nonneg hs0.1
   have hq1 : (A1 + SL - 1).tdiv SL = RHI := by rw [HRES.out.2]; exact Int.tdiv_eq_ediv_of_nonneg (by omega)
   have hsz : SL ≠ 0 := by omega
   have hd0 : A0 / SL = RLO := HRES.out.1.symm
   have hd1 : (A1 + SL - 1) / SL = RHI := HRES.out.2.symm
   have hb0 : 0 ≤ RLO ∧ RLO ≤ A0 := by rw [← hd0]; exact ⟨Int.ediv_nonneg hs0.1 (by omega), Int.ediv_le_self _ hs0.1⟩
   have hb1 : 0 ≤ RHI ∧ RHI ≤ A1 + SL - 1 := by rw [← hd1]; exact ⟨Int.ediv_nonneg (by omega) (by omega), Int.ediv_le_self _ (by omega)⟩
   have hslp : 0 < SL := by omega
   go_upto_region 14 with (fail)
   (refine wp_region_calm_tail (wr.heap.size) 12 (by kernel_rfl) (by kernel_rfl) ?_; simp only [List.take_succ_cons, List.take_zero, List.drop_succ_cons, List.drop_zero]; (repeat (first | go_big_quiet_step (fail) | quiet_step (fail))); refine wpQuiet_nil (wqn ?_); intro xq)
   have hq := xq.below
   have HB4 := Hd (HB.out.step hq)
   clear hq HB a0 a1 r0 r1 f0 f1 lt1
   generalize Calm.val xq = V4 at *
   obtain ⟨r0, r1⟩ := cr2 HB4.out.res
   obtain ⟨f0, f1⟩ := fr2 HB4.out.res
   simp only [hnq] at r0 r1
   go_wp2
   have hrow := heap_setCell_same _ _ 1 _ _ (.int .i64 RHI) (heap_setCell_same V4 _ 0 _ _ (.int .i64 RLO) HB4.out.res)
   have hbl := (HB4.out.below.setCell (p := ⟨w.heap.size + 1, 0, none⟩) (by dsimp only; omega) (.int .i64 RLO)).setCell (p := ⟨w.heap.size + 1, 1, none⟩) (by dsimp only; omega) (.int .i64 RHI)
   generalize World.setCell (World.setCell V4 _ _) _ _ = V5 at *
   obtain ⟨q0, q1⟩ := cr2 hrow
   exact bodyPost_ret (v := .agg #[.int .i64 RLO, .int .i64 RHI]) (by simp [results, Tryz.results38, go_sem, q0, q1]) rfl ⟨rfl, hbl⟩
end Go.Proofs.YtgmpelhphnmknaaGreat
namespace Go.Proofs.YtgmpelhphnmknaaGreat
open Go Go.RowKit Go.Shelf
structure FxIn (s : SK) (ta : Option Addr) (tn : Nat) (t : Nat → RW) (pa : Option Addr) (pn : Nat) (p : Nat → SPL) (B : Nat) (w : World) : Prop where
 le : B ≤ w.heap.size
 sky : s.mem B w
 sok : s.ok
 tab : RWs B w ta tn t
 tl : tn ≤ 40
 tok : TabOk tn t
 sp : Spls B w pa pn p
 pl : 1 ≤ pn ∧ pn ≤ 50
 pok : ∀ i, i < pn → (p i).ok
theorem FxIn.below {s : SK} {ta : Option Addr} {tn : Nat} {t : Nat → RW} {pa : Option Addr} {pn : Nat} {p : Nat → SPL} {B : Nat} {w W : World} (h : FxIn s ta tn t pa pn p B w) (hb : Below B w W) : FxIn s ta tn t pa pn p B W :=
 ⟨Nat.le_trans h.le hb.size, h.sky.below hb, h.sok, h.tab.below hb, h.tl, h.tok, h.sp.below hb, h.pl, h.pok⟩
def eLo (s : SK) (tn : Nat) (t : Nat → RW) (bin : Nat) (x : Int) : Int := exLo tn t (s.ln bin) (s.l bin) x
def eHi (s : SK) (tn : Nat) (t : Nat → RW) (bin : Nat) (x : Int) : Int := exHi tn t (s.ln bin) (s.l bin) x
theorem e_ok {s : SK} {ta : Option Addr} {tn : Nat} {t : Nat → RW} {pa : Option Addr} {pn : Nat} {p : Nat → SPL} {B : Nat} {w : World} (h : FxIn s ta tn t pa pn p B w) {bin : Nat} (hb : bin < s.bn) (x : Int) : 0 ≤ eLo s tn t bin x ∧ eLo s tn t bin x ≤ eHi s tn t bin x ∧ eHi s tn t bin x ≤ s.P := ex_ok h.tok (h.sok.rows bin hb).2.1 x
def mLo (s : SK) (tn : Nat) (t : Nat → RW) (bin : Nat) (p : Nat → SPL) (pn : Nat) (x : Int) : Int := mnLo s (eLo s tn t bin x) p pn
def mHi (s : SK) (tn : Nat) (t : Nat → RW) (bin : Nat) (p : Nat → SPL) (pn : Nat) (x : Int) : Int := mnHi s (eHi s tn t bin x) p pn
theorem Mean_any (s : SK) (ta : Option Addr) (tn tc : Nat) (t : Nat → RW) (pa : Option Addr) (pn pc : Nat) (p : Nat → SPL) (bin : Nat) (x : Int) (B : Nat) (w : World) (hI : FxIn s ta tn t pa pn p B w) (hbin : bin < s.bn) (hx : 0 ≤ x ∧ x ≤ 1000000) :
  Calls Tryz.prog 10 #[.agg s.cells, .slice ta tn tc, .int .i64 (bin : Int), .int .i64 x, .slice pa pn pc] w fun e w' => e = .returned (.tuple #[spV (mLo s tn t bin p pn x) (mHi s tn t bin p pn x), .int .i64 0]) ∧ Below w.heap.size w w' := by
 have HI := Lib.hid hI
 have hE := e_ok hI hbin x
 have hP := hI.sok.parts
 have HBL := Hd (fun (W : World) (hb : Below B w W) => below_any s ta tn tc t (bin : Int) x B W (hI.below hb).le (hI.below hb).sky hI.sok (hI.below hb).tab hI.tl hI.tok ⟨by omega, by omega⟩ hx)
 have HEX := Hd (fun (gb mb : Nat) (W : World) (hb : Below B w W) (hm : B ≤ mb) (hG : GrdAt s ta tn tc gb mb W) (hM : W.heap[mb]? = some (.map #[] 0)) =>
  expected_any s ta tn tc gb mb 0 t (.map []) bin x B W (hI.below hb).le hm (hI.below hb).sky hI.sok (hI.below hb).tab hI.tl hI.tok hG (MapAt.start hM) (by decide) hbin hx ⟨⟨_, rfl⟩, fun _ _ _ => rfl⟩)
 have HSP := Hd (fun (W : World) (hb : Below B w W) => spelled_any pa pn pc p B W (hI.below hb).le (hI.below hb).sp hI.pl hI.pok)
 have HMN := Hd (fun (gb mb : Nat) (W : World) (hb : Below B w W) (hG : GrdAt s ta tn tc gb mb W) => mean_any s ta tn tc gb mb pa pn pc p (eLo s tn t bin x) (eHi s tn t bin x) B W (hI.below hb).le hI.sok hG (hI.below hb).sp hI.pl hI.pok ⟨by omega, by omega⟩ ⟨by omega, by omega⟩)
 have HBw := Lib.hid hI.le
 have hz2 : (((w.alloc (.cells s.cells 30)).alloc (.cells #[.int .i64 0, .int .i64 0] 28)).heap.size = w.heap.size + 2) := by simp
 have hn1 : ((w.alloc (.cells s.cells 30)).alloc (.cells #[.int .i64 0, .int .i64 0] 28)).heap[w.heap.size]? = some (.cells s.cells 30) := (Below.heap_alloc _ _ _ (by simp)).trans (heap_alloc_new w _)
 have hn2 : ((w.alloc (.cells s.cells 30)).alloc (.cells #[.int .i64 0, .int .i64 0] 28)).heap[w.heap.size + 1]? = some (.cells #[.int .i64 0, .int .i64 0] 28) := by
  have := heap_alloc_new (w.alloc (.cells s.cells 30)) (.cells #[.int .i64 0, .int .i64 0] 28)
  rwa [show (w.alloc (.cells s.cells 30)).heap.size = w.heap.size + 1 from by simp] at this
 have HB0 := Hd (show Below w.heap.size w ((w.alloc (.cells s.cells 30)).alloc (.cells #[.int .i64 0, .int .i64 0] 28)) from ((Below.refl _ w).alloc (Nat.le_refl _) _).alloc (by simp) _)
 have HN := Hd (And.intro hz2 (And.intro hn1 hn2))
 have HRS := Hd (show spV (mLo s tn t bin p pn x) (mHi s tn t bin p pn x) = .agg #[.int .i64 (mnLo s (eLo s tn t bin x) p pn), .int .i64 (mnHi s (eHi s tn t bin x) p pn)] from rfl)
 rw [HRS.out]
 unfold spV at HEX HMN
 unfold eLo eHi at *
 generalize exLo tn t (s.ln bin) (s.l bin) x = LO at *
 generalize exHi tn t (s.ln bin) (s.l bin) x = HI' at *
 generalize mnLo s LO p pn = RLO at *
 generalize mnHi s HI' p pn = RHI at *
 clear hI hz2 hn1 hn2 HRS hE hP
 unfold SK.cells at *
 go_enter Tryz.func10, Tryz.ntmps10
 go_upto_region 1 with (fail)
 generalize World.alloc (World.alloc w _) _ = V at *
 obtain ⟨k0, k1, k2, k3, k4, k5⟩ := cr6 HN.out.2.1
 simp only [hnq] at k0 k1 k2 k3 k4 k5
 go_upto_region 2 with (go_at_call 36; refine (HBL.out _ (HB0.out.mono HBw.out)).mono ?_; rintro e W1 ⟨hb1, gb, mb, h1, h2, rfl, hG, hM⟩; have HB1 := Hd (HB0.out.trans (hb1.mono HB0.out.size)); have HG := Lib.hid hG; have HM := Lib.hid hM; have HR1 := Hd (keep_at HN.out.2.2 hb1); clear hb1 hG hM k0 k1 k2 k3 k4 k5)
 have hz := HN.out.1
 have hmb : w.heap.size + 2 ≤ mb := by omega
 have hgb : w.heap.size + 2 ≤ gb := by omega
 have hBz := HBw.out
 clear hz h1 h2 HB0 HN HBL
 go_upto_region 4 with (go_at_call 37; refine (HSP.out _ (HB1.out.mono HBw.out)).mono ?_; rintro e W2 ⟨rfl, hb2⟩; have HB2 := Hd (HB1.out.trans (hb2.mono HB1.out.size)); have HG2 := Hd (GrdAt.step HG.out hb2); have HM2 := Hd (keep_at HM.out hb2); have HR2 := Hd (keep_at HR1.out hb2); clear hb2 HB1 HG HM HR1)
 have HEX2 := Hd (HEX.out gb mb W2 (HB2.out.mono HBw.out) (by omega) HG2.out HM2.out)
 clear HEX
 have HNE := Hd (map_cells (MapAt.start HM2.out) HG2.out)
 go_wp2_with (first
  | (go_at_call 39; refine HEX2.out.mono ?_; rintro e W3 ⟨rfl, hm3, hg3⟩; have HB3 := Hd (HB2.out.trans (grown_bel hg3 (by have := HB2.out.size; omega) HB2.out.size)); have HG3 := Hd (show GrdAt s ta tn tc gb mb W3 from grown_at hg3 HNE.out HG2.out); have HR3 := Hd (grown_at hg3 (by omega) HR2.out); clear hm3 hg3 HB2 HG2 HR2 HM2)
  | (go_at_call 38; refine (HMN.out gb mb _ (HB3.out.mono HBw.out) HG3.out).mono ?_; rintro e W4 ⟨rfl, hb4⟩; have HB4 := Hd (HB3.out.trans (hb4.mono HB3.out.size)); have HR4 := Hd (keep_at HR3.out hb4); clear hb4 HB3 HG3 HR3; obtain ⟨r0, r1⟩ := cr2 HR4.out; obtain ⟨f0, f1⟩ := fr2 HR4.out; simp only [hnq] at r0 r1))
 have hrow := heap_setCell_same _ _ 1 _ _ (.int .i64 RHI) (heap_setCell_same W4 _ 0 _ _ (.int .i64 RLO) HR4.out)
 have hbl := (HB4.out.setCell (p := ⟨w.heap.size + 1, 0, none⟩) (by dsimp only; omega) (.int .i64 RLO)).setCell (p := ⟨w.heap.size + 1, 1, none⟩) (by dsimp only; omega) (.int .i64 RHI)
 generalize World.setCell (World.setCell W4 _ _) _ _ = V5 at *
 obtain ⟨q0, q1⟩ := cr2 hrow
 exact bodyPost_ret (v := .tuple #[.agg #[.int .i64 RLO, .int .i64 RHI], .int .i64 0]) (by simp [results, Tryz.results10, go_sem, q0, q1]) rfl ⟨rfl, hbl⟩
end Go.Proofs.YtgmpelhphnmknaaGreat
namespace Go.Proofs.YtgmpelhphnmknaaGreat
structure FS where
 fr : Int
 lo : Int
 hi : Int
def FS.zero : FS := ⟨0, 0, 0⟩
def cvAdd (el eh : Int → Int) (S : List FS) (x : Int) : List FS :=
 match S.getLast? with
 | none => S ++ [⟨x, el x, eh x⟩]
 | some p => if p.lo = el x ∧ p.hi = eh x then S else S ++ [⟨x, el x, eh x⟩]
def cvRun (el eh : Int → Int) : List Int → List FS := List.foldl (cvAdd el eh) []
theorem cvRun_snoc {el eh : Int → Int} (X : List Int) (x : Int) : cvRun el eh (X ++ [x]) = cvAdd el eh (cvRun el eh X) x := by
 unfold cvRun
 rw [List.foldl_append]
 rfl
structure CvInv (el eh : Int → Int) (P : List Int) (S : List FS) : Prop where
 sub : (S.map FS.fr).Sublist P
 head : (S.map FS.fr).head? = P.head?
 inc : S.Pairwise (fun a b => a.fr < b.fr)
 rate : ∀ p ∈ S, p.lo = el p.fr ∧ p.hi = eh p.fr
 all : ∀ x ∈ P, ∃ p ∈ S, p.fr ≤ x ∧ (∀ q ∈ S, ¬ (p.fr < q.fr ∧ q.fr ≤ x)) ∧ el x = p.lo ∧ eh x = p.hi
theorem CvInv.start (el eh : Int → Int) : CvInv el eh [] [] := ⟨List.Sublist.refl _, rfl, List.Pairwise.nil, fun _ h => (by cases h), fun _ h => (by cases h)⟩
theorem last_mem {α : Type} {l : List α} {p : α} (h : l.getLast? = some p) : ∃ l', l = l' ++ [p] := by
 rcases List.eq_nil_or_concat l with rfl | ⟨l', q, rfl⟩
 ·cases h
 ·simp at h
  subst h
  exact ⟨l', by simp⟩
theorem CvInv.next {el eh : Int → Int} {P : List Int} {S : List FS} {x : Int} (h : CvInv el eh P S) (hx : ∀ y ∈ P, y < x) : CvInv el eh (P ++ [x]) (cvAdd el eh S x) := by
 have hS : ∀ p ∈ S, p.fr < x := fun p hp => hx _ (h.sub.subset (List.mem_map_of_mem hp))
 have add : CvInv el eh (P ++ [x]) (S ++ [⟨x, el x, eh x⟩]) := by
  refine ⟨?_, ?_, ?_, ?_, ?_⟩
  ·rw [List.map_append]
   exact h.sub.append (List.Sublist.refl _)
  ·have h2 := h.head
   cases S with
   | nil =>
    cases P with
    | nil => rfl
    | cons y P => cases h2
   | cons p S =>
    cases P with
    | nil => cases h2
    | cons y P => simpa using h2
  ·exact List.pairwise_append.2 ⟨h.inc, List.pairwise_singleton _ _, fun p hp q hq => by
    simp only [List.mem_singleton] at hq
    subst hq
    exact hS p hp⟩
  ·intro p hp
   rcases List.mem_append.1 hp with hp | hp
   ·exact h.rate p hp
   ·simp only [List.mem_singleton] at hp
    subst hp
    exact ⟨rfl, rfl⟩
  ·intro y hy
   rcases List.mem_append.1 hy with hy | hy
   ·obtain ⟨p, hp, h1, h2, h3⟩ := h.all y hy
    refine ⟨p, List.mem_append_left _ hp, h1, fun q hq => ?_, h3⟩
    rcases List.mem_append.1 hq with hq | hq
    ·exact h2 q hq
    ·simp only [List.mem_singleton] at hq
     subst hq
     have := hx y hy
     dsimp only
     omega
   ·simp only [List.mem_singleton] at hy
    subst hy
    refine ⟨⟨y, el y, eh y⟩, by simp, Int.le_refl _, fun q hq => ?_, rfl, rfl⟩
    rcases List.mem_append.1 hq with hq | hq
    ·have := hS q hq
     dsimp only
     omega
    ·simp only [List.mem_singleton] at hq
     subst hq
     dsimp only
     omega
 unfold cvAdd
 split
 ·exact add
 ·rename_i p hp
  split
  ·rename_i hr
   obtain ⟨S', rfl⟩ := last_mem hp
   refine ⟨h.sub.trans (List.sublist_append_left _ _), ?_, h.inc, h.rate, ?_⟩
   ·rw [h.head]
    cases P with
    | nil =>
     have := h.sub
     simp at this
    | cons y P => rfl
   ·intro y hy
    rcases List.mem_append.1 hy with hy | hy
    ·exact h.all y hy
    ·simp only [List.mem_singleton] at hy
     subst hy
     have hpx := hS p (by simp)
     refine ⟨p, by simp, by omega, fun q hq => ?_, hr.1.symm, hr.2.symm⟩
     have hi := (List.pairwise_append.1 h.inc).2.2
     rcases List.mem_append.1 hq with hq | hq
     ·have := hi q hq p (by simp)
      omega
     ·simp only [List.mem_singleton] at hq
      subst hq
      omega
  ·exact add
theorem cv_inv {el eh : Int → Int} : ∀ (n : Nat) (X : List Int), X.length = n → X.Pairwise (· < ·) → CvInv el eh X (cvRun el eh X)
 | n, X, hn, h => by
  rcases List.eq_nil_or_concat X with rfl | ⟨Y, x, rfl⟩
  ·exact CvInv.start el eh
  ·rw [List.concat_eq_append] at *
   match n, hn with
   | 0, hn => simp at hn
   | n + 1, hn =>
    rw [cvRun_snoc]
    obtain ⟨h1, _, h3⟩ := List.pairwise_append.1 h
    exact (cv_inv n Y (by simpa using hn) h1).next fun y hy => h3 y hy x (by simp)
theorem great_to {y : Int} : ∀ l : List Int, (∃ a ∈ l, a ≤ y) → ∃ x ∈ l, x ≤ y ∧ ∀ z ∈ l, ¬ (x < z ∧ z ≤ y)
 | [], h => by obtain ⟨a, ha, _⟩ := h; cases ha
 | b :: l, h => by
  by_cases h2 : ∃ a ∈ l, a ≤ y
  ·obtain ⟨x, hx, h3, h4⟩ := great_to l h2
   by_cases hb : x < b ∧ b ≤ y
   ·refine ⟨b, by simp, hb.2, fun z hz => ?_⟩
    rcases List.mem_cons.1 hz with rfl | hz
    ·omega
    ·have := h4 z hz
     omega
   ·refine ⟨x, List.mem_cons_of_mem _ hx, h3, fun z hz => ?_⟩
    rcases List.mem_cons.1 hz with rfl | hz
    ·exact hb
    ·exact h4 z hz
  ·obtain ⟨a, ha, h3⟩ := h
   rcases List.mem_cons.1 ha with rfl | ha
   ·refine ⟨a, by simp, h3, fun z hz => ?_⟩
    rcases List.mem_cons.1 hz with rfl | hz
    ·omega
    ·intro h5
     exact h2 ⟨z, hz, h5.2⟩
   ·exact absurd ⟨a, ha, h3⟩ h2
theorem cv_ok {el eh : Int → Int} {X : List Int} (hp : X.Pairwise (· < ·)) (h0 : X.head? = some 0) (hd : ∀ x ∈ X, x ≤ 1000000)
  (hc : ∀ y, 0 ≤ y → y ≤ 1000000 → ∀ x ∈ X, x ≤ y → (∀ z ∈ X, ¬ (x < z ∧ z ≤ y)) → el y = el x ∧ eh y = eh x) :
  CurveOk (cvRun el eh X).length (fun i => ((cvRun el eh X).getD i FS.zero).fr) (fun i => ((cvRun el eh X).getD i FS.zero).lo) (fun i => ((cvRun el eh X).getD i FS.zero).hi) el eh := by
 have hI := cv_inv (el := el) (eh := eh) _ X rfl hp
 generalize cvRun el eh X = S at *
 have hne : S ≠ [] := by
  rintro rfl
  have := hI.head
  rw [h0] at this
  cases this
 have hmem : ∀ p ∈ S, p.fr ∈ X := fun p hq => hI.sub.subset (List.mem_map_of_mem hq)
 have hg : ∀ i (hi : i < S.length), S.getD i FS.zero = S[i] := fun i hi => by rw [List.getD_eq_getElem?_getD, List.getElem?_eq_getElem hi]; rfl
 have hin : ∀ i j (hi : i < S.length) (hj : j < S.length), i < j → S[i].fr < S[j].fr := fun i j hi hj hij => List.pairwise_iff_getElem.1 hI.inc i j hi hj hij
 refine ⟨?_, ?_, ?_, ?_, ?_⟩
 ·cases S with
  | nil => exact absurd rfl hne
  | cons p S => simp
 ·have := hI.head
  rw [h0] at this
  cases S with
  | nil => exact absurd rfl hne
  | cons p S => simpa using this
 ·intro i hi
  rw [hg i (by omega), hg (i + 1) hi]
  exact hin i (i + 1) _ _ (by omega)
 ·intro i hi
  rw [hg i hi]
  exact hd _ (hmem _ (List.getElem_mem _))
 ·intro i hi y h1 h2 h3
  rw [hg i hi] at h1 ⊢
  have hi0 : 0 ≤ S[i].fr := by
   have h4 : S[0].fr = 0 := by
    have := hI.head
    rw [h0] at this
    cases S with
    | nil => exact absurd rfl hne
    | cons p S => simpa using this
   rcases Nat.eq_zero_or_pos i with rfl | hp'
   ·omega
   ·have := hin 0 i (by omega) hi hp'
    omega
  obtain ⟨x, hx, hx1, hx2⟩ := great_to X ⟨S[i].fr, hmem _ (List.getElem_mem _), h1⟩
  obtain ⟨e1, e2⟩ := hc y (by omega) h3 x hx hx1 hx2
  obtain ⟨p, hpS, hp1, hp2, hp3, hp4⟩ := hI.all x hx
  have hix : S[i].fr ≤ x := by
   have := hx2 _ (hmem _ (List.getElem_mem hi))
   omega
  obtain ⟨k, hk, rfl⟩ := List.getElem_of_mem hpS
  have hki : k = i := by
   rcases Nat.lt_trichotomy k i with h4 | h4 | h4
   ·have h5 := hin k i hk hi h4
    have := hp2 S[i] (List.getElem_mem _)
    omega
   ·exact h4
   ·exfalso
    have h5 := h2 (by omega)
    rw [hg (i + 1) (by omega)] at h5
    rcases Nat.lt_or_ge (i + 1) k with h6 | h6
    ·have := hin (i + 1) k (by omega) hk h6
     omega
    ·obtain rfl : k = i + 1 := by omega
     omega
  subst hki
  exact ⟨e1.trans hp3, e2.trans hp4⟩
theorem compact_sorted {l : List Int} (h : l.Pairwise (· ≤ ·)) : (Go.Lib.compact l).Pairwise (· < ·) ∧ ∀ x, x ∈ Go.Lib.compact l ↔ x ∈ l := by
 have hget : ∀ i (hi : i < l.length), l.toArray[i]! = l[i] := fun i hi => by rw [getElem!_pos _ i (by simpa using hi)]; simp
 have key : ∀ m, m ≤ l.length → (Go.Lib.compactUpTo l.toArray m).Pairwise (· < ·) ∧ (∀ x, x ∈ Go.Lib.compactUpTo l.toArray m ↔ ∃ i, ∃ hi : i < l.length, i < m ∧ l[i] = x) := by
  intro m
  induction m with
  | zero =>
   intro _
   refine ⟨by simp [Go.Lib.compactUpTo], fun x => ?_⟩
   constructor
   ·intro hx
    simp [Go.Lib.compactUpTo] at hx
   ·rintro ⟨i, _, hi, _⟩
    omega
  | succ m ih =>
   intro hm
   obtain ⟨h1, h2⟩ := ih (by omega)
   have hml : m < l.length := by omega
   rw [Go.Lib.compactUpTo_succ]
   cases hk : Go.Lib.keeps l.toArray m
   ·simp only [Bool.false_eq_true, if_false, List.append_nil]
    refine ⟨h1, fun x => ?_⟩
    rw [h2 x]
    constructor
    ·rintro ⟨i, hi, h3, h4⟩
     exact ⟨i, hi, by omega, h4⟩
    ·rintro ⟨i, hi, h3, h4⟩
     rcases Nat.lt_or_ge i m with h5 | h5
     ·exact ⟨i, hi, h5, h4⟩
     ·obtain rfl : i = m := by omega
      unfold Go.Lib.keeps at hk
      rw [decide_eq_false_iff_not] at hk
      have hi0 : i ≠ 0 := fun e => hk (.inl e)
      have he : l.toArray[i]! = l.toArray[i - 1]! := Classical.byContradiction fun e => hk (.inr e)
      rw [hget i hi, hget (i - 1) (by omega)] at he
      exact ⟨i - 1, by omega, by omega, by rw [← he]; exact h4⟩
   ·simp only [if_true]
    rw [hget m hml]
    refine ⟨List.pairwise_append.2 ⟨h1, List.pairwise_singleton _ _, fun x hx y hy => ?_⟩, fun x => ?_⟩
    ·simp only [List.mem_singleton] at hy
     subst hy
     obtain ⟨i, hi, h3, rfl⟩ := (h2 x).1 hx
     unfold Go.Lib.keeps at hk
     rw [decide_eq_true_eq] at hk
     have hne : l.toArray[m]! ≠ l.toArray[m - 1]! := by
      rcases hk with h4 | h4
      ·omega
      ·exact h4
     rw [hget m hml, hget (m - 1) (by omega)] at hne
     have a1 : l[i] ≤ l[m - 1] := by
      rcases Nat.lt_or_ge i (m - 1) with h5 | h5
      ·exact List.pairwise_iff_getElem.1 h i (m - 1) hi (by omega) h5
      ·have e : i = m - 1 := by omega
       subst e
       exact Int.le_refl _
     have a2 : l[m - 1] ≤ l[m] := List.pairwise_iff_getElem.1 h (m - 1) m (by omega) hml (by omega)
     omega
    ·rw [List.mem_append, h2 x, List.mem_singleton]
     constructor
     ·rintro (⟨i, hi, h3, h4⟩ | h3)
      ·exact ⟨i, hi, by omega, h4⟩
      ·exact ⟨m, hml, by omega, h3.symm⟩
     ·rintro ⟨i, hi, h3, h4⟩
      rcases Nat.lt_or_ge i m with h5 | h5
      ·exact .inl ⟨i, hi, h5, h4⟩
      ·obtain rfl : i = m := by omega
       exact .inr h4.symm
 obtain ⟨h1, h2⟩ := key l.length (Nat.le_refl _)
 refine ⟨h1, fun x => ?_⟩
 unfold Go.Lib.compact
 rw [h2 x]
 constructor
 ·rintro ⟨i, hi, _, rfl⟩
  exact List.getElem_mem _
 ·intro hx
  obtain ⟨i, hi, rfl⟩ := List.getElem_of_mem hx
  exact ⟨i, hi, hi, rfl⟩
def cvFrom (n : Nat) (t : Nat → RW) : List Int := [0, 1] ++ (List.range n).flatMap fun i => [(t i).lo + 1, (t i).hi + 1]
def cvAt (n : Nat) (t : Nat → RW) : List Int := Go.Lib.compact ((cvFrom n t).mergeSort fun x y => decide (x ≤ y))
theorem sort_pair (l : List Int) : (l.mergeSort fun x y => decide (x ≤ y)).Pairwise (· ≤ ·) := by
 have := List.pairwise_mergeSort (le := fun x y : Int => decide (x ≤ y)) (fun a b c h1 h2 => by simp only [decide_eq_true_eq] at *; omega) (fun a b => by simp only [Bool.or_eq_true, decide_eq_true_eq]; omega) l
 exact this.imp (by intro a b h; simpa using h)
theorem cvAt_pair (n : Nat) (t : Nat → RW) : (cvAt n t).Pairwise (· < ·) := (compact_sorted (sort_pair _)).1
theorem cvAt_mem (n : Nat) (t : Nat → RW) (x : Int) : x ∈ cvAt n t ↔ x ∈ cvFrom n t := by
 unfold cvAt
 rw [(compact_sorted (sort_pair _)).2 x]
 exact (List.mergeSort_perm _ _).mem_iff
theorem cvFrom_mem {n : Nat} {t : Nat → RW} {x : Int} : x ∈ cvFrom n t ↔ x = 0 ∨ x = 1 ∨ ∃ i, i < n ∧ (x = (t i).lo + 1 ∨ x = (t i).hi + 1) := by
 unfold cvFrom
 simp only [List.mem_append, List.mem_cons, List.not_mem_nil, or_false, List.mem_flatMap, List.mem_range]
 constructor
 ·rintro ((h | h) | ⟨i, h1, h2⟩)
  ·exact .inl h
  ·exact .inr (.inl h)
  ·exact .inr (.inr ⟨i, h1, h2⟩)
 ·rintro (h | h | ⟨i, h1, h2⟩)
  ·exact .inl (.inl h)
  ·exact .inl (.inr h)
  ·exact .inr ⟨i, h1, h2⟩
theorem pair_lt_head {l : List Int} (h : l.Pairwise (· < ·)) (h0 : (0 : Int) ∈ l) (hp : ∀ x ∈ l, 0 ≤ x) : l.head? = some 0 := by
 cases l with
 | nil => cases h0
 | cons a l =>
  have h1 := hp a (by simp)
  rcases List.mem_cons.1 h0 with h2 | h2
  ·rw [← h2]
   rfl
  ·have := (List.pairwise_cons.1 h).1 0 h2
   omega
def cvIn (n : Nat) (t : Nat → RW) : List Int := (cvAt n t).takeWhile fun x => decide (x ≤ 1000000)
theorem take_le {l : List Int} (h : l.Pairwise (· < ·)) {M x : Int} : x ∈ l.takeWhile (fun x => decide (x ≤ M)) ↔ x ∈ l ∧ x ≤ M := by
 induction l with
 | nil => simp
 | cons a l ih =>
  obtain ⟨h1, h2⟩ := List.pairwise_cons.1 h
  rw [List.takeWhile_cons]
  by_cases ha : a ≤ M
  ·simp only [ha, decide_true, if_true]
   rw [List.mem_cons, List.mem_cons, ih h2]
   constructor
   ·rintro (rfl | h)
    ·exact ⟨.inl rfl, ha⟩
    ·exact ⟨.inr h.1, h.2⟩
   ·rintro ⟨rfl | h, h3⟩
    ·exact .inl rfl
    ·exact .inr ⟨h, h3⟩
  ·simp only [ha, decide_false, Bool.false_eq_true, if_false]
   constructor
   ·intro h; cases h
   ·rintro ⟨h3, h4⟩
    rcases List.mem_cons.1 h3 with rfl | h3
    ·exact absurd h4 ha
    ·have := h1 x h3
     omega
theorem curve_ok {n : Nat} {t : Nat → RW} {m : Nat} {l : Nat → RW} (ht : TabOk n t) (f : Int → Int) (g : Int → Int) :
  CurveOk (cvRun (fun x => f (exLo n t m l x)) (fun x => g (exHi n t m l x)) (cvIn n t)).length (fun i => ((cvRun (fun x => f (exLo n t m l x)) (fun x => g (exHi n t m l x)) (cvIn n t)).getD i FS.zero).fr) (fun i => ((cvRun (fun x => f (exLo n t m l x)) (fun x => g (exHi n t m l x)) (cvIn n t)).getD i FS.zero).lo) (fun i => ((cvRun (fun x => f (exLo n t m l x)) (fun x => g (exHi n t m l x)) (cvIn n t)).getD i FS.zero).hi) (fun x => f (exLo n t m l x)) (fun x => g (exHi n t m l x)) := by
 have hp := cvAt_pair n t
 have hm : ∀ x, x ∈ cvIn n t ↔ x ∈ cvFrom n t ∧ x ≤ 1000000 := fun x => by
  unfold cvIn
  rw [take_le hp, cvAt_mem]
 have hpos : ∀ x ∈ cvFrom n t, 0 ≤ x := fun x hx => by
  rcases cvFrom_mem.1 hx with h | h | ⟨i, h1, h2⟩
  ·omega
  ·omega
  ·have := ht.span i h1
   omega
 have hpi : (cvIn n t).Pairwise (· < ·) := hp.sublist (List.takeWhile_sublist _)
 refine cv_ok hpi (pair_lt_head hpi ((hm 0).2 ⟨cvFrom_mem.2 (.inl rfl), by decide⟩) (fun x hx => hpos x ((hm x).1 hx).1)) (fun x hx => ((hm x).1 hx).2) ?_
 intro y h0 h1 x hx hxy hno
 have hx0 := hpos x ((hm x).1 hx).1
 rcases Int.lt_or_le 0 x with h2 | h2
 ·have := ex_same (n := n) (t := t) (m := m) (l := l) (x := x) (y := y) (by omega) hxy fun i hi => by
   have hs := ht.span i hi
   constructor
   ·intro h3
    exact hno ((t i).lo + 1) ((hm _).2 ⟨cvFrom_mem.2 (.inr (.inr ⟨i, hi, .inl rfl⟩)), by omega⟩) h3
   ·intro h3
    exact hno ((t i).hi + 1) ((hm _).2 ⟨cvFrom_mem.2 (.inr (.inr ⟨i, hi, .inr rfl⟩)), by omega⟩) h3
  rw [this.1, this.2]
  exact ⟨rfl, rfl⟩
 ·have hx1 : x = 0 := by omega
  subst hx1
  have hy : y = 0 := by
   have := hno 1 ((hm 1).2 ⟨cvFrom_mem.2 (.inr (.inl rfl)), by decide⟩)
   omega
  subst hy
  exact ⟨rfl, rfl⟩
end Go.Proofs.YtgmpelhphnmknaaGreat
