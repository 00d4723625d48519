/- Texts put together: RefRf, RefPt. -/
import Derived.Test.YtlfegmjdheddjaaDoorRef8
import Derived.Test.YtlfegmjdheddjaaDoorGiA
import Derived.Test.YtlfegmjdheddjaaDoorGvA
import Derived.Test.YtlfegmjdheddjaaDoorGjA
namespace Go.Proofs.YtlfegmjdheddjaaDoor
open Go.RowKit
set_option linter.unusedVariables false
set_option linter.unusedSimpArgs false
/-- the form's row, the image's box -/
structure RfI (w : World) (a : Option Addr) (n c : Nat) (ba : Option Addr) (m bc : Nat) (fb : Nat) (f : Nat → Int) (W : World) : Prop where
  below : Below w.heap.size w W
  box : W.heap[w.heap.size]? = some (.cells #[.slice a n c, .slice ba m bc] 25)
  form : IR 3 W fb n f
  le : w.heap.size < fb
/-- a beam's box beside them -/
structure RfJ (w : World) (a : Option Addr) (n c : Nat) (ba : Option Addr) (m bc : Nat) (fb : Nat) (f : Nat → Int) (xb : Nat) (p : BM) (W : World) : Prop where
  i : RfI w a n c ba m bc fb f W
  beam : W.heap[xb]? = some (.cells #[.slice p.ca p.cn p.cc, .slice p.wa p.wn p.wc, .int .i64 p.lo, .int .i64 p.hi] 46)
  gt : fb < xb
section
variable {w : World} {a : Option Addr} {n c : Nat} {ba : Option Addr} {m bc : Nat} {fb : Nat} {f g : Nat → Int} {xb : Nat} {p : BM} {W W' : World}
theorem RfI.step (h : RfI w a n c ba m bc fb f W) (hb : Below W.heap.size W W') : RfI w a n c ba m bc fb f W' :=
  ⟨h.below.trans (hb.mono h.below.size), (hb.block _ (Array.getElem?_eq_some_iff.1 h.box).1).trans h.box, h.form.step hb, h.le⟩
theorem RfI.congr (h : RfI w a n c ba m bc fb f W) (e : ∀ j, j < n → f j = g j) : RfI w a n c ba m bc fb g W := ⟨h.below, h.box, h.form.congr e, h.le⟩
theorem RfI.set (h : RfI w a n c ba m bc fb f W) {j : Nat} (hj : j < n) (x : Int) : RfI w a n c ba m bc fb (fun q => if q = j then x else f q) (W.setCell ⟨fb, j, none⟩ (.int .i64 x)) :=
  ⟨h.below.setCell (p := ⟨fb, j, none⟩) (by have := h.le; show w.heap.size ≤ fb; omega) _, (heap_setCell_other W ⟨fb, j, none⟩ _ _ (by have := h.le; show w.heap.size ≠ fb; omega)).trans h.box, h.form.set hj x, h.le⟩
theorem RfJ.step (h : RfJ w a n c ba m bc fb f xb p W) (hb : Below W.heap.size W W') : RfJ w a n c ba m bc fb f xb p W' :=
  ⟨h.i.step hb, (hb.block _ (Array.getElem?_eq_some_iff.1 h.beam).1).trans h.beam, h.gt⟩
theorem RfJ.congr (h : RfJ w a n c ba m bc fb f xb p W) (e : ∀ j, j < n → f j = g j) : RfJ w a n c ba m bc fb g xb p W := ⟨h.i.congr e, h.beam, h.gt⟩
theorem RfJ.set (h : RfJ w a n c ba m bc fb f xb p W) {j : Nat} (hj : j < n) (x : Int) : RfJ w a n c ba m bc fb (fun q => if q = j then x else f q) xb p (W.setCell ⟨fb, j, none⟩ (.int .i64 x)) :=
  ⟨h.i.set hj x, (heap_setCell_other W ⟨fb, j, none⟩ _ _ (by have := h.gt; show xb ≠ fb; omega)).trans h.beam, h.gt⟩
end
/-- the form, k pairs of beam i being added -/
def formK (bs : Nat → BM) (ts : Nat → Int) (i k c : Nat) : Int := formN bs ts i c + ts i * wUp (bs i).cs (bs i).ws k c
theorem formK_zero {bs : Nat → BM} {ts : Nat → Int} {i c : Nat} : formK bs ts i 0 c = formN bs ts i c := by simp [formK, wUp]
theorem formK_end {bs : Nat → BM} {ts : Nat → Int} {i c : Nat} : formK bs ts i (bs i).cn c = formN bs ts (i + 1) c := rfl
theorem formK_step {n : Nat} {bs : Nat → BM} {ts : Nat → Int} {i k : Nat} (hs : setB n (bs i).cn (bs i).cs = true) (hk : k < (bs i).cn) (c : Nat) : formK bs ts i (k + 1) c = if c = ((bs i).cs k).toNat then formK bs ts i k c + ts i * (bs i).ws k else formK bs ts i k c := by
  have h0 := setB_at hs hk
  unfold formK
  rw [wUp]
  by_cases e : c = ((bs i).cs k).toNat
  · rw [if_pos (by omega), if_pos e, wUp_zero k c (fun j hj h => by
      have h1 := setB_at hs (i := j) (by omega)
      have := setB_ne hs (i := j) (j := k) (by omega) hk (by omega)
      omega)]
    omega
  · rw [if_neg (by omega), if_neg e]
theorem formK_bound {n : Nat} {ss : Nat → SV} {m : Nat} {bs : Nat → BM} (hS : Shape n ss m bs) {ts : Nat → Int} (ht : TimesOk m ts) {i : Nat} (hi : i < m) (k c : Nat) (hk : k ≤ (bs i).cn) : -3000000000 ≤ formK bs ts i k c ∧ formK bs ts i k c ≤ 3000000000 := by
  have h1 := form_bound hS ht c (k := i) (by omega)
  have h2 := mul_abs (ht i hi) (wUp_pos (cs := (bs i).cs) k (fun j hj => hS.weight i hi j (by omega)) c) (by omega)
  unfold formK
  omega
theorem set_count {n k : Nat} {cs : Nat → Int} (hs : setB n k cs = true) : k ≤ n := by
  false_or_by_contra
  have h2 : ∀ j, j < k → (j : Int) ≤ cs j := fun j hj => by
    induction j with
    | zero => exact (setB_at hs hj).1
    | succ j ih => have := ih (by omega); have := setB_step hs hj; omega
  have h3 := h2 n (by omega)
  have h4 := setB_at hs (i := n) (by omega)
  omega
set_option maxRecDepth 100000 in
set_option maxHeartbeats 4000000 in
theorem r8Refutes_any (a : Option Addr) (n c : Nat) (ba : Option Addr) (m bc : Nat) (ss : Nat → SV) (bs : Nat → BM) (xa : Option Addr) (xc : Nat) (box : Nat → SV) (ta : Option Addr) (tc : Nat) (ts : Nat → Int) (w : World) (B : Nat) (hBw : B ≤ w.heap.size) (hM : Beams B w ba m bs) (hSh : Shape n ss m bs) (hX : Spans w.heap.size w xa n box) (hT : Ints w.heap.size w ta m ts) (hb : BoxOk n box) (ht : TimesOk m ts) :
    Calls Tryd.prog 52 #[imageV a n c ba m bc, .slice xa n xc, .slice ta m tc] w fun e w' => e = .returned (.bool (refutesB n m bs box ts)) ∧ Below w.heap.size w w' := by
  have hn := hSh.n40
  have hm := hSh.m20
  have HM := Lib.hid hM
  have HX := Lib.hid hX
  have HT := Lib.hid hT
  have HBO := Lib.hid hb
  have HTO := Lib.hid ht
  have HSH := Lib.hid hSh
  have HL := Lib.hid (fun k (hk : k ≤ n) => least_bound hSh ht hb hk)
  have HMO := Lib.hid (fun k (hk : k ≤ m) => most_bound hSh ht hk)
  have HFB := Lib.hid (fun c => form_bound hSh ht c (Nat.le_refl m))
  have HKB := Lib.hid (fun i (hi : i < m) k c hk => formK_bound hSh ht hi k c hk)
  have HKS := Lib.hid (fun i (hi : i < m) k (hk : k < (bs i).cn) c => formK_step (ts := ts) (hSh.set i hi) hk c)
  have HMS := Lib.hid (fun i => show mostN bs ts (i + 1) = mostN bs ts i + (if 0 < ts i then ts i * (bs i).hi else ts i * (bs i).lo) from rfl)
  have HLS := Lib.hid (fun k => show leastN bs ts m box (k + 1) = leastN bs ts m box k + min (formN bs ts m k * (box k).lo) (formN bs ts m k * (box k).hi) from rfl)
  have HM0 := Lib.hid (show mostN bs ts 0 = 0 from rfl)
  have HL0 := Lib.hid (show leastN bs ts m box 0 = 0 from rfl)
  have HF0 := Lib.hid (show ∀ c, formN bs ts 0 c = 0 from fun _ => rfl)
  have hmk := make_ints n (by omega)
  unfold refutesB
  generalize mostN bs ts = MO at *
  generalize leastN bs ts m box = LE at *
  clear hM hX hT hb ht hSh
  go_enter Tryd.func52, Tryd.ntmps52
  go_upto_region 2 with (fail)
  have vb : Below w.heap.size w ((w.alloc (.cells #[.slice a n c, .slice ba m bc] 25)).alloc (.cells (madeCells #[.int .i64 0] n) 3)) := (alloc_below w _).trans ((alloc_below _ _).mono (by simp))
  have e1 : ((w.alloc (.cells #[.slice a n c, .slice ba m bc] 25)).alloc (.cells (madeCells #[.int .i64 0] n) 3)).heap[w.heap.size]? = some (.cells #[.slice a n c, .slice ba m bc] 25) := (Below.heap_alloc _ _ _ (by simp)).trans (heap_alloc_new w _)
  have hz1 : (w.alloc (.cells #[.slice a n c, .slice ba m bc] 25)).heap.size = w.heap.size + 1 := by simp
  have hir := IR.made (w.alloc (.cells #[.slice a n c, .slice ba m bc] 25)) 3 n
  rw [hz1] at hir
  have HI := Lib.hid (show RfI w a n c ba m bc (w.heap.size + 1) (fun c => formN bs ts 0 c) ((w.alloc (.cells #[.slice a n c, .slice ba m bc] 25)).alloc (.cells (madeCells #[.int .i64 0] n) 3)) from ⟨vb, e1, hir.congr (fun j _ => (HF0.out j).symm), by omega⟩)
  clear vb e1 hz1 hir hmk
  generalize World.alloc (World.alloc w _) _ = V at *
  generalize hfb : w.heap.size + 1 = fb at *
  have HFBE := Lib.hid hfb
  clear hfb
  go_wp2
  go_loopw [8, 9] (fun s8 s9 wr => ∃ i : Nat, i ≤ m ∧ s9 = .int .i64 (i : Int) ∧ s8 = .int .i64 (MO i) ∧ Hid (RfI w a n c ba m bc fb (fun c => formN bs ts i c) wr)) (fun _ s9 _ => m - (intOf s9).toNat)
  case atStart => exact ⟨0, Nat.zero_le _, rfl, by rw [HM0.out], HI⟩
  case round =>
    clear HI
    obtain ⟨i, hi, rfl, rfl, HI⟩ := hrel
    have b0 := (cell_of_row _ _ 0 _ _ _ HI.out.box).trans (show _ = some (Value.slice a n c) from rfl)
    have b1 := (cell_of_row _ _ 1 _ _ _ HI.out.box).trans (show _ = some (Value.slice ba m bc) from rfl)
    have hbw := (Array.getElem?_eq_some_iff.1 HI.out.box).1
    have hzr := HI.out.below.size
    by_cases hlt : i < m
    · have hlt' : (i : Int) < (m : Int) := by omega
      obtain ⟨bb, boff, rfl, hbB, hat, hmem⟩ := HM.out.get hlt
      obtain ⟨c0, c1, c2, c3⟩ := hat.below (HI.out.below.mono hBw) hbB
      have hbz : bb < wr.heap.size := by omega
      have HME := Lib.hid hmem
      have HSET := Lib.hid (HSH.out.set i hlt)
      have HWN := Lib.hid (HSH.out.wn i hlt)
      have hcn40 : (bs i).cn ≤ 40 := by have := set_count (HSH.out.set i hlt); omega
      have HWT := Lib.hid (HSH.out.weight i hlt)
      have HBD := Lib.hid (HSH.out.bound i hlt)
      have HKBI := Lib.hid (HKB.out i hlt)
      have HKSI := Lib.hid (HKS.out i hlt)
      clear hat hmem
      go_upto_region 7 with (fail)
      have HJ := Lib.hid (show RfJ w a n c (some ⟨bb, boff, none⟩) m bc fb (formK bs ts i 0) wr.heap.size (bs i) (wr.alloc (.cells #[.slice (bs i).ca (bs i).cn (bs i).cc, .slice (bs i).wa (bs i).wn (bs i).wc, .int .i64 (bs i).lo, .int .i64 (bs i).hi] 46)) from ⟨(HI.out.step (alloc_below wr _)).congr (fun j _ => formK_zero.symm), heap_alloc_new wr _, HI.out.form.lt⟩)
      clear HI b0 b1 c0 c1 c2 c3 hbz hbw hzr
      generalize World.alloc wr _ = V2 at *
      generalize wr.heap.size = xb at *
      go_wp2
      go_loopw [11] (fun s11 wx => ∃ k : Nat, k ≤ (bs i).cn ∧ s11 = .int .i64 (k : Int) ∧ Hid (RfJ w a n c (some ⟨bb, boff, none⟩) m bc fb (formK bs ts i k) xb (bs i) wx)) (fun s11 _ => (bs i).cn - (intOf s11).toNat)
      case atStart => exact ⟨0, Nat.zero_le _, rfl, HJ⟩
      case round =>
        clear HJ
        obtain ⟨k, hk, rfl, HJ⟩ := hrel
        have e0 := (cell_of_row _ _ 0 _ _ _ HJ.out.beam).trans (show _ = some (Value.slice (bs i).ca (bs i).cn (bs i).cc) from rfl)
        have e1 := (cell_of_row _ _ 1 _ _ _ HJ.out.beam).trans (show _ = some (Value.slice (bs i).wa (bs i).wn (bs i).wc) from rfl)
        have e2 := (cell_of_row _ _ 2 _ _ _ HJ.out.beam).trans (show _ = some (Value.int .i64 (bs i).lo) from rfl)
        have e3 := (cell_of_row _ _ 3 _ _ _ HJ.out.beam).trans (show _ = some (Value.int .i64 (bs i).hi) from rfl)
        have hxb := (Array.getElem?_eq_some_iff.1 HJ.out.beam).1
        have hzr := HJ.out.i.below.size
        have hfz := HJ.out.i.form.lt
        obtain ⟨tb, toff, hta, htz, t0⟩ := (HT.out.below HJ.out.i.below).get hlt
        subst hta
        have htw : tb < wr.heap.size := by omega
        by_cases hlt2 : k < (bs i).cn
        · have hlt2' : (k : Int) < ((bs i).cn : Int) := by omega
          obtain ⟨cb, co, hca, hcB, d0⟩ := (HME.out.2.2.1.below (HJ.out.i.below.mono hBw)).get hlt2
          obtain ⟨wb, wo, hwa, hwB, d1⟩ := (HME.out.2.2.2.below (HJ.out.i.below.mono hBw)).get (i := k) (by rw [HWN.out]; exact hlt2)
          obtain ⟨g1, g2⟩ := setB_at HSET.out hlt2
          have g3 : ((bs i).cs k).toNat < n := by omega
          have f0 := HJ.out.i.form.cell g3
          have f1 := HJ.out.i.form.frozen ((bs i).cs k).toNat
          obtain ⟨r1, r2⟩ := HTO.out i hlt
          obtain ⟨r3, r4⟩ := HWT.out k hlt2
          obtain ⟨r5, r6⟩ := HKBI.out k ((bs i).cs k).toNat (by omega)
          have HST := Lib.hid (HKSI.out k hlt2)
          have hcw : cb < wr.heap.size := by omega
          have hww : wb < wr.heap.size := by omega
          have hwn := HWN.out
          have hlt3 : k < (bs i).wn := by omega
          have hlt3' : (k : Int) < ((bs i).wn : Int) := by omega
          rw [hca] at e0
          rw [hwa] at e1
          have HP := Lib.hid (mul_abs (a := ts i) (b := (bs i).ws k) (A := 100) (B := 1000000) ⟨r1, r2⟩ ⟨by omega, r4⟩ (by omega))
          obtain ⟨p1, p2⟩ := HP.out
          clear hca hwa hwn
          go_upto_region 10 with (fail)
          (refine wp_region_calm_tail (wr.heap.size) 25 (by kernel_rfl) (by kernel_rfl) ?_; simp only [List.take_succ_cons, List.take_zero, List.drop_succ_cons, List.drop_zero]; (repeat (first | go_big_quiet_step (fail) | quiet_step (fail))); refine wpQuiet_nil ?_; intro _ hw'; obtain ⟨xq, hw''⟩ := hw'; subst hw'')
          have HJ2 := Lib.hid (HJ.out.step (Calm.below xq))
          have f2 := HJ2.out.i.form.cell g3
          have f3 := HJ2.out.i.form.frozen ((bs i).cs k).toNat
          have HJ3 := Lib.hid ((HJ2.out.set g3 (formK bs ts i k ((bs i).cs k).toNat + ts i * (bs i).ws k)).congr (g := formK bs ts i (k + 1)) (fun j _ => by
            rw [HST.out j]
            by_cases e : j = ((bs i).cs k).toNat
            · rw [if_pos e, if_pos e, e]
            · rw [if_neg e, if_neg e]))
          clear HJ HJ2 f0 f1 d0 d1 t0 e0 e1 e2 e3 HST HP p1 p2 r1 r2 r3 r4 r5 r6
          generalize Calm.val xq = V4 at *
          go_wp2
          exact ⟨⟨k + 1, by omega, by go_num, HJ3⟩, by simp [intOf]; omega⟩
        · obtain rfl : k = (bs i).cn := by omega
          have hlt2' : ¬ ((bs i).cn : Int) < ((bs i).cn : Int) := by omega
          have HIN := Lib.hid (show RfI w a n c (some ⟨bb, boff, none⟩) m bc fb (fun c => formN bs ts (i + 1) c) wr from HJ.out.i.congr (fun j _ => formK_end))
          have HMSI := Lib.hid (HMS.out i)
          obtain ⟨q1, q2⟩ := HMO.out i hi
          obtain ⟨q3, q4⟩ := HMO.out (i + 1) (by omega)
          obtain ⟨r1, r2⟩ := HTO.out i hlt
          obtain ⟨q5, q6, q7⟩ := HBD.out
          by_cases hpos : 0 < ts i
          · rw [if_pos hpos] at HMSI
            have HP := Lib.hid (mul_abs (a := ts i) (b := (bs i).hi) (A := 100) (B := 1000000000000) ⟨r1, r2⟩ ⟨by omega, by omega⟩ (by omega))
            obtain ⟨p1, p2⟩ := HP.out
            go_upto_region 12 with (fail)
            (refine wp_region_calm (wr.heap.size) (by kernel_rfl) (by kernel_rfl) ?_; (repeat (first | go_big_quiet_step (fail) | quiet_step (fail))); refine wpQuiet_nil ?_; intro _ hw'; obtain ⟨xq, hw''⟩ := hw'; subst hw'')
            have HI2 := Lib.hid (HIN.out.step (Calm.below xq))
            go_wp2
            exact ⟨⟨i + 1, by omega, by go_num, by rw [HMSI.out], HI2⟩, by simp [intOf]; omega⟩
          · rw [if_neg hpos] at HMSI
            have HP := Lib.hid (mul_abs (a := ts i) (b := (bs i).lo) (A := 100) (B := 1000000000000) ⟨r1, r2⟩ ⟨by omega, by omega⟩ (by omega))
            obtain ⟨p1, p2⟩ := HP.out
            go_upto_region 13 with (fail)
            (refine wp_region_calm (wr.heap.size) (by kernel_rfl) (by kernel_rfl) ?_; (repeat (first | go_big_quiet_step (fail) | quiet_step (fail))); refine wpQuiet_nil ?_; intro _ hw'; obtain ⟨xq, hw''⟩ := hw'; subst hw'')
            have HI2 := Lib.hid (HIN.out.step (Calm.below xq))
            go_wp2
            exact ⟨⟨i + 1, by omega, by go_num, by rw [HMSI.out], HI2⟩, by simp [intOf]; omega⟩
    · obtain rfl : i = m := by omega
      have hlt' : ¬ (i : Int) < (i : Int) := by omega
      go_wp2
      go_loopw [12, 13] (fun s12 s13 wx => ∃ k : Nat, k ≤ n ∧ s13 = .int .i64 (k : Int) ∧ s12 = .int .i64 (LE k) ∧ Hid (RfI w a n c ba i bc fb (fun c => formN bs ts i c) wx)) (fun _ s13 _ => n - (intOf s13).toNat)
      case atStart => exact ⟨0, Nat.zero_le _, rfl, by rw [HL0.out], HI⟩
      case round =>
        clear HI b0 b1 hbw hzr
        obtain ⟨k, hk, rfl, rfl, HI⟩ := hrel
        have hzr := HI.out.below.size
        have hfz := HI.out.form.lt
        by_cases hlt2 : k < n
        · have hlt2' : (k : Int) < (n : Int) := by omega
          obtain ⟨xb, xo, hxa, hxz, x0, x1⟩ := (HX.out.below HI.out.below).get hlt2
          subst hxa
          have f0 := HI.out.form.cell hlt2
          have hxw : xb < wr.heap.size := by omega
          have HLSI := Lib.hid (HLS.out k)
          obtain ⟨q1, q2⟩ := HL.out k hk
          obtain ⟨q3, q4⟩ := HL.out (k + 1) (by omega)
          obtain ⟨q5, q6⟩ := HFB.out k
          obtain ⟨q7, q8, q9, q10⟩ := HBO.out k hlt2
          have HP1 := Lib.hid (mul_abs (a := formN bs ts i k) (b := (box k).lo) (A := 2000000000) (B := 1000) ⟨q5, q6⟩ ⟨q7, q8⟩ (by omega))
          have HP2 := Lib.hid (mul_abs (a := formN bs ts i k) (b := (box k).hi) (A := 2000000000) (B := 1000) ⟨q5, q6⟩ ⟨q9, q10⟩ (by omega))
          obtain ⟨p1, p2⟩ := HP1.out
          obtain ⟨p3, p4⟩ := HP2.out
          go_upto_region 18 with (fail)
          (refine wp_region_calm (wr.heap.size) (by kernel_rfl) (by kernel_rfl) ?_; (repeat (first | go_big_quiet_step (fail) | quiet_step (fail))); refine wpQuiet_nil ?_; intro _ hw'; obtain ⟨xq, hw''⟩ := hw'; subst hw'')
          have HI2 := Lib.hid (HI.out.step (Calm.below xq))
          go_wp2
          exact ⟨⟨k + 1, by omega, by go_num, by (rw [HLSI.out]; congr 1; (try split) <;> omega), HI2⟩, by simp [intOf]; omega⟩
        · obtain rfl : k = n := by omega
          have hlt2' : ¬ (k : Int) < (k : Int) := by omega
          go_wp2
          go_ret
          exact ⟨rfl, HI.out.below⟩
end Go.Proofs.YtlfegmjdheddjaaDoor
namespace Go.Proofs.YtlfegmjdheddjaaDoor
open Go.RowKit
set_option linter.unusedVariables false
set_option linter.unusedSimpArgs false
theorem sC_set {f : Nat → SV} {n c : Nat} {lo hi : Int} (hc : c < n) : ((sC f n).set (c * 2) (.int .i64 lo)).set (c * 2 + 1) (.int .i64 hi) = sC (setBox f c ⟨lo, hi⟩) n := by
  apply List.ext_getElem?
  intro j
  by_cases hj : j < n * 2
  · by_cases e1 : j = c * 2 + 1
    · subst e1
      rw [List.getElem?_set_self (by rw [List.length_set, sC_len]; exact hj), sC_get hj, if_neg (by omega), show (c * 2 + 1) / 2 = c by omega]
      simp [setBox]
    · rw [List.getElem?_set_ne (by omega)]
      by_cases e0 : j = c * 2
      · subst e0
        rw [List.getElem?_set_self (by rw [sC_len]; exact hj), sC_get hj, if_pos (by omega), show (c * 2) / 2 = c by omega]
        simp [setBox]
      · rw [List.getElem?_set_ne (by omega), sC_get hj, sC_get hj]
        have hne : j / 2 ≠ c := by omega
        simp [setBox, hne]
  · rw [List.getElem?_eq_none_iff.2 (by simp [sC_len]; omega), List.getElem?_eq_none_iff.2 (by rw [sC_len]; omega)]
theorem own_frozen {w : World} {base : Nat} {e : TypeId} {k n c g : Nat} {xs : List Value} (h : w.ownsRow base e k (.slice (some ⟨g, 0, none⟩) n c) n xs) (j : Nat) : w.frozen? ⟨g, j, none⟩ = false := by
  rcases h.2 with ⟨hv, _⟩ | ⟨g', cap', cur', hv, h1, h2, _⟩
  · cases hv
  · injection hv with q1 _ _
    injection q1 with q1
    injection q1 with q1
    subst q1
    exact frozen_of_row _ _ _ _ _ h2
set_option maxRecDepth 100000 in
set_option maxHeartbeats 1000000 in
theorem r8part_any (xa : Option Addr) (n xc : Nat) (box : Nat → SV) (k : Nat) (lo hi : Int) (hk : k < n) (hn : n ≤ 40) (w : World) (hX : Spans w.heap.size w xa n box) :
    Calls Tryd.prog 53 #[.slice xa n xc, .int .i64 (k : Int), .agg #[.int .i64 lo, .int .i64 hi]] w (WithRes w n (setBox box k ⟨lo, hi⟩)) := by
  obtain ⟨b, off, rfl, hbz, _⟩ := hX.get hk
  have hcell : ∀ i, i < n → w.cell? ⟨b, off + i * 2, none⟩ = some (.int .i64 (box i).lo) ∧ w.cell? ⟨b, off + i * 2 + 1, none⟩ = some (.int .i64 (box i).hi) := by
    rcases hX.2 with h | ⟨b2, off2, h1, _, h3⟩
    · omega
    · injection h1 with h1
      injection h1 with e1 e2
      subst e1 e2
      exact h3
  have HSC := Lib.hid (spans_cells hcell)
  have hkn : (k : Int) < (n : Int) := by omega
  have HR := Lib.hid (fun (v : Value) (W : World) (h : W.ownsRow (w.heap.size + 1) 48 2 v n (sC (setBox box k ⟨lo, hi⟩) n)) (hB : Below w.heap.size w W) => with_done (w := w) h (by omega) (by omega) hB)
  generalize WithRes w n (setBox box k ⟨lo, hi⟩) = RES at *
  obtain ⟨i0, hi0', hz0, hz1, hz2⟩ := info_parts info_span
  have hb63 : 0 + n ≤ maxLen := by unfold maxLen; omega
  have hb47 : (0 + n) * 16 ≤ 140737488355328 := by omega
  clear hX hcell
  go_enter Tryd.func53, Tryd.ntmps53
  go_upto_region 1 with (fail)
  have HB1 := Lib.hid (alloc_below w (.cells #[.int .i64 lo, .int .i64 hi] 48))
  have HN1 := Lib.hid (heap_alloc_new w (.cells #[.int .i64 lo, .int .i64 hi] 48))
  have hz1' : (w.alloc (.cells #[.int .i64 lo, .int .i64 hi] 48)).heap.size = w.heap.size + 1 := by simp
  have HZ := Lib.hid hz1'
  clear hz1'
  generalize World.alloc w _ = V at *
  have HCV := Lib.hid (fun j u h => ((World.cell?_of_block (HB1.out.block _ (World.block_lt_of_cell? w _ (HSC.out j u h)))).trans (HSC.out j u h)))
  go_upto_region 2 with (at_builtin; refine wpList_append_lies _ rfl _ _ 22 rfl V.heap.size 48 i0 _ 2 16 Tryd.underlying22 hi0' hz0 hz1 hz2 rfl (by decide) (.slice none 0 0) 0 [] rfl (World.ownsRow_nil _ _ _ _) ⟨b, off, none⟩ n xc (sC box n) rfl sC_len HCV.out sC_one (by omega) hb63 hb47 (Nat.le_refl _) _ rfl ?_; intro g cap W2 hown hgrow hat hlt)
  rw [Nat.zero_add, List.nil_append] at hown
  try rw [Nat.zero_add] at hown
  have hB2 : Below V.heap.size V W2 := ⟨hgrow.os, hgrow.tape, hgrow.output, hgrow.size, fun b hb => hgrow.block b hb (by simp [Value.ownBlock])⟩
  have hzV := HZ.out
  have hgV : V.heap.size ≤ g := by
    rcases hat with h | h
    · cases h
    · omega
  have HB2 := Lib.hid (HB1.out.trans (hB2.mono HB1.out.size))
  have hrow := (hB2.block w.heap.size (by omega)).trans HN1.out
  have e0 := (cell_of_row _ _ 0 _ _ _ hrow).trans (show _ = some (Value.int .i64 lo) from rfl)
  have e1 := (cell_of_row _ _ 1 _ _ _ hrow).trans (show _ = some (Value.int .i64 hi) from rfl)
  have f0 := (hown.cellAt (k * 2) (by omega)).trans (sC_get (by omega))
  have f1 := (hown.cellAt (k * 2 + 1) (by omega)).trans (sC_get (by omega))
  rw [if_pos (by omega)] at f0
  rw [if_neg (by omega)] at f1
  have f2 := own_frozen hown (k * 2)
  have f3 := own_frozen hown (k * 2 + 1)
  have HOW := Lib.hid (own_set (own_set hown (j := k * 2) (by omega) (.int .i64 lo)) (j := k * 2 + 1) (by omega) (.int .i64 hi))
  rw [sC_set hk, hzV] at HOW
  have HB3 := Lib.hid ((HB2.out.setCell (p := ⟨g, k * 2, none⟩) (by show w.heap.size ≤ g; omega) (.int .i64 lo)).setCell (p := ⟨g, k * 2 + 1, none⟩) (by show w.heap.size ≤ g; omega) (.int .i64 hi))
  clear hown hgrow hat hB2 hrow HB2 HCV HSC HN1 HB1 hgV hzV HZ
  go_wp2
  exact HR.out _ _ HOW.out HB3.out
end Go.Proofs.YtlfegmjdheddjaaDoor
