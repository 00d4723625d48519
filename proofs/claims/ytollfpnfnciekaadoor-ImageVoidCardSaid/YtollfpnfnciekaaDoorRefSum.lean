/- The walk of the reference's Sum. -/
import Derived.Test.YtollfpnfnciekaaDoorImSumF
import Derived.Test.YtollfpnfnciekaaDoorImApart
namespace Go.Proofs.YtollfpnfnciekaaDoor
open Go.RowKit
set_option linter.unusedVariables false
set_option linter.unusedSimpArgs false
set_option maxRecDepth 100000 in
set_option maxHeartbeats 1000000 in
theorem r8wideS_any (lo hi x : Int) (first : Bool) (w : World) :
    Calls Tryd.prog 63 #[.agg #[.int .i64 lo, .int .i64 hi], .int .i64 x, .bool first] w fun e w' => e = .returned (.agg #[.int .i64 (widS (!first) ⟨lo, hi⟩ x).lo, .int .i64 (widS (!first) ⟨lo, hi⟩ x).hi]) ∧ Below w.heap.size w w' := by
  cases first
  · have e : widS (!false) ⟨lo, hi⟩ x = ⟨if x < lo then x else lo, if hi < x then x else hi⟩ := rfl
    rw [e]
    go_enter Tryd.func63, Tryd.ntmps63
    go_wp2
    all_goals first | (refine bodyPost_ret (v := .agg #[.int .i64 x, .int .i64 x]) (by simp [results, Tryd.results63, go_sem]) rfl ⟨rfl, ?_⟩; exact ((Below.refl _ _).alloc (Nat.le_refl _) _).alloc (by simp) _) | (refine bodyPost_ret (v := .agg #[.int .i64 x, .int .i64 hi]) (by simp [results, Tryd.results63, go_sem]) rfl ⟨rfl, ?_⟩; exact ((Below.refl _ _).alloc (Nat.le_refl _) _).alloc (by simp) _) | (refine bodyPost_ret (v := .agg #[.int .i64 lo, .int .i64 x]) (by simp [results, Tryd.results63, go_sem]) rfl ⟨rfl, ?_⟩; exact ((Below.refl _ _).alloc (Nat.le_refl _) _).alloc (by simp) _) | (refine bodyPost_ret (v := .agg #[.int .i64 lo, .int .i64 hi]) (by simp [results, Tryd.results63, go_sem]) rfl ⟨rfl, ?_⟩; exact ((Below.refl _ _).alloc (Nat.le_refl _) _).alloc (by simp) _)
  · have e : widS (!true) ⟨lo, hi⟩ x = ⟨x, x⟩ := rfl
    rw [e]
    go_enter Tryd.func63, Tryd.ntmps63
    go_wp2
    refine bodyPost_ret (v := .agg #[.int .i64 x, .int .i64 x]) (by simp [results, Tryd.results63, go_sem]) rfl ⟨rfl, ?_⟩
    exact ((Below.refl _ _).alloc (Nat.le_refl _) _).alloc (by simp) _
theorem bnd_take (g : List Int → Int) {l : List (List Int)} {i : Nat} (hi : i < l.length) : widS (!(l.take i).isEmpty) (bnd g (l.take i)) (g (l.getD i [])) = bnd g (l.take (i + 1)) := by
  rw [List.take_add_one, List.getElem?_eq_getElem hi, List.getD_eq_getElem?_getD, List.getElem?_eq_getElem hi]
  exact wid_bnd g _ _
theorem take_empty {l : List (List Int)} {i : Nat} (hi : i < l.length) : (l.take i).isEmpty = decide (i = 0) := by
  cases i with
  | zero => simp
  | succ q =>
    cases l with
    | nil => simp at hi
    | cons x t => simp
/-- the result's box and the span's -/
structure SX (w : World) (s : SV) (W : World) : Prop where
  below : Below w.heap.size w W
  res : W.heap[w.heap.size]? = some (.cells #[.int .i64 0, .int .i64 0] 41)
  span : W.heap[w.heap.size + 1]? = some (.cells #[.int .i64 s.lo, .int .i64 s.hi] 41)
theorem SX.step {w : World} {s : SV} {W W' : World} (h : SX w s W) (hb : Below W.heap.size W W') : SX w s W' :=
  ⟨h.below.trans (hb.mono h.below.size), (hb.block _ (Array.getElem?_eq_some_iff.1 h.res).1).trans h.res, (hb.block _ (Array.getElem?_eq_some_iff.1 h.span).1).trans h.span⟩
theorem SX.set {w : World} {s : SV} {W : World} (h : SX w s W) (x y : Int) : SX w ⟨x, y⟩ ((W.setCell ⟨w.heap.size + 1, 0, none⟩ (.int .i64 x)).setCell ⟨w.heap.size + 1, 1, none⟩ (.int .i64 y)) :=
  ⟨(h.below.setCell (p := ⟨w.heap.size + 1, 0, none⟩) (by show w.heap.size ≤ w.heap.size + 1; omega) _).setCell (p := ⟨w.heap.size + 1, 1, none⟩) (by show w.heap.size ≤ w.heap.size + 1; omega) _,
   ((heap_setCell_other _ ⟨w.heap.size + 1, 1, none⟩ w.heap.size _ (by show w.heap.size ≠ w.heap.size + 1; omega)).trans (heap_setCell_other W ⟨w.heap.size + 1, 0, none⟩ w.heap.size _ (by show w.heap.size ≠ w.heap.size + 1; omega))).trans h.res,
   heap_setCell_same _ _ 1 _ _ _ (heap_setCell_same W _ 0 _ _ _ h.span)⟩
theorem SX.start {w : World} : SX w ⟨0, 0⟩ ((w.alloc (.cells #[.int .i64 0, .int .i64 0] 41)).alloc (.cells #[.int .i64 0, .int .i64 0] 41)) := by
  have a1 := alloc_below w (.cells #[.int .i64 0, .int .i64 0] 41)
  have a2 := alloc_below (w.alloc (.cells #[.int .i64 0, .int .i64 0] 41)) (.cells #[.int .i64 0, .int .i64 0] 41)
  have z1 : (w.alloc (.cells #[.int .i64 0, .int .i64 0] 41)).heap.size = w.heap.size + 1 := by simp
  refine ⟨a1.trans (a2.mono a1.size), alloc_kept a2, ?_⟩
  have := heap_alloc_new (w.alloc (.cells #[.int .i64 0, .int .i64 0] 41)) (.cells #[.int .i64 0, .int .i64 0] 41)
  rwa [z1] at this
set_option maxRecDepth 100000 in
set_option maxHeartbeats 2000000 in
theorem r8Sum_any (la : Option Addr) (n lc : Nat) (l : List (List Int)) (ca : Option Addr) (k cc : Nat) (cs : Nat → Int) (w : World) (hL : Flds w.heap.size w la n l) (hl2 : l.length ≤ 1000000) (hn : n ≤ 40) (hC : Ints w.heap.size w ca k cs) (hs : setB n k cs = true) (hd : ∀ i, i < l.length → ∀ c, c < n → 0 ≤ fOf (l.getD i []) c ∧ fOf (l.getD i []) c ≤ 1000) :
    Calls Tryd.prog 35 #[.slice la l.length lc, .slice ca k cc] w fun e w' => e = .returned (.agg #[.int .i64 (bnd (fun f => sumL cs k (fOf f)) l).lo, .int .i64 (bnd (fun f => sumL cs k (fOf f)) l).hi]) ∧ Below w.heap.size w w' := by
  have hk0 := setB_len hs
  have hk : k ≤ 40 := by omega
  have HL := Lib.hid hL
  have HC := Lib.hid hC
  have HD := Lib.hid hd
  have HSA := Lib.hid (fun q (hq : q < k) => setB_at hs hq)
  have HSU := Lib.hid (fun i (hi : i < l.length) => sumL_bound hs (hd i hi))
  have HTK := Lib.hid (fun i (hi : i < l.length) => show widS (!(decide (i = 0))) (bnd (fun f => sumL cs k (fOf f)) (l.take i)) (sumN (fun q => fOf (l.getD i []) (cs q).toNat) k) = bnd (fun f => sumL cs k (fOf f)) (l.take (i + 1)) from by
    have := bnd_take (fun f => sumL cs k (fOf f)) hi
    rw [take_empty hi] at this
    exact this)
  have HT0 := Lib.hid (show bnd (fun f => sumL cs k (fOf f)) (l.take 0) = ⟨0, 0⟩ from rfl)
  have HTE := Lib.hid (show bnd (fun f => sumL cs k (fOf f)) (l.take l.length) = bnd (fun f => sumL cs k (fOf f)) l from by rw [List.take_length])
  generalize bnd (fun f => sumL cs k (fOf f)) l = S at *
  obtain ⟨ST, hST⟩ : ∃ ST : Nat → SV, ∀ i, bnd (fun f => sumL cs k (fOf f)) (l.take i) = ST i := ⟨_, fun _ => rfl⟩
  simp only [hST] at HTK HT0 HTE
  obtain ⟨N, hN⟩ : ∃ N, l.length = N := ⟨_, rfl⟩
  have HNN := Lib.hid hN
  rw [hN] at HTE HTK hl2 HSU HD ⊢
  clear hL hC hs hd hST hN
  go_enter Tryd.func35, Tryd.ntmps35
  go_upto_region 2 with (fail)
  have HX := Lib.hid (show SX w ⟨0, 0⟩ ((w.alloc (.cells #[.int .i64 0, .int .i64 0] 41)).alloc (.cells #[.int .i64 0, .int .i64 0] 41)) from SX.start)
  generalize World.alloc (World.alloc w _) _ = V at *
  go_wp2
  go_loopw [6] (fun t wr => ∃ i : Nat, i ≤ N ∧ t = .int .i64 (i : Int) ∧ Hid (SX w (ST i) wr)) (fun t _ => N - (intOf t).toNat)
  case atStart => exact ⟨0, Nat.zero_le _, rfl, Lib.hid (by rw [HT0.out]; exact HX.out)⟩
  case round =>
    clear HX
    obtain ⟨i, hi, rfl, HX⟩ := hrel
    by_cases hlt : i < N
    · have hlt' : (i : Int) < (N : Int) := by omega
      obtain ⟨b, o, ra, rc, e1, hb, c0, hI⟩ := HL.out.get (i := i) (by rw [HNN.out]; exact hlt)
      subst e1
      have hfb : ((i : Int) == 0) = decide (i = 0) := by
        by_cases e : i = 0
        · subst e; rfl
        · rw [decide_eq_false e, beq_eq_false_iff_ne]; omega
      have HI := Lib.hid hI
      have HDI := Lib.hid (HD.out i hlt)
      have HSI := Lib.hid (HSU.out i hlt)
      have HTI := Lib.hid (HTK.out i hlt)
      have HN := Lib.hid (fun q => show sumN (fun q => fOf (l.getD i []) (cs q).toNat) (q + 1) = sumN (fun q => fOf (l.getD i []) (cs q).toNat) q + fOf (l.getD i []) (cs q).toNat from rfl)
      have H0 := Lib.hid (show sumN (fun q => fOf (l.getD i []) (cs q).toNat) 0 = 0 from rfl)
      clear hI
      generalize fOf (l.getD i []) = F at *
      generalize sumN (fun q => F (cs q).toNat) = SM at *
      have hbz : b < wr.heap.size := by have := HX.out.below.size; omega
      have HCE := Lib.hid c0
      generalize decide (i = 0) = fb at *
      have HFB := Lib.hid hfb
      clear c0 hfb
      go_wp2
      go_loopw [7, 8] (fun s t wx => ∃ q : Nat, q ≤ k ∧ t = .int .i64 (q : Int) ∧ s = .int .i64 (SM q) ∧ Hid (SX w (ST i) wx)) (fun _ t _ => k - (intOf t).toNat)
      case atStart => exact ⟨0, Nat.zero_le _, rfl, by rw [H0.out], HX⟩
      case round =>
        clear HX
        obtain ⟨q, hq, rfl, rfl, HX⟩ := hrel
        rename World => wx
        by_cases hlt2 : q < k
        · have hlt2' : (q : Int) < (k : Int) := by omega
          have c1 := ((bcell HX.out.below).1 b (o + i) hb).trans HCE.out
          obtain ⟨cb, co, rfl, hcb, c2⟩ := (HC.out.below HX.out.below).get hlt2
          obtain ⟨g1, g2⟩ := HSA.out q hlt2
          have g3 : (cs q).toNat < n := by omega
          obtain ⟨fb', fo, rfl, hfb', c3⟩ := (HI.out.below HX.out.below).get g3
          obtain ⟨r3, r4⟩ := HDI.out _ g3
          obtain ⟨r5, r6⟩ := HSI.out q hq
          have HNQ := Lib.hid (HN.out q)
          have k1 : b < wx.heap.size := by have := HX.out.below.size; omega
          have k2 : cb < wx.heap.size := by have := HX.out.below.size; omega
          have k3 : fb' < wx.heap.size := by have := HX.out.below.size; omega
          generalize F (cs q).toNat = FX at *
          generalize cs q = C at *
          have r7 : SM q ≤ 40000 := by omega
          generalize hSq : SM q = SQ at *
          have HSS := Lib.hid hSq
          clear hSq r6
          go_upto_region 9 with (fail)
          (refine wp_region_calm (wx.heap.size) (by kernel_rfl) (by kernel_rfl) ?_; (repeat (first | go_big_quiet_step (fail) | quiet_step (fail))); refine wpQuiet_nil ?_; intro _ hw'; obtain ⟨xq, hw''⟩ := hw'; subst hw'')
          go_wp2
          go_roundw
          case rel => exact ⟨q + 1, by omega, by go_num, by rw [HNQ.out], Lib.hid (HX.out.step (Calm.below _))⟩
          case measure => simp [intOf]; omega
        · obtain rfl : q = k := by omega
          have hlt2' : ¬ (q : Int) < (q : Int) := by omega
          have hz1 := (Array.getElem?_eq_some_iff.1 HX.out.span).1
          have s0 := (cell_of_row _ _ 0 _ _ _ HX.out.span).trans (show _ = some (Value.int .i64 (ST i).lo) from rfl)
          have s1 := (cell_of_row _ _ 1 _ _ _ HX.out.span).trans (show _ = some (Value.int .i64 (ST i).hi) from rfl)
          have HTW := Lib.hid (show widS (!fb) ⟨(ST i).lo, (ST i).hi⟩ (SM q) = ST (i + 1) from HTI.out)
          have hfb := HFB.out
          go_upto_region 10 with (fail)
          have HWX := Lib.hid (fun (W : World) (hb : Below wx.heap.size wx W) => (r8wideS_any (ST i).lo (ST i).hi (SM q) fb W))
          rw [HTW.out] at HWX
          go_wp2_with (go_at_call 63; refine (HWX.out _ (Below.refl _ _)).mono ?_; rintro e w9 ⟨rfl, hb9⟩; have HX9 := Lib.hid (HX.out.step hb9); have HXT := Lib.hid (HX9.out.set (ST (i + 1)).lo (ST (i + 1)).hi); have t0 := (cell_of_row _ _ 0 _ _ _ HX9.out.span).trans (show _ = some (Value.int .i64 (ST i).lo) from rfl); have t1 := (cell_of_row _ _ 1 _ _ _ HX9.out.span).trans (show _ = some (Value.int .i64 (ST i).hi) from rfl); have t2 := frozen_of_row _ _ 0 _ _ HX9.out.span; have t3 := frozen_of_row _ _ 1 _ _ HX9.out.span; clear s0 s1)
          go_roundw
          case rel => exact ⟨i + 1, by omega, by go_num, HXT⟩
          case measure => simp [intOf]; omega
    · obtain rfl : i = N := by omega
      have hlt' : ¬ (i : Int) < (i : Int) := by omega
      rw [HTE.out] at HX
      have s0 := (cell_of_row _ _ 0 _ _ _ HX.out.span).trans (show _ = some (Value.int .i64 S.lo) from rfl)
      have s1 := (cell_of_row _ _ 1 _ _ _ HX.out.span).trans (show _ = some (Value.int .i64 S.hi) from rfl)
      have t0 := (cell_of_row _ _ 0 _ _ _ HX.out.res).trans (show _ = some (Value.int .i64 0) from rfl)
      have t1 := (cell_of_row _ _ 1 _ _ _ HX.out.res).trans (show _ = some (Value.int .i64 0) from rfl)
      have t2 := frozen_of_row _ _ 0 _ _ HX.out.res
      have t3 := frozen_of_row _ _ 1 _ _ HX.out.res
      have HRW := Lib.hid (show ((wr.setCell ⟨w.heap.size, 0, none⟩ (.int .i64 S.lo)).setCell ⟨w.heap.size, 1, none⟩ (.int .i64 S.hi)).heap[w.heap.size]? = some (.cells #[.int .i64 S.lo, .int .i64 S.hi] 41) from heap_setCell_same _ _ 1 _ _ _ (heap_setCell_same wr _ 0 _ _ _ HX.out.res))
      have HBE := Lib.hid ((HX.out.below.setCell (p := ⟨w.heap.size, 0, none⟩) (Nat.le_refl _) (.int .i64 S.lo)).setCell (p := ⟨w.heap.size, 1, none⟩) (Nat.le_refl _) (.int .i64 S.hi))
      clear HX
      go_wp2
      generalize World.setCell (World.setCell wr _ _) _ _ = W2 at *
      have d0 := (cell_of_row _ _ 0 _ _ _ HRW.out).trans (show _ = some (Value.int .i64 S.lo) from rfl)
      have d1 := (cell_of_row _ _ 1 _ _ _ HRW.out).trans (show _ = some (Value.int .i64 S.hi) from rfl)
      exact bodyPost_ret (v := .agg #[.int .i64 S.lo, .int .i64 S.hi]) (by simp [results, Tryd.results35, go_sem, d0, d1]) rfl ⟨rfl, HBE.out⟩
end Go.Proofs.YtollfpnfnciekaaDoor
