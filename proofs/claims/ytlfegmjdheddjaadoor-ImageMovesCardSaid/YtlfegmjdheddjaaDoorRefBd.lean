/- The walks of the references' wide, Bounds. -/
import Derived.Test.YtlfegmjdheddjaaDoorRef8
import Derived.Test.YtlfegmjdheddjaaDoorImApart
import Derived.Test.YtlfegmjdheddjaaDoorGmA
namespace Go.Proofs.YtlfegmjdheddjaaDoor
open Go.RowKit
set_option linter.unusedVariables false
set_option linter.unusedSimpArgs false
set_option maxRecDepth 100000 in
set_option maxHeartbeats 1000000 in
theorem r8wide_any (lo hi x : Int) (first : Bool) (w : World) :
    Calls Tryd.prog 76 #[.agg #[.int .i64 lo, .int .i64 hi], .int .i64 x, .bool first] w fun e w' => e = .returned (.agg #[.int .i64 (widS (!first) ⟨lo, hi⟩ x).lo, .int .i64 (widS (!first) ⟨lo, hi⟩ x).hi]) ∧ Below w.heap.size w w' := by
  cases first
  · have e : widS (!false) ⟨lo, hi⟩ x = ⟨if x < lo then x else lo, if hi < x then x else hi⟩ := rfl
    rw [e]
    go_enter Tryd.func76, Tryd.ntmps76
    go_wp2
    all_goals first | (refine bodyPost_ret (v := .agg #[.int .i64 x, .int .i64 x]) (by simp [results, Tryd.results76, go_sem]) rfl ⟨rfl, ?_⟩; exact ((Below.refl _ _).alloc (Nat.le_refl _) _).alloc (by simp) _) | (refine bodyPost_ret (v := .agg #[.int .i64 x, .int .i64 hi]) (by simp [results, Tryd.results76, go_sem]) rfl ⟨rfl, ?_⟩; exact ((Below.refl _ _).alloc (Nat.le_refl _) _).alloc (by simp) _) | (refine bodyPost_ret (v := .agg #[.int .i64 lo, .int .i64 x]) (by simp [results, Tryd.results76, go_sem]) rfl ⟨rfl, ?_⟩; exact ((Below.refl _ _).alloc (Nat.le_refl _) _).alloc (by simp) _) | (refine bodyPost_ret (v := .agg #[.int .i64 lo, .int .i64 hi]) (by simp [results, Tryd.results76, go_sem]) rfl ⟨rfl, ?_⟩; exact ((Below.refl _ _).alloc (Nat.le_refl _) _).alloc (by simp) _)
  · have e : widS (!true) ⟨lo, hi⟩ x = ⟨x, x⟩ := rfl
    rw [e]
    go_enter Tryd.func76, Tryd.ntmps76
    go_wp2
    refine bodyPost_ret (v := .agg #[.int .i64 x, .int .i64 x]) (by simp [results, Tryd.results76, go_sem]) rfl ⟨rfl, ?_⟩
    exact ((Below.refl _ _).alloc (Nat.le_refl _) _).alloc (by simp) _
/-- the bounds, c cells of a field more being done -/
def bndS (l : List (List Int)) (i c : Nat) (j : Nat) : SV := if j < c then bnd (fun f => fOf f j) (l.take (i + 1)) else bnd (fun f => fOf f j) (l.take i)
set_option maxRecDepth 100000 in
set_option maxHeartbeats 2000000 in
theorem r8Bounds_any (la : Option Addr) (n lc : Nat) (l : List (List Int)) (w : World) (hL : Flds w.heap.size w la n l) (hl : l ≠ []) (hl2 : l.length ≤ 1000000) (hn : n ≤ 40) :
    Calls Tryd.prog 35 #[.slice la l.length lc] w fun e w' => (∃ ob, e = .returned (.slice (some ⟨ob, 0, none⟩) n n) ∧ SR 48 w' ob n (fun c => bnd (fun f => fOf f c) l)) ∧ Below w.heap.size w w' := by
  have hpos : 0 < l.length := List.length_pos_iff.2 hl
  have HL := Lib.hid hL
  have hmk := make_spans n (by omega)
  have HTK := Lib.hid (fun (i : Nat) (hi : i < l.length) (c : Nat) => show widS (!(decide (i = 0))) (bnd (fun f => fOf f c) (l.take i)) (fOf (l.getD i []) c) = bnd (fun f => fOf f c) (l.take (i + 1)) from by
    rw [List.take_add_one, List.getElem?_eq_getElem hi, List.getD_eq_getElem?_getD, List.getElem?_eq_getElem hi, show (!(decide (i = 0))) = !(l.take i).isEmpty from by
      cases i with
      | zero => simp
      | succ q =>
        cases l with
        | nil => simp at hi
        | cons x t => simp]
    exact wid_bnd (fun f => fOf f c) _ _)
  obtain ⟨b0, o0, a0, k0, rfl, hb0, x0, y0⟩ := hL.get (i := 0) hpos
  rw [Nat.add_zero] at x0
  obtain ⟨ll, hll⟩ : ∃ ll, l.length = ll := ⟨_, rfl⟩
  have HLL := Lib.hid hll
  rw [hll] at hpos hl2 ⊢
  have h0l : (0 : Int) < (ll : Int) := by omega
  clear hL y0 hll
  go_enter Tryd.func35, Tryd.ntmps35
  go_upto_region 2 with (fail)
  have HB := Lib.hid (alloc_below w (.cells (madeCells #[.int .i64 0, .int .i64 0] (n * 2)) 48))
  have HSR := Lib.hid ((SR.made w 48 n).congr (g := bndS l 0 0) (fun j _ => rfl))
  have hzz : (w.alloc (.cells (madeCells #[.int .i64 0, .int .i64 0] (n * 2)) 48)).heap.size = w.heap.size + 1 := by simp
  have HZZ := Lib.hid hzz
  clear x0 hmk hzz
  generalize World.alloc w _ = V at *
  go_wp2
  go_loopw [4] (fun s4 wr => ∃ i : Nat, i ≤ ll ∧ s4 = .int .i64 (i : Int) ∧ Hid (Below w.heap.size w wr ∧ SR 48 wr w.heap.size n (bndS l i 0))) (fun s4 _ => ll - (intOf s4).toNat)
  case atStart => exact ⟨0, Nat.zero_le _, rfl, Lib.hid ⟨HB.out, HSR.out⟩⟩
  case round =>
    clear HB HSR
    obtain ⟨i, hi, rfl, HX⟩ := hrel
    by_cases hlt : i < ll
    · have hlt' : (i : Int) < (ll : Int) := by omega
      obtain ⟨b1, o1, a1, k1, e1, hb1, x1, y1⟩ := HL.out.get (i := i) (by rw [HLL.out]; exact hlt)
      injection e1 with e1
      injection e1 with e1 e2 _
      subst e1 e2
      have hfb : ((i : Int) == 0) = decide (i = 0) := by
        by_cases e : i = 0
        · subst e; rfl
        · rw [decide_eq_false e, beq_eq_false_iff_ne]; omega
      have HTKI := Lib.hid (fun c => HTK.out i (by rw [HLL.out]; exact hlt) c)
      generalize decide (i = 0) = fb at *
      have HX1 := Lib.hid x1
      have HY1 := Lib.hid y1
      have HFB := Lib.hid hfb
      clear x1 y1 hfb
      go_wp2
      go_loopw [5] (fun s5 wx => ∃ c : Nat, c ≤ n ∧ s5 = .int .i64 (c : Int) ∧ Hid (Below w.heap.size w wx ∧ SR 48 wx w.heap.size n (bndS l i c))) (fun s5 _ => n - (intOf s5).toNat)
      case atStart => exact ⟨0, Nat.zero_le _, rfl, HX⟩
      case round =>
        clear HX
        obtain ⟨c, hc, rfl, HX⟩ := hrel
        by_cases hlt2 : c < n
        · have hlt2' : (c : Int) < (n : Int) := by omega
          obtain ⟨b2, o2, rfl, hb2, z2⟩ := HY1.out.get hlt2
          have hwz := HX.out.1.size
          have hsz := HX.out.2.lt
          have x2 := ((bcell HX.out.1).1 _ _ hb1).trans HX1.out
          have z3 := ((bcell HX.out.1).1 _ _ hb2).trans z2
          have hb3 : b0 < wr.heap.size := by omega
          have hb4 : b2 < wr.heap.size := by omega
          obtain ⟨r0, r1⟩ := HX.out.2.cell hlt2
          have hfb := HFB.out
          clear z2
          have HW := Lib.hid (HTKI.out c)
          have hbc : bndS l i c c = bnd (fun f => fOf f c) (l.take i) := by unfold bndS; rw [if_neg (by omega)]
          rw [hbc] at r0 r1
          clear hbc
          generalize hg : bnd (fun f => fOf f c) (l.take i) = g at *
          generalize hxv : fOf (l.getD i []) c = xv at *
          clear hg hxv
          go_upto_region 8 with (fail)
          (refine wp_region_calm_tail (wr.heap.size) 16 (by kernel_rfl) (by kernel_rfl) ?_; simp only [List.take_succ_cons, List.take_zero, List.drop_succ_cons, List.drop_zero]; (repeat (first | go_big_quiet_step ((go_at_call 76; exact Calls.calm_of (Nat.le_refl _) (r8wide_any _ _ _ _ _))) | quiet_step ((go_at_call 76; exact Calls.calm_of (Nat.le_refl _) (r8wide_any _ _ _ _ _))))); refine wpQuiet_nil ?_; intro _ hw'; obtain ⟨xq, hw''⟩ := hw'; subst hw'')
          rw [show widS (!fb) ⟨g.lo, g.hi⟩ xv = bnd (fun f => fOf f c) (l.take (i + 1)) from HW.out]
          have HS2 := Lib.hid (HX.out.2.step (Calm.below xq))
          have HB2 := Lib.hid (HX.out.1.trans ((Calm.below xq).mono (by omega)))
          obtain ⟨e0, e1⟩ := HS2.out.cell hlt2
          have g0 := HS2.out.frozen (c * 2)
          have g1 := HS2.out.frozen (c * 2 + 1)
          have HS3 := Lib.hid ((HS2.out.set hlt2 (bnd (fun f => fOf f c) (l.take (i + 1))).lo (bnd (fun f => fOf f c) (l.take (i + 1))).hi).congr (g := bndS l i (c + 1)) (fun j _ => by
            unfold bndS
            by_cases e : j = c
            · subst e; rw [if_pos rfl, if_pos (by omega)]
            · rw [if_neg e]
              by_cases e2 : j < c
              · rw [if_pos e2, if_pos (by omega)]
              · rw [if_neg e2, if_neg (by omega)]))
          have HB3 := Lib.hid ((HB2.out.setCell (p := ⟨w.heap.size, c * 2, none⟩) (Nat.le_refl _) (.int .i64 (bnd (fun f => fOf f c) (l.take (i + 1))).lo)).setCell (p := ⟨w.heap.size, c * 2 + 1, none⟩) (Nat.le_refl _) (.int .i64 (bnd (fun f => fOf f c) (l.take (i + 1))).hi))
          generalize bnd (fun f => fOf f c) (l.take (i + 1)) = q at *
          clear r0 r1 x2 z3 HW HS2 HB2 hfb
          generalize Calm.val xq = V4 at *
          go_wp2
          exact ⟨⟨c + 1, by omega, by go_num, Lib.hid ⟨HB3.out, HS3.out⟩⟩, by simp [intOf]; omega⟩
        · obtain rfl : c = n := by omega
          have hlt2' : ¬ (c : Int) < (c : Int) := by omega
          have HXE := Lib.hid (And.intro HX.out.1 (HX.out.2.congr (g := bndS l (i + 1) 0) (fun j hj => by unfold bndS; rw [if_pos hj, if_neg (by omega)])))
          go_wp2
          exact ⟨⟨i + 1, by omega, by go_num, HXE⟩, by simp [intOf]; omega⟩
    · obtain rfl : i = ll := by omega
      have hlt' : ¬ (i : Int) < (i : Int) := by omega
      have HXE := Lib.hid (HX.out.2.congr (g := fun c => bnd (fun f => fOf f c) l) (fun j hj => by unfold bndS; rw [if_neg (by omega), List.take_of_length_le (by rw [HLL.out]; exact Nat.le_refl _)]))
      go_wp2
      go_ret
      exact ⟨⟨_, rfl, HXE.out⟩, HX.out.1⟩
end Go.Proofs.YtlfegmjdheddjaaDoor
