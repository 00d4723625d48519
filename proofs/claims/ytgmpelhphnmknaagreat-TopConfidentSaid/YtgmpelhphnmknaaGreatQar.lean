/- Texts put together: RfC, RfD. -/
import Derived.Test.YtgmpelhphnmknaaGreatQaq
set_option maxRecDepth 100000
set_option maxHeartbeats 8000000
set_option linter.unusedVariables false
set_option linter.unusedSimpArgs false
namespace Go.Proofs.YtgmpelhphnmknaaGreat
open Go.RowKit Go.Shelf
theorem info_piece : (Tryz.prog.info? 168).map (fun i => (i.zero, i.size, i.bytes)) = some (some (.agg #[.int .i64 0, .int .i64 0, .int .i64 0]), 3, 24) := by kernel_rfl
def PcRes (P : List PT) (w : World) (e : Ending) (w' : World) : Prop := ∃ a c, e = .returned (.slice a P.length c) ∧ w'.ownsRow w.heap.size 168 3 (.slice a P.length c) P.length (ptC P) ∧ Below w.heap.size w w'
theorem one_int (x : Int) (W : World) (B : Nat) (hB : B ≤ W.heap.size) : (W.alloc (.cells #[.int .i64 x] 3)).ownsRow B 3 1 (.slice (some ⟨W.heap.size, 0, none⟩) 1 1) 1 (lC [x]) :=
 ⟨rfl, .inr ⟨W.heap.size, 1, #[.int .i64 x], rfl, hB, heap_alloc_new W _, Nat.le_refl _, by decide, rfl, rfl⟩⟩
theorem r6Pieces_any (v : VO) (r : RY) (hv : v.Ok) (hr : r.Ok) (m : Nat) (hM : IsM v r m) (w : World) : Calls Tryz.prog 115 #[v.val, r.val] w (PcRes (pcN v r (m + 1)) w) := by
 have hT := tkF_bound hr
 have hlen3 := crR_len hv hr 3
 have hml : m + 1 ≤ 40 := by have h1 := crR_eq hM; have h2 := acL_len v r m; rw [h1] at hlen3; omega
 have HTK := Hd (fun (W : World) => r6Ticks_any r W hr)
 have hcr : ∀ (i : Nat) (_ : i < 3) (W : World) (a : Option Addr) (c : Nat) (hB : w.heap.size ≤ W.heap.size) (ho : W.ownsRow w.heap.size 3 1 (.slice a (crR v r i).length c) (crR v r i).length (lC (crR v r i))), Calls Tryz.prog 166 #[.slice a (crR v r i).length c, .int .i64 (tkF r : Int), .int .i64 (axF v r i).b, .int .i64 (axF v r i).t, .int .i64 (axF v r i).c, .int .i64 v.size] W (PutRes w.heap.size (crR v r (i + 1)) W) := fun i hi W a c hB ho => by
  have hx := ax_bound hv hr i
  have := crR_len hv hr i
  exact r6cross_any w.heap.size (crR v r i) (tkF r) (axF v r i).b (axF v r i).t (axF v r i).c v.size a c W hB (crR_pos v r i) (by omega) ho (by omega) hx.1 hx.2.1 hx.2.2 hv.size
 have HC0 := Hd (fun (W : World) (a : Option Addr) (c : Nat) (hB : w.heap.size ≤ W.heap.size) (ho : W.ownsRow w.heap.size 3 1 (.slice a 1 c) 1 (lC [0])) => show Calls Tryz.prog 166 #[.slice a 1 c, .int .i64 (tkF r : Int), .int .i64 r.x, .int .i64 r.dx, .int .i64 v.nx, .int .i64 v.size] W (PutRes w.heap.size (crR v r 1) W) from hcr 0 (by omega) W a c hB ho)
 have HC1 := Hd (fun (W : World) (a : Option Addr) (c : Nat) (hB : w.heap.size ≤ W.heap.size) (ho : W.ownsRow w.heap.size 3 1 (.slice a (crR v r 1).length c) (crR v r 1).length (lC (crR v r 1))) => show Calls Tryz.prog 166 #[.slice a (crR v r 1).length c, .int .i64 (tkF r : Int), .int .i64 r.y, .int .i64 r.dy, .int .i64 v.ny, .int .i64 v.size] W (PutRes w.heap.size (crR v r 2) W) from hcr 1 (by omega) W a c hB ho)
 have HC2 := Hd (fun (W : World) (a : Option Addr) (c : Nat) (hB : w.heap.size ≤ W.heap.size) (ho : W.ownsRow w.heap.size 3 1 (.slice a (crR v r 2).length c) (crR v r 2).length (lC (crR v r 2))) => show Calls Tryz.prog 166 #[.slice a (crR v r 2).length c, .int .i64 (tkF r : Int), .int .i64 r.z, .int .i64 r.dz, .int .i64 v.nz, .int .i64 v.size] W (PutRes w.heap.size (crR v r 3) W) from hcr 2 (by omega) W a c hB ho)
 have hcel : ∀ (i : Nat) (p q : Int) (W : World) (hp : 0 ≤ p ∧ p ≤ 43200000000) (hq : 0 ≤ q ∧ q ≤ 43200000000), Calls Tryz.prog 167 #[.int .i64 (tkF r : Int), .int .i64 (axF v r i).b, .int .i64 (axF v r i).t, .int .i64 (axF v r i).c, .int .i64 v.size, .int .i64 p, .int .i64 q] W (fun e w' => e = .returned (.int .i64 (cAx (tkF r) v.size (axF v r i) p q)) ∧ W = w') := fun i p q W hp hq => by
  have hx := ax_bound hv hr i
  rw [← cXR_eq (T := (tkF r : Int)) (S := v.size) (a := axF v r i) (by omega) hv.size.1]
  exact r6cell_any (tkF r) (axF v r i).b (axF v r i).t (axF v r i).c v.size p q W (by omega) hx.1 hx.2.1 hx.2.2 hv.size hp hq
 have hcb : ∀ (i : Nat) (p q : Int), -1 ≤ cAx (tkF r) v.size (axF v r i) p q ∧ cAx (tkF r) v.size (axF v r i) p q < (axF v r i).c := fun i p q => cAx_bound (T := (tkF r : Int)) (S := v.size) (a := axF v r i) (p := p) (q := q) (by omega) hv.size.1 (ax_bound hv hr i).2.2.1
 have HX := Hd (fun (p q : Int) (hp : 0 ≤ p ∧ p ≤ 43200000000) (hq : 0 ≤ q ∧ q ≤ 43200000000) (W : World) => show Calls Tryz.prog 167 #[.int .i64 (tkF r : Int), .int .i64 r.x, .int .i64 r.dx, .int .i64 v.nx, .int .i64 v.size, .int .i64 p, .int .i64 q] W (fun e w' => e = .returned (.int .i64 (cAx (tkF r) v.size (axF v r 0) p q)) ∧ W = w') from hcel 0 p q W hp hq)
 have HY := Hd (fun (p q : Int) (hp : 0 ≤ p ∧ p ≤ 43200000000) (hq : 0 ≤ q ∧ q ≤ 43200000000) (W : World) => show Calls Tryz.prog 167 #[.int .i64 (tkF r : Int), .int .i64 r.y, .int .i64 r.dy, .int .i64 v.ny, .int .i64 v.size, .int .i64 p, .int .i64 q] W (fun e w' => e = .returned (.int .i64 (cAx (tkF r) v.size (axF v r 1) p q)) ∧ W = w') from hcel 1 p q W hp hq)
 have HZ := Hd (fun (p q : Int) (hp : 0 ≤ p ∧ p ≤ 43200000000) (hq : 0 ≤ q ∧ q ≤ 43200000000) (W : World) => show Calls Tryz.prog 167 #[.int .i64 (tkF r : Int), .int .i64 r.z, .int .i64 r.dz, .int .i64 v.nz, .int .i64 v.size, .int .i64 p, .int .i64 q] W (fun e w' => e = .returned (.int .i64 (cAx (tkF r) v.size (axF v r 2) p q)) ∧ W = w') from hcel 2 p q W hp hq)
 have HXB := Hd (fun (p q : Int) => show -1 ≤ cAx (tkF r) v.size (axF v r 0) p q ∧ cAx (tkF r) v.size (axF v r 0) p q < v.nx from hcb 0 p q)
 have HYB := Hd (fun (p q : Int) => show -1 ≤ cAx (tkF r) v.size (axF v r 1) p q ∧ cAx (tkF r) v.size (axF v r 1) p q < v.ny from hcb 1 p q)
 have HZB := Hd (fun (p q : Int) => show -1 ≤ cAx (tkF r) v.size (axF v r 2) p q ∧ cAx (tkF r) v.size (axF v r 2) p q < v.nz from hcb 2 p q)
 have HCF := Hd (fun (p q : Int) => show cellF v r p q = if cAx (tkF r) v.size (axF v r 0) p q < 0 ∨ cAx (tkF r) v.size (axF v r 1) p q < 0 ∨ cAx (tkF r) v.size (axF v r 2) p q < 0 then -1 else (cAx (tkF r) v.size (axF v r 2) p q * v.ny + cAx (tkF r) v.size (axF v r 1) p q) * v.nx + cAx (tkF r) v.size (axF v r 0) p q from rfl)
 have HAT := Hd (fun (j : Nat) (hj : j ≤ m) => And.intro (hM.1 j hj) (atF_low hv hr j).2)
 have HL3 := Hd (show (crR v r 3).length = m + 1 from by rw [crR_eq hM]; exact acL_len v r m)
 have HLG := Hd (fun (j : Nat) (hj : j ≤ m) => show (crR v r 3).getD j 0 = atF v r j from by rw [crR_eq hM]; exact acL_get hj)
 have HPN := Hd (fun (j : Nat) => show pcN v r (j + 2) = pcN v r (j + 1) ++ (if cellF v r (atF v r j) (atF v r (j + 1)) < 0 then [] else [⟨cellF v r (atF v r j) (atF v r (j + 1)), atF v r j, atF v r (j + 1)⟩]) from rfl)
 have HPL := Hd (fun k => pcN_len v r k)
 have HP0 := Hd (show [] = pcN v r 1 from rfl)
 have HRES := Hd (fun (a : Option Addr) (c : Nat) (P : List PT) (W' : World) (h0 : P = pcN v r (m + 1)) (h1 : W'.ownsRow w.heap.size 168 3 (.slice a P.length c) P.length (ptC P)) (h2 : Below w.heap.size w W') => show PcRes (pcN v r (m + 1)) w (.returned (.slice a P.length c)) W' from by rw [← h0]; exact ⟨a, c, rfl, h1, h2⟩)
 have HVB := Lib.hid hv
 generalize PcRes (pcN v r (m + 1)) w = RES at *
 generalize pcN v r = pn at *
 generalize cellF v r = cf at *
 generalize atF v r = atf at *
 clear hcr hcel hcb
 generalize crR v r 3 = L3 at *
 generalize crR v r 2 = L2 at *
 generalize crR v r 1 = L1 at *
 generalize cAx (tkF r) v.size (axF v r 0) = fx at *
 generalize cAx (tkF r) v.size (axF v r 1) = fy at *
 generalize cAx (tkF r) v.size (axF v r 2) = fz at *
 generalize tkF r = T at *
 obtain ⟨M, hMm⟩ : ∃ M, m + 1 = M := ⟨_, rfl⟩
 have HMM := Lib.hid hMm
 rw [hMm] at HL3 hml
 clear hMm hlen3 hM hv hr
 unfold RY.val at HTK
 unfold VO.val RY.val
 go_enter Tryz.func115, Tryz.ntmps115
 go_upto_region 1 with (fail)
 (obtain ⟨hVb, e1, e2⟩ := rk_two w (.cells #[.int .i64 v.nx, .int .i64 v.ny, .int .i64 v.nz, .int .i64 v.size] 23) (.cells #[.int .i64 r.x, .int .i64 r.y, .int .i64 r.z, .int .i64 r.dx, .int .i64 r.dy, .int .i64 r.dz] 33))
 have HB := Lib.hid hVb
 have HV := Lib.hid e1
 have HRY := Lib.hid e2
 clear hVb e1 e2
 generalize World.alloc (World.alloc w _) _ = V at *
 (try clear v0 v1 v2 v3 s0 s1 s2 s3 s4 s5); obtain ⟨v0, v1, v2, v3⟩ := cr4 HV.out; obtain ⟨s0, s1, s2, s3, s4, s5⟩ := cr6 HRY.out
 go_upto_region 2 with (go_at_call 116; refine (HTK.out _).mono ?_; rintro e w2 ⟨rfl, hb2⟩; (replace HB := Hd (HB.out.trans ((hb2).mono HB.out.size)); replace HV := Hd (blkS HV.out hb2); replace HRY := Hd (blkS HRY.out hb2); (try clear v0 v1 v2 v3 s0 s1 s2 s3 s4 s5); obtain ⟨v0, v1, v2, v3⟩ := cr4 HV.out; obtain ⟨s0, s1, s2, s3, s4, s5⟩ := cr6 HRY.out); clear hb2)
 rename World => w2
 go_upto_region 3 with (fail)
 have HO0 := Hd (one_int 0 w2 w.heap.size HB.out.size)
 have hb3 := rk_below w2 (.cells #[.int .i64 0] 3)
 (replace HB := Hd (HB.out.trans ((hb3).mono HB.out.size)); replace HV := Hd (blkS HV.out hb3); replace HRY := Hd (blkS HRY.out hb3); (try clear v0 v1 v2 v3 s0 s1 s2 s3 s4 s5); obtain ⟨v0, v1, v2, v3⟩ := cr4 HV.out; obtain ⟨s0, s1, s2, s3, s4, s5⟩ := cr6 HRY.out)
 clear hb3
 generalize World.alloc w2 _ = w3 at *
 go_upto_region 4 with (go_at_call 166; refine (HC0.out _ _ _ HB.out.size HO0.out).mono ?_; rintro e w4 ⟨a1, c1, rfl, ho1, hb2⟩; have HO1 := Lib.hid ho1; (replace HB := Hd (HB.out.trans ((hb2).mono HB.out.size)); replace HV := Hd (blkS HV.out hb2); replace HRY := Hd (blkS HRY.out hb2); (try clear v0 v1 v2 v3 s0 s1 s2 s3 s4 s5); obtain ⟨v0, v1, v2, v3⟩ := cr4 HV.out; obtain ⟨s0, s1, s2, s3, s4, s5⟩ := cr6 HRY.out); clear hb2 ho1)
 clear HO0 HC0
 go_upto_region 5 with (go_at_call 166; refine (HC1.out _ _ _ HB.out.size HO1.out).mono ?_; rintro e w5 ⟨a2, c2, rfl, ho1, hb2⟩; have HO2 := Lib.hid ho1; (replace HB := Hd (HB.out.trans ((hb2).mono HB.out.size)); replace HV := Hd (blkS HV.out hb2); replace HRY := Hd (blkS HRY.out hb2); (try clear v0 v1 v2 v3 s0 s1 s2 s3 s4 s5); obtain ⟨v0, v1, v2, v3⟩ := cr4 HV.out; obtain ⟨s0, s1, s2, s3, s4, s5⟩ := cr6 HRY.out); clear hb2 ho1)
 clear HO1 HC1
 go_upto_region 6 with (go_at_call 166; refine (HC2.out _ _ _ HB.out.size HO2.out).mono ?_; rintro e w6 ⟨a3, c3, rfl, ho1, hb2⟩; have HO3 := Lib.hid ho1; (replace HB := Hd (HB.out.trans ((hb2).mono HB.out.size)); replace HV := Hd (blkS HV.out hb2); replace HRY := Hd (blkS HRY.out hb2); (try clear v0 v1 v2 v3 s0 s1 s2 s3 s4 s5); obtain ⟨v0, v1, v2, v3⟩ := cr4 HV.out; obtain ⟨s0, s1, s2, s3, s4, s5⟩ := cr6 HRY.out); clear hb2 ho1)
 clear HO2 HC2
 rename World => w6
 obtain ⟨lb, rfl, hlz, _, _, _, hlc⟩ := own_pos HO3.out (by have := HL3.out; have := HMM.out; omega)
 rw [HL3.out] at hlc ⊢
 have HLC := Hd (fun (j : Nat) (hj : j < M) => show w6.cell? ⟨lb, j, none⟩ = some (.int .i64 (atf j)) from by rw [hlc j hj, HLG.out j (by have := HMM.out; omega)])
 clear hlc HO3 HLG HL3
 clear v0 v1 v2 v3 s0 s1 s2 s3 s4 s5
 obtain ⟨i0, hi0', hz0, hz1, hz2⟩ := info_parts info_piece
 go_wp2
 go_loopw [7, 8] (fun s7 s8 wr => ∃ (k : Nat) (a : Option Addr) (c : Nat) (P : List PT), (1 ≤ k ∧ k ≤ M) ∧ s8 = .int .i64 (k : Int) ∧ s7 = .slice a P.length c ∧ Hid (P = pn k ∧ wr.ownsRow w6.heap.size 168 3 (.slice a P.length c) P.length (ptC P) ∧ Below w6.heap.size w6 wr)) (fun _ s8 _ => M - (intOf s8).toNat)
 case atStart => exact ⟨1, none, 0, [], by have := HMM.out; omega, rfl, rfl, Lib.hid ⟨HP0.out, World.ownsRow_nil _ _ _ _, Below.refl _ _⟩⟩
 case round =>
  obtain ⟨k, a, c, P, ⟨hk1, hk2⟩, rfl, rfl, HH⟩ := hrel
  have HBr := Hd (HB.out.trans (HH.out.2.2.mono HB.out.size))
  by_cases hlt : k < M
  ·have hlt' : (k : Int) < (M : Int) := by omega
   obtain ⟨j, hjk⟩ : ∃ j, k = j + 1 := ⟨k - 1, by omega⟩
   have HJK := Lib.hid hjk
   have d0 := ((bcell HH.out.2.2).1 _ _ hlz).trans (HLC.out j (by omega))
   have d1 := ((bcell HH.out.2.2).1 _ _ hlz).trans (HLC.out k hlt)
   obtain ⟨hp1, hp2⟩ := HAT.out j (by have := HMM.out; omega)
   obtain ⟨hq1, hq2⟩ := HAT.out k (by have := HMM.out; omega)
   have HN := Hd (HPN.out j)
   have hpl := HPL.out k
   have HN2 := Hd (show pn (k + 1) = P ++ (if cf (atf j) (atf k) < 0 then [] else [⟨cf (atf j) (atf k), atf j, atf k⟩]) from by rw [HH.out.1, HJK.out, ← HN.out])
   rw [← HH.out.1] at hpl
   have HVr := Hd ((HH.out.2.2.block _ (blkL HV.out)).trans HV.out)
   have HRr := Hd ((HH.out.2.2.block _ (blkL HRY.out)).trans HRY.out)
   have hwr : IntKind.i64.wrap ((k : Int) - 1) = (j : Int) := by rw [show (k : Int) - 1 = (j : Int) by omega]; exact IntWalk.i64_in _ (by omega)
   have hjM : j < M := by omega
   have hlr : lb < wr.heap.size := Nat.lt_of_lt_of_le hlz HH.out.2.2.size
   clear HN hjk
   generalize atf j = p at *
   generalize atf k = q at *
   have HX1 := Hd (HX.out p q ⟨hp1, hp2⟩ ⟨hq1, hq2⟩)
   have HY1 := Hd (HY.out p q ⟨hp1, hp2⟩ ⟨hq1, hq2⟩)
   have HZ1 := Hd (HZ.out p q ⟨hp1, hp2⟩ ⟨hq1, hq2⟩)
   have hxb := HXB.out p q
   have hyb := HYB.out p q
   have hzb := HZB.out p q
   have HC1 := Hd (HCF.out p q)
   generalize fx p q = x at *
   generalize fy p q = y at *
   generalize fz p q = z at *
   generalize cf p q = cel at *
   go_upto_region 10 with (fail)
   (refine wp_region_calm (wr.heap.size) (by kernel_rfl) (by kernel_rfl) ?_; (repeat (first | go_big_quiet_step (fail) | quiet_step (fail))); refine wpQuiet_nil (wqn ?_); intro xq)
   have hb3 := Calm.below xq
   clear d0 d1
   have HHx := Hd (show wr.heap.size ≤ (Calm.val xq).heap.size from hb3.size)
   have HOx := Hd (own_below HH.out.2.1 hb3)
   have HBx := Hd (HH.out.2.2.trans (hb3.mono HH.out.2.2.size))
   have HVx := Hd (blkS HVr.out hb3)
   have HRx := Hd (blkS HRr.out hb3)
   clear hb3 HVr HRr HH
   generalize Calm.val xq = wx at *
   have hvl := (blkL HVx.out)
   have hrl := (blkL HRx.out)
   obtain ⟨v0, v1, v2, v3⟩ := cr4 HVx.out
   obtain ⟨s0, s1, s2, s3, s4, s5⟩ := cr6 HRx.out
   go_upto_region 11 with (fail)
   (refine wp_region_calm (wx.heap.size) (by kernel_rfl) (by kernel_rfl) ?_; (repeat (first | go_big_quiet_step ((go_at_call 167; first | with_reducible exact Calls.calm_same (HX1.out _) | with_reducible exact Calls.calm_same (HY1.out _) | with_reducible exact Calls.calm_same (HZ1.out _))) | quiet_step ((go_at_call 167; first | with_reducible exact Calls.calm_same (HX1.out _) | with_reducible exact Calls.calm_same (HY1.out _) | with_reducible exact Calls.calm_same (HZ1.out _))))); refine wpQuiet_nil (wqn ?_); intro xq)
   have hb4 := Calm.below xq
   clear v0 v1 v2 v3 s0 s1 s2 s3 s4 s5
   have HOy := Hd (own_below HOx.out hb4)
   have HBy := Hd (HBx.out.trans (hb4.mono HBx.out.size))
   have HVy := Hd (blkS HVx.out hb4)
   clear hb4 HOx HBx HVx HRx HX1 HY1 HZ1 HHx
   generalize Calm.val xq = wy at *
   obtain ⟨v0, v1⟩ := cr2 HVy.out
   have HSK := Hd (fun (h : x < 0 ∨ y < 0 ∨ z < 0) => show P = pn (k + 1) from by
    rw [HN2.out, HC1.out, if_pos h, if_pos (by decide), List.append_nil])
   have HAD := Hd (fun (h : ¬ (x < 0 ∨ y < 0 ∨ z < 0)) => show 0 ≤ cel ∧ cel = (z * v.ny + y) * v.nx + x ∧ P ++ [⟨cel, p, q⟩] = pn (k + 1) from by
    have hi := index_bound (x := x) (y := y) (z := z) (nx := v.nx) (ny := v.ny) (nz := v.nz) ⟨by omega, hxb.2⟩ ⟨by omega, hyb.2⟩ ⟨by omega, hzb.2⟩
    have hc := HC1.out
    rw [if_neg h] at hc
    refine ⟨by omega, hc, ?_⟩
    rw [HN2.out, if_neg (by omega)])
   clear HN2 HC1
   by_cases hx : 0 ≤ x
   rotate_left
   ·have HS2 := Hd (HSK.out (.inl (by omega)))
    go_wp2
    go_roundw
    case rel => exact ⟨k + 1, a, c, P, ⟨by omega, by omega⟩, by go_num, rfl, Lib.hid ⟨HS2.out, HOy.out, HBy.out⟩⟩
    case measure => simp [intOf]; omega
   by_cases hy : 0 ≤ y
   rotate_left
   ·have HS2 := Hd (HSK.out (.inr (.inl (by omega))))
    go_wp2
    go_roundw
    case rel => exact ⟨k + 1, a, c, P, ⟨by omega, by omega⟩, by go_num, rfl, Lib.hid ⟨HS2.out, HOy.out, HBy.out⟩⟩
    case measure => simp [intOf]; omega
   by_cases hz : 0 ≤ z
   rotate_left
   ·have HS2 := Hd (HSK.out (.inr (.inr (by omega))))
    go_wp2
    go_roundw
    case rel => exact ⟨k + 1, a, c, P, ⟨by omega, by omega⟩, by go_num, rfl, Lib.hid ⟨HS2.out, HOy.out, HBy.out⟩⟩
    case measure => simp [intOf]; omega
   obtain ⟨hc0, hc1, hc2⟩ := HAD.out (by omega)
   have hvx := HVB.out.x
   have hvy := HVB.out.y
   have hvz := HVB.out.z
   have hm1 := rk_mul_abs (x := z) (y := v.ny) (K := 12) (M := 12) (by decide) (by decide) (by omega) (by omega)
   have hm2 := rk_mul_abs (x := z * v.ny + y) (y := v.nx) (K := 156) (M := 12) (by decide) (by decide) (by omega) (by omega)
   have HC2 := Lib.hid hc2
   clear hc2 HSK HAD
   obtain ⟨n, hn⟩ : ∃ n, P.length = n := ⟨_, rfl⟩
   have HPN2 := Lib.hid hn
   rw [hn] at HOy hpl ⊢
   clear hn
   generalize hzn : z * v.ny = zn at *
   generalize hzx : (zn + y) * v.nx = zx at *
   have hcel : zx + x = cel := hc1.symm
   have hb63 : n + 1 ≤ maxLen := by unfold maxLen; omega
   have hb47 : (n + 1) * 24 ≤ 140737488355328 := by omega
   have hl6 := Lib.hid HBy.out.size
   clear hc1
   go_upto_region 13 with (fail)
   go_wp2_with (at_builtin; refine wpList_append_lies _ rfl _ _ 165 rfl w6.heap.size 168 i0 _ 3 24 Tryz.underlying165 hi0' hz0 hz1 hz2 rfl (by decide) (.slice a n c) n (ptC P) rfl (HOy.out.alloc _) ⟨wy.heap.size, 0, none⟩ 1 1 [.int .i64 cel, .int .i64 p, .int .i64 q] rfl rfl (World.news_of_block (heap_alloc_new wy (.cells #[.int .i64 cel, .int .i64 p, .int .i64 q] 168))) pt_one (by decide) hb63 hb47 (by have := hl6.out; simp; omega) _ rfl ?_; intro g1 p1 w9 hown9 hgrow9 hat9 hlt9; have HO9 := Lib.hid hown9; have HB9 := Hd (show Below w6.heap.size w6 w9 from (HBy.out.alloc hl6.out _).grown hgrow9 (by have := hl6.out; simp; omega) (fun b e => (HOy.out.lt b e).1)); clear hown9 hgrow9 hat9 hlt9)
   go_roundw
   case rel => exact ⟨k + 1, some ⟨g1, 0, none⟩, p1, P ++ [⟨cel, p, q⟩], ⟨by omega, by omega⟩, by go_num, by rw [List.length_append, HPN2.out]; rfl, Lib.hid ⟨HC2.out, by rw [List.length_append, HPN2.out, ptC_append, ptC_one]; exact HO9.out, HB9.out⟩⟩
   case measure => simp [intOf]; omega
  ·have hM1 : k = M := by omega
   have hlt' : ¬ (k : Int) < (M : Int) := by omega
   have HRR := Hd (HRES.out a c P wr (by rw [HH.out.1, hM1, HMM.out]) (own_base HH.out.2.1 HB.out.size) HBr.out)
   clear hM1
   go_wp2
   exact HRR.out
end Go.Proofs.YtgmpelhphnmknaaGreat
namespace Go.Proofs.YtgmpelhphnmknaaGreat
open Go.RowKit Go.Shelf
theorem r6Cut_any (p : PT) (pb po pc : Nat) (from_ until_ : Int) (w : World) (h0 : w.cell? ⟨pb, po, none⟩ = some (.int .i64 p.cell)) (h1 : w.cell? ⟨pb, po + 1, none⟩ = some (.int .i64 p.lo)) (h2 : w.cell? ⟨pb, po + 2, none⟩ = some (.int .i64 p.hi)) :
  Calls Tryz.prog 117 #[.slice (some ⟨pb, po, none⟩) 1 pc, .int .i64 from_, .int .i64 until_] w (PcRes (cutR p from_ until_) w) := by
 obtain ⟨c, lo, hi'⟩ := p
 dsimp only at h0 h1 h2
 have HQ := Hd (show cutR ⟨c, lo, hi'⟩ from_ until_ = if max lo from_ < min hi' until_ then [⟨c, max lo from_, min hi' until_⟩] else [] from rfl)
 have HRES := Hd (fun (a : Option Addr) (n cc : Nat) (W' : World) (h0 : n = (cutR ⟨c, lo, hi'⟩ from_ until_).length) (h1 : W'.ownsRow w.heap.size 168 3 (.slice a n cc) n (ptC (cutR ⟨c, lo, hi'⟩ from_ until_))) (h2 : Below w.heap.size w W') => show PcRes (cutR ⟨c, lo, hi'⟩ from_ until_) w (.returned (.slice a n cc)) W' from by subst h0; exact ⟨a, cc, rfl, h1, h2⟩)
 generalize PcRes (cutR ⟨c, lo, hi'⟩ from_ until_) w = RES at *
 generalize cutR ⟨c, lo, hi'⟩ from_ until_ = Q at *
 have HH := Hd (And.intro h0 (And.intro h1 h2))
 have hpz := World.block_lt_of_cell? w _ h0
 clear h0 h1 h2
 obtain ⟨i0, hi0', hz0, hz1, hz2⟩ := info_parts info_piece
 go_enter Tryz.func117, Tryz.ntmps117
 go_wp2
 go_loopw [7, 8] (fun s7 s8 wr => ∃ (i : Nat) (a : Option Addr) (n cc : Nat), i ≤ 1 ∧ s8 = .int .i64 (i : Int) ∧ s7 = .slice a n cc ∧ Hid (Below w.heap.size w wr ∧ (i = 0 → a = none ∧ n = 0 ∧ cc = 0) ∧ (i = 1 → n = Q.length ∧ wr.ownsRow w.heap.size 168 3 (.slice a n cc) n (ptC Q)))) (fun _ s8 _ => 1 - (intOf s8).toNat)
 case atStart => exact ⟨0, none, 0, 0, by omega, rfl, rfl, Lib.hid ⟨Below.refl _ _, fun _ => ⟨rfl, rfl, rfl⟩, fun h => by omega⟩⟩
 case round =>
  obtain ⟨i, a, n, cc, hi, rfl, rfl, HS⟩ := hrel
  by_cases hlt : i = 0
  ·subst hlt
   obtain ⟨rfl, rfl, rfl⟩ := HS.out.2.1 rfl
   have HB := Lib.hid HS.out.1
   have d0 := ((bcell HB.out).1 _ _ hpz).trans HH.out.1
   have d1 := ((bcell HB.out).1 _ _ hpz).trans HH.out.2.1
   have d2 := ((bcell HB.out).1 _ _ hpz).trans HH.out.2.2
   clear HS
   go_upto_region 5 with (fail)
   go_region
   (try rw [show (if lo < from_ then from_ else lo) = max lo from_ from by split <;> omega])
   (try rw [show (if until_ < hi' then until_ else hi') = min hi' until_ from by split <;> omega])
   generalize max lo from_ = A at *
   generalize min hi' until_ = Z at *
   have HBd := Hd (show Below w.heap.size w wr.drew from HB.out.drew)
   have e0 : wr.drew.cell? ⟨pb, po, none⟩ = some (.int .i64 c) := d0
   clear HB d0 d1 d2
   generalize World.drew wr = wd at *
   by_cases hlz : A < Z
   ·have HQ2 := Hd (show Q = [⟨c, A, Z⟩] from by rw [HQ.out, if_pos hlz])
    go_upto_region 7 with (fail)
    go_wp2_with (at_builtin; refine wpList_append_lies _ rfl _ _ 165 rfl w.heap.size 168 i0 _ 3 24 Tryz.underlying165 hi0' hz0 hz1 hz2 rfl (by decide) (.slice none 0 0) 0 [] rfl (World.ownsRow_nil _ _ _ _) ⟨wd.heap.size, 0, none⟩ 1 1 [.int .i64 c, .int .i64 A, .int .i64 Z] rfl rfl (World.news_of_block (heap_alloc_new wd (.cells #[.int .i64 c, .int .i64 A, .int .i64 Z] 168))) pt_one (by decide) (by decide) (by decide) (by have := HBd.out.size; simp; omega) _ rfl ?_; intro g1 p1 w9 hown9 hgrow9 hat9 hlt9; have HO9 := Lib.hid hown9; have HB9 := Hd (show Below w.heap.size w w9 from (HBd.out.alloc HBd.out.size _).grown hgrow9 (by have := HBd.out.size; simp; omega) (fun b e => by cases e)); clear hown9 hgrow9 hat9 hlt9)
    go_roundw
    case rel => exact ⟨1, some ⟨g1, 0, none⟩, 1, p1, by omega, by rfl, rfl, Lib.hid ⟨HB9.out, fun h => by omega, fun _ => ⟨by rw [HQ2.out]; rfl, by rw [HQ2.out, ptC_one]; exact HO9.out⟩⟩⟩
    case measure => simp [intOf]
   ·have HQ2 := Hd (show Q = [] from by rw [HQ.out, if_neg hlz])
    go_wp2
    go_roundw
    case rel => exact ⟨1, none, 0, 0, by omega, by rfl, rfl, Lib.hid ⟨HBd.out, fun h => by omega, fun _ => ⟨by rw [HQ2.out]; rfl, by rw [HQ2.out]; exact World.ownsRow_nil _ _ _ _⟩⟩⟩
    case measure => simp [intOf]
  ·obtain rfl : i = 1 := by omega
   obtain ⟨h1, h2⟩ := HS.out.2.2 rfl
   have HR2 := Hd (HRES.out a n cc wr h1 h2 HS.out.1)
   clear h1 h2
   go_wp2
   exact HR2.out
theorem pc_ok {v : VO} {r : RY} {m : Nat} (hv : v.Ok) (hr : r.Ok) (hM : IsM v r m) : ∀ k, k ≤ m + 1 → ∀ p ∈ pcN v r k, (0 ≤ p.cell ∧ p.cell < v.nx * v.ny * v.nz) ∧ (0 ≤ p.lo ∧ p.lo ≤ 43200000000) ∧ (0 ≤ p.hi ∧ p.hi ≤ 43200000000)
 | 0, _, p, hp => by cases hp
 | 1, _, p, hp => by cases hp
 | k + 2, h, p, hp => by
  rw [pcN, List.mem_append] at hp
  rcases hp with hp | hp
  ·exact pc_ok hv hr hM (k + 1) (by omega) p hp
  ·unfold pc1 at hp
   split at hp
   ·cases hp
   ·rw [List.mem_singleton] at hp
    subst hp
    have := cell_bound hv hr (atF v r k) (atF v r (k + 1))
    exact ⟨⟨by dsimp only; omega, this.2⟩, ⟨hM.1 k (by omega), (atF_low hv hr k).2⟩, ⟨hM.1 (k + 1) (by omega), (atF_low hv hr (k + 1)).2⟩⟩
theorem pcrow_of {W : World} {base : Nat} {a : Option Addr} {c : Nat} {L : List PT} (h : W.ownsRow base 168 3 (.slice a L.length c) L.length (ptC L)) : PRow W a L := by
 by_cases hl : L.length = 0
 ·exact .inl hl
 ·obtain ⟨b, rfl, h1, h2⟩ := own_at h (by omega)
  refine .inr ⟨b, rfl, h2, fun i hi => ?_⟩
  have hc : ∀ s, s < 3 → W.cell? ⟨b, i * 3 + s, none⟩ = (L.getD i pt0).cells[s]? := fun s hs => by
   rw [h.cellAt (i * 3 + s) (by omega)]
   exact ptC_get L i s pt0 hi hs
  exact ⟨hc 0 (by omega), hc 1 (by omega), hc 2 (by omega)⟩
theorem own_cap {W : World} {base : Nat} {e : TypeId} {k : Nat} {a : Option Addr} {n c : Nat} {m : Nat} {xs : List Value} (h : W.ownsRow base e k (.slice a n c) m xs) : m ≤ c := by
 rcases h.2 with ⟨e, h0⟩ | ⟨g, cap, cur, e, h1, h2, h3, h4, _⟩
 ·omega
 ·injection e with e1 e2 e3
  omega
theorem unL_take (v : VO) (r : RY) (g : Nat → Int) (L : List PT) {i : Nat} (h : i < L.length) : unL v r g (L.take (i + 1)) = unL v r g (L.take i) ++ un1 v r g (L.getD i pt0) := by
 have e : L.take (i + 1) = L.take i ++ [L.getD i pt0] := by
  rw [List.take_add_one, List.getElem?_eq_getElem h, List.getD_eq_getElem?_getD, List.getElem?_eq_getElem h]
  rfl
 rw [e, unL_append]
 show _ ++ (un1 v r g (L.getD i pt0) ++ []) = _
 rw [List.append_nil]
theorem un1_len (v : VO) (r : RY) (g : Nat → Int) (p : PT) : (un1 v r g p).length ≤ 1 := by
 unfold un1 cutR
 split
 ·split <;> simp
 ·split
  ·split <;> simp
  ·split <;> simp
theorem unL_len (v : VO) (r : RY) (g : Nat → Int) : ∀ (L : List PT), (unL v r g L).length ≤ L.length
 | [] => Nat.le_refl _
 | p :: L => by
  rw [unL, List.length_append, List.length_cons]
  have := unL_len v r g L
  have := un1_len v r g p
  omega
theorem pt_cells_one (L : List PT) : ∀ u ∈ ptC L, u.oneCell' = true := by
 intro u hu
 induction L with
 | nil => cases hu
 | cons x t ih =>
  rw [ptC, List.mem_append] at hu
  rcases hu with hu | hu
  ·simp only [PT.cells, List.mem_cons, List.not_mem_nil, or_false] at hu
   rcases hu with rfl | rfl | rfl <;> rfl
  ·exact ih hu
theorem pt_cells_len : ∀ (L : List PT), (ptC L).length = L.length * 3
 | [] => rfl
 | x :: t => by rw [ptC, List.length_append, pt_cells_len t, List.length_cons]; simp [PT.cells]; omega
theorem pc_src {W : World} {base : Nat} {a : Option Addr} {n c : Nat} {L : List PT} (h : W.ownsRow base 168 3 (.slice a n c) L.length (ptC L)) : L.length = 0 ∨ ∃ ad, a = some ad ∧ ∀ j u, (ptC L)[j]? = some u → W.cell? (ad.add j) = some u := by
 by_cases hl : L.length = 0
 ·exact .inl hl
 ·rcases h.2 with ⟨_, h0⟩ | ⟨g, cap, cur, e, _⟩
  ·omega
  ·injection e with e1 e2 e3
   subst e1 e2
   refine .inr ⟨_, rfl, fun j u hu => ?_⟩
   have hj : j < (ptC L).length := (List.getElem?_eq_some_iff.1 hu).1
   rw [pt_cells_len] at hj
   rw [addr_add, Nat.zero_add, h.cellAt j hj, hu]
theorem htk_RfD {P : Program} {md : Region.Mode} {Q : Exit → Act → World → Prop} {S : World → Prop} {l : List Oper} {n f : Nat} {listed : Array Bool} {a : Act} {w : World} {v : Value} {oi : Oper} {X : Prop} (i : Nat) (q : X) (hi : l.toArray[i]? = some oi := by rfl) (hB : TkB md l n listed i = true := by kernel_rfl) (hQ : ∀ c a w, Q (.panic c) (a.put oi.dst v) w → Q (.panic c) a w := by exact fun _ _ _ h => h) (hy : YieldsIf P l.toArray S oi v a := by (refine Or.inl ⟨by rfl, ?_⟩; intro w' hSw; (try dsimp only at hSw); have z2 := ((bcell hSw).1 _ _ hrl3).trans s2; have z5 := ((bcell hSw).1 _ _ hrl3).trans s5; clear hSw; (try simp only [hng]); go_simp; (try with_reducible rfl))) (hS : S w := by assumption) (hx : X → headH P md l.toArray Q S n (tailL P md l Q n) f (listed.setIfInBounds i true) (a.put oi.dst v) w := by (intro qq; refine hnm ?_; exact qq)) : headH P md l.toArray Q S n (tailL P md l Q n) (f + 1) listed a w := headH_take hi hB hQ hy hS (hx q)
theorem r6Under_any (v : VO) (r : RY) (hv : v.Ok) (hr : r.Ok) (m : Nat) (hM : IsM v r m) (ga : Option Addr) (gn gc : Nat) (g : Nat → Int) (w : World) (hgn : gn ≤ maxLen) (hG : Ints w.heap.size w ga gn g) (hgr : grB v gn g = true) :
  Calls Tryz.prog 78 #[v.val, .slice ga gn gc, r.val] w (PcRes (prN v r g (m + 1)) w) := by
 have hT := tkF_bound hr
 have hml : (pcN v r (m + 1)).length ≤ 40 := by have h1 := crR_eq hM; have h2 := acL_len v r m; have h3 := crR_len hv hr 3; have h4 := pcN_len v r (m + 1); rw [h1] at h3; omega
 have HPI := Hd (fun (W : World) => r6Pieces_any v r hv hr m hM W)
 have HTK := Hd (fun (W : World) => r6Ticks_any r W hr)
 have HCO := Hd (fun (W : World) => r6Columns_any v hv W)
 have HOK := Hd (fun (i : Nat) (hi : i < (pcN v r (m + 1)).length) => show (0 ≤ ((pcN v r (m + 1)).getD i pt0).cell ∧ ((pcN v r (m + 1)).getD i pt0).cell < v.nx * v.ny * v.nz) ∧ (0 ≤ ((pcN v r (m + 1)).getD i pt0).lo ∧ ((pcN v r (m + 1)).getD i pt0).lo ≤ 43200000000) ∧ (0 ≤ ((pcN v r (m + 1)).getD i pt0).hi ∧ ((pcN v r (m + 1)).getD i pt0).hi ≤ 43200000000) from by
  rw [List.getD_eq_getElem?_getD, List.getElem?_eq_getElem hi]
  exact pc_ok hv hr hM (m + 1) (Nat.le_refl _) _ (List.getElem_mem _))
 have HTA := Hd (fun (i : Nat) (hi : i < (pcN v r (m + 1)).length) => unL_take v r g (pcN v r (m + 1)) hi)
 have HTL := Hd (show unL v r g ((pcN v r (m + 1)).take (pcN v r (m + 1)).length) = prN v r g (m + 1) from by rw [List.take_length]; exact un_eq hv hr hM g (m + 1) (Nat.le_refl _))
 have HTB := Hd (fun (i : Nat) => show (unL v r g ((pcN v r (m + 1)).take i)).length ≤ 40 from by
  have h1 := unL_len v r g ((pcN v r (m + 1)).take i)
  rw [List.length_take] at h1
  omega)
 have HT0 := Hd (show [] = unL v r g ((pcN v r (m + 1)).take 0) from rfl)
 have HU1 := Hd (fun (p : PT) => show un1 v r g p = if 0 < r.dz then cutR p 0 ((g (p.cell.tmod (v.nx * v.ny)).toNat - r.z) * (tkF r : Int).tdiv r.dz) else if r.dz < 0 then cutR p ((g (p.cell.tmod (v.nx * v.ny)).toNat - r.z) * (tkF r : Int).tdiv r.dz) 1000000000000 else if r.z < g (p.cell.tmod (v.nx * v.ny)).toNat then [p] else [] from rfl)
 have HUL := Hd (fun (p : PT) => un1_len v r g p)
 have HMO := Hd (fun (x : Int) (hx : 0 ≤ x) => mod_bound hv hx)
 have HGI := Hd (fun (i : Nat) (hi : i < gn) => gr_ok hv hgr i hi)
 have HGN := Hd ((gr_iff.1 hgr).2)
 have HG := Lib.hid hG
 have HCU := Hd (fun (p : PT) (pb po pc : Nat) (a b : Int) (W : World) h0 h1 h2 => r6Cut_any p pb po pc a b W h0 h1 h2)
 have HRES := Hd (fun (a : Option Addr) (c n : Nat) (P : List PT) (W' : World) (hn : P.length = n) (h0 : P = prN v r g (m + 1)) (h1 : W'.ownsRow w.heap.size 168 3 (.slice a n c) n (ptC P)) (h2 : Below w.heap.size w W') => show PcRes (prN v r g (m + 1)) w (.returned (.slice a n c)) W' from by subst hn; rw [← h0]; exact ⟨a, c, rfl, h1, h2⟩)
 have hrz := hr.z
 have hrd := hr.dz
 have hq := tdiv_abs (tkF r : Int) r.dz 216000 (by omega)
 have hxy : 0 < v.nx * v.ny := Int.mul_pos (by have := hv.x; omega) (by have := hv.y; omega)
 generalize PcRes (prN v r g (m + 1)) w = RES at *
 generalize prN v r g (m + 1) = PR at *
 generalize pcN v r (m + 1) = PN at *
 generalize unL v r g = uL at *
 generalize un1 v r g = u1 at *
 generalize hqq : (tkF r : Int).tdiv r.dz = qd at *
 generalize tkF r = T at *
 unfold RY.val at HTK HPI
 unfold VO.val at HPI HCO
 unfold VO.val RY.val
 generalize v.nx * v.ny = XY at *
 obtain ⟨n, hn⟩ : ∃ n, PN.length = n := ⟨_, rfl⟩
 have HNN := Lib.hid hn
 clear hG hgr hM hv hr
 go_enter Tryz.func78, Tryz.ntmps78
 go_upto_region 1 with (fail)
 (obtain ⟨hVb, e1, e2⟩ := rk_two w (.cells #[.int .i64 v.nx, .int .i64 v.ny, .int .i64 v.nz, .int .i64 v.size] 23) (.cells #[.int .i64 r.x, .int .i64 r.y, .int .i64 r.z, .int .i64 r.dx, .int .i64 r.dy, .int .i64 r.dz] 33))
 have HB := Lib.hid hVb
 have HV := Lib.hid e1
 have HRY := Lib.hid e2
 clear hVb e1 e2
 generalize World.alloc (World.alloc w _) _ = V at *
 (try clear v0 v1 v2 v3 s0 s1 s2 s3 s4 s5); obtain ⟨v0, v1, v2, v3⟩ := cr4 HV.out; obtain ⟨s0, s1, s2, s3, s4, s5⟩ := cr6 HRY.out
 go_upto_region 3 with (go_at_call 115; refine (HPI.out _).mono ?_; rintro e w2 ⟨pa, pc, rfl, hown, hb2⟩; have HOW := Lib.hid hown; (replace HB := Hd (HB.out.trans ((hb2).mono HB.out.size)); replace HV := Hd (blkS HV.out hb2); replace HRY := Hd (blkS HRY.out hb2); (try clear v0 v1 v2 v3 s0 s1 s2 s3 s4 s5); obtain ⟨v0, v1, v2, v3⟩ := cr4 HV.out; obtain ⟨s0, s1, s2, s3, s4, s5⟩ := cr6 HRY.out); clear hb2 hown)
 rename World => w2
 go_upto_region 4 with (go_at_call 116; refine (HTK.out _).mono ?_; rintro e w3 ⟨rfl, hb2⟩; have HOW3 := Hd (own_below HOW.out hb2); (replace HB := Hd (HB.out.trans ((hb2).mono HB.out.size)); replace HV := Hd (blkS HV.out hb2); replace HRY := Hd (blkS HRY.out hb2); (try clear v0 v1 v2 v3 s0 s1 s2 s3 s4 s5); obtain ⟨v0, v1, v2, v3⟩ := cr4 HV.out; obtain ⟨s0, s1, s2, s3, s4, s5⟩ := cr6 HRY.out); clear hb2 HOW)
 rename World => w3
 have hcap := own_cap HOW3.out
 have HPW := Hd (pcrow_of HOW3.out)
 rw [hn] at HTA HTL HOK hml hcap
 (try rw [hn])
 clear hn HOW3 v0 v1 v2 v3 s0 s1 s2 s3 s4 s5
 obtain ⟨i0', hi0', hz0, hz1, hz2⟩ := info_parts info_piece
 go_wp2
 go_loopw [7, 10] (fun s7 s10 wr => ∃ (i : Nat) (a : Option Addr) (c k : Nat) (R : List PT), i ≤ n ∧ s10 = .int .i64 (i : Int) ∧ s7 = .slice a k c ∧ Hid (R.length = k ∧ R = uL (PN.take i) ∧ wr.ownsRow w3.heap.size 168 3 (.slice a k c) k (ptC R) ∧ Below w3.heap.size w3 wr)) (fun _ s10 _ => n - (intOf s10).toNat)
 case atStart => exact ⟨0, none, 0, 0, [], by omega, rfl, rfl, Lib.hid ⟨rfl, HT0.out, World.ownsRow_nil _ _ _ _, Below.refl _ _⟩⟩
 case round =>
  obtain ⟨i, a, c, k, R, hi, rfl, rfl, HH⟩ := hrel
  have HBr := Hd (HB.out.trans (HH.out.2.2.2.mono HB.out.size))
  by_cases hlt : i < n
  ·have hlt' : (i : Int) < (n : Int) := by omega
   rcases HPW.out with h | ⟨pb, rfl, hpz, hpc⟩
   ·have := HNN.out; omega
   obtain ⟨p0, p1, p2⟩ := hpc i (by have := HNN.out; omega)
   obtain ⟨⟨hc1, hc2⟩, ⟨hl1, hl2⟩, ⟨hh1, hh2⟩⟩ := HOK.out i hlt
   have HTi := Hd (HTA.out i hlt)
   have HBi := Hd (HTB.out (i + 1))
   generalize PN.getD i pt0 = p at *
   have HUi := Hd (HU1.out p)
   obtain ⟨q, hmod, hqn⟩ := HMO.out p.cell hc1
   have hgn2 := HGN.out
   obtain ⟨gb, go, rfl, hgl, hgc⟩ := HG.out.get (i := q) (by omega)
   obtain ⟨hg1, hg2⟩ := HGI.out q (by omega)
   rw [hmod, Int.toNat_natCast] at HUi
   have d0 := ((bcell HH.out.2.2.2).1 _ _ hpz).trans p0
   have d1 := ((bcell HH.out.2.2.2).1 _ _ hpz).trans p1
   have d2 := ((bcell HH.out.2.2.2).1 _ _ hpz).trans p2
   have d3 := ((bcell HBr.out).1 _ _ hgl).trans hgc
   have hpz2 : pb < wr.heap.size := Nat.lt_of_lt_of_le hpz HH.out.2.2.2.size
   have hgz2 : gb < wr.heap.size := Nat.lt_of_lt_of_le hgl HBr.out.size
   have HPP := Hd (And.intro p0 (And.intro p1 p2))
   clear p0 p1 p2 hpc hgc
   generalize g q = h at *
   have HVr := Hd ((HH.out.2.2.2.block _ (blkL HV.out)).trans HV.out)
   have hvl := (blkL HVr.out)
   obtain ⟨v0, v1, v2, v3⟩ := cr4 HVr.out
   have hxn : (XY == 0) = false := beq_eq_false_iff_ne.2 (by omega)
   have hqg : (q : Int) < (gn : Int) := by omega
   have hqg2 : q < gn := by omega
   have hkR := HH.out.1
   have hk40 : k ≤ 40 := by have h1 := HTB.out i; rw [← HH.out.2.1, hkR] at h1; exact h1
   have HOr := Lib.hid HH.out.2.2.1
   have HTR := Hd (show uL (PN.take (i + 1)) = R ++ u1 p from by rw [HTi.out, ← HH.out.2.1])
   have HBR := Lib.hid HH.out.2.2.2
   clear HTi HH
   go_upto_region 7 with (fail)
   (refine wp_region_calm (wr.heap.size) (by kernel_rfl) (by kernel_rfl) ?_; (repeat (first | go_big_quiet_step ((go_at_call 57; exact Calls.calm_of (Nat.le_refl _) (HCO.out _))) | quiet_step ((go_at_call 57; exact Calls.calm_of (Nat.le_refl _) (HCO.out _))))); refine wpQuiet_nil (wqn ?_); intro xq)
   have hb3 := Calm.below xq
   clear d0 d1 d2 d3 v0 v1 v2 v3 hxn hqg hqg2 hmod hvl hgz2 hgl
   have HOy := Hd (own_below HOr.out hb3)
   have HBy := Hd (HBR.out.trans (hb3.mono HBR.out.size))
   clear hb3 HVr HOr HBR
   generalize Calm.val xq = wy at *
   have hrl3 := (blkL HRY.out)
   have s2 := cell_of_row _ _ 2 _ _ _ HRY.out
   have s5 := cell_of_row _ _ 5 _ _ _ HRY.out
   have e2 := ((bcell HBy.out).1 _ _ hrl3).trans s2
   have e5 := ((bcell HBy.out).1 _ _ hrl3).trans s5
   by_cases hdz : 0 < r.dz
   ·have HU2 := Hd (show u1 p = cutR p 0 ((h - r.z) * qd) from by rw [HUi.out, if_pos hdz])
    have hm1' : True := trivial
    have hm1 := rk_mul_abs (x := h - r.z) (y := qd) (K := 112000) (M := 216000) (by decide) (by decide) (by omega) (by omega)
    have hdn : (r.dz == 0) = false := beq_eq_false_iff_ne.2 (by omega)
    have hdn2 : ¬ r.dz = 0 := by omega
    have hci : ¬ pc = i := by omega
    have HLQ := Hd (show (cutR p 0 ((h - r.z) * qd)).length ≤ 1 from by rw [← HU2.out]; exact HUL.out p)
    have hb63 : k + (cutR p 0 ((h - r.z) * qd)).length ≤ maxLen := by have := HLQ.out; unfold maxLen; omega
    have hb47 : (k + (cutR p 0 ((h - r.z) * qd)).length) * 24 ≤ 140737488355328 := by have := HLQ.out; omega
    clear HLQ
    obtain ⟨j, hj⟩ : ∃ j, j = i + 1 := ⟨_, rfl⟩
    have hwr : IntKind.i64.wrap ((i : Int) + 1) = (j : Int) := by rw [show (i : Int) + 1 = (j : Int) by omega]; exact IntWalk.i64_in _ (by omega)
    have hci2 : j ≤ pc := by omega
    have hci3 : i ≤ j := by omega
    have hci4 : j - i = 1 := by omega
    clear hj
    clear HUi
    generalize hU : (h - r.z) * qd = U at *
    have hw1 : IntKind.i64.wrap (h - r.z) = h - r.z := IntWalk.i64_in _ (by omega)
    have hw2 : IntKind.i64.wrap qd = qd := IntWalk.i64_in _ (by omega)
    have hw3 : IntKind.i64.wrap U = U := IntWalk.i64_in _ (by omega)
    go_upto_region 9 with (fail)
    ((refine wp_region_any (by kernel_rfl) ?_; change wpAny _ _ _ _ _ _ _ (World.drew wy); have hS0 : Below w3.heap.size w3 wy.drew := HBy.out.drew; have HOd := Hd (own_below HOy.out (show Below wy.heap.size wy wy.drew from (Below.refl _ _).drew)); clear e2 e5 hc1 hc2 hl1 hl2 hh1 hh2 hm1' HBy HOy hxy hgn; generalize World.drew wy = wd at *; refine any_of_tail 17 17 (fun w' => Below w3.heap.size w3 w') (by kernel_rfl) hS0 (fun hS => ?_); refine htk_RfD 0 ?_; refine htk_RfD 1 ?_; refine htk_RfD 2 ?_; refine htk_RfD 3 ?_; refine htk_RfD 4 ?_; refine htk_RfD 5 ?_; refine htk_RfD 6 ?_; refine htk_RfD 7 ?_; refine htk_RfD 8 ?_; refine htk_RfD 9 ?_; refine htk_RfD 10 ?_; refine htk_RfD 11 ?_; refine htk_RfD 12 ?_; refine htk_RfD 13 ?_; refine htk_RfD 14 ?_; clear hwr hci2 hci3 hci4 hw1 hw2 hw3 hU; have HC3 := Hd (HCU.out p pb (i * 3) (pc - i) 0 U wd (((bcell hS0).1 _ _ hpz).trans HPP.out.1) (((bcell hS0).1 _ _ hpz).trans HPP.out.2.1) (((bcell hS0).1 _ _ hpz).trans HPP.out.2.2)); generalize cutR p 0 U = Q at *; refine headH_one 15 ?_; refine headH_op rfl (fun K hK => ?_); (try simp only [hng]); go_simp; refine HC3.out.mono ?_; rintro e w8 ⟨a8, c8, rfl, ho8, hb8⟩; have HQ8 := Lib.hid ho8; have HO8 := Hd (own_below HOd.out hb8); have HS8 := Hd (hS0.trans (hb8.mono hS0.size)); clear ho8 hb8; refine hK.out _ _ HS8.out (fun hS => ?_); clear hK K; refine hnm ?_; refine headH_one 16 ?_; refine headH_op rfl (fun K hK => ?_); refine step_append_src rfl _ _ 165 rfl w3.heap.size 168 i0' _ 3 24 Tryz.underlying165 hi0' hz0 hz1 hz2 rfl (by decide) (.slice a k c) k (ptC R) rfl HO8.out _ Q.length _ (ptC Q) rfl (pt_cells_len Q) (pc_src HQ8.out) (pt_cells_one Q) hb63 hb47 HS8.out.size ?_; intro v9 w9 hown9 hgrow9; have HO9 := Lib.hid hown9; have HS9 := Hd (show Below w3.heap.size w3 w9 from HS8.out.grown hgrow9 HS8.out.size (fun b e => (HO8.out.lt b e).1)); clear hown9 hgrow9; refine hK.out _ _ HS9.out (fun hS => ?_); clear hK K; refine hnm ?_; change tailL _ _ _ _ _ _ _ _; refine ⟨by kernel_rfl, ?_⟩; simp only [List.drop_succ_cons, List.drop_zero]; obtain ⟨a9, c9, rfl⟩ := own_len HO9.out; have HR9 := Hd (show (R ++ Q).length = k + Q.length from by rw [List.length_append, hkR]); have HR8 := Hd (show R ++ Q = uL (PN.take (i + 1)) from by rw [HTR.out, HU2.out]); generalize k + Q.length = kk at *; go_wp2; go_roundw; (case rel => exact ⟨i + 1, a9, c9, kk, R ++ Q, (by omega), (by go_num), rfl, Lib.hid ⟨HR9.out, HR8.out, (by rw [ptC_append]; exact HO9.out), HS9.out⟩⟩); (case measure => (simp [intOf]; omega))))
   by_cases hdy : r.dz < 0
   ·have HU2 := Hd (show u1 p = cutR p ((h - r.z) * qd) 1000000000000 from by rw [HUi.out, if_neg hdz, if_pos hdy])
    have hm1' : True := trivial
    have hm1 := rk_mul_abs (x := h - r.z) (y := qd) (K := 112000) (M := 216000) (by decide) (by decide) (by omega) (by omega)
    have hdn : (r.dz == 0) = false := beq_eq_false_iff_ne.2 (by omega)
    have hdn2 : ¬ r.dz = 0 := by omega
    have hci : ¬ pc = i := by omega
    have HLQ := Hd (show (cutR p ((h - r.z) * qd) 1000000000000).length ≤ 1 from by rw [← HU2.out]; exact HUL.out p)
    have hb63 : k + (cutR p ((h - r.z) * qd) 1000000000000).length ≤ maxLen := by have := HLQ.out; unfold maxLen; omega
    have hb47 : (k + (cutR p ((h - r.z) * qd) 1000000000000).length) * 24 ≤ 140737488355328 := by have := HLQ.out; omega
    clear HLQ
    obtain ⟨j, hj⟩ : ∃ j, j = i + 1 := ⟨_, rfl⟩
    have hwr : IntKind.i64.wrap ((i : Int) + 1) = (j : Int) := by rw [show (i : Int) + 1 = (j : Int) by omega]; exact IntWalk.i64_in _ (by omega)
    have hci2 : j ≤ pc := by omega
    have hci3 : i ≤ j := by omega
    have hci4 : j - i = 1 := by omega
    clear hj
    clear HUi
    generalize hU : (h - r.z) * qd = U at *
    have hw1 : IntKind.i64.wrap (h - r.z) = h - r.z := IntWalk.i64_in _ (by omega)
    have hw2 : IntKind.i64.wrap qd = qd := IntWalk.i64_in _ (by omega)
    have hw3 : IntKind.i64.wrap U = U := IntWalk.i64_in _ (by omega)
    go_upto_region 11 with (fail)
    ((refine wp_region_any (by kernel_rfl) ?_; change wpAny _ _ _ _ _ _ _ (World.drew wy); have hS0 : Below w3.heap.size w3 wy.drew := HBy.out.drew; have HOd := Hd (own_below HOy.out (show Below wy.heap.size wy wy.drew from (Below.refl _ _).drew)); clear e2 e5 hc1 hc2 hl1 hl2 hh1 hh2 hm1' HBy HOy hxy hgn; generalize World.drew wy = wd at *; refine any_of_tail 17 17 (fun w' => Below w3.heap.size w3 w') (by kernel_rfl) hS0 (fun hS => ?_); refine htk_RfD 0 ?_; refine htk_RfD 1 ?_; refine htk_RfD 2 ?_; refine htk_RfD 3 ?_; refine htk_RfD 4 ?_; refine htk_RfD 5 ?_; refine htk_RfD 6 ?_; refine htk_RfD 7 ?_; refine htk_RfD 8 ?_; refine htk_RfD 9 ?_; refine htk_RfD 10 ?_; refine htk_RfD 11 ?_; refine htk_RfD 12 ?_; refine htk_RfD 13 ?_; refine htk_RfD 14 ?_; clear hwr hci2 hci3 hci4 hw1 hw2 hw3 hU; have HC3 := Hd (HCU.out p pb (i * 3) (pc - i) U 1000000000000 wd (((bcell hS0).1 _ _ hpz).trans HPP.out.1) (((bcell hS0).1 _ _ hpz).trans HPP.out.2.1) (((bcell hS0).1 _ _ hpz).trans HPP.out.2.2)); generalize cutR p U 1000000000000 = Q at *; refine headH_one 15 ?_; refine headH_op rfl (fun K hK => ?_); (try simp only [hng]); go_simp; refine HC3.out.mono ?_; rintro e w8 ⟨a8, c8, rfl, ho8, hb8⟩; have HQ8 := Lib.hid ho8; have HO8 := Hd (own_below HOd.out hb8); have HS8 := Hd (hS0.trans (hb8.mono hS0.size)); clear ho8 hb8; refine hK.out _ _ HS8.out (fun hS => ?_); clear hK K; refine hnm ?_; refine headH_one 16 ?_; refine headH_op rfl (fun K hK => ?_); refine step_append_src rfl _ _ 165 rfl w3.heap.size 168 i0' _ 3 24 Tryz.underlying165 hi0' hz0 hz1 hz2 rfl (by decide) (.slice a k c) k (ptC R) rfl HO8.out _ Q.length _ (ptC Q) rfl (pt_cells_len Q) (pc_src HQ8.out) (pt_cells_one Q) hb63 hb47 HS8.out.size ?_; intro v9 w9 hown9 hgrow9; have HO9 := Lib.hid hown9; have HS9 := Hd (show Below w3.heap.size w3 w9 from HS8.out.grown hgrow9 HS8.out.size (fun b e => (HO8.out.lt b e).1)); clear hown9 hgrow9; refine hK.out _ _ HS9.out (fun hS => ?_); clear hK K; refine hnm ?_; change tailL _ _ _ _ _ _ _ _; refine ⟨by kernel_rfl, ?_⟩; simp only [List.drop_succ_cons, List.drop_zero]; obtain ⟨a9, c9, rfl⟩ := own_len HO9.out; have HR9 := Hd (show (R ++ Q).length = k + Q.length from by rw [List.length_append, hkR]); have HR8 := Hd (show R ++ Q = uL (PN.take (i + 1)) from by rw [HTR.out, HU2.out]); generalize k + Q.length = kk at *; go_wp2; go_roundw; (case rel => exact ⟨i + 1, a9, c9, kk, R ++ Q, (by omega), (by go_num), rfl, Lib.hid ⟨HR9.out, HR8.out, (by rw [ptC_append]; exact HO9.out), HS9.out⟩⟩); (case measure => (simp [intOf]; omega))))
   have hd0 : ¬ 0 < r.dz := hdz
   have hd1 : ¬ r.dz < 0 := hdy
   by_cases hzh : r.z < h
   ·have HU2 := Hd (show u1 p = [p] from by rw [HUi.out, if_neg hdz, if_neg hdy, if_pos hzh])
    have hb63 : k + 1 ≤ maxLen := by unfold maxLen; omega
    have hb47 : (k + 1) * 24 ≤ 140737488355328 := by omega
    have HR8 := Hd (show R ++ [p] = uL (PN.take (i + 1)) from by rw [HTR.out, HU2.out])
    have HR9 := Hd (show (R ++ [p]).length = k + 1 from by rw [List.length_append, hkR]; rfl)
    have f0 := ((bcell HBy.out).1 _ _ hpz).trans HPP.out.1
    have f1 := ((bcell HBy.out).1 _ _ hpz).trans HPP.out.2.1
    have f2 := ((bcell HBy.out).1 _ _ hpz).trans HPP.out.2.2
    clear HUi HTR
    go_upto_region 13 with (fail)
    go_wp2_with (at_builtin; refine wpList_append_lies _ rfl _ _ 165 rfl w3.heap.size 168 i0' _ 3 24 Tryz.underlying165 hi0' hz0 hz1 hz2 rfl (by decide) (.slice a k c) k (ptC R) rfl (HOy.out.alloc _) ⟨wy.heap.size, 0, none⟩ 1 1 [.int .i64 p.cell, .int .i64 p.lo, .int .i64 p.hi] rfl rfl (World.news_of_block (heap_alloc_new wy (.cells #[.int .i64 p.cell, .int .i64 p.lo, .int .i64 p.hi] 168))) pt_one (by decide) hb63 hb47 (by have := HBy.out.size; simp; omega) _ rfl ?_; intro g1 p1 w9 hown9 hgrow9 hat9 hlt9; have HO9 := Lib.hid hown9; have HS9 := Hd (show Below w3.heap.size w3 w9 from (HBy.out.alloc HBy.out.size _).grown hgrow9 (by have := HBy.out.size; simp; omega) (fun b e => (HOy.out.lt b e).1)); clear hown9 hgrow9 hat9 hlt9)
    go_roundw
    case rel => exact ⟨i + 1, some ⟨g1, 0, none⟩, p1, k + 1, R ++ [p], (by omega), (by go_num), rfl, Lib.hid ⟨HR9.out, HR8.out, (by rw [ptC_append, ptC_one]; exact HO9.out), HS9.out⟩⟩
    case measure => simp [intOf]; omega
   ·have HU2 := Hd (show u1 p = [] from by rw [HUi.out, if_neg hdz, if_neg hdy, if_neg hzh])
    have HR8 := Hd (show R = uL (PN.take (i + 1)) from by rw [HTR.out, HU2.out, List.append_nil])
    clear HUi HTR
    go_wp2
    go_roundw
    case rel => exact ⟨i + 1, a, c, k, R, (by omega), (by go_num), rfl, Lib.hid ⟨hkR, HR8.out, HOy.out, HBy.out⟩⟩
    case measure => simp [intOf]; omega
  ·obtain rfl : i = n := by omega
   have hlt' : ¬ (i : Int) < (i : Int) := by omega
   have HRR := Hd (HRES.out a c k R wr HH.out.1 (by rw [HH.out.2.1, HTL.out]) (own_base HH.out.2.2.1 HB.out.size) HBr.out)
   go_wp2
   exact HRR.out
end Go.Proofs.YtgmpelhphnmknaaGreat
