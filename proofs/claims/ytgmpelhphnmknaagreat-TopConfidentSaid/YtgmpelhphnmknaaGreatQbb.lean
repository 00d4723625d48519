/- Texts put together: ToLnL, ToLnM, ToLnN, ToLnO. -/
import Derived.Test.YtgmpelhphnmknaaGreatQba
import Derived.Test.YtgmpelhphnmknaaGreatQaq
set_option maxRecDepth 100000
set_option maxHeartbeats 8000000
set_option linter.unusedVariables false
set_option linter.unusedSimpArgs false
namespace Go.Proofs.YtgmpelhphnmknaaGreat
open Go Go.RowKit Go.Shelf
def tC (C : List ST) (i : Nat) : RW := ⟨(C.getD i ST.zero).sl, (C.getD i ST.zero).st, (C.getD i ST.zero).dn⟩
theorem stC_get : ∀ (C : List ST) (i : Nat), i < C.length → (stC C)[i * 3]? = some (.int .i64 (tC C i).key) ∧ (stC C)[i * 3 + 1]? = some (.int .i64 (tC C i).lo) ∧ (stC C)[i * 3 + 2]? = some (.int .i64 (tC C i).hi)
 | [], i, h => by simp at h
 | s :: C, 0, h => ⟨rfl, rfl, rfl⟩
 | s :: C, i + 1, h => by
  have ih := stC_get C i (by simpa using h)
  have e : stC (s :: C) = .int .i64 s.sl :: .int .i64 s.st :: .int .i64 s.dn :: stC C := rfl
  rw [e, show (i + 1) * 3 = i * 3 + 3 by omega]
  exact ih
theorem rws_of_st {W : World} {base : Nat} {va : Option Addr} {vc : Nat} {C : List ST} (h : W.ownsRow base 204 3 (.slice va C.length vc) C.length (stC C)) (h0 : 0 < C.length) : RWs W.heap.size W va C.length (tC C) := by
 obtain ⟨g, rfl, h1, h2⟩ := own_at h h0
 refine .inr ⟨g, 0, rfl, h2, fun i hi => ?_⟩
 obtain ⟨e0, e1, e2⟩ := stC_get C i hi
 rw [Nat.zero_add]
 exact ⟨(h.cellAt (i * 3) (by omega)).trans e0, (h.cellAt (i * 3 + 1) (by omega)).trans e1, (h.cellAt (i * 3 + 2) (by omega)).trans e2⟩
def plC (C : List ST) (z : Int) (i : Nat) : SV := ⟨atN (C.getD i ST.zero) z, (C.getD i ST.zero).dn⟩
theorem plC_ok {C : List ST} {z : Int} (hC : ∀ s ∈ C, s.ok) (hz : -100000 ≤ z ∧ z ≤ 200000) : ∀ i, i < C.length → FrOk (plC C z i) := by
 intro i hi
 have hs : (C.getD i ST.zero).ok := by
  rw [List.getD_eq_getElem?_getD, List.getElem?_eq_getElem hi]
  exact hC _ (List.getElem_mem hi)
 exact ⟨atN_bound hs hz, hs.dn⟩
theorem info_frac : (Tryz.prog.info? 68).map (fun i => (i.zero, i.size, i.bytes)) = some (some (.agg #[.int .i64 0, .int .i64 0]), 2, 16) := by kernel_rfl
theorem b1_eg (args : Array Value) (W : World) : (callFunc 158 args).run Tryz.prog W = .ok (.enter 158 args) W := enters_of Tryz.func158 (by kernel_rfl) rfl args W
theorem b2_eg (args : Array Value) (W : World) : (callFunc 160 args).run Tryz.prog W = .ok (.enter 160 args) W := enters_of Tryz.func160 (by kernel_rfl) rfl args W
def loP (C : List ST) (z : Int) : SV := exN ltF (plC C z) (C.length - 1)
def hiP (C : List ST) (z : Int) : SV := exN gtF (plC C z) (C.length - 1)
def frV (p : SV) : Value := spV (frN p.lo p.hi) (frD p.lo p.hi)
theorem fr_news (W : World) (x y : Int) : ∀ j u, ([.int .i64 x, .int .i64 y] : List Value)[j]? = some u → (W.alloc (.cells #[.int .i64 x, .int .i64 y] 68)).cell? ((⟨W.heap.size, 0, none⟩ : Addr).add j) = some u := by
 intro j u h
 have hr := heap_alloc_new W (.cells #[.int .i64 x, .int .i64 y] 68)
 have := cell_of_row _ _ j _ _ _ hr
 rw [List.getElem?_toArray, h] at this
 rw [← this]
 cases j with
 | zero => rfl
 | succ j => simp [Addr.add]
theorem fr_one (x y : Int) : ∀ u ∈ ([.int .i64 x, .int .i64 y] : List Value), u.oneCell' = true := by
 intro u hu
 simp at hu
 rcases hu with rfl | rfl <;> rfl
theorem bounds_any' (z : Int) (av : Value) (C : List ST) (va : Option Addr) (vc qz B : Nat) (w : World) (hBw : B ≤ w.heap.size) (hT : RWs B w va C.length (tC C)) (hC : ∀ s ∈ C, s.ok) (hlen : 1 ≤ C.length ∧ C.length ≤ 2400) (hz : -100000 ≤ z ∧ z ≤ 200000) (hq : w.heap[qz]? = some (.cells #[.int .i64 z] 3)) :
  Calls Tryz.prog 108 #[.agg #[av, .slice va C.length vc], .func (.func 109) #[] #[.pointer (some ⟨qz, 0, none⟩)]] w fun e w' => e = .returned (.tuple #[frV (loP C z), frV (hiP C z)]) ∧ Below w.heap.size w w' := by
 have hok := plC_ok hC hz
 have HPL := Hd (fun i (hi : i < C.length) W (hb : Below w.heap.size w W) => show Calls Tryz.prog 109 #[.agg #[.int .i64 (tC C i).key, .int .i64 (tC C i).lo, .int .i64 (tC C i).hi], .pointer (some ⟨qz, 0, none⟩)] W fun e w' => e = .returned (.agg #[.int .i64 (plC C z i).lo, .int .i64 (plC C z i).hi]) ∧ Below W.heap.size W w' from places1_any (C.getD i ST.zero) z qz W (by
  rw [List.getD_eq_getElem?_getD, List.getElem?_eq_getElem hi]
  exact hC _ (List.getElem_mem hi)) hz (keep_at hq hb))
 have HEX1 := Hd (fun la lc W (hl : Spans W.heap.size W la C.length (plC C z)) (hc : C.length ≤ lc ∧ lc ≤ maxLen) => show Calls Tryz.prog 157 #[.slice la C.length lc, .func (.func 158) #[] #[]] W fun e w' => e = .returned (.agg #[.int .i64 (loP C z).lo, .int .i64 (loP C z).hi]) ∧ Below W.heap.size W w' from extreme_any 158 ltF la C.length lc (plC C z) W.heap.size W (Nat.le_refl _) hl ⟨hlen.1, hc⟩ hok b1_eg (fun W p q hp hq => bounds1_any p q W hp hq))
 have HEX2 := Hd (fun la lc W (hl : Spans W.heap.size W la C.length (plC C z)) (hc : C.length ≤ lc ∧ lc ≤ maxLen) => show Calls Tryz.prog 157 #[.slice la C.length lc, .func (.func 160) #[] #[]] W fun e w' => e = .returned (.agg #[.int .i64 (hiP C z).lo, .int .i64 (hiP C z).hi]) ∧ Below W.heap.size W w' from extreme_any 160 gtF la C.length lc (plC C z) W.heap.size W (Nat.le_refl _) hl ⟨hlen.1, hc⟩ hok b2_eg (fun W p q hp hq => bounds2_any p q W hp hq))
 have hlo : FrOk (loP C z) := exN_ok (fun i hi => hok i (by omega))
 have hhi : FrOk (hiP C z) := exN_ok (fun i hi => hok i (by omega))
 have HF1 := Hd (fun W => show Calls Tryz.prog 107 #[.int .i64 (loP C z).lo, .int .i64 (loP C z).hi] W fun e w' => e = .returned (.agg #[.int .i64 (frN (loP C z).lo (loP C z).hi), .int .i64 (frD (loP C z).lo (loP C z).hi)]) ∧ Below W.heap.size W w' from frac_any (loP C z).lo (loP C z).hi W (by have := hlo.nm; omega) (by have := hlo.dn; omega))
 have HF2 := Hd (fun W => show Calls Tryz.prog 107 #[.int .i64 (hiP C z).lo, .int .i64 (hiP C z).hi] W fun e w' => e = .returned (.agg #[.int .i64 (frN (hiP C z).lo (hiP C z).hi), .int .i64 (frD (hiP C z).lo (hiP C z).hi)]) ∧ Below W.heap.size W w' from frac_any (hiP C z).lo (hiP C z).hi W (by have := hhi.nm; omega) (by have := hhi.dn; omega))
 unfold frV spV
 generalize frN (loP C z).lo (loP C z).hi = a0 at *
 generalize frD (loP C z).lo (loP C z).hi = a1 at *
 generalize frN (hiP C z).lo (hiP C z).hi = b0 at *
 generalize frD (hiP C z).lo (hiP C z).hi = b1 at *
 generalize (loP C z).lo = x0 at *
 generalize (loP C z).hi = x1 at *
 generalize (hiP C z).lo = y0 at *
 generalize (hiP C z).hi = y1 at *
 clear hlo hhi hok hC hq
 generalize plC C z = L at *
 generalize tC C = t at *
 generalize C.length = m at *
 have HB := Hd ((((Below.refl _ w).alloc (Nat.le_refl _) (.cells #[av, .slice va m vc] 139)).alloc (by simp) (.cells #[.int .i64 0, .int .i64 0] 68)).alloc (by simp; omega) (.cells #[.int .i64 0, .int .i64 0] 68))
 obtain ⟨_, h2, h3, h4⟩ := fx_three w (.cells #[av, .slice va m vc] 139) (.cells #[.int .i64 0, .int .i64 0] 68) (.cells #[.int .i64 0, .int .i64 0] 68)
 have HT := Hd (hT.below (HB.out.mono hBw))
 have hVs : (((w.alloc (.cells #[av, .slice va m vc] 139)).alloc (.cells #[.int .i64 0, .int .i64 0] 68)).alloc (.cells #[.int .i64 0, .int .i64 0] 68)).heap.size = w.heap.size + 3 := by simp
 have HE1 := Lib.hid h2
 have HE2 := Lib.hid h3
 have HE3 := Lib.hid h4
 have HVS := Lib.hid hVs
 clear h2 h3 h4 hT hVs
 go_enter Tryz.func108, Tryz.ntmps108
 go_upto_region 2 with (fail)
 generalize World.alloc (World.alloc (World.alloc w _) _) _ = V at *
 have k1 := cell_of_row _ _ 1 _ _ _ HE1.out
 have hVz : w.heap.size + 3 ≤ V.heap.size := Nat.le_of_eq HVS.out.symm
 have HO := Hd (show V.ownsRow (w.heap.size + 3) 68 2 (.slice none 0 0) 0 (sC L 0) from ⟨rfl, .inl ⟨rfl, rfl⟩⟩)
 go_wp2
 clear k1
 go_loopw [6, 14] (fun s6 s14 wr => ∃ i : Nat, i ≤ m ∧ s14 = .int .i64 (i : Int) ∧ ∃ la lc, s6 = .slice la i lc ∧ Hid (wr.ownsRow (w.heap.size + 3) 68 2 (.slice la i lc) i (sC L i)) ∧ Hid (wr.heap[w.heap.size + 1]? = some (.cells #[.int .i64 0, .int .i64 0] 68) ∧ wr.heap[w.heap.size + 1 + 1]? = some (.cells #[.int .i64 0, .int .i64 0] 68)) ∧ Hid (RWs B wr va m t) ∧ Hid (Below w.heap.size w wr) ∧ w.heap.size + 3 ≤ wr.heap.size) (fun _ s14 _ => m - (intOf s14).toNat)
 case atStart => exact ⟨0, by omega, rfl, none, 0, rfl, HO, Lib.hid ⟨HE2.out, HE3.out⟩, HT, HB, hVz⟩
 case round =>
  clear HO HE1 HE2 HE3 HT HB hVz
  obtain ⟨i, hi, rfl, la, lc, rfl, HO, HE, HT, HB, hVz⟩ := hrel
  by_cases hl : i < m
  ·have hl' : (i : Int) < (m : Int) := by omega
   obtain ⟨b, off, rfl, hbB, c0, c1, c2⟩ := HT.out.get hl
   have HPi := Hd (HPL.out i hl)
   have HN := Hd (show [.int .i64 (L i).lo, .int .i64 (L i).hi] = sC (fun _ => L i) 1 from rfl)
   have HCT := Hd (show sC L i ++ [.int .i64 (L i).lo, .int .i64 (L i).hi] = sC L (i + 1) from by
    rw [HN.out, sC_cat]
    refine sC_congr (fun j hj => ?_)
    by_cases e : j < i
    ·rw [if_pos e]
    ·rw [if_neg e, show j = i by omega])
   obtain ⟨k0', hk0⟩ : ∃ r, t i = r := ⟨_, rfl⟩
   rw [hk0] at HPi c0 c1 c2
   obtain ⟨x, y, u⟩ := k0'
   dsimp only at HPi c0 c1 c2
   clear hk0 HN
   go_upto_region 5 with (fail)
   have hb2 := al_below wr (.cells #[.int .i64 x, .int .i64 y, .int .i64 u] 204)
   have HG2 := Hd (heap_alloc_new wr (.cells #[.int .i64 x, .int .i64 y, .int .i64 u] 204))
   have HO2 := Hd (own_below HO.out hb2)
   have HE2 := Hd (And.intro (keep_at HE.out.1 hb2) (keep_at HE.out.2 hb2))
   have HT2 := Hd (HT.out.below (hb2.mono (Nat.le_trans hBw HB.out.size)))
   have HB2 := Hd (HB.out.trans (hb2.mono HB.out.size))
   have hz2 := Nat.le_trans hVz hb2.size
   clear hb2 HO HE HT HB hVz c0 c1 c2
   generalize World.alloc wr _ = W2 at *
   generalize wr.heap.size = g at *
   obtain ⟨g0, g1, g2⟩ := cr3 HG2.out
   obtain ⟨i0, hi0, hz0, hz1, hz22⟩ := info_parts info_frac
   have hcn : i + 1 ≤ maxLen ∧ (i + 1) * 16 ≤ 140737488355328 := by unfold maxLen; omega
   generalize (L i).lo = p0 at *
   generalize (L i).hi = p1 at *
   go_wp2_with (first
    | (refine (HPi.out _ HB2.out).mono ?_; rintro e W3 ⟨rfl, hb3⟩; have HO3 := Hd (own_below HO2.out hb3); have HE3 := Hd (And.intro (keep_at HE2.out.1 hb3) (keep_at HE2.out.2 hb3)); have HT3 := Hd (HT2.out.below (hb3.mono (Nat.le_trans hBw HB2.out.size))); have HB3 := Hd (HB2.out.trans (hb3.mono HB2.out.size)); have hz3 := Nat.le_trans hz2 hb3.size; clear hb3 HO2 HE2 HT2 HB2 HG2 g0 g1 g2)
    | (at_builtin; refine wpList_append_own _ rfl _ _ 257 rfl (w.heap.size + 3) 68 i0 _ 2 16 Tryz.underlying257 hi0 hz0 hz1 hz22 rfl (by decide) _ i (sC L i) rfl (HO3.out.alloc _) ⟨W3.heap.size, 0, none⟩ 1 1 [.int .i64 p0, .int .i64 p1] rfl rfl (fr_news W3 _ _) (fr_one _ _) hcn.1 hcn.2 (by simp; omega) ?_; intro v' W4 hown4 hgrow4 _; have hbf := ((al_below W3 (.cells #[.int .i64 p0, .int .i64 p1] 68)).mono (show w.heap.size + 3 ≤ W3.heap.size from hz3)).grown hgrow4 (by simp; omega) (fun b hb => own_block_le HO3.out hb); obtain ⟨a4, c4, hv4⟩ := own_len hown4; subst hv4; rw [HCT.out] at hown4; have HO4 := Lib.hid hown4; have HE4 := Hd (And.intro ((hbf.block _ (by omega)).trans HE3.out.1) ((hbf.block _ (by omega)).trans HE3.out.2)); have HT4 := Hd (HT3.out.below (hbf.mono (by omega))); have HB4 := Hd (HB3.out.trans (hbf.mono (by omega))); have hz4 := Nat.le_trans hz3 hbf.size; clear hbf hown4 hgrow4))
   go_roundw
   case rel => first | exact ⟨i + 1, by omega, by go_num, a4, c4, rfl, HO4, HE4, HT4, HB4, hz4⟩ | ((repeat apply Exists.intro); exact ⟨⟨i + 1, by omega, by go_num, a4, c4, rfl, HO4, HE4, HT4, HB4, hz4⟩, rfl⟩)
   case measure => simp [intOf]; omega
  ·obtain rfl : i = m := by omega
   have hl' : ¬ (i : Int) < (i : Int) := by omega
   have hmx : i ≤ lc ∧ lc ≤ maxLen := by
    obtain ⟨g, h1, h2, h3⟩ := own_at HO.out (show 0 < i by omega)
    rcases HO.out.2 with ⟨_, h⟩ | ⟨g', cap, cur, h5, _, _, h6, h7, _⟩
    ·omega
    ·injection h5 with _ _ h8
     omega
   have HSP := Hd (fun W' (hb : Below wr.heap.size wr W') => show Spans W'.heap.size W' la i L from by
    obtain ⟨g, rfl, h1, h2⟩ := own_at HO.out (show 0 < i by omega)
    refine ⟨by unfold maxLen; omega, .inr ⟨g, 0, rfl, Nat.lt_of_lt_of_le h2 hb.size, fun j hj => ?_⟩⟩
    have e := (bcell hb).1
    rw [Nat.zero_add, e _ _ h2, e _ _ h2, HO.out.cellAt (j * 2) (by omega), HO.out.cellAt (j * 2 + 1) (by omega), sC_get (by omega), sC_get (by omega), if_pos (by omega), if_neg (by omega), show j * 2 / 2 = j by omega, show (j * 2 + 1) / 2 = j by omega]
    exact ⟨rfl, rfl⟩)
   clear HO HPL HT
   go_upto_region 8 with (go_at_call 157; refine (HEX1.out la lc wr (HSP.out wr (Below.refl _ _)) hmx).mono ?_; rintro e W1 ⟨rfl, hb1⟩; have HQ1 := Lib.hid hb1; clear hb1)
   have hb2 := al_below W1 (.cells #[.int .i64 x0, .int .i64 x1] 68)
   have HX2 := Hd (heap_alloc_new W1 (.cells #[.int .i64 x0, .int .i64 x1] 68))
   have HQ2 := Hd (HQ1.out.trans (hb2.mono HQ1.out.size))
   have hlt1 := HQ1.out.size
   clear hb2 HQ1 HEX1
   generalize World.alloc W1 _ = W2 at *
   generalize W1.heap.size = gx at *
   go_upto_region 9 with (go_at_call 157; refine (HEX2.out la lc W2 (HSP.out W2 HQ2.out) hmx).mono ?_; rintro e W3 ⟨rfl, hb3⟩; have HQ3 := Hd (HQ2.out.trans (hb3.mono HQ2.out.size)); have HX3 := Hd (keep_at HX2.out hb3); clear hb3 HQ2 HX2)
   have hb4 := al_below W3 (.cells #[.int .i64 y0, .int .i64 y1] 68)
   have HY4 := Hd (heap_alloc_new W3 (.cells #[.int .i64 y0, .int .i64 y1] 68))
   have HX4 := Hd (keep_at HX3.out hb4)
   have HQ4 := Hd (HQ3.out.trans (hb4.mono HQ3.out.size))
   clear hb4 HQ3 HX3 HEX2 HSP
   generalize World.alloc W3 _ = W4 at *
   generalize W3.heap.size = gy at *
   have HE4 := Hd (And.intro (keep_at HE.out.1 HQ4.out) (keep_at HE.out.2 HQ4.out))
   have HB4 := Hd (HB.out.trans (HQ4.out.mono HB.out.size))
   clear HQ4 HE HB
   obtain ⟨k0, k1⟩ := cr2 HX4.out
   obtain ⟨m0, m1⟩ := cr2 HY4.out
   have lx := (blkL HX4.out)
   have ly := (blkL HY4.out)
   (refine wp_region_calm_tail (W4.heap.size) 10 (by kernel_rfl) (by kernel_rfl) ?_; simp only [List.take_succ_cons, List.take_zero, List.drop_succ_cons, List.drop_zero]; (repeat (first | go_big_quiet_step ((go_at_call 107; first | (with_reducible exact Calls.calm_of (Nat.le_refl _) (HF1.out _)) | (with_reducible exact Calls.calm_of (Nat.le_refl _) (HF2.out _)))) | quiet_step ((go_at_call 107; first | (with_reducible exact Calls.calm_of (Nat.le_refl _) (HF1.out _)) | (with_reducible exact Calls.calm_of (Nat.le_refl _) (HF2.out _)))))); refine wpQuiet_nil (wqn ?_); intro xq)
   have hq := xq.below
   have HE5 := Hd (And.intro (keep_at HE4.out.1 hq) (keep_at HE4.out.2 hq))
   have HB5 := Hd (HB4.out.trans (hq.mono HB4.out.size))
   clear hq HE4 HB4 HX4 HY4 k0 k1 m0 m1 lx ly
   generalize Calm.val xq = V2 at *
   (obtain ⟨r0, r1⟩ := cr2 HE5.out.1; obtain ⟨s0, s1⟩ := cr2 HE5.out.2; obtain ⟨f0, f1⟩ := fr2 HE5.out.1; obtain ⟨g0, g1⟩ := fr2 HE5.out.2; go_wp2; have hne : w.heap.size + 1 ≠ w.heap.size + 1 + 1 := (by omega); have hr1 := heap_setCell_same _ _ 1 _ _ (.int .i64 a1) (heap_setCell_same V2 _ 0 _ _ (.int .i64 a0) HE5.out.1); have hr2 := ((heap_setCell_other _ ⟨w.heap.size + 1, 1, none⟩ (w.heap.size + 1 + 1) (.int .i64 a1) (Ne.symm hne)).trans (heap_setCell_other V2 ⟨w.heap.size + 1, 0, none⟩ (w.heap.size + 1 + 1) (.int .i64 a0) (Ne.symm hne))).trans HE5.out.2; have hr3 := heap_setCell_same _ _ 1 _ _ (.int .i64 b1) (heap_setCell_same _ _ 0 _ _ (.int .i64 b0) hr2); have hr4 := ((heap_setCell_other _ ⟨w.heap.size + 1 + 1, 1, none⟩ (w.heap.size + 1) (.int .i64 b1) hne).trans (heap_setCell_other _ ⟨w.heap.size + 1 + 1, 0, none⟩ (w.heap.size + 1) (.int .i64 b0) hne)).trans hr1; have hbl := (((HB5.out.setCell (p := ⟨w.heap.size + 1, 0, none⟩) (by dsimp only; omega) (.int .i64 a0)).setCell (p := ⟨w.heap.size + 1, 1, none⟩) (by dsimp only; omega) (.int .i64 a1)).setCell (p := ⟨w.heap.size + 1 + 1, 0, none⟩) (by dsimp only; omega) (.int .i64 b0)).setCell (p := ⟨w.heap.size + 1 + 1, 1, none⟩) (by dsimp only; omega) (.int .i64 b1); generalize World.setCell (World.setCell (World.setCell (World.setCell V2 _ _) _ _) _ _) _ _ = V6 at *; obtain ⟨q0, q1⟩ := cr2 hr4; obtain ⟨q2, q3⟩ := cr2 hr3; exact bodyPost_ret (v := .tuple #[.agg #[.int .i64 a0, .int .i64 a1], .agg #[.int .i64 b0, .int .i64 b1]]) (by simp [results, Tryz.results108, go_sem, q0, q1, q2, q3]) rfl ⟨rfl, hbl⟩)
end Go.Proofs.YtgmpelhphnmknaaGreat
namespace Go.Proofs.YtgmpelhphnmknaaGreat
open Go Go.RowKit Go.Shelf
theorem ln_four (W : World) (o1 o2 o3 o4 : Obj) : Below W.heap.size W ((((W.alloc o1).alloc o2).alloc o3).alloc o4) ∧ ((((W.alloc o1).alloc o2).alloc o3).alloc o4).heap[W.heap.size]? = some o1 ∧ ((((W.alloc o1).alloc o2).alloc o3).alloc o4).heap[W.heap.size + 1]? = some o2 ∧ ((((W.alloc o1).alloc o2).alloc o3).alloc o4).heap[W.heap.size + 1 + 1]? = some o3 ∧ ((((W.alloc o1).alloc o2).alloc o3).alloc o4).heap[W.heap.size + 1 + 1 + 1]? = some o4 := by
 obtain ⟨h1, h2, h3, h4⟩ := fx_three W o1 o2 o3
 have z3 : (((W.alloc o1).alloc o2).alloc o3).heap.size = W.heap.size + 3 := by simp
 generalize ((W.alloc o1).alloc o2).alloc o3 = V at *
 refine ⟨h1.alloc h1.size o4, ?_, ?_, ?_, ?_⟩
 ·rw [Below.heap_alloc _ _ _ (by omega)]; exact h2
 ·rw [Below.heap_alloc _ _ _ (by omega)]; exact h3
 ·rw [Below.heap_alloc _ _ _ (by omega)]; exact h4
 ·have := heap_alloc_new V o4
  rwa [z3] at this
theorem places_any (z : Int) (a : Option Addr) (n c : Nat) (t : Nat → RW) (C : List ST) (va : Option Addr) (vc B base : Nat) (w : World) (hBw : B ≤ w.heap.size) (hG : RWs B w a n t) (hn : 1 ≤ n ∧ n ≤ 200) (hf : flatB t n = false)
  (hO : w.ownsRow base 204 3 (.slice va C.length vc) C.length (stC C)) (hC : ∀ s ∈ C, s.ok) (hlen : 1 ≤ C.length ∧ C.length ≤ 2400) (hz : -100000 ≤ z ∧ z ≤ 200000) :
  Calls Tryz.prog 63 #[.agg #[.slice a n c, .slice va C.length vc], .int .i64 z] w fun e w' => e = .returned (.tuple #[frV (loP C z), frV (hiP C z)]) ∧ Below w.heap.size w w' := by
 have hst := rws_of_st hO hlen.1
 obtain ⟨h1, h2, h3, h4, h5⟩ := ln_four w (.cells #[.slice a n c, .slice va C.length vc] 139) (.cells #[.int .i64 z] 3) (.cells #[.int .i64 0, .int .i64 0] 68) (.cells #[.int .i64 0, .int .i64 0] 68)
 have HF := Hd (fun W (hb : Below w.heap.size w W) => flat_any a n c t B W (Nat.le_trans hBw hb.size) (hG.below (hb.mono hBw)) hn)
 rw [hf] at HF
 have HBD := Hd (fun W (hb : Below w.heap.size w W) (hq : W.heap[w.heap.size + 1]? = some (.cells #[.int .i64 z] 3)) => bounds_any' z (.slice a n c) C va vc (w.heap.size + 1) w.heap.size W hb.size (hst.below hb) hC hlen hz hq)
 unfold frV spV at HBD
 unfold frV spV
 generalize frN (loP C z).lo (loP C z).hi = a0 at *
 generalize frD (loP C z).lo (loP C z).hi = a1 at *
 generalize frN (hiP C z).lo (hiP C z).hi = b0 at *
 generalize frD (hiP C z).lo (hiP C z).hi = b1 at *
 generalize C.length = m at *
 have HB := Lib.hid h1
 have HS := Lib.hid h2
 have HZ := Lib.hid h3
 have HE := Hd (And.intro h4 h5)
 clear h1 h2 h3 h4 h5 hst hG hO hC hf hlen
 go_enter Tryz.func63, Tryz.ntmps63
 go_upto_region 1 with (fail)
 generalize World.alloc (World.alloc (World.alloc (World.alloc w _) _) _) _ = V at *
 have k0 := cell_of_row _ _ 0 _ _ _ HS.out
 go_upto_region 4 with (go_at_call 105; refine (HF.out _ HB.out).mono ?_; rintro e W1 ⟨rfl, hb1⟩; have HB1 := Hd (HB.out.trans (hb1.mono HB.out.size)); have HS1 := Hd (keep_at HS.out hb1); have HZ1 := Hd (keep_at HZ.out hb1); have HE1 := Hd (And.intro (keep_at HE.out.1 hb1) (keep_at HE.out.2 hb1)); clear hb1 k0 HB HS HZ HE)
 obtain ⟨k0, k1⟩ := cr2 HS1.out
 go_wp2_with (go_at_call 108; refine (HBD.out _ HB1.out HZ1.out).mono ?_; rintro e V2 ⟨rfl, hb5⟩; have HB5 := Hd (HB1.out.trans (hb5.mono HB1.out.size)); have HE5 := Hd (And.intro (keep_at HE1.out.1 hb5) (keep_at HE1.out.2 hb5)); clear hb5 k0 k1; obtain ⟨r0, r1⟩ := cr2 HE5.out.1; obtain ⟨s0, s1⟩ := cr2 HE5.out.2; obtain ⟨f0, f1⟩ := fr2 HE5.out.1; obtain ⟨g0, g1⟩ := fr2 HE5.out.2)
 (have hne : w.heap.size + 1 + 1 ≠ w.heap.size + 1 + 1 + 1 := (by omega); have hr1 := heap_setCell_same _ _ 1 _ _ (.int .i64 a1) (heap_setCell_same V2 _ 0 _ _ (.int .i64 a0) HE5.out.1); have hr2 := ((heap_setCell_other _ ⟨w.heap.size + 1 + 1, 1, none⟩ (w.heap.size + 1 + 1 + 1) (.int .i64 a1) (Ne.symm hne)).trans (heap_setCell_other V2 ⟨w.heap.size + 1 + 1, 0, none⟩ (w.heap.size + 1 + 1 + 1) (.int .i64 a0) (Ne.symm hne))).trans HE5.out.2; have hr3 := heap_setCell_same _ _ 1 _ _ (.int .i64 b1) (heap_setCell_same _ _ 0 _ _ (.int .i64 b0) hr2); have hr4 := ((heap_setCell_other _ ⟨w.heap.size + 1 + 1 + 1, 1, none⟩ (w.heap.size + 1 + 1) (.int .i64 b1) hne).trans (heap_setCell_other _ ⟨w.heap.size + 1 + 1 + 1, 0, none⟩ (w.heap.size + 1 + 1) (.int .i64 b0) hne)).trans hr1; have hbl := (((HB5.out.setCell (p := ⟨w.heap.size + 1 + 1, 0, none⟩) (by dsimp only; omega) (.int .i64 a0)).setCell (p := ⟨w.heap.size + 1 + 1, 1, none⟩) (by dsimp only; omega) (.int .i64 a1)).setCell (p := ⟨w.heap.size + 1 + 1 + 1, 0, none⟩) (by dsimp only; omega) (.int .i64 b0)).setCell (p := ⟨w.heap.size + 1 + 1 + 1, 1, none⟩) (by dsimp only; omega) (.int .i64 b1); generalize World.setCell (World.setCell (World.setCell (World.setCell V2 _ _) _ _) _ _) _ _ = V6 at *; obtain ⟨q0, q1⟩ := cr2 hr4; obtain ⟨q2, q3⟩ := cr2 hr3; exact bodyPost_ret (v := .tuple #[.agg #[.int .i64 a0, .int .i64 a1], .agg #[.int .i64 b0, .int .i64 b1]]) (by simp [results, Tryz.results63, go_sem, q0, q1, q2, q3]) rfl ⟨rfl, hbl⟩)
end Go.Proofs.YtgmpelhphnmknaaGreat
namespace Go.Proofs.YtgmpelhphnmknaaGreat
open Go Go.RowKit Go.Shelf
def OpenRes (a : Option Addr) (n c : Nat) (t : Nat → RW) (base : Nat) (w : World) (e : Ending) (w' : World) : Prop :=
 ∃ C va vc, e = .returned (.tuple #[.agg #[.slice a n c, .slice va C.length vc], .int .i64 0]) ∧ CorOk t n (endsE t n) C ∧ (1 ≤ C.length ∧ C.length ≤ 2400) ∧ w'.ownsRow base 204 3 (.slice va C.length vc) C.length (stC C) ∧ Below w.heap.size w w'
theorem open_any (fv : Value) (a : Option Addr) (n c : Nat) (t : Nat → RW) (B : Nat) (w : World) (hBw : B ≤ w.heap.size) (hT : RWs B w a n t) (hO : GtOk n t) (hc : n ≤ c ∧ c ≤ maxLen) (hf : flatB t n = false) (hs : ∃ s ∈ endsE t n, allB s t n = true) :
  Calls Tryz.prog 61 #[.slice a n c, fv] w (OpenRes a n c t w.heap.size w) := by
 have HB := Hd (al_below w (.cells #[.slice none 0 0, .slice none 0 0] 139))
 have HR := Hd (heap_alloc_new w (.cells #[.slice none 0 0, .slice none 0 0] 139))
 have hn := hO.len
 have HCK := Hd (fun W (hb : Below w.heap.size w W) => lnChecked_any a n c t B W (Nat.le_trans hBw hb.size) (hT.below (hb.mono hBw)) hO)
 have HLN := Hd (fun W (hb : Below w.heap.size w W) => lines_any a n c t B W (Nat.le_trans hBw hb.size) (hT.below (hb.mono hBw)) hO hc hf)
 have HSM := Hd (fun ca cn cc W (hb : Below w.heap.size w W) => some_any a ca n c cn cc t B W (Nat.le_trans hBw hb.size) (hT.below (hb.mono hBw)) (by omega) hf)
 have HFL := Hd (fun W (hb : Below w.heap.size w W) => flat_any a n c t B W (Nat.le_trans hBw hb.size) (hT.below (hb.mono hBw)) (by omega))
 rw [hf] at HFL
 have HPOS := Hd (fun C (h : CorOk t n (endsE t n) C) => show 1 ≤ C.length from by
  obtain ⟨s, h1, h2⟩ := hs
  obtain ⟨c, h3, _⟩ := h.all s h1 h2
  cases C with
  | nil => cases h3
  | cons x l => simp)
 have HRES := Hd (fun C va vc W (h1 : CorOk t n (endsE t n) C) (h2 : 1 ≤ C.length ∧ C.length ≤ 2400) (h3 : W.ownsRow w.heap.size 204 3 (.slice va C.length vc) C.length (stC C)) (h4 : Below w.heap.size w W) => show OpenRes a n c t w.heap.size w (.returned (.tuple #[.agg #[.slice a n c, .slice va C.length vc], .int .i64 0])) W from ⟨C, va, vc, rfl, h1, h2, h3, h4⟩)
 generalize OpenRes a n c t w.heap.size w = RES at *
 clear hT hO hc hf hs
 go_enter Tryz.func61, Tryz.ntmps61
 go_upto_region 1 with (fail)
 generalize World.alloc w _ = V at *
 go_upto_region 3 with (go_at_call 102; refine (HCK.out _ HB.out).mono ?_; rintro e W1 ⟨rfl, hb1⟩; have HB1 := Hd (HB.out.trans (hb1.mono HB.out.size)); have HR1 := Hd (keep_at HR.out hb1); clear hb1 HB HR)
 go_upto_region 4 with (go_at_call 103; refine (HLN.out _ HB1.out).mono ?_; rintro e W2 ⟨C, v, rfl, hcor, hlen, hown, hb2⟩; obtain ⟨va, vc, hv⟩ := own_len hown; subst hv; have HCR := Lib.hid hcor; have hcl := And.intro (HPOS.out C hcor) hlen; have HOW := Hd (own_base hown HB1.out.size); have HB2 := Hd (HB1.out.trans (hb2.mono HB1.out.size)); have HR2 := Hd (keep_at HR1.out hb2); clear hb2 hown hcor hlen HB1 HR1)
 have hb3 := al_below W2 (.cells #[.slice a n c, .slice va C.length vc] 139)
 have HX3 := Hd (heap_alloc_new W2 (.cells #[.slice a n c, .slice va C.length vc] 139))
 have HB3 := Hd (HB2.out.trans (hb3.mono HB2.out.size))
 have HR3 := Hd (keep_at HR2.out hb3)
 have HO3 := Hd (own_below HOW.out hb3)
 clear hb3 HB2 HR2 HOW
 generalize World.alloc W2 _ = W3 at *
 generalize W2.heap.size = x at *
 have HST := Hd (show decide (0 < C.length) = true from decide_eq_true (by omega))
 have HSM := Hd (fun W (hb : Below w.heap.size w W) => HSM.out va C.length vc W hb)
 rw [HST.out] at HSM
 clear HST
 obtain ⟨m, hm⟩ : ∃ m, C.length = m := ⟨_, rfl⟩
 have HRES := Hd (fun W h3 h4 => HRES.out C va vc W HCR.out hcl h3 h4)
 have HCS := Hd (show ∃ cs, stC C = cs from ⟨_, rfl⟩)
 obtain ⟨cs, hcs⟩ := HCS.out
 rw [hm, hcs] at HRES HO3
 rw [hm] at HX3 HSM
 rw [hm]
 obtain ⟨k0, k1⟩ := cr2 HX3.out
 go_upto_region 6 with (go_at_call 104; refine (HSM.out _ HB3.out).mono ?_; rintro e W4 ⟨rfl, hb4⟩; have HX4 := Hd (keep_at HX3.out hb4); have HB4 := Hd (HB3.out.trans (hb4.mono HB3.out.size)); have HR4 := Hd (keep_at HR3.out hb4); have HO4 := Hd (own_below HO3.out hb4); clear hb4 k0 k1 HX3 HB3 HR3 HO3)
 obtain ⟨k0, k1⟩ := cr2 HX4.out
 go_wp2_with (go_at_call 105; refine (HFL.out _ HB4.out).mono ?_; rintro e W5 ⟨rfl, hb5⟩; have HX5 := Hd (keep_at HX4.out hb5); have HB5 := Hd (HB4.out.trans (hb5.mono HB4.out.size)); have HR5 := Hd (keep_at HR4.out hb5); have HO5 := Hd (own_below HO4.out hb5); clear hb5 k0 k1 HX4 HB4 HR4 HO4; obtain ⟨k0, k1⟩ := cr2 HX5.out; obtain ⟨r0, r1⟩ := cr2 HR5.out; obtain ⟨f0, f1⟩ := fr2 HR5.out)
 have hrow := heap_setCell_same _ _ 1 _ _ (.slice va m vc) (heap_setCell_same W5 _ 0 _ _ (.slice a n c) HR5.out)
 have hbl := (HB5.out.setCell (p := ⟨w.heap.size, 0, none⟩) (Nat.le_refl _) (.slice a n c)).setCell (p := ⟨w.heap.size, 1, none⟩) (Nat.le_refl _) (.slice va m vc)
 have hvr := own_off HO5.out HR5.out (by decide)
 have how := own_keep (w' := (W5.setCell ⟨w.heap.size, 0, none⟩ (.slice a n c)).setCell ⟨w.heap.size, 1, none⟩ (.slice va m vc)) HO5.out (fun g hg => (heap_setCell_other _ ⟨w.heap.size, 1, none⟩ g _ (fun e => hvr (by rw [hg, e]))).trans (heap_setCell_other W5 ⟨w.heap.size, 0, none⟩ g _ (fun e => hvr (by rw [hg, e]))))
 generalize World.setCell (World.setCell W5 _ _) _ _ = V6 at *
 obtain ⟨q0, q1⟩ := cr2 hrow
 exact bodyPost_ret (v := .tuple #[.agg #[.slice a n c, .slice va m vc], .int .i64 0]) (by simp [results, Tryz.results61, go_sem, q0, q1]) rfl (HRES.out V6 how hbl)
def AtRes (n : Nat) (t : Nat → RW) (z : Int) (w : World) (e : Ending) (w' : World) : Prop :=
 (∃ C, CorOk t n (endsE t n) C ∧ e = .returned (.tuple #[frV (loP C z), frV (hiP C z), .int .i64 0])) ∧ Below w.heap.size w w'
theorem At_any (z : Int) (a : Option Addr) (n c : Nat) (t : Nat → RW) (B : Nat) (w : World) (hBw : B ≤ w.heap.size) (hT : RWs B w a n t) (hO : GtOk n t) (hc : n ≤ c ∧ c ≤ maxLen) (hf : flatB t n = false) (hs : ∃ s ∈ endsE t n, allB s t n = true) (hz : -100000 ≤ z ∧ z ≤ 200000) :
  Calls Tryz.prog 29 #[.slice a n c, .int .i64 z] w (AtRes n t z w) := by
 obtain ⟨h1, h2, h3, h4⟩ := fx_three w (.cells #[.int .i64 z] 3) (.cells #[.int .i64 0, .int .i64 0] 68) (.cells #[.int .i64 0, .int .i64 0] 68)
 have hn := hO.len
 have HOP := Hd (fun fv W (hb : Below w.heap.size w W) => open_any fv a n c t B W (Nat.le_trans hBw hb.size) (hT.below (hb.mono hBw)) hO hc hf hs)
 have HPL := Hd (fun C va vc base W (hb : Below w.heap.size w W) (hown : W.ownsRow base 204 3 (.slice va C.length vc) C.length (stC C)) (hC : ∀ s ∈ C, s.ok) (hl : 1 ≤ C.length ∧ C.length ≤ 2400) => places_any z a n c t C va vc B base W (Nat.le_trans hBw hb.size) (hT.below (hb.mono hBw)) (by omega) hf hown hC hl hz)
 have HOK := Hd (fun C (h : CorOk t n (endsE t n) C) => show ∀ s ∈ C, s.ok from fun s hs => endsE_ok hO s (h.from' s hs).1)
 have HRES := Hd (fun C W (h1 : CorOk t n (endsE t n) C) (hb : Below w.heap.size w W) => show AtRes n t z w (.returned (.tuple #[frV (loP C z), frV (hiP C z), .int .i64 0])) W from ⟨⟨C, h1, rfl⟩, hb⟩)
 unfold OpenRes at HOP
 generalize AtRes n t z w = RES at *
 have HIN := Hd (withinB_true hz.1 hz.2)
 have HB := Lib.hid h1
 have HZ := Lib.hid h2
 have HE := Hd (And.intro h3 h4)
 clear h1 h2 h3 h4 hT hO hc hf hs hz
 go_enter Tryz.func29, Tryz.ntmps29
 go_upto_region 1 with (fail)
 generalize World.alloc (World.alloc (World.alloc w _) _) _ = V at *
 have z0 := cell_of_row _ _ 0 _ _ _ HZ.out
 go_upto_region 3 with (go_at_call 60; refine (lnIn_any _ _ _ _).mono ?_; rintro e w' ⟨rfl, rfl⟩; rw [HIN.out])
 clear z0
 go_upto_region 4 with (go_at_call 61; refine (HOP.out _ _ HB.out).mono ?_; rintro e W1 ⟨C, va, vc, rfl, hcor, hcl, hown, hb1⟩; have HCR := Lib.hid hcor; have HOW := Lib.hid hown; have HB1 := Hd (HB.out.trans (hb1.mono HB.out.size)); have HZ1 := Hd (keep_at HZ.out hb1); have HE1 := Hd (And.intro (keep_at HE.out.1 hb1) (keep_at HE.out.2 hb1)); clear hb1 hcor hown HB HZ HE HOP)
 have hb2 := al_below W1 (.cells #[.slice a n c, .slice va C.length vc] 139)
 have HX2 := Hd (heap_alloc_new W1 (.cells #[.slice a n c, .slice va C.length vc] 139))
 have HB2 := Hd (HB1.out.trans (hb2.mono HB1.out.size))
 have HZ2 := Hd (keep_at HZ1.out hb2)
 have HE2 := Hd (And.intro (keep_at HE1.out.1 hb2) (keep_at HE1.out.2 hb2))
 have HO2 := Hd (own_below HOW.out hb2)
 clear hb2 HB1 HZ1 HE1 HOW
 generalize World.alloc W1 _ = W2 at *
 generalize W1.heap.size = x at *
 have HPL := Hd (HPL.out C va vc _ W2 HB2.out HO2.out (HOK.out C HCR.out) hcl)
 have HRES := Hd (fun W hb => HRES.out C W HCR.out hb)
 clear HOK HCR hcl HO2
 unfold frV spV at HPL HRES
 generalize frN (loP C z).lo (loP C z).hi = a0 at *
 generalize frD (loP C z).lo (loP C z).hi = a1 at *
 generalize frN (hiP C z).lo (hiP C z).hi = b0 at *
 generalize frD (hiP C z).lo (hiP C z).hi = b1 at *
 generalize C.length = m at *
 obtain ⟨k0, k1⟩ := cr2 HX2.out
 have z0 := cell_of_row _ _ 0 _ _ _ HZ2.out
 go_upto_region 7 with (go_at_call 63; refine HPL.out.mono ?_; rintro e W3 ⟨rfl, hb3⟩; have HB3 := Hd (HB2.out.trans (hb3.mono HB2.out.size)); have HE3 := Hd (And.intro (keep_at HE2.out.1 hb3) (keep_at HE2.out.2 hb3)); clear hb3 k0 k1 z0 HB2 HE2 HZ2 HX2 HPL)
 have hb4 : Below W3.heap.size W3 ((W3.alloc (.cells #[.int .i64 a0, .int .i64 a1] 68)).alloc (.cells #[.int .i64 b0, .int .i64 b1] 68)) := ((Below.refl _ W3).alloc (Nat.le_refl _) _).alloc (by simp) _
 have e1 : ((W3.alloc (.cells #[.int .i64 a0, .int .i64 a1] 68)).alloc (.cells #[.int .i64 b0, .int .i64 b1] 68)).heap[W3.heap.size]? = some (.cells #[.int .i64 a0, .int .i64 a1] 68) := (Below.heap_alloc _ _ _ (by simp)).trans (heap_alloc_new W3 _)
 have e2 := heap_alloc_new (W3.alloc (.cells #[.int .i64 a0, .int .i64 a1] 68)) (.cells #[.int .i64 b0, .int .i64 b1] 68)
 rw [show (W3.alloc (.cells #[.int .i64 a0, .int .i64 a1] 68)).heap.size = W3.heap.size + 1 from by simp] at e2
 have hwx : w.heap.size + 1 + 1 < W3.heap.size := (blkL HE3.out.2)
 have HB5 := Hd (HB3.out.trans (hb4.mono HB3.out.size))
 have HE5 := Hd (And.intro (keep_at HE3.out.1 hb4) (keep_at HE3.out.2 hb4))
 clear hb4 HB3 HE3
 generalize World.alloc (World.alloc W3 _) _ = V2 at *
 generalize W3.heap.size = y at *
 obtain ⟨k0, k1⟩ := cr2 e1
 obtain ⟨m0, m1⟩ := cr2 e2
 clear e1 e2
 obtain ⟨r0, r1⟩ := cr2 HE5.out.1; obtain ⟨s0, s1⟩ := cr2 HE5.out.2; obtain ⟨f0, f1⟩ := fr2 HE5.out.1; obtain ⟨g0, g1⟩ := fr2 HE5.out.2
 go_region
 have hne : w.heap.size + 1 ≠ w.heap.size + 1 + 1 := by omega
 have hr1 := heap_setCell_same _ _ 1 _ _ (.int .i64 a1) (heap_setCell_same V2 _ 0 _ _ (.int .i64 a0) HE5.out.1)
 have hr2 := ((heap_setCell_other _ ⟨w.heap.size + 1, 1, none⟩ (w.heap.size + 1 + 1) (.int .i64 a1) (Ne.symm hne)).trans (heap_setCell_other V2 ⟨w.heap.size + 1, 0, none⟩ (w.heap.size + 1 + 1) (.int .i64 a0) (Ne.symm hne))).trans HE5.out.2
 have hr3 := heap_setCell_same _ _ 1 _ _ (.int .i64 b1) (heap_setCell_same _ _ 0 _ _ (.int .i64 b0) hr2)
 have hr4 := ((heap_setCell_other _ ⟨w.heap.size + 1 + 1, 1, none⟩ (w.heap.size + 1) (.int .i64 b1) hne).trans (heap_setCell_other _ ⟨w.heap.size + 1 + 1, 0, none⟩ (w.heap.size + 1) (.int .i64 b0) hne)).trans hr1
 have hbl := ((((HB5.out.setCell (p := ⟨w.heap.size + 1, 0, none⟩) (by dsimp only; omega) (.int .i64 a0)).setCell (p := ⟨w.heap.size + 1, 1, none⟩) (by dsimp only; omega) (.int .i64 a1)).setCell (p := ⟨w.heap.size + 1 + 1, 0, none⟩) (by dsimp only; omega) (.int .i64 b0)).setCell (p := ⟨w.heap.size + 1 + 1, 1, none⟩) (by dsimp only; omega) (.int .i64 b1)).drew
 rw [← heap_drew] at hr3 hr4
 generalize World.drew _ = V6 at *
 obtain ⟨q0, q1⟩ := cr2 hr4
 obtain ⟨q2, q3⟩ := cr2 hr3
 go_wp2
 exact bodyPost_ret (v := .tuple #[.agg #[.int .i64 a0, .int .i64 a1], .agg #[.int .i64 b0, .int .i64 b1], .int .i64 0]) (by simp [results, Tryz.results29, go_sem, q0, q1, q2, q3]) rfl (HRES.out V6 hbl)
end Go.Proofs.YtgmpelhphnmknaaGreat
namespace Go.Proofs.YtgmpelhphnmknaaGreat
open Go Go.RowKit Go.Shelf
theorem exN_hit {lt : SV → SV → Bool} {d : SV → Int} (hlt : ∀ p q, lt p q = decide (d p * q.hi < d q * p.hi)) {L : Nat → SV} : ∀ {k : Nat}, (∀ i, i ≤ k → 0 ≤ d (L i) ∧ 1 ≤ (L i).hi) → (0 ≤ d (exN lt L k) ∧ 1 ≤ (exN lt L k).hi) ∧ ((∃ i, i ≤ k ∧ d (L i) = 0) → d (exN lt L k) = 0)
 | 0, h => ⟨h 0 (Nat.le_refl _), fun ⟨i, hi, h0⟩ => by
  obtain rfl : i = 0 := by omega
  exact h0⟩
 | k + 1, h => by
  obtain ⟨⟨h1, h2⟩, h3⟩ := exN_hit hlt (L := L) (k := k) (fun i hi => h i (by omega))
  have h4 := h (k + 1) (Nat.le_refl _)
  unfold exN
  cases hc : lt (L (k + 1)) (exN lt L k) with
  | true =>
   rw [if_pos rfl]
   refine ⟨h4, fun ⟨i, hi, h0⟩ => ?_⟩
   rw [hlt] at hc
   have hc := of_decide_eq_true hc
   by_cases e : i = k + 1
   ·rw [← e]; exact h0
   ·have h5 := h3 ⟨i, by omega, h0⟩
    rw [h5, Int.zero_mul] at hc
    have := Int.mul_nonneg h4.1 (show 0 ≤ (exN lt L k).hi by omega)
    omega
  | false =>
   rw [if_neg (by simp)]
   refine ⟨⟨h1, h2⟩, fun ⟨i, hi, h0⟩ => ?_⟩
   rw [hlt] at hc
   have hc := of_decide_eq_false hc
   by_cases e : i = k + 1
   ·rw [← e, h0, Int.zero_mul] at hc
    have h6 : d (exN lt L k) * (L i).hi ≤ 0 := by omega
    have h7 : 1 ≤ (L i).hi := by rw [e]; exact h4.2
    rcases Int.lt_or_eq_of_le h1 with h8 | h8
    ·have := Int.mul_pos h8 (show 0 < (L i).hi by omega)
     omega
    ·exact h8.symm
   ·exact h3 ⟨i, by omega, h0⟩
theorem lt_by (K : Int) (p q : SV) : ltF p q = decide ((p.lo - K * p.hi) * q.hi < (q.lo - K * q.hi) * p.hi) := by
 unfold ltF
 have e : (p.lo - K * p.hi) * q.hi - (q.lo - K * q.hi) * p.hi = p.lo * q.hi - q.lo * p.hi := by
  rw [Int.sub_mul, Int.sub_mul, Int.mul_right_comm K p.hi q.hi]
  omega
 by_cases h : p.lo * q.hi < q.lo * p.hi
 ·rw [decide_eq_true h, decide_eq_true (by omega)]
 ·rw [decide_eq_false h, decide_eq_false (by omega)]
theorem gt_by (K : Int) (p q : SV) : gtF p q = decide ((K * p.hi - p.lo) * q.hi < (K * q.hi - q.lo) * p.hi) := by
 unfold gtF
 have e : (K * p.hi - p.lo) * q.hi - (K * q.hi - q.lo) * p.hi = q.lo * p.hi - p.lo * q.hi := by
  rw [Int.sub_mul, Int.sub_mul, Int.mul_right_comm K p.hi q.hi]
  omega
 by_cases h : q.lo * p.hi < p.lo * q.hi
 ·rw [decide_eq_true h, decide_eq_true (by omega)]
 ·rw [decide_eq_false h, decide_eq_false (by omega)]
theorem fr_whole {K : Int} {p : SV} (h : p.lo = K * p.hi) (h1 : 1 ≤ p.hi) : frV p = spV K 1 := by
 unfold frV frN frD
 rw [h]
 have hg : (Nat.gcd (K * p.hi).natAbs p.hi.natAbs : Int) = p.hi := by
  rw [Int.natAbs_mul, Nat.gcd_mul_left_left]
  omega
 rw [hg, Int.mul_tdiv_cancel _ (by omega), Int.tdiv_self (by omega)]
def tK (i : Nat) : RW := if i = 0 then ⟨0, 0, 10⟩ else if i = 1 then ⟨100, 20, 30⟩ else ⟨200, 30, 60⟩
theorem tK_ok : GtOk 3 tK := ⟨by decide, fun i hi => by
 match i, hi with
 | 0, _ => decide
 | 1, _ => decide
 | 2, _ => decide, fun i hi => by
 match i, hi with
 | 0, _ => decide
 | 1, _ => decide
 | 2, _ => decide⟩
theorem tK_flat : flatB tK 3 = false := by kernel_rfl
def slK : ST := ⟨10, 1000, 100⟩
def shK : ST := ⟨30, 0, 100⟩
theorem tK_some : ∀ s, s = slK ∨ s = shK → s ∈ endsE tK 3 ∧ allB s tK 3 = true := by
 rintro s (rfl | rfl)
 ·exact ⟨by decide, by kernel_rfl⟩
 ·exact ⟨by decide, by kernel_rfl⟩
def chkK (s : ST) : Bool := !allB s tK 3 || (decide (40 * s.dn ≤ atN s 300) && decide (atN s 300 ≤ 90 * s.dn) && (!(decide (frN s.sl s.dn = 1) && decide (frD s.sl s.dn = 10) && decide (frN s.st s.dn = 10) && decide (frD s.st s.dn = 1)) || decide (atN s 300 = 40 * s.dn)) && (!(decide (frN s.sl s.dn = 3) && decide (frD s.sl s.dn = 10) && decide (frN s.st s.dn = 0) && decide (frD s.st s.dn = 1)) || decide (atN s 300 = 90 * s.dn)))
theorem chkK_all : (endsE tK 3).all chkK = true := by kernel_rfl
theorem chkK_of {c : ST} (h1 : c ∈ endsE tK 3) (h2 : allB c tK 3 = true) : (40 * c.dn ≤ atN c 300 ∧ atN c 300 ≤ 90 * c.dn) ∧ (lnV c = lnV slK → atN c 300 = 40 * c.dn) ∧ (lnV c = lnV shK → atN c 300 = 90 * c.dn) := by
 have h := List.all_eq_true.1 chkK_all c h1
 unfold chkK at h
 rw [h2] at h
 simp only [Bool.not_true, Bool.false_or, Bool.and_eq_true, decide_eq_true_eq, Bool.or_eq_true, Bool.not_eq_true', Bool.and_eq_false_imp] at h
 obtain ⟨⟨⟨a1, a2⟩, a3⟩, a4⟩ := h
 refine ⟨⟨a1, a2⟩, fun e => ?_, fun e => ?_⟩
 ·have e2 : lnV slK = .agg #[.int .i64 1, .int .i64 10, .int .i64 10, .int .i64 1] := by kernel_rfl
  rw [e2] at e
  unfold lnV at e
  simp only [Value.agg.injEq, List.toArray_inj, Array.mk.injEq, List.cons.injEq, Value.int.injEq, true_and, and_true] at e
  obtain ⟨b1, b2, b3, b4⟩ := e
  rcases a3 with a3 | a3
  ·exfalso
   simp [b1, b2, b3, b4] at a3
  ·exact a3
 ·have e2 : lnV shK = .agg #[.int .i64 3, .int .i64 10, .int .i64 0, .int .i64 1] := by kernel_rfl
  rw [e2] at e
  unfold lnV at e
  simp only [Value.agg.injEq, List.toArray_inj, Array.mk.injEq, List.cons.injEq, Value.int.injEq, true_and, and_true] at e
  obtain ⟨b1, b2, b3, b4⟩ := e
  rcases a4 with a4 | a4
  ·exfalso
   simp [b1, b2, b3, b4] at a4
  ·exact a4
theorem plC_at {C : List ST} {z : Int} {i : Nat} (hi : i < C.length) : ∃ c ∈ C, plC C z i = ⟨atN c z, c.dn⟩ := by
 refine ⟨C[i], List.getElem_mem hi, ?_⟩
 unfold plC
 rw [List.getD_eq_getElem?_getD, List.getElem?_eq_getElem hi]
 rfl
theorem known_places {C : List ST} (h : CorOk tK 3 (endsE tK 3) C) : frV (loP C 300) = spV 40 1 ∧ frV (hiP C 300) = spV 90 1 := by
 obtain ⟨s1, s2⟩ := tK_some slK (.inl rfl)
 obtain ⟨c1, c2, c3⟩ := h.all _ s1 s2
 obtain ⟨u1, u2⟩ := tK_some shK (.inr rfl)
 obtain ⟨d1, d2, d3⟩ := h.all _ u1 u2
 have hpos : 0 < C.length := by
  cases C with
  | nil => cases c2
  | cons x l => simp
 have hch : ∀ c ∈ C, (40 * c.dn ≤ atN c 300 ∧ atN c 300 ≤ 90 * c.dn) ∧ 1 ≤ c.dn := fun c hc => ⟨(chkK_of (h.from' c hc).1 (h.from' c hc).2).1, (endsE_ok tK_ok c (h.from' c hc).1).dn.1⟩
 have hix : ∀ c ∈ C, ∃ i, i ≤ C.length - 1 ∧ plC C 300 i = ⟨atN c 300, c.dn⟩ := fun c hc => by
  obtain ⟨i, hi, he⟩ := List.getElem_of_mem hc
  refine ⟨i, by omega, ?_⟩
  unfold plC
  rw [List.getD_eq_getElem?_getD, List.getElem?_eq_getElem hi, he]
  rfl
 constructor
 ·obtain ⟨i, hi, he⟩ := hix c1 c2
  have hv := (chkK_of (h.from' c1 c2).1 (h.from' c1 c2).2).2.1 c3
  obtain ⟨⟨h1, h2⟩, h3⟩ := exN_hit (lt := ltF) (d := fun p => p.lo - 40 * p.hi) (lt_by 40) (L := plC C 300) (k := C.length - 1) (fun j hj => by
   obtain ⟨c, hc, e⟩ := plC_at (C := C) (z := 300) (i := j) (by omega)
   rw [e]
   have := hch c hc
   exact ⟨by dsimp only; omega, this.2⟩)
  have h4 := h3 ⟨i, hi, by rw [he]; dsimp only; omega⟩
  exact fr_whole (show (loP C 300).lo = 40 * (loP C 300).hi from by unfold loP; omega) h2
 ·obtain ⟨i, hi, he⟩ := hix d1 d2
  have hv := (chkK_of (h.from' d1 d2).1 (h.from' d1 d2).2).2.2 d3
  obtain ⟨⟨h1, h2⟩, h3⟩ := exN_hit (lt := gtF) (d := fun p => 90 * p.hi - p.lo) (gt_by 90) (L := plC C 300) (k := C.length - 1) (fun j hj => by
   obtain ⟨c, hc, e⟩ := plC_at (C := C) (z := 300) (i := j) (by omega)
   rw [e]
   have := hch c hc
   exact ⟨by dsimp only; omega, this.2⟩)
  have h4 := h3 ⟨i, hi, by rw [he]; dsimp only; omega⟩
  exact fr_whole (show (hiP C 300).lo = 90 * (hiP C 300).hi from by unfold hiP; omega) h2
theorem At_known (a : Option Addr) (c B : Nat) (w : World) (hBw : B ≤ w.heap.size) (hT : RWs B w a 3 tK) (hc : 3 ≤ c ∧ c ≤ maxLen) :
  Calls Tryz.prog 29 #[.slice a 3 c, .int .i64 300] w fun e w' => e = .returned (.tuple #[spV 40 1, spV 90 1, .int .i64 0]) ∧ Below w.heap.size w w' := by
 refine (At_any 300 a 3 c tK B w hBw hT tK_ok hc tK_flat ⟨slK, tK_some slK (.inl rfl)⟩ (by decide)).mono ?_
 rintro e w' ⟨⟨C, h1, rfl⟩, hb⟩
 obtain ⟨e1, e2⟩ := known_places h1
 exact ⟨by rw [e1, e2], hb⟩
end Go.Proofs.YtgmpelhphnmknaaGreat
