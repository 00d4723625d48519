/- Texts put together: ToLnI, ToLnJ, ToLnK. -/
import Derived.Test.YtgmpelhphnmknaaGreatQaz
import Derived.Maps.OwnIn
set_option maxRecDepth 100000
set_option maxHeartbeats 8000000
set_option linter.unusedVariables false
set_option linter.unusedSimpArgs false
namespace Go.Proofs.YtgmpelhphnmknaaGreat
open Go Go.RowKit Go.Shelf
attribute [local go_sem] Oper.semAt_some
theorem info_straight : (Tryz.prog.info? 204).map (fun i => (i.zero, i.size, i.bytes)) = some (some (.agg #[.int .i64 0, .int .i64 0, .int .i64 0]), 3, 24) := by kernel_rfl
theorem st_news (W : World) (x y z : Int) : ∀ j u, ([.int .i64 x, .int .i64 y, .int .i64 z] : List Value)[j]? = some u → (W.alloc (.cells #[.int .i64 x, .int .i64 y, .int .i64 z] 204)).cell? ((⟨W.heap.size, 0, none⟩ : Addr).add j) = some u := by
 intro j u h
 have hr := heap_alloc_new W (.cells #[.int .i64 x, .int .i64 y, .int .i64 z] 204)
 have := cell_of_row _ _ j _ _ _ hr
 rw [List.getElem?_toArray, h] at this
 rw [← this]
 cases j with
 | zero => rfl
 | succ j => simp [Addr.add]
theorem st_one (x y z : Int) : ∀ u ∈ ([.int .i64 x, .int .i64 y, .int .i64 z] : List Value), u.oneCell' = true := by
 intro u hu
 simp at hu
 rcases hu with rfl | rfl | rfl <;> rfl
theorem lines_any (a : Option Addr) (n c : Nat) (t : Nat → RW) (B : Nat) (w : World) (hBw : B ≤ w.heap.size) (hT : RWs B w a n t) (hO : GtOk n t) (hc : n ≤ c ∧ c ≤ maxLen) (hf : flatB t n = false) :
  Calls Tryz.prog 103 #[.slice a n c] w fun e w' => ∃ C v, e = .returned (.agg #[.slice a n c, v]) ∧ CorOk t n (endsE t n) C ∧ C.length ≤ 2400 ∧ w'.ownsRow w.heap.size 204 3 v C.length (stC C) ∧ Below w.heap.size w w' := by
 have HF := Hd (fun W (hb : Below w.heap.size w W) => flat_any a n c t B W (Nat.le_trans hBw hb.size) (hT.below (hb.mono hBw)) (by have := hO.len; omega))
 rw [hf] at HF
 have HE := Hd (fun W => ends_any a n c W)
 have HSQ := Hd (fun q W (hb : B ≤ W.heap.size) (hq : GlAt B a n c t q W) => ends_seq a n c t B q W hb hq hO hc)
 have HLN := Hd (fun s W (hs : s.ok) => line_any s W hs)
 have HAL := Hd (fun s cv W (hb : B ≤ W.heap.size) (hr : RWs B W a n t) (hs : s.ok) => all_any s a n c cv t B W hb hr hO hs)
 have HOK := Hd (endsE_ok hO)
 have HLEN := Hd (endsE_len t n)
 have HNL := Lib.hid hO.len
 have HRW := Lib.hid hT
 have HCM := Lib.hid hc
 clear hT hO hc hf
 refine (callsIn_wide (n := 6)).1 ?_
 refine callsIn_of_wp_marks Tryz.func103 rfl trivial ?_ rfl
 simp only [Tryz.ntmps103, List.size_toArray, List.length_cons, List.length_nil, Nat.reduceAdd, Nat.reduceSub, Array.replicate_succ, Array.replicate_zero, List.push_toArray, List.append_toArray, List.nil_append, List.cons_append]
 refine wpIn_wide.2 ?_
 go_upto_region 2 with (fail)
 have hV : Below w.heap.size w ((w.alloc (.cells #[.slice none 0 0, .slice none 0 0] 139)).alloc (.cells #[.slice a n c, .slice none 0 0] 139)) := ((Below.refl _ w).alloc (Nat.le_refl _) _).alloc (by simp) _
 have e1 : ((w.alloc (.cells #[.slice none 0 0, .slice none 0 0] 139)).alloc (.cells #[.slice a n c, .slice none 0 0] 139)).heap[w.heap.size]? = some (.cells #[.slice none 0 0, .slice none 0 0] 139) := (Below.heap_alloc _ _ _ (by simp)).trans (heap_alloc_new w _)
 have e2 := heap_alloc_new (w.alloc (.cells #[.slice none 0 0, .slice none 0 0] 139)) (.cells #[.slice a n c, .slice none 0 0] 139)
 rw [show (w.alloc (.cells #[.slice none 0 0, .slice none 0 0] 139)).heap.size = w.heap.size + 1 from by simp] at e2
 generalize World.alloc (World.alloc w _) _ = V at *
 have HV := Lib.hid hV
 have HE1 := Lib.hid e1
 have HE2 := Lib.hid e2
 have k0 := cell_of_row _ _ 0 _ _ _ HE2.out
 clear hV e1 e2
 go_upto_region 4 with (go_at_call 105; refine (HF.out _ HV.out).mono ?_; rintro e W1 ⟨rfl, hb1⟩; have HW1 := Hd (HV.out.trans (hb1.mono HV.out.size)); have HR1 := Hd (keep_at HE1.out hb1); have HO1 := Hd (keep_at HE2.out hb1); clear hb1 HE1 HE2 k0 HV)
 have hmm := @run_makeMap Tryz.prog
 go_upto_region 5 with (fail)
 clear hmm
 have hb2 : Below W1.heap.size W1 ((W1.alloc (.map #[] 0)).alloc (.cells #[.map (some W1.heap.size)] 249)) := ((Below.refl _ W1).alloc (Nat.le_refl _) _).alloc (by simp) _
 have e3 : ((W1.alloc (.map #[] 0)).alloc (.cells #[.map (some W1.heap.size)] 249)).heap[W1.heap.size]? = some (.map #[] 0) := (Below.heap_alloc _ _ _ (by simp)).trans (heap_alloc_new W1 _)
 have e4 := heap_alloc_new (W1.alloc (.map #[] 0)) (.cells #[.map (some W1.heap.size)] 249)
 rw [show (W1.alloc (.map #[] 0)).heap.size = W1.heap.size + 1 from by simp] at e4
 have HW2 := Hd (HW1.out.trans (hb2.mono HW1.out.size))
 have HR2 := Hd (keep_at HR1.out hb2)
 have HO2 := Hd (keep_at HO1.out hb2)
 have l2 := (blkL HO1.out)
 clear hb2 HR1 HO1
 generalize World.alloc (World.alloc W1 _) _ = W2 at *
 have HM2 := Lib.hid e3
 have HS2 := Lib.hid e4
 clear e3 e4
 have s1 := HW1.out.size
 generalize W1.heap.size = mb at *
 have k0 := cell_of_row _ _ 0 _ _ _ HO2.out
 go_wp2_with (go_at_call 151; refine (HE.out _).mono ?_; rintro e W3 ⟨rfl, hbx, hb3⟩; have HBX := Lib.hid hbx; have HB3 := Lib.hid hb3; clear hbx hb3 k0)
 have hB3 := HB3.out
 have hw3 : Below w.heap.size w W3 := HW2.out.trans (hB3.mono HW2.out.size)
 have hm2 := (blkL HM2.out)
 have hs2 := (blkL HS2.out)
 have hr2 := (blkL HR2.out)
 have ho2 := (blkL HO2.out)
 have hz3 := hB3.size
 have hq3 := (blkL HBX.out)
 have hw0 := HW2.out.size
 have hQ3 : GlAt B a n c t W2.heap.size W3 := ⟨HBX.out, HRW.out.below (hw3.mono hBw)⟩
 have haB : ∀ b o, a = some ⟨b, o, none⟩ → b < B := fun b o e => by
  rcases HRW.out with h | ⟨b', o', h1, h2, _⟩
  ·have := HNL.out; omega
  ·rw [e] at h1; injection h1 with h1; injection h1 with h1; omega
 have hT0 : LinT (.slice a n c) n t w.heap.size w.heap.size (w.heap.size + 1) (mb + 1) mb (fun b => b = w.heap.size ∨ b = w.heap.size + 1 ∨ b = mb + 1 ∨ b = mb) [] W3 :=
  ⟨.inl rfl, .inr (.inl rfl), .inr (.inr (.inl rfl)), .inr (.inr (.inr rfl)), keep_at HR2.out hB3, keep_at HS2.out hB3, [], .slice none 0 0, 0, .map [], ⟨keep_at HO2.out hB3, ⟨rfl, .inl ⟨rfl, rfl⟩⟩, fun g h => (by cases h), SeenAt.start (keep_at HM2.out hB3), ⟨Nat.le_refl _, Nat.le_refl _⟩, CorOk.start t n⟩⟩
 have hRlt : ∀ b, GlR a W2.heap.size b → b < W3.heap.size := by
  rintro b (h | ⟨o, h⟩)
  ·omega
  ·have := haB b o h; omega
 have hmbs : mb + 1 < W2.heap.size := hs2
 refine wp_seqB (P := Tryz.prog) rfl (enters_of Tryz.func188 (by kernel_rfl) rfl) (HSQ.out _ W3 (by omega) hQ3) hRlt w hw3 (fun _ => rfl)
  (fun b => b = w.heap.size ∨ b = w.heap.size + 1 ∨ b = mb + 1 ∨ b = mb) (by
   rintro b (h | h | h | h) <;> exact ⟨by omega, by
    rintro (h2 | ⟨o, h2⟩)
    ·omega
    ·have := haB b o h2; omega, by omega⟩)
  (fun X xs W => LinT (.slice a n c) n t w.heap.size w.heap.size (w.heap.size + 1) (mb + 1) mb X xs W) (fun _ _ _ _ h hk => h.keep hk) hT0
  (fun x q => ⟨#[.slice a n c, undef, .pointer (some ⟨w.heap.size, 0, none⟩), .pointer (some ⟨w.heap.size + 1, 0, none⟩), .pointer (some ⟨mb + 1, 0, none⟩), .pointer (some ⟨q, 0, none⟩), undef, .slice a n c, .agg #[.slice a n c], .agg #[.slice a n c, .slice none 0 0], .pointer (some ⟨w.heap.size + 1, 0, none⟩), .agg #[.slice a n c], .bool false, undef, .map (some mb), .pointer (some ⟨w.heap.size + 1, 0, none⟩), .agg #[.slice a n c], .func (.func 188) #[] #[.pointer (some ⟨W2.heap.size, 0, none⟩)], .agg #[.int .i64 x.sl, .int .i64 x.st, .int .i64 x.dn], undef, undef, undef, undef, undef, undef, undef, undef, undef, undef, undef, undef, undef, undef, undef, undef, undef, undef, undef, undef], []⟩) (fun x => .cells #[.int .i64 x.sl, .int .i64 x.st, .int .i64 x.dn] 204) ?hassign ?hbody ?hdone
 case hassign =>
  intro l x W K hK
  unfold ST.val
  gi_wp2
  exact hK
 case hbody =>
  intro l pre x O X W q hz hq hm hT hb hrr hnx
  have hxE : x ∈ endsE t n := by
   obtain ⟨u, hu⟩ := hnx
   rw [← hu]
   simp
  have hxo := HOK.out x hxE
  have hpl : pre.length < 2400 := by
   have h1 := hnx.length_le
   have h2 := HLEN.out
   have h3 := HNL.out
   have h4 : 4 * n * n ≤ 4 * 24 * 24 := Nat.mul_le_mul (Nat.mul_le_mul_left 4 h3.2) h3.2
   rw [List.length_append] at h1
   simp at h1
   omega
  obtain ⟨C, v, k, D, hS⟩ := hT.st
  obtain ⟨kl, hkl⟩ := lnV_key hxo
  have HL := Hd (fun W => HLN.out x W hxo)
  have HA := Hd (fun cv W (h1 : B ≤ W.heap.size) (h2 : RWs B W a n t) => HAL.out x cv W h1 h2 hxo)
  have HM := Lib.hid hm
  have HT := Lib.hid hT
  have HS := Lib.hid hS
  have HKL := Lib.hid hkl
  have HB := Lib.hid hb
  have HQX := Lib.hid hq
  obtain ⟨l0, l1, l2, l3, hlv⟩ : ∃ l0 l1 l2 l3 : Int, lnV x = .agg #[.int .i64 l0, .int .i64 l1, .int .i64 l2, .int .i64 l3] := ⟨_, _, _, _, rfl⟩
  rw [hlv] at HL
  have HLV := Lib.hid hlv
  clear hlv
  obtain ⟨q0, q1, q2⟩ := cr3 hq
  simp only [hnq] at q0 q1 q2
  clear hT0 hm hT hS hkl hb hq hnx hrr hQ3 hRlt
  gi_upto_region 8 with (refine ⟨trivial, ?_⟩; refine (CallsIn.inRound l (callsIn_wide.2 (HL.out _))).mono ?_; rintro e W1 ⟨rfl, hb1⟩; have HB1 := Lib.hid hb1; clear hb1 q0 q1 q2)
  have hb2 := al_below W1 (.cells #[.int .i64 l0, .int .i64 l1, .int .i64 l2, .int .i64 l3] 253)
  have HKX := Hd (heap_alloc_new W1 (.cells #[.int .i64 l0, .int .i64 l1, .int .i64 l2, .int .i64 l3] 253))
  have HB2 := Hd (HB1.out.trans (hb2.mono HB1.out.size))
  clear hb2 HB1
  generalize World.alloc W1 _ = W4 at *
  generalize W1.heap.size = r at *
  have hkeep : ∀ b, X b → W4.heap[b]? = W.heap[b]? := fun b hb => HB2.out.block b (HM.out.lt hb)
  have hsx := (hkeep _ HT.out.xs).trans HT.out.sbx
  have hox := (hkeep _ HT.out.xo).trans HS.out.out
  have hqx := keep_at HQX.out HB2.out
  have m0 := cell_of_row _ _ 0 _ _ _ hsx
  have o0 := cell_of_row _ _ 0 _ _ _ hox
  have o1 := (cell_of_row _ _ 1 _ _ _ hox).trans (show _ = some v from rfl)
  obtain ⟨q0, q1, q2⟩ := cr3 hqx
  obtain ⟨r0, r1, r2, r3⟩ := cr4 HKX.out
  have hlk := (HS.out.seen.kept (hkeep _ HT.out.xm)).look HKL.out
  rw [HLV.out] at hlk
  cases hh : Maps.has D kl with
  | true =>
   rw [hh] at hlk
   gi_wp2
   refine ⟨trivial, ?_⟩
   gi_wp2
   exact LinT.skip HM.out HT.out HS.out HB2.out (fun _ => HS.out.seen.keys _ _ HKL.out hh)
  | false =>
   rw [hh] at hlk
   have hbw4 := HB.out.trans (HB2.out.mono HB.out.size)
   have HA4 := Hd (HA.out v W4 (Nat.le_trans hBw hbw4.size) (HRW.out.below (hbw4.mono hBw)))
   cases ha : allB x t n with
   | false =>
    rw [ha] at HA4
    gi_wp2_with (refine ⟨trivial, ?_⟩; refine (CallsIn.inRound l (callsIn_wide.2 HA4.out)).mono ?_; rintro e W5 ⟨rfl, hb5⟩; have HB5 := Hd (HB2.out.trans (hb5.mono HB2.out.size)); clear hb5 m0 o0 o1 q0 q1 q2 r0 r1 r2 r3)
    exact LinT.skip HM.out HT.out HS.out HB5.out (fun h => by rw [ha] at h; cases h)
   | true =>
    rw [ha] at HA4
    gi_upto_region 9 with (refine ⟨trivial, ?_⟩; refine (CallsIn.inRound l (callsIn_wide.2 HA4.out)).mono ?_; rintro e W5 ⟨rfl, hb5⟩; have HB5 := Hd (HB2.out.trans (hb5.mono HB2.out.size)); have HKX5 := Hd (keep_at HKX.out hb5); clear hb5 m0 o0 o1 q0 q1 q2 r0 r1 r2 r3)
    clear hkeep hsx hox hqx hlk HKX HB2 HA4
    have hkeep : ∀ b, X b → W5.heap[b]? = W.heap[b]? := fun b hb => HB5.out.block b (HM.out.lt hb)
    have hsx := (hkeep _ HT.out.xs).trans HT.out.sbx
    have hox := (hkeep _ HT.out.xo).trans HS.out.out
    have hqx := keep_at HQX.out HB5.out
    have hown := (HS.out.seen.kept (hkeep _ HT.out.xm)).own
    have m0 := cell_of_row _ _ 0 _ _ _ hsx
    obtain ⟨r0, r1, r2, r3⟩ := cr4 HKX5.out
    have hkl2 := HKL.out
    rw [HLV.out] at hkl2
    have hkm : k < maxLen := by
     have := HS.out.cnt
     unfold maxLen
     omega
    obtain ⟨W6, hrun, hown6, hg6⟩ := hown.update seen_law Tryz.underlying249 hkm hkl2 (val := .bool true) (d := .lit (.bool true)) (ps := []) rfl
    gi_upto_region 10 with (fail)
    clear m0 r0 r1 r2 r3 hrun
    have HOW6 := Lib.hid hown6
    have HG6 := Lib.hid hg6
    have lx6 := hg6.size
    have hvo : W6.ownsRow w.heap.size 204 3 v C.length (stC C) := (own_keep HS.out.own (fun g hg => hkeep g (HS.out.mine g hg))).kept hg6 (.inr (fun e => by
     obtain ⟨es, clock, h1, _⟩ := hown
     have hv := (own_keep HS.out.own (fun g hg => hkeep g (HS.out.mine g hg)) : W5.ownsRow _ _ _ _ _ _)
     rcases hv.2 with ⟨rfl, _⟩ | ⟨g, cap, cur, rfl, _, hg, _⟩
     ·cases e
     ·simp only [Value.ownBlock, Option.some.injEq] at e
      subst e
      rw [h1] at hg
      cases hg))
    have hox6 := (hg6.block _ (blkL hox) (fun e => map_ne (HS.out.seen.kept (hkeep _ HT.out.xm)) hox (Option.some.inj e))).trans hox
    have hqx6 := (hg6.block _ (blkL hqx) (fun e => map_ne (HS.out.seen.kept (hkeep _ HT.out.xm)) hqx (Option.some.inj e))).trans hqx
    have HVO := Lib.hid hvo
    have HOX := Lib.hid hox6
    have o1 := (cell_of_row _ _ 1 _ _ _ hox6).trans (show _ = some v from rfl)
    obtain ⟨q0, q1, q2⟩ := cr3 hqx6
    have hcn : C.length + 1 ≤ maxLen ∧ (C.length + 1) * 24 ≤ 140737488355328 := by
     have := HS.out.cnt
     unfold maxLen
     omega
    have hws : w.heap.size ≤ (W6.alloc (.cells #[.int .i64 x.sl, .int .i64 x.st, .int .i64 x.dn] 204)).heap.size := by
     have := HB5.out.size
     have := HB.out.size
     simp
     omega
    obtain ⟨i0, hi0, hz0, hz1, hz2⟩ := info_parts info_straight
    have hnob := own_off HVO.out HOX.out (by decide)
    have hobl := (blkL HOX.out)
    clear hown6 hg6 hvo hox6 hqx6 hsx hox hqx hown
    gi_wp2_with (gi_at_builtin; refine wpListIn_append_own_at _ rfl _ _ 137 rfl w.heap.size 204 i0 _ 3 24 Tryz.underlying137 hi0 hz0 hz1 hz2 rfl (by decide) v C.length (stC C) rfl (HVO.out.alloc _) ⟨W6.heap.size, 0, none⟩ 1 1 [.int .i64 x.sl, .int .i64 x.st, .int .i64 x.dn] rfl rfl (st_news W6 _ _ _) (st_one _ _ _) hcn.1 hcn.2 hws ?_; intro v' W7 hown7 hgrow7 _ hat7; obtain ⟨a7, c7, hv7⟩ := own_len hown7; subst hv7; have hob7 := (hgrow7.block (w.heap.size + 1) (Nat.lt_of_lt_of_le hobl (al_below W6 _).size) (fun e => hnob e.symm)).trans (((al_below W6 _).block (w.heap.size + 1) hobl).trans HOX.out); have p1 := cell_of_row _ _ 1 _ _ _ hob7; have f1 := frozen_of_row _ _ 1 _ _ hob7; have HO7 := Lib.hid hown7; have HG7 := Lib.hid hgrow7; have HA7 := Lib.hid hat7; clear hown7 hgrow7 hat7)
    exact LinS.add HM.out HT.out HS.out (by omega) (by omega) HB5.out HKL.out HOW6.out HG6.out HO7.out HG7.out HA7.out ha
 case hdone =>
  rintro D xs X W hD hDl hDX hxs hT hb hrr hDD
  unfold EqE at hxs
  subst hxs
  obtain ⟨xr, xo, xs, xm, res, sbx, C, v, k, D', hS⟩ := hT
  obtain ⟨va, vc, rfl⟩ := own_len hS.own
  obtain ⟨o0, o1⟩ := cr2 hS.out
  obtain ⟨g0, g1⟩ := fr2 res
  obtain ⟨r0, r1⟩ := cr2 res
  have hdn : w.heap.size ≠ D := fun e => hDX (by rw [← e]; exact xr)
  have hrow := heap_setCell_same _ _ 1 _ _ (.slice va C.length vc) (heap_setCell_same W _ 0 _ _ (.slice a n c) res)
  have HRX := Lib.hid hrow
  have HBE := Hd ((hb.setCell (p := ⟨w.heap.size, 0, none⟩) (Nat.le_refl _) (.slice a n c)).setCell (p := ⟨w.heap.size, 1, none⟩) (Nat.le_refl _) (.slice va C.length vc))
  have HDD := Hd (((heap_setCell_other _ ⟨w.heap.size, 1, none⟩ D (.slice va C.length vc) (Ne.symm hdn)).trans (heap_setCell_other W ⟨w.heap.size, 0, none⟩ D (.slice a n c) (Ne.symm hdn))).trans hDD)
  have hDw : w.heap.size ≤ D := Nat.le_trans hw3.size hD
  have hvr := own_off hS.own res (by decide)
  have HOW := Hd (own_keep (w' := (W.setCell ⟨w.heap.size, 0, none⟩ (.slice a n c)).setCell ⟨w.heap.size, 1, none⟩ (.slice va C.length vc)) hS.own (fun g hg => (heap_setCell_other _ ⟨w.heap.size, 1, none⟩ g _ (fun e => hvr (by rw [hg, e]))).trans (heap_setCell_other W ⟨w.heap.size, 0, none⟩ g _ (fun e => hvr (by rw [hg, e])))))
  have HMI := Lib.hid hS.mine
  have HCO := Lib.hid hS.cor
  have HCL := Hd (show C.length ≤ 2400 from by
   have h1 := hS.cnt.2
   have h2 := HLEN.out
   have h3 := HNL.out
   have h4 : 4 * n * n ≤ 4 * 24 * 24 := Nat.mul_le_mul (Nat.mul_le_mul_left 4 h3.2) h3.2
   omega)
  clear hrow hDD hb hS res sbx hvr
  go_wp2
  generalize World.setCell (World.setCell W _ _) _ _ = V6 at *
  refine leave_marked (v := .agg #[.slice a n c, .slice va C.length vc]) HDD.out (fun o' => ⟨?_, C, .slice va C.length vc, rfl, HCO.out, HCL.out, own_keep HOW.out (fun g hg => World.putObj_heap_other (fun e => hDX (by rw [← e]; exact HMI.out g hg))), below_put HBE.out hDw o'⟩)
  have hr : (V6.putObj D o').heap[w.heap.size]? = _ := (World.putObj_heap_other hdn).trans HRX.out
  obtain ⟨q0, q1⟩ := cr2 hr
  simp [results, Tryz.results103, go_sem, q0, q1]
end Go.Proofs.YtgmpelhphnmknaaGreat
namespace Go.Proofs.YtgmpelhphnmknaaGreat
open Go Go.RowKit Go.Shelf
structure FrOk (p : SV) : Prop where
 nm : -600000000000 ≤ p.lo ∧ p.lo ≤ 600000000000
 dn : 1 ≤ p.hi ∧ p.hi ≤ 100000
def ltF (p q : SV) : Bool := decide (p.lo * q.hi < q.lo * p.hi)
def gtF (p q : SV) : Bool := decide (q.lo * p.hi < p.lo * q.hi)
theorem bounds1_any (p q : SV) (w : World) (hp : FrOk p) (hq : FrOk q) :
  Calls Tryz.prog 158 #[.agg #[.int .i64 p.lo, .int .i64 p.hi], .agg #[.int .i64 q.lo, .int .i64 q.hi]] w fun e w' => e = .returned (.bool (ltF p q)) ∧ Below w.heap.size w w' := by
 unfold ltF
 (have hC := fun W => compare_any p.lo p.hi q.lo q.hi W hp.nm hp.dn hq.nm hq.dn; have HC := Lib.hid hC; clear hC hp hq; obtain ⟨a, b⟩ := p; obtain ⟨c, d⟩ := q; dsimp only at *; have HB := Hd (((Below.refl _ w).alloc (Nat.le_refl _) (.cells #[.int .i64 a, .int .i64 b] 68)).alloc (by simp) (.cells #[.int .i64 c, .int .i64 d] 68)); have e1 := (Below.heap_alloc (w.alloc (.cells #[.int .i64 a, .int .i64 b] 68)) (.cells #[.int .i64 c, .int .i64 d] 68) w.heap.size (by simp)).trans (heap_alloc_new w _); have e2 := heap_alloc_new (w.alloc (.cells #[.int .i64 a, .int .i64 b] 68)) (.cells #[.int .i64 c, .int .i64 d] 68); rw [show (w.alloc (.cells #[.int .i64 a, .int .i64 b] 68)).heap.size = w.heap.size + 1 from by simp] at e2)
 have HD := Hd (show ∀ x y : Int, decide (x < y) = decide (Lib.compareInt x y < 0) from fun x y => by
  by_cases h : x < y
  ·rw [decide_eq_true h, decide_eq_true (cmpI_lt.2 h)]
  ·rw [decide_eq_false h, decide_eq_false (fun h2 => h (cmpI_lt.1 h2))])
 rw [HD.out]
 generalize Lib.compareInt (a * d) (c * b) = r at *
 clear HD
 go_enter Tryz.func158, Tryz.ntmps158
 go_upto_region 1 with (fail)
 generalize World.alloc (World.alloc w _) _ = V at *
 obtain ⟨k0, k1⟩ := cr2 e1
 obtain ⟨k2, k3⟩ := cr2 e2
 clear e1 e2
 go_wp2_with (go_at_call 159; refine (HC.out _).mono ?_; rintro e W1 ⟨rfl, hb1⟩; have HB1 := Hd (HB.out.trans (hb1.mono HB.out.size)); clear hb1 k0 k1 k2 k3)
 go_ret
 exact ⟨rfl, HB1.out⟩
theorem bounds2_any (p q : SV) (w : World) (hp : FrOk p) (hq : FrOk q) :
  Calls Tryz.prog 160 #[.agg #[.int .i64 p.lo, .int .i64 p.hi], .agg #[.int .i64 q.lo, .int .i64 q.hi]] w fun e w' => e = .returned (.bool (gtF p q)) ∧ Below w.heap.size w w' := by
 unfold gtF
 (have hC := fun W => compare_any p.lo p.hi q.lo q.hi W hp.nm hp.dn hq.nm hq.dn; have HC := Lib.hid hC; clear hC hp hq; obtain ⟨a, b⟩ := p; obtain ⟨c, d⟩ := q; dsimp only at *; have HB := Hd (((Below.refl _ w).alloc (Nat.le_refl _) (.cells #[.int .i64 a, .int .i64 b] 68)).alloc (by simp) (.cells #[.int .i64 c, .int .i64 d] 68)); have e1 := (Below.heap_alloc (w.alloc (.cells #[.int .i64 a, .int .i64 b] 68)) (.cells #[.int .i64 c, .int .i64 d] 68) w.heap.size (by simp)).trans (heap_alloc_new w _); have e2 := heap_alloc_new (w.alloc (.cells #[.int .i64 a, .int .i64 b] 68)) (.cells #[.int .i64 c, .int .i64 d] 68); rw [show (w.alloc (.cells #[.int .i64 a, .int .i64 b] 68)).heap.size = w.heap.size + 1 from by simp] at e2)
 have HD := Hd (show ∀ x y : Int, decide (y < x) = decide (Lib.compareInt x y > 0) from fun x y => by
  by_cases h : y < x
  ·rw [decide_eq_true h, decide_eq_true (cmpI_gt.2 h)]
  ·rw [decide_eq_false h, decide_eq_false (fun h2 => h (cmpI_gt.1 h2))])
 rw [HD.out]
 generalize Lib.compareInt (a * d) (c * b) = r at *
 clear HD
 go_enter Tryz.func160, Tryz.ntmps160
 go_upto_region 1 with (fail)
 generalize World.alloc (World.alloc w _) _ = V at *
 obtain ⟨k0, k1⟩ := cr2 e1
 obtain ⟨k2, k3⟩ := cr2 e2
 clear e1 e2
 go_wp2_with (go_at_call 159; refine (HC.out _).mono ?_; rintro e W1 ⟨rfl, hb1⟩; have HB1 := Hd (HB.out.trans (hb1.mono HB.out.size)); clear hb1 k0 k1 k2 k3)
 go_ret
 exact ⟨rfl, HB1.out⟩
theorem places1_any (s : ST) (z : Int) (q : Nat) (w : World) (hs : s.ok) (hz : -100000 ≤ z ∧ z ≤ 200000) (hq : w.heap[q]? = some (.cells #[.int .i64 z] 3)) :
  Calls Tryz.prog 109 #[s.val, .pointer (some ⟨q, 0, none⟩)] w fun e w' => e = .returned (spV (atN s z) s.dn) ∧ Below w.heap.size w w' := by
 have HC := Hd (fun W => at_any s z W hs hz)
 unfold spV ST.val at *
 generalize atN s z = av at *
 obtain ⟨sl, st, dn⟩ := s
 dsimp only at *
 have HB := Hd (((Below.refl _ w).alloc (Nat.le_refl _) (.cells #[.int .i64 sl, .int .i64 st, .int .i64 dn] 204)).alloc (by simp) (.cells #[.int .i64 0, .int .i64 0] 68))
 have e1 := (Below.heap_alloc (w.alloc (.cells #[.int .i64 sl, .int .i64 st, .int .i64 dn] 204)) (.cells #[.int .i64 0, .int .i64 0] 68) w.heap.size (by simp)).trans (heap_alloc_new w _)
 have e2 := heap_alloc_new (w.alloc (.cells #[.int .i64 sl, .int .i64 st, .int .i64 dn] 204)) (.cells #[.int .i64 0, .int .i64 0] 68)
 rw [show (w.alloc (.cells #[.int .i64 sl, .int .i64 st, .int .i64 dn] 204)).heap.size = w.heap.size + 1 from by simp] at e2
 have HQ := Hd (keep_at hq HB.out)
 have HE2 := Lib.hid e2
 clear hs hz hq e2
 go_enter Tryz.func109, Tryz.ntmps109
 go_upto_region 1 with (fail)
 generalize World.alloc (World.alloc w _) _ = V at *
 obtain ⟨k0, k1, k2⟩ := cr3 e1
 have k3 := cell_of_row _ _ 0 _ _ _ HQ.out
 clear e1
 go_wp2_with (go_at_call 110; refine (HC.out _).mono ?_; rintro e W1 ⟨rfl, hb1⟩; have HB1 := Hd (HB.out.trans (hb1.mono HB.out.size)); have HE3 := Hd (keep_at HE2.out hb1); obtain ⟨f0, f1⟩ := fr2 HE3.out; obtain ⟨g0, g1⟩ := cr2 HE3.out; clear hb1 k0 k1 k2 k3)
 have hrow := heap_setCell_same _ _ 1 _ _ (.int .i64 dn) (heap_setCell_same W1 _ 0 _ _ (.int .i64 av) HE3.out)
 have hbl := (HB1.out.setCell (p := ⟨w.heap.size + 1, 0, none⟩) (by dsimp only; omega) (.int .i64 av)).setCell (p := ⟨w.heap.size + 1, 1, none⟩) (by dsimp only; omega) (.int .i64 dn)
 generalize World.setCell (World.setCell W1 _ _) _ _ = V5 at *
 obtain ⟨q0, q1⟩ := cr2 hrow
 exact bodyPost_ret (v := .agg #[.int .i64 av, .int .i64 dn]) (by simp [results, Tryz.results109, go_sem, q0, q1]) rfl ⟨rfl, hbl⟩
end Go.Proofs.YtgmpelhphnmknaaGreat
namespace Go.Proofs.YtgmpelhphnmknaaGreat
open Go Go.RowKit Go.Shelf
def exN (lt : SV → SV → Bool) (L : Nat → SV) : Nat → SV
 | 0 => L 0
 | k + 1 => if lt (L (k + 1)) (exN lt L k) then L (k + 1) else exN lt L k
theorem exN_ok {lt : SV → SV → Bool} {L : Nat → SV} : ∀ {k : Nat}, (∀ i, i ≤ k → FrOk (L i)) → FrOk (exN lt L k)
 | 0, h => h 0 (Nat.le_refl _)
 | k + 1, h => by
  unfold exN
  split
  ·exact h _ (Nat.le_refl _)
  ·exact exN_ok (fun i hi => h i (by omega))
def svV (p : SV) : Value := .agg #[.int .i64 p.lo, .int .i64 p.hi]
theorem extreme_any (f : Nat) (lt : SV → SV → Bool) (a : Option Addr) (m c : Nat) (L : Nat → SV) (B : Nat) (w : World) (hBw : B ≤ w.heap.size) (hT : Spans B w a m L) (hm : 1 ≤ m ∧ m ≤ c ∧ c ≤ maxLen) (hL : ∀ i, i < m → FrOk (L i))
  (eg : ∀ args W, (callFunc f args).run Tryz.prog W = .ok (.enter f args) W)
  (hC : ∀ W p q, FrOk p → FrOk q → Calls Tryz.prog f #[svV p, svV q] W fun e w' => e = .returned (.bool (lt p q)) ∧ Below W.heap.size W w') :
  Calls Tryz.prog 157 #[.slice a m c, .func (.func f) #[] #[]] w fun e w' => e = .returned (svV (exN lt L (m - 1))) ∧ Below w.heap.size w w' := by
 have HC := Lib.hid hC
 have HT := Lib.hid hT
 have HL := Lib.hid hL
 have hn0 : (0 : Int) < (m : Int) := by omega
 have hn1 : (1 : Int) ≤ (m : Int) := by omega
 have hcm := hm.2.2
 unfold maxLen at hcm
 have HB0 := Hd (al_below w (.cells #[.int .i64 0, .int .i64 0] 68))
 have HR0 := Hd (heap_alloc_new w (.cells #[.int .i64 0, .int .i64 0] 68))
 have HT0 := Hd (hT.below (HB0.out.mono hBw))
 obtain ⟨b, off, rfl, hbB, c0, c1⟩ := HT0.out.get (show 0 < m from hm.1)
 rw [Nat.zero_mul, Nat.add_zero] at c0 c1
 clear hC hL hT HT
 unfold svV at HC
 unfold svV
 obtain ⟨RES, hres⟩ : ∃ RES, exN lt L (m - 1) = RES := ⟨_, rfl⟩
 rw [hres]
 go_enter Tryz.func157, Tryz.ntmps157
 go_upto_region 1 with (fail)
 generalize World.alloc w _ = V at *
 go_upto_region 2 with (fail)
 clear c0 c1
 have hb1 := al_below V (.cells #[.int .i64 (L 0).lo, .int .i64 (L 0).hi] 68)
 have HX1 := Hd (heap_alloc_new V (.cells #[.int .i64 (L 0).lo, .int .i64 (L 0).hi] 68))
 have HB1 := Hd (HB0.out.trans (hb1.mono HB0.out.size))
 have HR1 := Hd (keep_at HR0.out hb1)
 have HT1 := Hd (HT0.out.below (hb1.mono (Nat.le_trans hBw HB0.out.size)))
 have hrV := (blkL HR0.out)
 clear hb1 HB0 HR0 HT0
 generalize World.alloc V _ = V1 at *
 generalize V.heap.size = x at *
 have hxg : w.heap.size < x := hrV
 by_cases hce : c = 1
 ·obtain rfl : m = 1 := by omega
  subst hce
  go_wp2
  go_loopw [14] (fun s wr => s = .int .i64 0 ∧ Hid (wr.heap[x]? = some (.cells #[.int .i64 (L 0).lo, .int .i64 (L 0).hi] 68)) ∧ Hid (wr.heap[w.heap.size]? = some (.cells #[.int .i64 0, .int .i64 0] 68)) ∧ Hid (Below w.heap.size w wr)) (fun s _ => 0)
  case atStart => exact ⟨rfl, HX1, HR1, HB1⟩
  case round =>
   clear HX1 HR1 HB1
   obtain ⟨rfl, HX1, HR1, HB1⟩ := hrel
   ((rw [show (L 0) = RES from hres] at HX1; obtain ⟨k0, k1⟩ := cr2 HX1.out; obtain ⟨r0, r1⟩ := cr2 HR1.out; obtain ⟨f0, f1⟩ := fr2 HR1.out; go_wp2; have hrow := heap_setCell_same _ _ 1 _ _ (.int .i64 RES.hi) (heap_setCell_same wr _ 0 _ _ (.int .i64 RES.lo) HR1.out); have hbl := (HB1.out.setCell (p := ⟨w.heap.size, 0, none⟩) (Nat.le_refl _) (.int .i64 RES.lo)).setCell (p := ⟨w.heap.size, 1, none⟩) (Nat.le_refl _) (.int .i64 RES.hi); generalize World.setCell (World.setCell wr _ _) _ _ = V5 at *; obtain ⟨q0, q1⟩ := cr2 hrow; exact bodyPost_ret (v := .agg #[.int .i64 RES.lo, .int .i64 RES.hi]) (by simp [results, Tryz.results157, go_sem, q0, q1]) rfl ⟨rfl, hbl⟩))
 ·have hce' : decide (c = 1) = false := by simp [hce]
  go_wp2
  go_loopw [14] (fun s wr => ∃ i : Nat, i ≤ m - 1 ∧ s = .int .i64 (i : Int) ∧ Hid (wr.heap[x]? = some (.cells #[.int .i64 (exN lt L i).lo, .int .i64 (exN lt L i).hi] 68)) ∧ Hid (wr.heap[w.heap.size]? = some (.cells #[.int .i64 0, .int .i64 0] 68)) ∧ Hid (Spans B wr (some ⟨b, off, none⟩) m L) ∧ Hid (Below w.heap.size w wr)) (fun s _ => m - 1 - (intOf s).toNat)
  case atStart => exact ⟨0, by omega, rfl, HX1, HR1, HT1, HB1⟩
  case round =>
   clear HX1 HR1 HB1 HT1
   obtain ⟨i, hi, rfl, HX1, HR1, HT1, HB1⟩ := hrel
   by_cases hl : i < m - 1
   ·have hl' : (i : Int) < ((m - 1 : Nat) : Int) := by omega
    obtain ⟨b', off', hbo, _, c0, c1⟩ := HT1.out.get (show i + 1 < m by omega)
    obtain ⟨rfl, rfl⟩ : b = b' ∧ off = off' := by
     have h := Option.some.inj hbo
     injection h with h1 h2
     exact ⟨h1, h2⟩
    rw [show off + (i + 1) * 2 = off + 2 + i * 2 by omega] at c0 c1
    have hacc := exN_ok (lt := lt) (L := L) (k := i) (fun j hj => HL.out j (by omega))
    have HCi := Hd (fun W => HC.out W _ _ (HL.out (i + 1) (by omega)) hacc)
    have HSU := Hd (show exN lt L (i + 1) = if lt (L (i + 1)) (exN lt L i) then L (i + 1) else exN lt L i from rfl)
    obtain ⟨nx, hnx⟩ : ∃ nx, exN lt L (i + 1) = nx := ⟨_, rfl⟩
    obtain ⟨ac, hac⟩ : ∃ ac, exN lt L i = ac := ⟨_, rfl⟩
    obtain ⟨P, hP⟩ : ∃ P, L (i + 1) = P := ⟨_, rfl⟩
    rw [hnx, hac, hP] at HSU
    rw [hac] at HX1
    rw [hP] at c0 c1
    rw [hP, hac] at HCi
    have HNX := Lib.hid hnx
    clear hbo hacc HC hP hac hnx
    go_upto_region 5 with (fail)
    have hb2 := al_below wr (.cells #[.int .i64 P.lo, .int .i64 P.hi] 68)
    have HP2 := Hd (heap_alloc_new wr (.cells #[.int .i64 P.lo, .int .i64 P.hi] 68))
    have HX2 := Hd (keep_at HX1.out hb2)
    have HR2 := Hd (keep_at HR1.out hb2)
    have HT2 := Hd (HT1.out.below (hb2.mono (Nat.le_trans hBw HB1.out.size)))
    have HB2 := Hd (HB1.out.trans (hb2.mono HB1.out.size))
    have hpg : x < wr.heap.size := (blkL HX1.out)
    clear hb2 HX1 HR1 HT1 HB1 c0 c1
    generalize World.alloc wr _ = W2 at *
    generalize wr.heap.size = g at *
    obtain ⟨p0, p1⟩ := cr2 HP2.out
    obtain ⟨k0, k1⟩ := cr2 HX2.out
    cases hlt : lt P ac with
    | true =>
     rw [hlt] at HCi HSU
     obtain rfl : nx = P := by rw [HSU.out]; rfl
     go_upto_region 6 with (refine (HCi.out _).mono ?_; rintro e W3 ⟨rfl, hb3⟩; have HP3 := Hd (keep_at HP2.out hb3); have HX3 := Hd (keep_at HX2.out hb3); have HR3 := Hd (keep_at HR2.out hb3); have HT3 := Hd (HT2.out.below (hb3.mono (Nat.le_trans hBw HB2.out.size))); have HB3 := Hd (HB2.out.trans (hb3.mono HB2.out.size)); clear hb3 p0 p1 k0 k1)
     obtain ⟨p0, p1⟩ := cr2 HP3.out
     obtain ⟨k0, k1⟩ := cr2 HX3.out
     obtain ⟨f0, f1⟩ := fr2 HX3.out
     have hrow := heap_setCell_same _ _ 1 _ _ (.int .i64 nx.hi) (heap_setCell_same W3 _ 0 _ _ (.int .i64 nx.lo) HX3.out)
     have hbl := (((Below.refl x W3).setCell (p := ⟨x, 0, none⟩) (Nat.le_refl _) (.int .i64 nx.lo)).setCell (p := ⟨x, 1, none⟩) (Nat.le_refl _) (.int .i64 nx.hi))
     have hxB : B ≤ x := by omega
     have HX4 := Hd (show ((W3.setCell ⟨x, 0, none⟩ (.int .i64 nx.lo)).setCell ⟨x, 1, none⟩ (.int .i64 nx.hi)).heap[x]? = some (.cells #[.int .i64 (exN lt L (i + 1)).lo, .int .i64 (exN lt L (i + 1)).hi] 68) from by rw [HNX.out]; simpa using hrow)
     have HR4 := Hd ((hbl.block _ hxg).trans HR3.out)
     have HT4 := Hd (HT3.out.below (hbl.mono hxB))
     have HB4 := Hd (HB3.out.trans (hbl.mono (Nat.le_of_lt hxg)))
     clear hrow hbl HP3 HX3 HR3 HT3 HB3
     go_wp2
     go_roundw
     case rel => first | exact ⟨i + 1, by omega, by go_num, HX4, HR4, HT4, HB4⟩ | ((repeat apply Exists.intro); exact ⟨⟨i + 1, by omega, by go_num, HX4, HR4, HT4, HB4⟩, rfl⟩)
     case measure => simp [intOf]; omega
    | false =>
     rw [hlt] at HCi HSU
     obtain rfl : nx = ac := by rw [HSU.out]; rfl
     go_wp2_with (refine (HCi.out _).mono ?_; rintro e W3 ⟨rfl, hb3⟩; have HX3 := Hd (keep_at HX2.out hb3); have HR3 := Hd (keep_at HR2.out hb3); have HT3 := Hd (HT2.out.below (hb3.mono (Nat.le_trans hBw HB2.out.size))); have HB3 := Hd (HB2.out.trans (hb3.mono HB2.out.size)); clear hb3 p0 p1 k0 k1)
     rw [← HNX.out] at HX3
     go_roundw
     case rel => first | exact ⟨i + 1, by omega, by go_num, HX3, HR3, HT3, HB3⟩ | ((repeat apply Exists.intro); exact ⟨⟨i + 1, by omega, by go_num, HX3, HR3, HT3, HB3⟩, rfl⟩)
     case measure => simp [intOf]; omega
   ·obtain rfl : i = m - 1 := by omega
    have hl' : ¬ ((m - 1 : Nat) : Int) < ((m - 1 : Nat) : Int) := by omega
    ((rw [show (exN lt L (m - 1)) = RES from hres] at HX1; obtain ⟨k0, k1⟩ := cr2 HX1.out; obtain ⟨r0, r1⟩ := cr2 HR1.out; obtain ⟨f0, f1⟩ := fr2 HR1.out; go_wp2; have hrow := heap_setCell_same _ _ 1 _ _ (.int .i64 RES.hi) (heap_setCell_same wr _ 0 _ _ (.int .i64 RES.lo) HR1.out); have hbl := (HB1.out.setCell (p := ⟨w.heap.size, 0, none⟩) (Nat.le_refl _) (.int .i64 RES.lo)).setCell (p := ⟨w.heap.size, 1, none⟩) (Nat.le_refl _) (.int .i64 RES.hi); generalize World.setCell (World.setCell wr _ _) _ _ = V5 at *; obtain ⟨q0, q1⟩ := cr2 hrow; exact bodyPost_ret (v := .agg #[.int .i64 RES.lo, .int .i64 RES.hi]) (by simp [results, Tryz.results157, go_sem, q0, q1]) rfl ⟨rfl, hbl⟩))
end Go.Proofs.YtgmpelhphnmknaaGreat
