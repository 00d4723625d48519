/- Texts put together: RkF, ImB. -/
import Derived.Test.YtgmpelhphnmknaaGreatQae
import Derived.Test.YtgmpelhphnmknaaGreatQad
import Derived.Test.YtgmpelhphnmknaaGreatQab
set_option maxRecDepth 100000
set_option maxHeartbeats 8000000
set_option linter.unusedVariables false
set_option linter.unusedSimpArgs false
namespace Go.Proofs.YtgmpelhphnmknaaGreat
open Go.RowKit
structure GrAt (v : VO) (g : Nat → Int) (gn gb : Nat) (W : World) : Prop where
 n : (gn : Int) = v.nx * v.ny
 ok : ∀ i, i < gn → 0 ≤ g i ∧ g i ≤ 12000
 box : ∃ ga gc, W.heap[gb]? = some (.cells #[.slice ga gn gc] 24) ∧ Ints W.heap.size W ga gn g
theorem GrAt.step {v : VO} {g : Nat → Int} {gn gb : Nat} {W W' : World} (h : GrAt v g gn gb W) (hb : Below W.heap.size W W') : GrAt v g gn gb W' := by
 obtain ⟨ga, gc, h1, h2⟩ := h.box
 exact ⟨h.n, h.ok, ga, gc, (hb.block _ (blkL h1)).trans h1, (h2.below hb).up hb.size⟩
def PtAt (pb : Nat) (p : PT) (W : World) : Prop := W.heap[pb]? = some (.cells #[.int .i64 p.cell, .int .i64 p.lo, .int .i64 p.hi] 209)
def AxAt (xb : Nat) (a : AX) (W : World) : Prop := W.heap[xb]? = some (.cells #[.int .i64 a.b, .int .i64 a.t, .int .i64 a.c] 147)
theorem PtAt.step {pb : Nat} {p : PT} {W W' : World} (h : PtAt pb p W) (hb : Below W.heap.size W W') : PtAt pb p W' := (hb.block _ (blkL h)).trans h
theorem AxAt.step {pb : Nat} {p : AX} {W W' : World} (h : AxAt pb p W) (hb : Below W.heap.size W W') : AxAt pb p W' := (hb.block _ (blkL h)).trans h
theorem rk_wrap {x : Int} (h1 : -1000000000000000000 ≤ x) (h2 : x ≤ 1000000000000000000) : IntKind.i64.wrap x = x := by simp [IntKind.wrap, IntKind.bits, IntKind.signed]; omega
theorem mod_bound {v : VO} (hv : v.Ok) {x : Int} (hx : 0 ≤ x) : ∃ k : Nat, x.tmod (v.nx * v.ny) = (k : Int) ∧ (k : Int) < v.nx * v.ny := by
 have h1 : 0 < v.nx * v.ny := Int.mul_pos (by have := hv.x; omega) (by have := hv.y; omega)
 have h2 := Int.tmod_nonneg (v.nx * v.ny) hx
 have h3 := Int.tmod_lt_of_pos x h1
 exact ⟨(x.tmod (v.nx * v.ny)).toNat, by omega, by omega⟩
theorem htk1_RkF {P : Program} {md : Region.Mode} {Q : Exit → Act → World → Prop} {S : World → Prop} {l : List Oper} {n f : Nat} {listed : Array Bool} {a : Act} {w : World} {v : Value} {oi : Oper} {X : Prop} (i : Nat) (q : X) (hi : l.toArray[i]? = some oi := by rfl) (hB : TkB md l n listed i = true := by kernel_rfl) (hQ : ∀ c a w, Q (.panic c) (a.put oi.dst v) w → Q (.panic c) a w := by exact fun _ _ _ h => h) (hy : YieldsIf P l.toArray S oi v a := by (refine Or.inl ⟨by rfl, ?_⟩; intro w' hSw; (try dsimp only at hSw); (obtain ⟨s1, s2, s3, s4⟩ := hSw); have p0 := cell_of_row _ _ 0 _ _ _ s1; obtain ⟨c0, c1, c2, c3, c4, c5, c6, c7, c8, c9, c10, c11, c12, c13⟩ := cr14 s2; have g0 := cell_of_row _ _ 0 _ _ _ s3; (try simp only [hng]); go_simp; (try with_reducible rfl))) (hS : S w := by assumption) (hx : X → headH P md l.toArray Q S n (tailL P md l Q n) f (listed.setIfInBounds i true) (a.put oi.dst v) w := by (intro qq; refine hnm ?_; exact qq)) : headH P md l.toArray Q S n (tailL P md l Q n) (f + 1) listed a w := headH_take hi hB hQ hy hS (hx q)
theorem rk_set3 {V : World} {xb : Nat} {a b c x y z : Value} {t : TypeId} (h : V.heap[xb]? = some (.cells #[a, b, c] t)) : (((V.setCell ⟨xb, 0, none⟩ x).setCell ⟨xb, 1, none⟩ y).setCell ⟨xb, 2, none⟩ z).heap[xb]? = some (.cells #[x, y, z] t) ∧ (∀ k, k ≠ xb → (((V.setCell ⟨xb, 0, none⟩ x).setCell ⟨xb, 1, none⟩ y).setCell ⟨xb, 2, none⟩ z).heap[k]? = V.heap[k]?) ∧ (((V.setCell ⟨xb, 0, none⟩ x).setCell ⟨xb, 1, none⟩ y).setCell ⟨xb, 2, none⟩ z).heap.size = V.heap.size := by
 have h1 := heap_setCell_same V xb 0 _ _ x h
 have h2 := heap_setCell_same _ xb 1 _ _ y h1
 have h3 := heap_setCell_same _ xb 2 _ _ z h2
 exact ⟨h3, fun k hk => (heap_setCell_other _ ⟨xb, 2, none⟩ k _ hk).trans ((heap_setCell_other _ ⟨xb, 1, none⟩ k _ hk).trans (heap_setCell_other V ⟨xb, 0, none⟩ k _ hk)), by simp⟩
theorem htk3_RkF {P : Program} {md : Region.Mode} {Q : Exit → Act → World → Prop} {S : World → Prop} {l : List Oper} {n f : Nat} {listed : Array Bool} {a : Act} {w : World} {v : Value} {oi : Oper} {X : Prop} (i : Nat) (q : X) (hi : l.toArray[i]? = some oi := by rfl) (hB : TkB md l n listed i = true := by kernel_rfl) (hQ : ∀ c a w, Q (.panic c) (a.put oi.dst v) w → Q (.panic c) a w := by exact fun _ _ _ h => h) (hy : YieldsIf P l.toArray S oi v a := by (refine Or.inl ⟨by rfl, ?_⟩; intro w' hSw; (try dsimp only at hSw); (obtain ⟨s1, s2, s3⟩ := hSw); obtain ⟨p0, p1, p2⟩ := cr3 s1; obtain ⟨c0, c1, c2, c3, c4, c5, c6, c7, c8, c9, c10, c11, c12, c13⟩ := cr14 s2; obtain ⟨x0, x1, x2⟩ := cr3 s3; (try simp only [hng]); go_simp; (try with_reducible rfl))) (hS : S w := by assumption) (hx : X → headH P md l.toArray Q S n (tailL P md l Q n) f (listed.setIfInBounds i true) (a.put oi.dst v) w := by (intro qq; refine hnm ?_; exact qq)) : headH P md l.toArray Q S n (tailL P md l Q n) (f + 1) listed a w := headH_take hi hB hQ hy hS (hx q)
theorem under_any (v : VO) (r : RY) (ga : Option Addr) (gn gc : Nat) (w : World) :
  Calls Tryz.prog 92 #[wkVal v r, .slice ga gn gc] w fun e w' => e = .returned (.func (.func 136) #[] #[.pointer (some ⟨w.heap.size + 1, 0, none⟩), .pointer (some ⟨w.heap.size, 0, none⟩)]) ∧ WkAt v r w.heap.size w' ∧ w'.heap[w.heap.size + 1]? = some (.cells #[.slice ga gn gc] 24) ∧ Below w.heap.size w w' := by
 unfold wkVal
 go_enter Tryz.func92, Tryz.ntmps92
 go_wp2
 go_ret
 obtain ⟨h1, h2, h3⟩ := rk_two w (.cells #[.int .i64 v.nx, .int .i64 v.ny, .int .i64 v.nz, .int .i64 v.size, .int .i64 r.x, .int .i64 r.dx, .int .i64 v.nx, .int .i64 r.y, .int .i64 r.dy, .int .i64 v.ny, .int .i64 r.z, .int .i64 r.dz, .int .i64 v.nz, .int .i64 (tkF r : Int)] 150) (.cells #[.slice ga gn gc] 24)
 exact ⟨rfl, h2, h3, h1⟩
theorem cut_any (v : VO) (r : RY) (hv : v.Ok) (hr : r.Ok) (g : Nat → Int) (gn gb q : Nat) (p : PT) (hp : 0 ≤ p.cell ∧ p.cell ≤ 1000) (w : World) (hq : WkAt v r q w) (hg : GrAt v g gn gb w) :
  Calls Tryz.prog 136 #[p.val, .pointer (some ⟨gb, 0, none⟩), .pointer (some ⟨q, 0, none⟩)] w fun e w' => e = .returned (cutF v r g p).val ∧ Below w.heap.size w w' := by
 obtain ⟨k, hk1, hk2⟩ := mod_bound hv hp.1
 have hkn : k < gn := by have := hg.n; omega
 have HCU := Hd (show cutF v r g p = if 0 < r.dz then ⟨p.cell, p.lo, min p.hi (whF (tkF r) (axF v r 2) (g k))⟩ else if r.dz < 0 then ⟨p.cell, max p.lo (whF (tkF r) (axF v r 2) (g k)), p.hi⟩ else if g k ≤ r.z then ⟨p.cell, p.lo, p.lo⟩ else p from by
  unfold cutF
  rw [hk1, Int.toNat_natCast])
 obtain ⟨hg1, hg2⟩ := hg.ok k hkn
 obtain ⟨ga, gc, hgb, hgi⟩ := hg.box
 obtain ⟨gB, gO, hga, hgl, hgc⟩ := hgi.get hkn
 subst hga
 have HV := Lib.hid hv
 have HR := Lib.hid hr
 have HQ := Lib.hid hq
 have HGB := Lib.hid hgb
 have HGC := Lib.hid hgc
 have hm := rk_mul_abs (x := v.nx) (y := v.ny) (K := 12) (M := 12) (by decide) (by decide) (by have := hv.x; omega) (by have := hv.y; omega)
 obtain ⟨hm1, hm2⟩ : -144 ≤ v.nx * v.ny ∧ v.nx * v.ny ≤ 144 := by omega
 have hmz : v.nx * v.ny ≠ 0 := by omega
 clear hm
 have hgq := (blkL hgb)
 have HWH := Hd (fun (W : World) (ht : r.dz ≠ 0) => when_any v r (axF v r 2) (g k) W hr ht (ax_bound hv hr 2).1 (by omega))
 generalize cutF v r g p = C at *
 generalize whF (tkF r) (axF v r 2) (g k) = wh at *
 unfold AX.val wkVal at HWH
 generalize g k = gk at *
 obtain ⟨pc, pl, ph⟩ := p
 unfold PT.val at *
 dsimp only at *
 clear hg hv hr hgi hgb hgc hq
 generalize hnm1 : v.nx * v.ny = nm at *
 have hwr : IntKind.i64.wrap nm = nm := rk_wrap (by omega) (by omega)
 have hwk : IntKind.i64.wrap ((k : Nat) : Int) = (k : Int) := rk_wrap (by omega) (by omega)
 go_enter Tryz.func136, Tryz.ntmps136
 go_upto_region 1 with (fail)
 obtain ⟨hVb, e1, e2⟩ := rk_two w (.cells #[.int .i64 pc, .int .i64 pl, .int .i64 ph] 209) (.cells #[.int .i64 0, .int .i64 0, .int .i64 0] 209)
 have hqz := HQ.out.lt
 have HP := Hd (show PtAt w.heap.size ⟨pc, pl, ph⟩ ((w.alloc (.cells #[.int .i64 pc, .int .i64 pl, .int .i64 ph] 209)).alloc (.cells #[.int .i64 0, .int .i64 0, .int .i64 0] 209)) from e1)
 have HZ := Hd (show PtAt (w.heap.size + 1) ⟨0, 0, 0⟩ ((w.alloc (.cells #[.int .i64 pc, .int .i64 pl, .int .i64 ph] 209)).alloc (.cells #[.int .i64 0, .int .i64 0, .int .i64 0] 209)) from e2)
 have HB := Lib.hid hVb
 have HQ1 := Hd (HQ.out.step hVb)
 have HG1 := Hd ((hVb.block _ hgq).trans HGB.out)
 have HG2 := Hd (((bcell hVb).1 gB (gO + k) hgl).trans HGC.out)
 clear hVb e1 e2 HQ HGB HGC
 generalize World.alloc (World.alloc w _) _ = V at *
 go_cut [5, 6] from 7 to 22 (fun s5 s6 wx => s5 = .int .i64 gk ∧ ∃ xb, s6 = .pointer (some ⟨xb, 0, none⟩) ∧ w.heap.size + 1 < xb ∧ Hid (AxAt xb (axF v r 2) wx ∧ PtAt w.heap.size ⟨pc, pl, ph⟩ wx ∧ PtAt (w.heap.size + 1) ⟨0, 0, 0⟩ wx ∧ WkAt v r q wx ∧ Below w.heap.size w wx))
 case first =>
  clear HWH HCU
  refine wp_region_any (by kernel_rfl) ?_
  change wpAny _ _ _ _ _ _ _ (World.drew V)
  have HP := Hd (show PtAt w.heap.size ⟨pc, pl, ph⟩ V.drew from HP.out)
  have HZ := Hd (show PtAt (w.heap.size + 1) ⟨0, 0, 0⟩ V.drew from HZ.out)
  have HQ1 := Hd (show WkAt v r q V.drew from HQ1.out)
  have HG1 := Hd (show V.drew.heap[gb]? = _ from HG1.out)
  have HG2 := Hd (show V.drew.cell? ⟨gB, gO + k, none⟩ = _ from HG2.out)
  have HB := Hd (show Below w.heap.size w V.drew from HB.out.drew)
  generalize World.drew V = Vd at *
  refine any_of_tail 18 18 (fun w' => PtAt w.heap.size ⟨pc, pl, ph⟩ w' ∧ WkAt v r q w' ∧ w'.heap[gb]? = some (.cells #[.slice (some ⟨gB, gO, none⟩) gn gc] 24) ∧ w'.cell? ⟨gB, gO + k, none⟩ = some (.int .i64 gk)) (by kernel_rfl) ⟨HP.out, HQ1.out, HG1.out, HG2.out⟩ (fun hS => ?_)
  refine htk1_RkF 0 ?_
  refine htk1_RkF 1 ?_
  refine htk1_RkF 2 ?_
  refine htk1_RkF 3 ?_
  refine htk1_RkF 4 ?_
  refine htk1_RkF 5 ?_
  refine htk1_RkF 6 ?_
  refine htk1_RkF 7 ?_
  refine htk1_RkF 8 ?_
  refine htk1_RkF 9 ?_
  refine htk1_RkF 10 ?_
  refine htk1_RkF 11 ?_
  refine htk1_RkF 12 ?_
  refine htk1_RkF 13 ?_
  refine htk1_RkF 14 ?_
  refine htk1_RkF 15 ?_
  refine headH_one 16 ?_
  refine headH_op rfl (fun K hK => ?_)
  (try simp only [hng])
  go_simp
  have hb := rk_below Vd (.cells #[.int .i64 0, .int .i64 0, .int .i64 0] 147)
  have hn := heap_alloc_new Vd (.cells #[.int .i64 0, .int .i64 0, .int .i64 0] 147)
  have HP2 := Hd (HP.out.step hb)
  have HZ2 := Hd (HZ.out.step hb)
  have HQ2 := Hd (HQ1.out.step hb)
  have HB2 := Hd (HB.out.trans (hb.mono HB.out.size))
  refine hK.out _ _ ⟨HP2.out, HQ2.out, (hb.block _ (by have := HB.out.size; omega)).trans HG1.out, ((bcell hb).1 gB (gO + k) (by have := HB.out.size; omega)).trans HG2.out⟩ (fun hS => ?_)
  have HXN := Lib.hid hn
  have hz1 := (blkL HZ.out)
  have hxb : w.heap.size + 1 < Vd.heap.size := hz1
  clear hK K hb hn
  generalize World.alloc Vd _ = V2 at *
  generalize Vd.heap.size = xb at *
  refine hnm ?_
  refine htk1_RkF 17 ?_
  change tailL _ _ _ _ _ _ _ _
  refine ⟨by kernel_rfl, ?_⟩
  simp only [List.drop_succ_cons, List.drop_zero]
  obtain ⟨z0, z1, z2⟩ := cr3 HXN.out
  obtain ⟨f0, f1, f2⟩ := fr3 HXN.out
  go_wp2
  go_meet
  obtain ⟨q1, q2, q3⟩ := rk_set3 (x := .int .i64 r.z) (y := .int .i64 r.dz) (z := .int .i64 v.nz) HXN.out
  have hqx : q ≠ xb := by omega
  have hBW : Below w.heap.size w (((V2.setCell ⟨xb, 0, none⟩ (.int .i64 r.z)).setCell ⟨xb, 1, none⟩ (.int .i64 r.dz)).setCell ⟨xb, 2, none⟩ (.int .i64 v.nz)) := ((HB2.out.setCell (p := ⟨xb, 0, none⟩) (show w.heap.size ≤ xb by omega) _).setCell (p := ⟨xb, 1, none⟩) (show w.heap.size ≤ xb by omega) _).setCell (p := ⟨xb, 2, none⟩) (show w.heap.size ≤ xb by omega) _
  exact ⟨rfl, xb, rfl, hxb, Lib.hid ⟨q1, (q2 _ (by omega)).trans HP2.out, (q2 _ (by omega)).trans HZ2.out, (q2 _ hqx).trans HQ2.out, hBW⟩⟩
 case rest =>
  clear HP HZ HQ1 HG1 HG2 HB
  obtain ⟨rfl, xb, rfl, hxb, HX⟩ := hcut
  have HA := Lib.hid HX.out.1
  have HP := Lib.hid HX.out.2.1
  have HZ := Lib.hid HX.out.2.2.1
  have HQ := Lib.hid HX.out.2.2.2.1
  have HB := Lib.hid HX.out.2.2.2.2
  clear HX hk1 hwk hm1 hm2 hwr hnm1 hmz hk2 hkn
  have x0 := (cell_of_row _ _ 0 _ _ _ HA.out).trans (show _ = some (Value.int .i64 r.z) from rfl)
  have x1 := (cell_of_row _ _ 1 _ _ _ HA.out).trans (show _ = some (Value.int .i64 r.dz) from rfl)
  have x2 := (cell_of_row _ _ 2 _ _ _ HA.out).trans (show _ = some (Value.int .i64 v.nz) from rfl)
  by_cases h1 : 0 < r.dz
  ·rw [if_pos h1] at HCU
   have HWH2 := Hd (fun (W : World) => HWH.out W (by omega))
   clear HWH
   go_upto_region 3 with (fail)
   clear x0 x1 x2
   rename World => V3
   refine wp_region_any (by kernel_rfl) ?_
   change wpAny _ _ _ _ _ _ _ (World.drew V3)
   (have HP := Hd (show PtAt w.heap.size ⟨pc, pl, ph⟩ V3.drew from HP.out); have HZ := Hd (show PtAt (w.heap.size + 1) ⟨0, 0, 0⟩ V3.drew from HZ.out); have HQ := Hd (show WkAt v r q V3.drew from HQ.out); have HA := Hd (show AxAt xb (axF v r 2) V3.drew from HA.out); have HB := Hd (show Below w.heap.size w V3.drew from HB.out.drew))
   generalize World.drew V3 = Vd at *
   refine any_of_tail 7 7 (fun w' => PtAt w.heap.size ⟨pc, pl, ph⟩ w' ∧ WkAt v r q w' ∧ AxAt xb (axF v r 2) w') (by kernel_rfl) ⟨HP.out, HQ.out, HA.out⟩ (fun hS => ?_)
   refine htk3_RkF 0 ?_
   refine htk3_RkF 1 ?_
   refine htk3_RkF 2 ?_
   refine htk3_RkF 3 ?_
   refine htk3_RkF 4 ?_
   (refine headH_one 5 ?_; refine headH_op rfl (fun K hK => ?_); (try simp only [hng]); go_simp; refine (HWH2.out _).mono ?_; rintro e W2 ⟨rfl, hb⟩; dsimp only; have HPn := Hd (HP.out.step hb); have HZn := Hd (HZ.out.step hb); have HQn := Hd (HQ.out.step hb); have HAn := Hd (HA.out.step hb); have HBn := Hd (HB.out.trans (hb.mono HB.out.size)); refine hK.out _ _ ⟨HPn.out, HQn.out, HAn.out⟩ (fun hS => ?_); clear hK K hb; have HP := HPn; have HZ := HZn; have HQ := HQn; have HA := HAn; have HB := HBn; refine hnm ?_)
   refine headH_one 6 ?_
   refine headH_op rfl (fun K hK => ?_)
   (try simp only [hng])
   go_simp
   rw [show (if wh < ph then wh else ph) = min ph wh from by split <;> omega]
   refine hK.out _ _ ⟨HP.out, HQ.out, HA.out⟩ (fun hS => ?_)
   clear hK K
   refine hnm ?_
   change tailL _ _ _ _ _ _ _ _
   refine ⟨by kernel_rfl, ?_⟩
   simp only [List.drop_succ_cons, List.drop_zero]
   generalize min ph wh = mn at *
   (obtain ⟨p0, p1, p2⟩ := cr3 HP.out; have f1 := frozen_of_row _ _ 1 _ _ HP.out; have f2 := frozen_of_row _ _ 2 _ _ HP.out; have HPs := Hd (heap_setCell_same W2 w.heap.size 2 _ _ (.int .i64 mn) HP.out); have HZs := Hd ((heap_setCell_other W2 ⟨w.heap.size, 2, none⟩ (w.heap.size + 1) (.int .i64 mn) (by show w.heap.size + 1 ≠ w.heap.size; omega)).trans HZ.out); have HBs := Hd (HB.out.setCell (p := ⟨w.heap.size, 2, none⟩) (Nat.le_refl _) (.int .i64 mn)))
   go_upto_region 8 with (fail)
   generalize World.setCell W2 _ _ = Wn at *
   ((obtain ⟨p0, p1, p2⟩ := cr3 HPs.out; obtain ⟨z0, z1, z2⟩ := cr3 HZs.out; obtain ⟨f0, f1, f2⟩ := fr3 HZs.out; go_wp2; obtain ⟨q1, q2, q3⟩ := rk_set3 (x := .int .i64 pc) (y := .int .i64 pl) (z := .int .i64 mn) HZs.out; obtain ⟨r0, r1, r2⟩ := cr3 q1; have hBW := Hd (((HBs.out.setCell (p := ⟨w.heap.size + 1, 0, none⟩) (show w.heap.size ≤ w.heap.size + 1 by omega) (.int .i64 pc)).setCell (p := ⟨w.heap.size + 1, 1, none⟩) (show w.heap.size ≤ w.heap.size + 1 by omega) (.int .i64 pl)).setCell (p := ⟨w.heap.size + 1, 2, none⟩) (show w.heap.size ≤ w.heap.size + 1 by omega) (.int .i64 mn)); clear q1 q2 q3; generalize World.setCell (World.setCell (World.setCell Wn _ _) _ _) _ _ = Wf at *; refine bodyPost_ret (v := .agg #[.int .i64 pc, .int .i64 pl, .int .i64 mn]) (by simp [results, Tryz.results136, go_sem, r0, r1, r2]) rfl ?_; exact ⟨by rw [HCU.out], hBW.out⟩))
  ·rw [if_neg h1] at HCU
   by_cases h2 : r.dz < 0
   ·rw [if_pos h2] at HCU
    have HWH2 := Hd (fun (W : World) => HWH.out W (by omega))
    clear HWH
    go_upto_region 5 with (fail)
    clear x0 x1 x2
    rename World => V3
    refine wp_region_any (by kernel_rfl) ?_
    change wpAny _ _ _ _ _ _ _ (World.drew V3)
    (have HP := Hd (show PtAt w.heap.size ⟨pc, pl, ph⟩ V3.drew from HP.out); have HZ := Hd (show PtAt (w.heap.size + 1) ⟨0, 0, 0⟩ V3.drew from HZ.out); have HQ := Hd (show WkAt v r q V3.drew from HQ.out); have HA := Hd (show AxAt xb (axF v r 2) V3.drew from HA.out); have HB := Hd (show Below w.heap.size w V3.drew from HB.out.drew))
    generalize World.drew V3 = Vd at *
    refine any_of_tail 7 7 (fun w' => PtAt w.heap.size ⟨pc, pl, ph⟩ w' ∧ WkAt v r q w' ∧ AxAt xb (axF v r 2) w') (by kernel_rfl) ⟨HP.out, HQ.out, HA.out⟩ (fun hS => ?_)
    refine htk3_RkF 0 ?_
    refine htk3_RkF 1 ?_
    refine htk3_RkF 2 ?_
    refine htk3_RkF 3 ?_
    refine htk3_RkF 4 ?_
    (refine headH_one 5 ?_; refine headH_op rfl (fun K hK => ?_); (try simp only [hng]); go_simp; refine (HWH2.out _).mono ?_; rintro e W2 ⟨rfl, hb⟩; dsimp only; have HPn := Hd (HP.out.step hb); have HZn := Hd (HZ.out.step hb); have HQn := Hd (HQ.out.step hb); have HAn := Hd (HA.out.step hb); have HBn := Hd (HB.out.trans (hb.mono HB.out.size)); refine hK.out _ _ ⟨HPn.out, HQn.out, HAn.out⟩ (fun hS => ?_); clear hK K hb; have HP := HPn; have HZ := HZn; have HQ := HQn; have HA := HAn; have HB := HBn; refine hnm ?_)
    refine headH_one 6 ?_
    refine headH_op rfl (fun K hK => ?_)
    (try simp only [hng])
    go_simp
    rw [show (if pl < wh then wh else pl) = max pl wh from by split <;> omega]
    refine hK.out _ _ ⟨HP.out, HQ.out, HA.out⟩ (fun hS => ?_)
    clear hK K
    refine hnm ?_
    change tailL _ _ _ _ _ _ _ _
    refine ⟨by kernel_rfl, ?_⟩
    simp only [List.drop_succ_cons, List.drop_zero]
    generalize max pl wh = mn at *
    (obtain ⟨p0, p1, p2⟩ := cr3 HP.out; have f1 := frozen_of_row _ _ 1 _ _ HP.out; have f2 := frozen_of_row _ _ 2 _ _ HP.out; have HPs := Hd (heap_setCell_same W2 w.heap.size 1 _ _ (.int .i64 mn) HP.out); have HZs := Hd ((heap_setCell_other W2 ⟨w.heap.size, 1, none⟩ (w.heap.size + 1) (.int .i64 mn) (by show w.heap.size + 1 ≠ w.heap.size; omega)).trans HZ.out); have HBs := Hd (HB.out.setCell (p := ⟨w.heap.size, 1, none⟩) (Nat.le_refl _) (.int .i64 mn)))
    go_upto_region 8 with (fail)
    generalize World.setCell W2 _ _ = Wn at *
    ((obtain ⟨p0, p1, p2⟩ := cr3 HPs.out; obtain ⟨z0, z1, z2⟩ := cr3 HZs.out; obtain ⟨f0, f1, f2⟩ := fr3 HZs.out; go_wp2; obtain ⟨q1, q2, q3⟩ := rk_set3 (x := .int .i64 pc) (y := .int .i64 mn) (z := .int .i64 ph) HZs.out; obtain ⟨r0, r1, r2⟩ := cr3 q1; have hBW := Hd (((HBs.out.setCell (p := ⟨w.heap.size + 1, 0, none⟩) (show w.heap.size ≤ w.heap.size + 1 by omega) (.int .i64 pc)).setCell (p := ⟨w.heap.size + 1, 1, none⟩) (show w.heap.size ≤ w.heap.size + 1 by omega) (.int .i64 mn)).setCell (p := ⟨w.heap.size + 1, 2, none⟩) (show w.heap.size ≤ w.heap.size + 1 by omega) (.int .i64 ph)); clear q1 q2 q3; generalize World.setCell (World.setCell (World.setCell Wn _ _) _ _) _ _ = Wf at *; refine bodyPost_ret (v := .agg #[.int .i64 pc, .int .i64 mn, .int .i64 ph]) (by simp [results, Tryz.results136, go_sem, r0, r1, r2]) rfl ?_; exact ⟨by rw [HCU.out], hBW.out⟩))
   ·rw [if_neg h2] at HCU
    clear HWH
    have p1 := cell_of_row _ _ 1 _ _ _ HP.out
    by_cases h3 : gk ≤ r.z
    ·rw [if_pos h3] at HCU
     rename World => W2
     (obtain ⟨p0, p1, p2⟩ := cr3 HP.out; have f1 := frozen_of_row _ _ 1 _ _ HP.out; have f2 := frozen_of_row _ _ 2 _ _ HP.out; have HPs := Hd (heap_setCell_same W2 w.heap.size 2 _ _ (.int .i64 pl) HP.out); have HZs := Hd ((heap_setCell_other W2 ⟨w.heap.size, 2, none⟩ (w.heap.size + 1) (.int .i64 pl) (by show w.heap.size + 1 ≠ w.heap.size; omega)).trans HZ.out); have HBs := Hd (HB.out.setCell (p := ⟨w.heap.size, 2, none⟩) (Nat.le_refl _) (.int .i64 pl)))
     go_upto_region 8 with (fail)
     generalize World.setCell W2 _ _ = Wn at *
     ((obtain ⟨p0, p1, p2⟩ := cr3 HPs.out; obtain ⟨z0, z1, z2⟩ := cr3 HZs.out; obtain ⟨f0, f1, f2⟩ := fr3 HZs.out; go_wp2; obtain ⟨q1, q2, q3⟩ := rk_set3 (x := .int .i64 pc) (y := .int .i64 pl) (z := .int .i64 pl) HZs.out; obtain ⟨r0, r1, r2⟩ := cr3 q1; have hBW := Hd (((HBs.out.setCell (p := ⟨w.heap.size + 1, 0, none⟩) (show w.heap.size ≤ w.heap.size + 1 by omega) (.int .i64 pc)).setCell (p := ⟨w.heap.size + 1, 1, none⟩) (show w.heap.size ≤ w.heap.size + 1 by omega) (.int .i64 pl)).setCell (p := ⟨w.heap.size + 1, 2, none⟩) (show w.heap.size ≤ w.heap.size + 1 by omega) (.int .i64 pl)); clear q1 q2 q3; generalize World.setCell (World.setCell (World.setCell Wn _ _) _ _) _ _ = Wf at *; refine bodyPost_ret (v := .agg #[.int .i64 pc, .int .i64 pl, .int .i64 pl]) (by simp [results, Tryz.results136, go_sem, r0, r1, r2]) rfl ?_; exact ⟨by rw [HCU.out], hBW.out⟩))
    ·rw [if_neg h3] at HCU
     rename World => Wn
     have HPs := HP
     have HZs := HZ
     have HBs := HB
     go_upto_region 8 with (fail)
     ((obtain ⟨p0, p1, p2⟩ := cr3 HPs.out; obtain ⟨z0, z1, z2⟩ := cr3 HZs.out; obtain ⟨f0, f1, f2⟩ := fr3 HZs.out; go_wp2; obtain ⟨q1, q2, q3⟩ := rk_set3 (x := .int .i64 pc) (y := .int .i64 pl) (z := .int .i64 ph) HZs.out; obtain ⟨r0, r1, r2⟩ := cr3 q1; have hBW := Hd (((HBs.out.setCell (p := ⟨w.heap.size + 1, 0, none⟩) (show w.heap.size ≤ w.heap.size + 1 by omega) (.int .i64 pc)).setCell (p := ⟨w.heap.size + 1, 1, none⟩) (show w.heap.size ≤ w.heap.size + 1 by omega) (.int .i64 pl)).setCell (p := ⟨w.heap.size + 1, 2, none⟩) (show w.heap.size ≤ w.heap.size + 1 by omega) (.int .i64 ph)); clear q1 q2 q3; generalize World.setCell (World.setCell (World.setCell Wn _ _) _ _) _ _ = Wf at *; refine bodyPost_ret (v := .agg #[.int .i64 pc, .int .i64 pl, .int .i64 ph]) (by simp [results, Tryz.results136, go_sem, r0, r1, r2]) rfl ?_; exact ⟨by rw [HCU.out], hBW.out⟩))
end Go.Proofs.YtgmpelhphnmknaaGreat
namespace Go.Proofs.YtgmpelhphnmknaaGreat
open Go.RowKit
theorem shapeB_span {n i : Nat} {ss : Nat → SV} {m : Nat} {bs : Nat → BM} (hi : i < n) (h : spanB (ss i) 1000 = false) : shapeB n ss m bs = false := by
 unfold shapeB; rw [allUpto_false hi h, Bool.false_and]
theorem shapeB_beam {n i : Nat} {ss : Nat → SV} {m : Nat} {bs : Nat → BM} (hi : i < m) (h : beamB n (bs i) = false) : shapeB n ss m bs = false := by
 unfold shapeB; rw [allUpto_false hi h, Bool.false_and, Bool.and_false]
theorem shapeB_many {n : Nat} {ss : Nat → SV} {m : Nat} {bs : Nat → BM} (h : inB n 1 40 = false ∨ 20 < m) : shapeB n ss m bs = false := by
 unfold shapeB
 rcases h with h | h
 ·rw [h, Bool.false_and, Bool.and_false, Bool.and_false]
 ·rw [decide_eq_false (p := m ≤ 20) (by omega), Bool.and_false, Bool.and_false, Bool.and_false]
theorem shapeB_yes {n : Nat} {ss : Nat → SV} {m : Nat} {bs : Nat → BM} (h1 : inB n 1 40 = true) (h2 : ¬ 20 < m) (h3 : ∀ j, j < n → spanB (ss j) 1000 = true) (h4 : ∀ j, j < m → beamB n (bs j) = true) : shapeB n ss m bs = true := by
 unfold shapeB
 rw [h1, allUpto_true h3, allUpto_true h4, decide_eq_true (p := m ≤ 20) (by omega)]; rfl
theorem beamB_weight {n : Nat} {b : BM} {i : Nat} (hi : i < b.wn) (h : inB (b.ws i) 1 1000000 = false) : beamB n b = false := by
 unfold beamB; rw [allUpto_false hi h, Bool.false_and]
theorem beamB_head {n : Nat} {b : BM} (h : (b.wn == b.cn) = false ∨ spanB ⟨b.lo, b.hi⟩ 1000000000000 = false ∨ setB n b.cn b.cs = false) : beamB n b = false := by
 unfold beamB
 rcases h with h | h | h <;> rw [h] <;> simp
theorem beamB_yes {n : Nat} {b : BM} (h1 : (b.wn == b.cn) = true) (h2 : spanB ⟨b.lo, b.hi⟩ 1000000000000 = true) (h3 : setB n b.cn b.cs = true) (h4 : ∀ i, i < b.wn → inB (b.ws i) 1 1000000 = true) : beamB n b = true := by
 unfold beamB; rw [h1, h2, h3, allUpto_true h4]; rfl
abbrev BX (x : Nat) (ca : Option Addr) (cn cc : Nat) (wa : Option Addr) (wn wc : Nat) (lo hi : Int) (W : World) : Prop := x < W.heap.size ∧ W.cell? ⟨x, 0, none⟩ = some (.slice ca cn cc) ∧ W.cell? ⟨x, 1, none⟩ = some (.slice wa wn wc) ∧ W.cell? ⟨x, 2, none⟩ = some (.int .i64 lo) ∧ W.cell? ⟨x, 3, none⟩ = some (.int .i64 hi)
theorem BX_step {x : Nat} {ca : Option Addr} {cn cc : Nat} {wa : Option Addr} {wn wc : Nat} {lo hi : Int} {W wy : World} (h : BX x ca cn cc wa wn wc lo hi W) (hb : Below W.heap.size W wy) : BX x ca cn cc wa wn wc lo hi wy := by
 obtain ⟨h0, h1, h2, h3, h4⟩ := h
 have c := (bcell hb).1
 exact ⟨by have := hb.size; omega, (c _ _ h0).trans h1, (c _ _ h0).trans h2, (c _ _ h0).trans h3, (c _ _ h0).trans h4⟩
theorem BX_new {ca : Option Addr} {cn cc : Nat} {wa : Option Addr} {wn wc : Nat} {lo hi : Int} {W : World} {t : TypeId} : BX W.heap.size ca cn cc wa wn wc lo hi (W.alloc (.cells #[.slice ca cn cc, .slice wa wn wc, .int .i64 lo, .int .i64 hi] t)) :=
 ⟨by simp, cell_of_row _ _ _ _ _ _ (heap_alloc_new W _), cell_of_row _ _ _ _ _ _ (heap_alloc_new W _), cell_of_row _ _ _ _ _ _ (heap_alloc_new W _), cell_of_row _ _ _ _ _ _ (heap_alloc_new W _)⟩
theorem shape_any (a : Option Addr) (n c : Nat) (ba : Option Addr) (m bc : Nat) (ss : Nat → SV) (bs : Nat → BM) (w : World) (B : Nat) (hBw : B ≤ w.heap.size) (hS : Spans B w a n ss) (hM : Beams B w ba m bs) :
  Calls Tryz.prog 96 #[imageV a n c ba m bc] w fun e w' => e = .returned (.bool (shapeB n ss m bs)) ∧ Below w.heap.size w w' := by
 have hn := hS.1
 have hm := hM.1
 have hnl := hn
 unfold maxLen at hn hm
 have HS := Lib.hid hS
 have HM := Lib.hid hM
 have HF1 := Hd (@shapeB_span n · ss m bs)
 have HF2 := Hd (@shapeB_beam n · ss m bs)
 have HF3 := Hd (@shapeB_many n ss m bs)
 have HF4 := Hd (@shapeB_yes n ss m bs)
 have HNL := Lib.hid hnl
 clear hS hM hnl
 generalize shapeB n ss m bs = RES at *
 cases h1 : inB n 1 40
 ·have HF := Hd (HF3.out (.inl h1))
  go_enter Tryz.func96, Tryz.ntmps96
  go_wp2_with (go_at_call 49; refine (in_any _ _ _ _).mono ?_; rintro e w' ⟨rfl, rfl⟩)
  go_ret
  exact ⟨ret_bool HF.out.symm, (Below.refl _ _).alloc (Nat.le_refl _) _⟩
 ·have H1 := Lib.hid h1
  by_cases h2 : 20 < m
  ·have h2' : (20 : Int) < (m : Int) := by omega
   have HF := Hd (HF3.out (.inr h2))
   go_enter Tryz.func96, Tryz.ntmps96
   go_wp2_with (go_at_call 49; refine (in_any _ _ _ _).mono ?_; rintro e w' ⟨rfl, rfl⟩)
   go_ret
   exact ⟨ret_bool HF.out.symm, (Below.refl _ _).alloc (Nat.le_refl _) _⟩
  ·have h2' : ¬ (20 : Int) < (m : Int) := by omega
   go_enter Tryz.func96, Tryz.ntmps96
   go_wp2_with (go_at_call 49; refine (in_any _ _ _ _).mono ?_; rintro e w' ⟨rfl, rfl⟩)
   go_loopw [23] (fun t wr => ∃ k : Nat, k ≤ n ∧ t = .int .i64 (k : Int) ∧ Hid (∀ j, j < k → spanB (ss j) 1000 = true) ∧ Hid (LI a n c ba m bc w wr)) (fun t _ => n - (intOf t).toNat)
   case atStart => exact ⟨0, Nat.zero_le _, rfl, Hd (fun j h => by omega), Lib.hid LI_start⟩
   case round =>
    obtain ⟨k, hk, rfl, HALL, HL⟩ := hrel
    obtain ⟨l0, l1, l2, l3⟩ := HL.out
    by_cases hlt : k < n
    ·have hlt' : (k : Int) < (n : Int) := by omega
     obtain ⟨b, off, rfl, hbB, c0, c1⟩ := (HS.out.below (l3.mono hBw)).get hlt
     have hbz : b < wr.heap.size := by omega
     cases h3 : spanB (ss k) 1000
     ·have HF := Hd (HF1.out _ hlt h3)
      have h3' : spanB ⟨(ss k).lo, (ss k).hi⟩ 1000 = false := h3
      go_wp2_with (go_at_call 45; refine (span_any _ _ _ _).mono ?_; rintro e wy ⟨rfl, hby⟩; rw [h3']; have hb2 : Below wr.heap.size wr wy := ((Below.refl _ _).alloc (Nat.le_refl _) _).trans (hby.mono (by simp)); clear hby)
      go_ret
      exact ⟨ret_bool HF.out.symm, l3.trans (hb2.mono l3.size)⟩
     ·have H3 := Lib.hid h3
      have h3' : spanB ⟨(ss k).lo, (ss k).hi⟩ 1000 = true := h3
      clear h3
      go_wp2_with (go_at_call 45; refine (span_any _ _ _ _).mono ?_; rintro e wy ⟨rfl, hby⟩; rw [h3']; have hb2 : Below wr.heap.size wr wy := ((Below.refl _ _).alloc (Nat.le_refl _) _).trans (hby.mono (by simp)); clear hby)
      go_roundw
      case rel => exact ⟨k + 1, by omega, by go_num, Hd (fun j hj => by (by_cases e : j = k; subst e; exact H3.out; exact HALL.out j (by omega))), Hd (LI_step HL.out hb2)⟩
      case measure => simp [intOf]; omega
    ·obtain rfl : k = n := by omega
     have hlt' : ¬ (k : Int) < (k : Int) := by omega
     go_wp2
     go_loopw [34] (fun t wr => ∃ i : Nat, i ≤ m ∧ t = .int .i64 (i : Int) ∧ Hid (∀ j, j < i → beamB k (bs j) = true) ∧ Hid (LI a k c ba m bc w wr)) (fun t _ => m - (intOf t).toNat)
     case atStart => exact ⟨0, Nat.zero_le _, rfl, Hd (fun j h => by omega), HL⟩
     case round =>
      clear HL l0 l1 l2 l3
      obtain ⟨i, hi, rfl, HBM, HL⟩ := hrel
      obtain ⟨l0, l1, l2, l3⟩ := HL.out
      by_cases hlt : i < m
      ·have hlt2 : (i : Int) < (m : Int) := by omega
       obtain ⟨b, off, rfl, hbB, hat, hmem⟩ := HM.out.get hlt
       obtain ⟨c0, c1, c2, c3⟩ := hat.below (l3.mono hBw) hbB
       have hbz : b < wr.heap.size := by omega
       have HG1 := Hd (HF2.out i hlt)
       have HG2 := Hd (@beamB_head k (bs i))
       have HG3 := Hd (fun j hj h => @beamB_weight k (bs i) j hj h)
       have HG4 := Hd (@beamB_yes k (bs i))
       generalize hbb : bs i = q at *
       have HBB := Lib.hid hbb
       clear hbb
       obtain ⟨qca, qcn, qcc, qwa, qwn, qwc, qlo, qhi, qcs, qws⟩ := q
       obtain ⟨qm1, qm2, qm3, qm4⟩ := hmem
       dsimp only at c0 c1 c2 c3 qm1 qm2 qm3 qm4
       have HQ3 := Lib.hid qm3
       have HQ4 := Lib.hid qm4
       have HQ1 := Lib.hid qm1
       have hq2 := qm2
       unfold maxLen at hq2
       clear qm3 qm4 qm1 qm2 hat
       go_upto_region 12 with (fail)
       have hxb : Below wr.heap.size wr (wr.alloc (.cells #[.slice qca qcn qcc, .slice qwa qwn qwc, .int .i64 qlo, .int .i64 qhi] 62)) := (Below.refl _ _).alloc (Nat.le_refl _) _
       have hX0 : BX wr.heap.size qca qcn qcc qwa qwn qwc qlo qhi (wr.alloc (.cells #[.slice qca qcn qcc, .slice qwa qwn qwc, .int .i64 qlo, .int .i64 qhi] 62)) := BX_new
       have hL0 := LI_step ⟨l0, l1, l2, l3⟩ hxb
       clear l0 l1 l2 l3 c0 c1 c2 c3 hbz hxb HL
       generalize World.alloc wr _ = V at *
       generalize wr.heap.size = x at *
       obtain ⟨l0, l1, l2, l3⟩ := hL0
       obtain ⟨x0, x1, x2, x3, x4⟩ := hX0
       cases h4 : (qwn == qcn)
       ·have h4' : ((qwn : Int) != (qcn : Int)) = true := by rw [beq_eq_false_iff_ne] at h4; simp; omega
        have HF := Hd (HG1.out (HG2.out (.inl h4)))
        go_wp2
        go_ret
        exact ⟨ret_bool HF.out.symm, l3⟩
       ·have h4' : ((qwn : Int) != (qcn : Int)) = false := by rw [beq_iff_eq] at h4; simp; omega
        have H4 := Lib.hid h4
        cases h5 : spanB ⟨qlo, qhi⟩ 1000000000000
        ·have HF := Hd (HG1.out (HG2.out (.inr (.inl h5))))
         clear h4
         go_wp2_with (go_at_call 45; refine (span_any _ _ _ _).mono ?_; rintro e wy ⟨rfl, hby⟩; rw [h5]; have hL := LI_step ⟨l0, l1, l2, l3⟩ hby; have hX := BX_step ⟨x0, x1, x2, x3, x4⟩ hby; clear l0 l1 l2 l3 x0 x1 x2 x3 x4 hby; obtain ⟨l0, l1, l2, l3⟩ := hL; obtain ⟨x0, x1, x2, x3, x4⟩ := hX)
         go_ret
         exact ⟨ret_bool HF.out.symm, l3⟩
        ·have H5 := Lib.hid h5
         cases h6 : setB k qcn qcs
         ·have HF := Hd (HG1.out (HG2.out (.inr (.inr h6))))
          clear h4
          go_wp2_with (first | (go_at_call 45; refine (span_any _ _ _ _).mono ?_; rintro e wy ⟨rfl, hby⟩; rw [h5]; have hL := LI_step ⟨l0, l1, l2, l3⟩ hby; have hX := BX_step ⟨x0, x1, x2, x3, x4⟩ hby; clear l0 l1 l2 l3 x0 x1 x2 x3 x4 hby; obtain ⟨l0, l1, l2, l3⟩ := hL; obtain ⟨x0, x1, x2, x3, x4⟩ := hX) | (go_at_call 148; refine (set_any _ _ _ _ _ _ _ _ _ _ _ B (by omega) HNL.out HQ1.out (HQ3.out.below (l3.mono hBw))).mono ?_; rintro e wy ⟨rfl, hby⟩; rw [h6]; have hL := LI_step ⟨l0, l1, l2, l3⟩ hby; have hX := BX_step ⟨x0, x1, x2, x3, x4⟩ hby; clear l0 l1 l2 l3 x0 x1 x2 x3 x4 hby; obtain ⟨l0, l1, l2, l3⟩ := hL; obtain ⟨x0, x1, x2, x3, x4⟩ := hX))
          go_ret
          exact ⟨ret_bool HF.out.symm, l3⟩
         ·have H6 := Lib.hid h6
          clear h4
          go_wp2_with (first | (go_at_call 45; refine (span_any _ _ _ _).mono ?_; rintro e wy ⟨rfl, hby⟩; rw [h5]; have hL := LI_step ⟨l0, l1, l2, l3⟩ hby; have hX := BX_step ⟨x0, x1, x2, x3, x4⟩ hby; clear l0 l1 l2 l3 x0 x1 x2 x3 x4 hby; obtain ⟨l0, l1, l2, l3⟩ := hL; obtain ⟨x0, x1, x2, x3, x4⟩ := hX) | (go_at_call 148; refine (set_any _ _ _ _ _ _ _ _ _ _ _ B (by omega) HNL.out HQ1.out (HQ3.out.below (l3.mono hBw))).mono ?_; rintro e wy ⟨rfl, hby⟩; rw [h6]; have hL := LI_step ⟨l0, l1, l2, l3⟩ hby; have hX := BX_step ⟨x0, x1, x2, x3, x4⟩ hby; clear l0 l1 l2 l3 x0 x1 x2 x3 x4 hby; obtain ⟨l0, l1, l2, l3⟩ := hL; obtain ⟨x0, x1, x2, x3, x4⟩ := hX))
          go_loopw [64] (fun t wx => ∃ j : Nat, j ≤ qwn ∧ t = .int .i64 (j : Int) ∧ Hid (∀ r, r < j → inB (qws r) 1 1000000 = true) ∧ Hid (LI a k c (some ⟨b, off, none⟩) m bc w wx)) (fun t _ => qwn - (intOf t).toNat)
          case atStart => exact ⟨0, Nat.zero_le _, rfl, Hd (fun j h => by omega), Lib.hid ⟨l0, l1, l2, l3⟩⟩
          case round =>
           clear l0 l1 l2 l3 x0 x1 x2 x3 x4
           obtain ⟨j, hj, rfl, HW, HL⟩ := hrel
           obtain ⟨l0, l1, l2, l3⟩ := HL.out
           by_cases hlt3 : j < qwn
           ·have hlt4 : (j : Int) < (qwn : Int) := by omega
            obtain ⟨wb, woff, rfl, hwB, d0⟩ := (HQ4.out.below (l3.mono hBw)).get hlt3
            have hwz : wb < wr.heap.size := by omega
            cases h7 : inB (qws j) 1 1000000
            ·have HF := Hd (HG1.out (HG3.out j hlt3 h7))
             go_wp2_with (go_at_call 49; refine (in_any _ _ _ _).mono ?_; rintro e w' ⟨rfl, rfl⟩)
             go_ret
             exact ⟨ret_bool HF.out.symm, l3⟩
            ·have H7 := Lib.hid h7
             go_wp2_with (go_at_call 49; refine (in_any _ _ _ _).mono ?_; rintro e w' ⟨rfl, rfl⟩)
             go_roundw
             case rel => exact ⟨j + 1, by omega, by go_num, Hd (fun r hr => by (by_cases e : r = j; subst e; exact H7.out; exact HW.out r (by omega))), Lib.hid ⟨l0, l1, l2, l3⟩⟩
             case measure => simp [intOf]; omega
           ·obtain rfl : j = qwn := by omega
            have hlt4 : ¬ (j : Int) < (j : Int) := by omega
            have HK := Hd (HG4.out H4.out H5.out H6.out HW.out)
            go_wp2
            go_roundw
            case rel => exact ⟨i + 1, by omega, by go_num, Hd (fun r hr => by (by_cases e : r = i; subst e; rw [HBB.out]; exact HK.out; exact HBM.out r (by omega))), HL⟩
            case measure => simp [intOf]; omega
      ·obtain rfl : i = m := by omega
       have hlt2 : ¬ (i : Int) < (i : Int) := by omega
       have HF := Hd (HF4.out H1.out h2 HALL.out HBM.out)
       go_wp2
       go_ret
       exact ⟨ret_bool HF.out.symm, l3⟩
def checkF (n : Nat) (ss : Nat → SV) (m : Nat) (bs : Nat → BM) (fine : Bool) : Int := if shapeB n ss m bs = false ∨ fine = false then 2 else if longB n ss 200000 = true then 3 else 0
theorem checkF_true {n : Nat} {ss : Nat → SV} {m : Nat} {bs : Nat → BM} : checkF n ss m bs true = checkN n ss m bs := by unfold checkF checkN; simp
theorem checked_any (a : Option Addr) (n c : Nat) (ba : Option Addr) (m bc : Nat) (ss : Nat → SV) (bs : Nat → BM) (fine : Bool) (w : World) (B : Nat) (hBw : B ≤ w.heap.size) (hS : Spans B w a n ss) (hM : Beams B w ba m bs) :
  Calls Tryz.prog 50 #[imageV a n c ba m bc, .bool fine] w fun e w' => e = .returned (.int .i64 (checkF n ss m bs fine)) ∧ Below w.heap.size w w' := by
 have HS := Lib.hid hS
 have HM := Lib.hid hM
 clear hS hM
 have hL0 : LI a n c ba m bc w (w.alloc (.cells #[.slice a n c, .slice ba m bc] 59)) := LI_start
 cases h1 : shapeB n ss m bs
 ·have HF := Hd (show checkF n ss m bs fine = 2 by unfold checkF; rw [if_pos (.inl h1)])
  go_enter Tryz.func50, Tryz.ntmps50
  go_upto_region 1 with (fail)
  generalize World.alloc w _ = V at *
  obtain ⟨l0, l1, l2, l3⟩ := hL0
  go_wp2_with (go_at_call 96; refine (shape_any _ _ _ _ _ _ _ _ _ B (by omega) (HS.out.below (l3.mono hBw)) (HM.out.below (l3.mono hBw))).mono ?_; rintro e wy ⟨rfl, hby⟩; rw [h1]; have hL := LI_step ⟨l0, l1, l2, l3⟩ hby; clear l0 l1 l2 l3 hby; obtain ⟨l0, l1, l2, l3⟩ := hL)
  go_ret
  exact ⟨ret_int HF.out.symm, l3⟩
 ·cases fine
  ·have HF := Hd (show checkF n ss m bs false = 2 by unfold checkF; rw [if_pos (.inr rfl)])
   go_enter Tryz.func50, Tryz.ntmps50
   go_upto_region 1 with (fail)
   generalize World.alloc w _ = V at *
   obtain ⟨l0, l1, l2, l3⟩ := hL0
   go_wp2_with (go_at_call 96; refine (shape_any _ _ _ _ _ _ _ _ _ B (by omega) (HS.out.below (l3.mono hBw)) (HM.out.below (l3.mono hBw))).mono ?_; rintro e wy ⟨rfl, hby⟩; rw [h1]; have hL := LI_step ⟨l0, l1, l2, l3⟩ hby; clear l0 l1 l2 l3 hby; obtain ⟨l0, l1, l2, l3⟩ := hL)
   go_ret
   exact ⟨ret_int HF.out.symm, l3⟩
  ·have HR := Hd (shapeB_iff.1 h1).span
   cases h2 : longB n ss 200000
   ·have HF := Hd (show checkF n ss m bs true = 0 by unfold checkF; rw [if_neg (by rw [h1]; simp), h2]; rfl)
    go_enter Tryz.func50, Tryz.ntmps50
    go_upto_region 1 with (fail)
    generalize World.alloc w _ = V at *
    obtain ⟨l0, l1, l2, l3⟩ := hL0
    go_wp2_with (first | (go_at_call 96; refine (shape_any _ _ _ _ _ _ _ _ _ B (by omega) (HS.out.below (l3.mono hBw)) (HM.out.below (l3.mono hBw))).mono ?_; rintro e wy ⟨rfl, hby⟩; rw [h1]; have hL := LI_step ⟨l0, l1, l2, l3⟩ hby; clear l0 l1 l2 l3 hby; obtain ⟨l0, l1, l2, l3⟩ := hL) | (go_at_call 97; refine (long_any _ _ _ _ _ _ _ _ _ B (by omega) (HS.out.below (l3.mono hBw)) HR.out (by omega)).mono ?_; rintro e wy ⟨rfl, hby⟩; rw [h2]; have hL := LI_step ⟨l0, l1, l2, l3⟩ hby; clear l0 l1 l2 l3 hby; obtain ⟨l0, l1, l2, l3⟩ := hL))
    go_ret
    exact ⟨ret_int HF.out.symm, l3⟩
   ·have HF := Hd (show checkF n ss m bs true = 3 by unfold checkF; rw [if_neg (by rw [h1]; simp), h2]; rfl)
    go_enter Tryz.func50, Tryz.ntmps50
    go_upto_region 1 with (fail)
    generalize World.alloc w _ = V at *
    obtain ⟨l0, l1, l2, l3⟩ := hL0
    go_wp2_with (first | (go_at_call 96; refine (shape_any _ _ _ _ _ _ _ _ _ B (by omega) (HS.out.below (l3.mono hBw)) (HM.out.below (l3.mono hBw))).mono ?_; rintro e wy ⟨rfl, hby⟩; rw [h1]; have hL := LI_step ⟨l0, l1, l2, l3⟩ hby; clear l0 l1 l2 l3 hby; obtain ⟨l0, l1, l2, l3⟩ := hL) | (go_at_call 97; refine (long_any _ _ _ _ _ _ _ _ _ B (by omega) (HS.out.below (l3.mono hBw)) HR.out (by omega)).mono ?_; rintro e wy ⟨rfl, hby⟩; rw [h2]; have hL := LI_step ⟨l0, l1, l2, l3⟩ hby; clear l0 l1 l2 l3 hby; obtain ⟨l0, l1, l2, l3⟩ := hL))
    go_ret
    exact ⟨ret_int HF.out.symm, l3⟩
theorem Check_any (a : Option Addr) (n c : Nat) (ba : Option Addr) (m bc : Nat) (ss : Nat → SV) (bs : Nat → BM) (w : World) (B : Nat) (hBw : B ≤ w.heap.size) (hS : Spans B w a n ss) (hM : Beams B w ba m bs) :
  Calls Tryz.prog 51 #[imageV a n c ba m bc] w fun e w' => e = .returned (.int .i64 (checkN n ss m bs)) ∧ Below w.heap.size w w' := by
 have HS := Lib.hid hS
 have HM := Lib.hid hM
 have HE := Hd (@checkF_true n ss m bs)
 clear hS hM
 have hL0 : LI a n c ba m bc w (w.alloc (.cells #[.slice a n c, .slice ba m bc] 59)) := LI_start
 go_enter Tryz.func51, Tryz.ntmps51
 go_upto_region 1 with (fail)
 generalize World.alloc w _ = V at *
 obtain ⟨l0, l1, l2, l3⟩ := hL0
 go_wp2_with (go_at_call 50; refine (checked_any _ _ _ _ _ _ ss bs true _ B (by omega) (HS.out.below (l3.mono hBw)) (HM.out.below (l3.mono hBw))).mono ?_; rintro e wy ⟨rfl, hby⟩; rw [HE.out])
 go_ret
 exact ⟨rfl, l3.trans (hby.mono l3.size)⟩
end Go.Proofs.YtgmpelhphnmknaaGreat
