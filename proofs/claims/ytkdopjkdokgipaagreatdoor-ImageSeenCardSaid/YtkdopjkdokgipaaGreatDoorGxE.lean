/- Texts put together: LawSeB, LawSe. -/
import Derived.Test.YtkdopjkdokgipaaGreatDoorGxD
import Derived.Test.YtkdopjkdokgipaaGreatDoorGxC
namespace Go.Proofs.YtkdopjkdokgipaaGreatDoor
open Go.RowKit Go.Shelf
set_option linter.unusedVariables false
set_option linter.unusedSimpArgs false
theorem SnT.pushk {mb : Nat} {w : World} {sa : Option Addr} {n sc k : Nat} {L : List BM} {W W1 : World} {p : BM} {oa : Option Addr} {oc : Nat} {o : Obj} {g cp : Nat} (hk : L.length = k) (h : SnT mb w sa n sc L W) (hp : SeBm (mb + 1) W p)
    (hbox : W.heap[mb]? = some (.cells #[.slice sa n sc, .slice oa k oc] 50)) (hown : W.ownsRow (mb + 1) 31 4 (.slice oa k oc) k (seC L))
    (hg : (W.alloc o).grownBy W1 (Value.slice oa k oc).ownBlock) (ho : W1.ownsRow (mb + 1) 31 4 (.slice (some ⟨g, 0, none⟩) (k + 1) cp) (k + 1) (seC L ++ seC1 p)) :
    SnT mb w sa n sc (L ++ [p]) (W1.setCell ⟨mb, 1, none⟩ (.slice (some ⟨g, 0, none⟩) (k + 1) cp)) := by
  subst hk
  exact SnT.push h hp hbox hown hg ho
/-- behind Shine's call -/
def SeShine (v : VO) (r : RY) (g : Nat → Int) (lo hi : Int) (W8 : World) (bb : Nat) (err : Int) (wx : World) : Prop :=
  W8.heap.size ≤ bb ∧ Below W8.heap.size W8 wx ∧ ∃ m S, IsM v r m ∧ S.Perm (chs (prN v r g (m + 1))) ∧ ((err = 0 ∧ ∃ ca cc wa wc, wx.heap[bb]? = some (.cells #[.slice ca S.length cc, .slice wa S.length wc, .int .i64 lo, .int .i64 hi] 31) ∧ wx.ownsRow W8.heap.size 3 1 (.slice ca S.length cc) S.length (clC S) ∧ wx.ownsRow W8.heap.size 3 1 (.slice wa S.length wc) S.length (wtC S)) ∨ err = 3)
theorem seEnd {v : VO} {r : RY} {g : Nat → Int} {lo hi : Int} {W8 X : World} {bb m b1 : Nat} {S : List CH} {ca : Option Addr} {cc : Nat} {wa : Option Addr} {wc : Nat} (hX : Below W8.heap.size W8 X) (hbb : W8.heap.size ≤ bb)
    (hbox : X.heap[bb]? = some (.cells #[.slice none 0 0, .slice none 0 0, .int .i64 0, .int .i64 0] 31)) (hM : IsM v r m) (hP : S.Perm (chs (prN v r g (m + 1)))) (hb1 : W8.heap.size ≤ b1)
    (ho1 : X.ownsRow b1 3 1 (.slice ca S.length cc) S.length (clC S)) (ho2 : X.ownsRow b1 3 1 (.slice wa S.length wc) S.length (wtC S)) (hn1 : ∀ b, (Value.slice ca S.length cc).ownBlock = some b → b ≠ bb) (hn2 : ∀ b, (Value.slice wa S.length wc).ownBlock = some b → b ≠ bb) :
    SeShine v r g lo hi W8 bb 0 ((((X.setCell ⟨bb, 0, none⟩ (.slice ca S.length cc)).setCell ⟨bb, 1, none⟩ (.slice wa S.length wc)).setCell ⟨bb, 2, none⟩ (.int .i64 lo)).setCell ⟨bb, 3, none⟩ (.int .i64 hi)) := by
  obtain ⟨z1, z2, z3⟩ := set4 X bb _ _ _ _ _ (.slice ca S.length cc) (.slice wa S.length wc) (.int .i64 lo) (.int .i64 hi) hbox
  exact ⟨hbb, z3 W8 hX hbb, m, S, hM, hP, .inl ⟨rfl, ca, cc, wa, wc, z1, own_base (own_keep ho1 (fun b hb => z2 b (hn1 b hb))) hb1, own_base (own_keep ho2 (fun b hb => z2 b (hn2 b hb))) hb1⟩⟩
theorem seEnd3 {v : VO} {r : RY} {g : Nat → Int} {lo hi : Int} {W8 X : World} {bb m : Nat} {S : List CH} (hX : Below W8.heap.size W8 X) (hbb : W8.heap.size ≤ bb)
    (hbox : X.heap[bb]? = some (.cells #[.slice none 0 0, .slice none 0 0, .int .i64 0, .int .i64 0] 31)) (hM : IsM v r m) (hP : S.Perm (chs (prN v r g (m + 1)))) :
    SeShine v r g lo hi W8 bb 3 ((((X.setCell ⟨bb, 0, none⟩ (.slice none 0 0)).setCell ⟨bb, 1, none⟩ (.slice none 0 0)).setCell ⟨bb, 2, none⟩ (.int .i64 0)).setCell ⟨bb, 3, none⟩ (.int .i64 0)) := by
  obtain ⟨z1, z2, z3⟩ := set4 X bb _ _ _ _ _ (.slice none 0 0) (.slice none 0 0) (.int .i64 0) (.int .i64 0) hbox
  exact ⟨hbb, z3 W8 hX hbb, m, S, hM, hP, .inr rfl⟩
set_option maxRecDepth 100000 in
set_option maxHeartbeats 8000000 in
theorem Seen_ok {w : World} {B : Nat} {ga : Option Addr} {gn : Nat} {g : Nat → Int} {ra : Option Addr} {rn : Nat} {rs : Nat → RY} {pa : Option Addr} {pn : Nat} {ps : Nat → SV} {sa : Option Addr} {sn : Nat} {ss : Nat → SV} {da : Option Addr} {dn : Nat} {d : Nat → Int} (v : VO) (gc rc pc sc dc : Nat) (h : SeIn w B ga gn g ra rn rs pa pn ps sa sn ss da dn d) (h1 : volB v = true) (hyes : seOk v gn g rn pn sn dn d) :
    Calls Tryz.prog 4 #[v.val, .slice ga gn gc, .slice ra rn rc, .slice pa pn pc, .slice sa sn sc, .slice da dn dc] w fun e w' => e = .returned (.bool true) ∧ Below w.heap.size w w' := by
  have hv := volB_iff.1 h1
  have HVO := Lib.hid (fun (W : World) => r6Volume_any v W); have HCE := Lib.hid (fun (W : World) => r6Cells_any v hv W); have HGR := Lib.hid (fun (W : World) (hb : Below w.heap.size w W) => r6Ground_any v hv ga gn gc g W h.gl (h.G hb)); have HDE := Lib.hid (fun (W : World) (hb : Below w.heap.size w W) => r6Dense_any v hv da dn dc d W h.dl (h.D hb)); have HKN := Lib.hid (fun (W : World) (hb : Below w.heap.size w W) => h.known hb)
  have HI := Lib.hid h
  have HY := Lib.hid hyes
  have H1 := Lib.hid h1
  have HSH := Lib.hid (fun (W : World) (hb : Below w.heap.size w W) (i : Nat) (hr : rayB (rs i) = true) (hs : spanB (ps i) 1000000000000 = true) => Shine_ok shSort v (rs i) ga gn gc g (ps i).lo (ps i).hi W h.gl (h.G hb) (by unfold rkOk; rw [h1, hr, hyes.2.1]; rfl) hs)
  have HOP := Lib.hid (fun (W : World) (hb : Below w.heap.size w W) (i : Nat) (hr : rayB (rs i) = true) => Opacity_ok v (rs i) ga gn gc g da dn dc d W h.gl (h.G hb) (h.D hb) (by unfold rkOk; rw [h1, hr, hyes.2.1]; rfl) hyes.2.2.2.2.2.2 hyes.2.2.2.2.2.1)
  obtain ⟨a1, a2, a3, a4, a5, a6, a7⟩ := hyes
  have a5' : ((sn : Int) == v.nx * v.ny * v.nz) = true := by rw [beq_iff_eq]; exact a5
  have hD : (denB dn d && ((dn : Int) == v.nx * v.ny * v.nz)) = true := by rw [a6, a7]; simp
  have hsl := h.sp.1
  unfold maxLen at hsl
  rw [h1] at HVO
  rw [a2] at HGR
  rw [hD] at HDE
  unfold VO.val at HVO HCE HGR HDE HSH HOP
  unfold RY.val at HSH HOP
  unfold VO.val
  subst a4
  clear h h1 hv hD a2 a6
  generalize hNN : v.nx * v.ny * v.nz = N at *
  subst a5
  have a3' : (pn : Int) ≤ 8 := by omega
  go_enter Tryz.func4, Tryz.ntmps4; go_upto_region 1 with (fail); have HB := Lib.hid (rk_below w (.cells #[.int .i64 v.nx, .int .i64 v.ny, .int .i64 v.nz, .int .i64 v.size] 23)); have HV := Lib.hid (heap_alloc_new w (.cells #[.int .i64 v.nx, .int .i64 v.ny, .int .i64 v.nz, .int .i64 v.size] 23)); generalize World.alloc w _ = V at *; (try clear v0 v1 v2 v3); have v0 := cell_of_row _ _ 0 _ _ _ HV.out; have v1 := cell_of_row _ _ 1 _ _ _ HV.out; have v2 := cell_of_row _ _ 2 _ _ _ HV.out; have v3 := cell_of_row _ _ 3 _ _ _ HV.out
  go_upto_region 3 with (first | (go_at_call 7; refine (HVO.out _).mono ?_; rintro e w2 ⟨rfl, hb2⟩; (have HBx := Lib.hid (HB.out.trans ((hb2).mono HB.out.size)); have HVx := Lib.hid (((hb2).block _ (Array.getElem?_eq_some_iff.1 HV.out).1).trans HV.out); clear HB HV; have HB := HBx; have HV := HVx; clear HBx HVx; (try clear v0 v1 v2 v3); have v0 := cell_of_row _ _ 0 _ _ _ HV.out; have v1 := cell_of_row _ _ 1 _ _ _ HV.out; have v2 := cell_of_row _ _ 2 _ _ _ HV.out; have v3 := cell_of_row _ _ 3 _ _ _ HV.out); clear hb2) | (go_at_call 15; refine (HCE.out _).mono ?_; rintro e w2 ⟨rfl, hb2⟩; (have HBx := Lib.hid (HB.out.trans ((hb2).mono HB.out.size)); have HVx := Lib.hid (((hb2).block _ (Array.getElem?_eq_some_iff.1 HV.out).1).trans HV.out); clear HB HV; have HB := HBx; have HV := HVx; clear HBx HVx; (try clear v0 v1 v2 v3); have v0 := cell_of_row _ _ 0 _ _ _ HV.out; have v1 := cell_of_row _ _ 1 _ _ _ HV.out; have v2 := cell_of_row _ _ 2 _ _ _ HV.out; have v3 := cell_of_row _ _ 3 _ _ _ HV.out); clear hb2) | (go_at_call 9; refine (HGR.out _ HB.out).mono ?_; rintro e w2 ⟨rfl, hb2⟩; (have HBx := Lib.hid (HB.out.trans ((hb2).mono HB.out.size)); have HVx := Lib.hid (((hb2).block _ (Array.getElem?_eq_some_iff.1 HV.out).1).trans HV.out); clear HB HV; have HB := HBx; have HV := HVx; clear HBx HVx; (try clear v0 v1 v2 v3); have v0 := cell_of_row _ _ 0 _ _ _ HV.out; have v1 := cell_of_row _ _ 1 _ _ _ HV.out; have v2 := cell_of_row _ _ 2 _ _ _ HV.out; have v3 := cell_of_row _ _ 3 _ _ _ HV.out); clear hb2) | (go_at_call 12; refine (HDE.out _ HB.out).mono ?_; rintro e w2 ⟨rfl, hb2⟩; (have HBx := Lib.hid (HB.out.trans ((hb2).mono HB.out.size)); have HVx := Lib.hid (((hb2).block _ (Array.getElem?_eq_some_iff.1 HV.out).1).trans HV.out); clear HB HV; have HB := HBx; have HV := HVx; clear HBx HVx; (try clear v0 v1 v2 v3); have v0 := cell_of_row _ _ 0 _ _ _ HV.out; have v1 := cell_of_row _ _ 1 _ _ _ HV.out; have v2 := cell_of_row _ _ 2 _ _ _ HV.out; have v3 := cell_of_row _ _ 3 _ _ _ HV.out); clear hb2))
  rename World => w3
  have HW3 := Lib.hid HB.out.size
  have hmb := rk_below w3 (.cells #[.slice sa sn sc, .slice none 0 0] 50)
  have HST0 := Lib.hid (show SnT w3.heap.size w3 sa sn sc [] (w3.alloc (.cells #[.slice sa sn sc, .slice none 0 0] 50)) from ⟨hmb, ⟨none, 0, heap_alloc_new w3 _, World.ownsRow_nil _ _ _ _⟩, fun p hp => by cases hp⟩)
  clear hmb
  go_upto_region 6 with (fail)
  clear v0 v1 v2 v3
  have HVB := Lib.hid (Array.getElem?_eq_some_iff.1 HV.out).1
  generalize World.alloc w3 _ = V4 at *
  obtain ⟨mb, hmb⟩ : ∃ mb, w3.heap.size = mb := ⟨_, rfl⟩
  have HMB := Lib.hid hmb
  rw [hmb] at HST0 ⊢
  clear hmb
  go_loopw [14, 15] (fun s14 s15 wr => ∃ (i : Nat) (L : List BM), i ≤ pn ∧ s14 = .bool (agreesB i (fun j => L.getD j se0) d) ∧ s15 = .int .i64 (i : Int) ∧ Hid (L.length = i ∧ SnT mb w3 sa sn sc L wr)) (fun _ s15 _ => pn - (intOf s15).toNat)
  case atStart => exact ⟨0, [], Nat.zero_le _, rfl, rfl, Lib.hid ⟨rfl, HST0.out⟩⟩
  case round =>
    clear HST0
    obtain ⟨i, L, hin, rfl, rfl, HX⟩ := hrel
    have HLN := Lib.hid HX.out.1
    have HST := Lib.hid HX.out.2
    clear HX
    have HVr := Lib.hid ((HST.out.bel.block _ (HMB.out ▸ HVB.out)).trans HV.out)
    have HBr := Lib.hid (HB.out.trans (HST.out.bel.mono (HMB.out ▸ HW3.out)))
    have HBl := Lib.hid (HMB.out ▸ HST.out.bel)
    by_cases hlt : i < pn
    · have hlt' : (i : Int) < (pn : Int) := by omega
      obtain ⟨rb, ro, rfl, hrB, hrc⟩ := HI.out.ry.get hlt
      obtain ⟨pb, po, rfl, hpB, hpc⟩ := HI.out.op.get hlt
      have hrw : rb < w.heap.size := Nat.lt_of_lt_of_le hrB HI.out.le
      have hpw : pb < w.heap.size := Nat.lt_of_lt_of_le hpB HI.out.le
      have HSHi := Lib.hid (fun (W : World) (hb : Below w.heap.size w W) => HSH.out W hb i)
      have HOPi := Lib.hid (fun (W : World) (hb : Below w.heap.size w W) => HOP.out W hb i)
      have HRAi := Lib.hid (fun (W : World) => r6Ray_any (rs i) W)
      unfold RY.val at HRAi
      have hrz : rb < wr.heap.size := by have := HI.out.le; have := HBr.out.size; omega
      have hpz : pb < wr.heap.size := by have := HI.out.le; have := HBr.out.size; omega
      clear HSH HOP
      generalize rs i = rr at *
      generalize ps i = pp at *
      obtain ⟨rx, ry, rz, rdx, rdy, rdz⟩ := rr
      obtain ⟨lo, hi⟩ := pp
      dsimp only at hrc hpc HRAi HSHi HOPi
      have HRC := Lib.hid (And.intro hrw hrc)
      have HPC := Lib.hid (And.intro hpw hpc)
      obtain ⟨c0, c1, c2, c3, c4, c5⟩ := hrc
      obtain ⟨e0, e1⟩ := hpc
      have c0 := ((bcell HBr.out).1 rb _ hrw).trans c0
      have c1 := ((bcell HBr.out).1 rb _ hrw).trans c1
      have c2 := ((bcell HBr.out).1 rb _ hrw).trans c2
      have c3 := ((bcell HBr.out).1 rb _ hrw).trans c3
      have c4 := ((bcell HBr.out).1 rb _ hrw).trans c4
      have c5 := ((bcell HBr.out).1 rb _ hrw).trans c5
      have e0 := ((bcell HBr.out).1 pb _ hpw).trans e0
      have e1 := ((bcell HBr.out).1 pb _ hpw).trans e1
      clear hrw hpw
      generalize hag : agreesB i (fun j => L.getD j se0) d = flag at *
      have HAG := Lib.hid hag
      clear hag hrB hpB HVO HGR HDE HCE
      cases hrb : rayB ⟨rx, ry, rz, rdx, rdy, rdz⟩
      · rw [hrb] at HRAi
        clear HSHi HOPi
        go_upto_region 8 with (fail)
        (refine wp_region_calm (wr.heap.size) (by kernel_rfl) (by kernel_rfl) ?_; (repeat (first | go_big_quiet_step ((go_at_call 8; exact Calls.calm_of (Nat.le_refl _) (HRAi.out _))) | quiet_step ((go_at_call 8; exact Calls.calm_of (Nat.le_refl _) (HRAi.out _))))); refine wpQuiet_nil ?_; intro _ hw'; obtain ⟨xq, hw''⟩ := hw'; subst hw'')
        have HBx := Lib.hid (HBr.out.trans ((Calm.below xq).mono HBr.out.size))
        go_wp2_with (go_at_call 5; refine (HKN.out _ HBx.out).mono ?_; rintro e w2 ⟨rfl, hb2⟩; have HBy := Lib.hid (HBx.out.trans (hb2.mono HBx.out.size)))
        go_ret
        exact ⟨rfl, HBy.out⟩
      rw [hrb] at HRAi
      by_cases b1 : lo < 0
      · clear HSHi HOPi
        go_upto_region 8 with (fail)
        (refine wp_region_calm (wr.heap.size) (by kernel_rfl) (by kernel_rfl) ?_; (repeat (first | go_big_quiet_step ((go_at_call 8; exact Calls.calm_of (Nat.le_refl _) (HRAi.out _))) | quiet_step ((go_at_call 8; exact Calls.calm_of (Nat.le_refl _) (HRAi.out _))))); refine wpQuiet_nil ?_; intro _ hw'; obtain ⟨xq, hw''⟩ := hw'; subst hw'')
        have HBx := Lib.hid (HBr.out.trans ((Calm.below xq).mono HBr.out.size))
        go_wp2_with (go_at_call 5; refine (HKN.out _ HBx.out).mono ?_; rintro e w2 ⟨rfl, hb2⟩; have HBy := Lib.hid (HBx.out.trans (hb2.mono HBx.out.size)))
        go_ret
        exact ⟨rfl, HBy.out⟩
      by_cases b2 : hi < lo
      · clear HSHi HOPi
        go_upto_region 8 with (fail)
        (refine wp_region_calm (wr.heap.size) (by kernel_rfl) (by kernel_rfl) ?_; (repeat (first | go_big_quiet_step ((go_at_call 8; exact Calls.calm_of (Nat.le_refl _) (HRAi.out _))) | quiet_step ((go_at_call 8; exact Calls.calm_of (Nat.le_refl _) (HRAi.out _))))); refine wpQuiet_nil ?_; intro _ hw'; obtain ⟨xq, hw''⟩ := hw'; subst hw'')
        have HBx := Lib.hid (HBr.out.trans ((Calm.below xq).mono HBr.out.size))
        go_wp2_with (go_at_call 5; refine (HKN.out _ HBx.out).mono ?_; rintro e w2 ⟨rfl, hb2⟩; have HBy := Lib.hid (HBx.out.trans (hb2.mono HBx.out.size)))
        go_ret
        exact ⟨rfl, HBy.out⟩
      by_cases b3 : 1000000000000 < hi
      · clear HSHi HOPi
        go_upto_region 8 with (fail)
        (refine wp_region_calm (wr.heap.size) (by kernel_rfl) (by kernel_rfl) ?_; (repeat (first | go_big_quiet_step ((go_at_call 8; exact Calls.calm_of (Nat.le_refl _) (HRAi.out _))) | quiet_step ((go_at_call 8; exact Calls.calm_of (Nat.le_refl _) (HRAi.out _))))); refine wpQuiet_nil ?_; intro _ hw'; obtain ⟨xq, hw''⟩ := hw'; subst hw'')
        have HBx := Lib.hid (HBr.out.trans ((Calm.below xq).mono HBr.out.size))
        go_wp2_with (go_at_call 5; refine (HKN.out _ HBx.out).mono ?_; rintro e w2 ⟨rfl, hb2⟩; have HBy := Lib.hid (HBx.out.trans (hb2.mono HBx.out.size)))
        go_ret
        exact ⟨rfl, HBy.out⟩
      have hspn : spanB ⟨lo, hi⟩ 1000000000000 = true := by
        unfold spanB
        rw [Bool.and_eq_true, inB_iff]
        simp only [decide_eq_true_eq]
        omega
      go_upto_region 8 with (fail)
      (refine wp_region_calm (wr.heap.size) (by kernel_rfl) (by kernel_rfl) ?_; (repeat (first | go_big_quiet_step ((go_at_call 8; exact Calls.calm_of (Nat.le_refl _) (HRAi.out _))) | quiet_step ((go_at_call 8; exact Calls.calm_of (Nat.le_refl _) (HRAi.out _))))); refine wpQuiet_nil ?_; intro _ hw'; obtain ⟨xq, hw''⟩ := hw'; subst hw'')
      have hb8 := Calm.below xq
      have HST8 := Lib.hid (HST.out.step hb8)
      have HB8 := Lib.hid (HBr.out.trans (hb8.mono HBr.out.size))
      have HV8 := Lib.hid ((hb8.block _ (Array.getElem?_eq_some_iff.1 HVr.out).1).trans HVr.out)
      have d0 := ((bcell hb8).1 rb _ hrz).trans c0
      have d1 := ((bcell hb8).1 rb _ hrz).trans c1
      have d2 := ((bcell hb8).1 rb _ hrz).trans c2
      have d3 := ((bcell hb8).1 rb _ hrz).trans c3
      have d4 := ((bcell hb8).1 rb _ hrz).trans c4
      have d5 := ((bcell hb8).1 rb _ hrz).trans c5
      have f0 := ((bcell hb8).1 pb _ hpz).trans e0
      have f1 := ((bcell hb8).1 pb _ hpz).trans e1
      have hrz8 := Nat.lt_of_lt_of_le hrz hb8.size
      have hpz8 := Nat.lt_of_lt_of_le hpz hb8.size
      clear c0 c1 c2 c3 c4 c5 e0 e1 hb8 hrz hpz HST HVr HBr HBl
      generalize Calm.val xq = W8 at *
      clear xq
      have HSHj := Lib.hid (fun (W : World) (hb : Below w.heap.size w W) => HSHi.out W hb hrb hspn)
      have HOPj := Lib.hid (fun (W : World) (hb : Below w.heap.size w W) => HOPi.out W hb hrb)
      clear HSHi HOPi HRAi
      have g0 := cell_of_row _ _ 0 _ _ _ HV8.out
      have g1 := cell_of_row _ _ 1 _ _ _ HV8.out
      have g2 := cell_of_row _ _ 2 _ _ _ HV8.out
      have g3 := cell_of_row _ _ 3 _ _ _ HV8.out
      have hvz8 := (Array.getElem?_eq_some_iff.1 HV8.out).1
      go_upto_region 10 with (fail)
      go_cut [16, 17] from 64 to 164 (fun s16 s17 wx => ∃ bb err, s16 = .pointer (some ⟨bb, 0, none⟩) ∧ s17 = .int .i64 err ∧ Hid (SeShine v ⟨rx, ry, rz, rdx, rdy, rdz⟩ g lo hi W8 bb err wx))
      case first =>
        refine wp_region_any (by kernel_rfl) ?_
        change wpAny _ _ _ _ _ _ _ (World.drew W8)
        have HB9 := Lib.hid (show Below w.heap.size w W8.drew from HB8.out.drew)
        have hS0 : Below W8.heap.size W8 W8.drew := (Below.refl _ _).drew
        have hz0 : W8.heap.size ≤ W8.drew.heap.size := Nat.le_refl _
        generalize World.drew W8 = Wd at *
        refine any_of_full 17 (fun w' => Below W8.heap.size W8 w') hS0 (fun hS => ?_)
        refine headH_takeE (i := 0) (v := ?_) rfl (by kernel_rfl) (fun _ _ _ h => h) (Or.inl ⟨by rfl, ?_⟩) (by assumption) ?_; rotate_left; (· intro w' hSw; (try dsimp only at hSw); have cc0 := (bcell hSw).1; have z0 := (cc0 _ _ hrz8).trans d0; have z1 := (cc0 _ _ hrz8).trans d1; have z2 := (cc0 _ _ hrz8).trans d2; have z3 := (cc0 _ _ hrz8).trans d3; have z4 := (cc0 _ _ hrz8).trans d4; have z5 := (cc0 _ _ hrz8).trans d5; have y0 := (cc0 _ _ hpz8).trans f0; have y1 := (cc0 _ _ hpz8).trans f1; have x0 := (cc0 _ _ hvz8).trans g0; have x1 := (cc0 _ _ hvz8).trans g1; have x2 := (cc0 _ _ hvz8).trans g2; have x3 := (cc0 _ _ hvz8).trans g3; (try simp only [List.getElem_toArray, List.getElem_cons_zero, List.getElem_cons_succ]); go_simp; (try with_reducible rfl)); (try simp only [List.getElem_toArray, List.getElem_cons_zero, List.getElem_cons_succ]); (try dsimp only [Act.put]); (try simp only [List.setIfInBounds_toArray, List.set_cons_zero, List.set_cons_succ])
        refine headH_takeE (i := 1) (v := ?_) rfl (by kernel_rfl) (fun _ _ _ h => h) (Or.inl ⟨by rfl, ?_⟩) (by assumption) ?_; rotate_left; (· intro w' hSw; (try dsimp only at hSw); have cc0 := (bcell hSw).1; have z0 := (cc0 _ _ hrz8).trans d0; have z1 := (cc0 _ _ hrz8).trans d1; have z2 := (cc0 _ _ hrz8).trans d2; have z3 := (cc0 _ _ hrz8).trans d3; have z4 := (cc0 _ _ hrz8).trans d4; have z5 := (cc0 _ _ hrz8).trans d5; have y0 := (cc0 _ _ hpz8).trans f0; have y1 := (cc0 _ _ hpz8).trans f1; have x0 := (cc0 _ _ hvz8).trans g0; have x1 := (cc0 _ _ hvz8).trans g1; have x2 := (cc0 _ _ hvz8).trans g2; have x3 := (cc0 _ _ hvz8).trans g3; (try simp only [List.getElem_toArray, List.getElem_cons_zero, List.getElem_cons_succ]); go_simp; (try with_reducible rfl)); (try simp only [List.getElem_toArray, List.getElem_cons_zero, List.getElem_cons_succ]); (try dsimp only [Act.put]); (try simp only [List.setIfInBounds_toArray, List.set_cons_zero, List.set_cons_succ])
        refine headH_takeE (i := 2) (v := ?_) rfl (by kernel_rfl) (fun _ _ _ h => h) (Or.inl ⟨by rfl, ?_⟩) (by assumption) ?_; rotate_left; (· intro w' hSw; (try dsimp only at hSw); have cc0 := (bcell hSw).1; have z0 := (cc0 _ _ hrz8).trans d0; have z1 := (cc0 _ _ hrz8).trans d1; have z2 := (cc0 _ _ hrz8).trans d2; have z3 := (cc0 _ _ hrz8).trans d3; have z4 := (cc0 _ _ hrz8).trans d4; have z5 := (cc0 _ _ hrz8).trans d5; have y0 := (cc0 _ _ hpz8).trans f0; have y1 := (cc0 _ _ hpz8).trans f1; have x0 := (cc0 _ _ hvz8).trans g0; have x1 := (cc0 _ _ hvz8).trans g1; have x2 := (cc0 _ _ hvz8).trans g2; have x3 := (cc0 _ _ hvz8).trans g3; (try simp only [List.getElem_toArray, List.getElem_cons_zero, List.getElem_cons_succ]); go_simp; (try with_reducible rfl)); (try simp only [List.getElem_toArray, List.getElem_cons_zero, List.getElem_cons_succ]); (try dsimp only [Act.put]); (try simp only [List.setIfInBounds_toArray, List.set_cons_zero, List.set_cons_succ])
        refine headH_takeE (i := 3) (v := ?_) rfl (by kernel_rfl) (fun _ _ _ h => h) (Or.inl ⟨by rfl, ?_⟩) (by assumption) ?_; rotate_left; (· intro w' hSw; (try dsimp only at hSw); have cc0 := (bcell hSw).1; have z0 := (cc0 _ _ hrz8).trans d0; have z1 := (cc0 _ _ hrz8).trans d1; have z2 := (cc0 _ _ hrz8).trans d2; have z3 := (cc0 _ _ hrz8).trans d3; have z4 := (cc0 _ _ hrz8).trans d4; have z5 := (cc0 _ _ hrz8).trans d5; have y0 := (cc0 _ _ hpz8).trans f0; have y1 := (cc0 _ _ hpz8).trans f1; have x0 := (cc0 _ _ hvz8).trans g0; have x1 := (cc0 _ _ hvz8).trans g1; have x2 := (cc0 _ _ hvz8).trans g2; have x3 := (cc0 _ _ hvz8).trans g3; (try simp only [List.getElem_toArray, List.getElem_cons_zero, List.getElem_cons_succ]); go_simp; (try with_reducible rfl)); (try simp only [List.getElem_toArray, List.getElem_cons_zero, List.getElem_cons_succ]); (try dsimp only [Act.put]); (try simp only [List.setIfInBounds_toArray, List.set_cons_zero, List.set_cons_succ])
        refine headH_takeE (i := 4) (v := ?_) rfl (by kernel_rfl) (fun _ _ _ h => h) (Or.inl ⟨by rfl, ?_⟩) (by assumption) ?_; rotate_left; (· intro w' hSw; (try dsimp only at hSw); have cc0 := (bcell hSw).1; have z0 := (cc0 _ _ hrz8).trans d0; have z1 := (cc0 _ _ hrz8).trans d1; have z2 := (cc0 _ _ hrz8).trans d2; have z3 := (cc0 _ _ hrz8).trans d3; have z4 := (cc0 _ _ hrz8).trans d4; have z5 := (cc0 _ _ hrz8).trans d5; have y0 := (cc0 _ _ hpz8).trans f0; have y1 := (cc0 _ _ hpz8).trans f1; have x0 := (cc0 _ _ hvz8).trans g0; have x1 := (cc0 _ _ hvz8).trans g1; have x2 := (cc0 _ _ hvz8).trans g2; have x3 := (cc0 _ _ hvz8).trans g3; (try simp only [List.getElem_toArray, List.getElem_cons_zero, List.getElem_cons_succ]); go_simp; (try with_reducible rfl)); (try simp only [List.getElem_toArray, List.getElem_cons_zero, List.getElem_cons_succ]); (try dsimp only [Act.put]); (try simp only [List.setIfInBounds_toArray, List.set_cons_zero, List.set_cons_succ])
        refine headH_takeE (i := 5) (v := ?_) rfl (by kernel_rfl) (fun _ _ _ h => h) (Or.inl ⟨by rfl, ?_⟩) (by assumption) ?_; rotate_left; (· intro w' hSw; (try dsimp only at hSw); have cc0 := (bcell hSw).1; have z0 := (cc0 _ _ hrz8).trans d0; have z1 := (cc0 _ _ hrz8).trans d1; have z2 := (cc0 _ _ hrz8).trans d2; have z3 := (cc0 _ _ hrz8).trans d3; have z4 := (cc0 _ _ hrz8).trans d4; have z5 := (cc0 _ _ hrz8).trans d5; have y0 := (cc0 _ _ hpz8).trans f0; have y1 := (cc0 _ _ hpz8).trans f1; have x0 := (cc0 _ _ hvz8).trans g0; have x1 := (cc0 _ _ hvz8).trans g1; have x2 := (cc0 _ _ hvz8).trans g2; have x3 := (cc0 _ _ hvz8).trans g3; (try simp only [List.getElem_toArray, List.getElem_cons_zero, List.getElem_cons_succ]); go_simp; (try with_reducible rfl)); (try simp only [List.getElem_toArray, List.getElem_cons_zero, List.getElem_cons_succ]); (try dsimp only [Act.put]); (try simp only [List.setIfInBounds_toArray, List.set_cons_zero, List.set_cons_succ])
        refine headH_takeE (i := 6) (v := ?_) rfl (by kernel_rfl) (fun _ _ _ h => h) (Or.inl ⟨by rfl, ?_⟩) (by assumption) ?_; rotate_left; (· intro w' hSw; (try dsimp only at hSw); have cc0 := (bcell hSw).1; have z0 := (cc0 _ _ hrz8).trans d0; have z1 := (cc0 _ _ hrz8).trans d1; have z2 := (cc0 _ _ hrz8).trans d2; have z3 := (cc0 _ _ hrz8).trans d3; have z4 := (cc0 _ _ hrz8).trans d4; have z5 := (cc0 _ _ hrz8).trans d5; have y0 := (cc0 _ _ hpz8).trans f0; have y1 := (cc0 _ _ hpz8).trans f1; have x0 := (cc0 _ _ hvz8).trans g0; have x1 := (cc0 _ _ hvz8).trans g1; have x2 := (cc0 _ _ hvz8).trans g2; have x3 := (cc0 _ _ hvz8).trans g3; (try simp only [List.getElem_toArray, List.getElem_cons_zero, List.getElem_cons_succ]); go_simp; (try with_reducible rfl)); (try simp only [List.getElem_toArray, List.getElem_cons_zero, List.getElem_cons_succ]); (try dsimp only [Act.put]); (try simp only [List.setIfInBounds_toArray, List.set_cons_zero, List.set_cons_succ])
        refine headH_takeE (i := 7) (v := ?_) rfl (by kernel_rfl) (fun _ _ _ h => h) (Or.inl ⟨by rfl, ?_⟩) (by assumption) ?_; rotate_left; (· intro w' hSw; (try dsimp only at hSw); have cc0 := (bcell hSw).1; have z0 := (cc0 _ _ hrz8).trans d0; have z1 := (cc0 _ _ hrz8).trans d1; have z2 := (cc0 _ _ hrz8).trans d2; have z3 := (cc0 _ _ hrz8).trans d3; have z4 := (cc0 _ _ hrz8).trans d4; have z5 := (cc0 _ _ hrz8).trans d5; have y0 := (cc0 _ _ hpz8).trans f0; have y1 := (cc0 _ _ hpz8).trans f1; have x0 := (cc0 _ _ hvz8).trans g0; have x1 := (cc0 _ _ hvz8).trans g1; have x2 := (cc0 _ _ hvz8).trans g2; have x3 := (cc0 _ _ hvz8).trans g3; (try simp only [List.getElem_toArray, List.getElem_cons_zero, List.getElem_cons_succ]); go_simp; (try with_reducible rfl)); (try simp only [List.getElem_toArray, List.getElem_cons_zero, List.getElem_cons_succ]); (try dsimp only [Act.put]); (try simp only [List.setIfInBounds_toArray, List.set_cons_zero, List.set_cons_succ])
        refine headH_takeE (i := 8) (v := ?_) rfl (by kernel_rfl) (fun _ _ _ h => h) (Or.inl ⟨by rfl, ?_⟩) (by assumption) ?_; rotate_left; (· intro w' hSw; (try dsimp only at hSw); have cc0 := (bcell hSw).1; have z0 := (cc0 _ _ hrz8).trans d0; have z1 := (cc0 _ _ hrz8).trans d1; have z2 := (cc0 _ _ hrz8).trans d2; have z3 := (cc0 _ _ hrz8).trans d3; have z4 := (cc0 _ _ hrz8).trans d4; have z5 := (cc0 _ _ hrz8).trans d5; have y0 := (cc0 _ _ hpz8).trans f0; have y1 := (cc0 _ _ hpz8).trans f1; have x0 := (cc0 _ _ hvz8).trans g0; have x1 := (cc0 _ _ hvz8).trans g1; have x2 := (cc0 _ _ hvz8).trans g2; have x3 := (cc0 _ _ hvz8).trans g3; (try simp only [List.getElem_toArray, List.getElem_cons_zero, List.getElem_cons_succ]); go_simp; (try with_reducible rfl)); (try simp only [List.getElem_toArray, List.getElem_cons_zero, List.getElem_cons_succ]); (try dsimp only [Act.put]); (try simp only [List.setIfInBounds_toArray, List.set_cons_zero, List.set_cons_succ])
        refine headH_takeE (i := 9) (v := ?_) rfl (by kernel_rfl) (fun _ _ _ h => h) (Or.inl ⟨by rfl, ?_⟩) (by assumption) ?_; rotate_left; (· intro w' hSw; (try dsimp only at hSw); have cc0 := (bcell hSw).1; have z0 := (cc0 _ _ hrz8).trans d0; have z1 := (cc0 _ _ hrz8).trans d1; have z2 := (cc0 _ _ hrz8).trans d2; have z3 := (cc0 _ _ hrz8).trans d3; have z4 := (cc0 _ _ hrz8).trans d4; have z5 := (cc0 _ _ hrz8).trans d5; have y0 := (cc0 _ _ hpz8).trans f0; have y1 := (cc0 _ _ hpz8).trans f1; have x0 := (cc0 _ _ hvz8).trans g0; have x1 := (cc0 _ _ hvz8).trans g1; have x2 := (cc0 _ _ hvz8).trans g2; have x3 := (cc0 _ _ hvz8).trans g3; (try simp only [List.getElem_toArray, List.getElem_cons_zero, List.getElem_cons_succ]); go_simp; (try with_reducible rfl)); (try simp only [List.getElem_toArray, List.getElem_cons_zero, List.getElem_cons_succ]); (try dsimp only [Act.put]); (try simp only [List.setIfInBounds_toArray, List.set_cons_zero, List.set_cons_succ])
        clear d0 d1 d2 d3 d4 d5 f0 f1 g0 g1 g2 g3 a1 a3 a7 a5' a3' hsl hNN b1 b2 b3 hlt hlt' hrb hspn
        refine headH_all (rs := [10, 14]) (by kernel_rfl) (by simp) (by kernel_rfl) ?_; intro i0 hi0; simp only [List.mem_cons, List.not_mem_nil, or_false] at hi0; rcases hi0 with rfl | rfl
        · (refine headH_op rfl (fun K hK => ?_); (try simp only [List.getElem_toArray, List.getElem_cons_zero, List.getElem_cons_succ]); go_simp)
          refine (HSHj.out _ HB9.out).mono ?_
          rintro e W9 ⟨m, S, hM, hP, hS2, hb9, hres⟩
          have hz9 := hb9.size
          have HS9 := Lib.hid (hS0.trans (hb9.mono hz0))
          have HMP := Lib.hid (And.intro hM hP)
          clear hM hP hS2
          rcases hres with ⟨hle, ca, cc, wa, wc, rfl, ho1, ho2⟩ | ⟨hgt, rfl⟩
          · have HO := Lib.hid (And.intro ho1 ho2)
            clear ho1 ho2 hle
            dsimp only
            refine hK.out _ _ HS9.out (fun hS => ?_)
            clear hK K
            (try simp only [List.getElem_toArray, List.getElem_cons_zero, List.getElem_cons_succ]); (try dsimp only [Act.put]); (try simp only [List.setIfInBounds_toArray, List.set_cons_zero, List.set_cons_succ])
            refine headH_takeE (i := 11) (v := ?_) rfl (by kernel_rfl) (fun _ _ _ h => h) (Or.inl ⟨by rfl, ?_⟩) (by assumption) ?_; rotate_left; (· intro w' hSw; (try simp only [List.getElem_toArray, List.getElem_cons_zero, List.getElem_cons_succ]); go_simp; (try with_reducible rfl)); (try simp only [List.getElem_toArray, List.getElem_cons_zero, List.getElem_cons_succ]); (try dsimp only [Act.put]); (try simp only [List.setIfInBounds_toArray, List.set_cons_zero, List.set_cons_succ])
            refine headH_takeE (i := 12) (v := ?_) rfl (by kernel_rfl) (fun _ _ _ h => h) (Or.inl ⟨by rfl, ?_⟩) (by assumption) ?_; rotate_left; (· intro w' hSw; (try simp only [List.getElem_toArray, List.getElem_cons_zero, List.getElem_cons_succ]); go_simp; (try with_reducible rfl)); (try simp only [List.getElem_toArray, List.getElem_cons_zero, List.getElem_cons_succ]); (try dsimp only [Act.put]); (try simp only [List.setIfInBounds_toArray, List.set_cons_zero, List.set_cons_succ])
            refine headH_takeE (i := 13) (v := ?_) rfl (by kernel_rfl) (fun _ _ _ h => h) (Or.inl ⟨by rfl, ?_⟩) (by assumption) ?_; rotate_left; (· intro w' hSw; (try simp only [List.getElem_toArray, List.getElem_cons_zero, List.getElem_cons_succ]); go_simp; (try with_reducible rfl)); (try simp only [List.getElem_toArray, List.getElem_cons_zero, List.getElem_cons_succ]); (try dsimp only [Act.put]); (try simp only [List.setIfInBounds_toArray, List.set_cons_zero, List.set_cons_succ])
            refine headH_all (rs := [14]) (by kernel_rfl) (by simp) (by kernel_rfl) ?_; intro i0 hi0; simp only [List.mem_cons, List.not_mem_nil, or_false] at hi0; subst hi0
            (refine headH_op rfl (fun K hK => ?_); (try simp only [List.getElem_toArray, List.getElem_cons_zero, List.getElem_cons_succ]); go_simp)
            have HSA := Lib.hid (HS9.out.trans ((rk_below W9 (.cells #[.slice none 0 0, .slice none 0 0, .int .i64 0, .int .i64 0] 31)).mono HS9.out.size))
            have hbx := heap_alloc_new W9 (.cells #[.slice none 0 0, .slice none 0 0, .int .i64 0, .int .i64 0] 31)
            have HOA := Lib.hid (And.intro (HO.out.1.alloc (.cells #[.slice none 0 0, .slice none 0 0, .int .i64 0, .int .i64 0] 31)) (HO.out.2.alloc (.cells #[.slice none 0 0, .slice none 0 0, .int .i64 0, .int .i64 0] 31)))
            have HBX := Lib.hid hbx
            (have q0 := cell_of_row _ _ 0 _ _ _ hbx; have q1 := cell_of_row _ _ 1 _ _ _ hbx; have q2 := cell_of_row _ _ 2 _ _ _ hbx; have q3 := cell_of_row _ _ 3 _ _ _ hbx; have r0 := frozen_of_row _ _ 0 _ _ hbx; have r1 := frozen_of_row _ _ 1 _ _ hbx; have r2 := frozen_of_row _ _ 2 _ _ hbx; have r3 := frozen_of_row _ _ 3 _ _ hbx)
            refine hK.out _ _ HSA.out (fun hS => ?_)
            clear hK K
            (try simp only [List.getElem_toArray, List.getElem_cons_zero, List.getElem_cons_succ]); (try dsimp only [Act.put]); (try simp only [List.setIfInBounds_toArray, List.set_cons_zero, List.set_cons_succ])
            generalize World.alloc W9 _ = Wa at *
            (refine headH_all (rs := [15]) (by kernel_rfl) (by simp) (by kernel_rfl) ?_; intro i0 hi0; simp only [List.mem_cons, List.not_mem_nil, or_false] at hi0; subst hi0; (refine headH_op rfl (fun K hK => ?_); (try simp only [List.getElem_toArray, List.getElem_cons_zero, List.getElem_cons_succ]); go_simp); have HEND := Lib.hid (seEnd (lo := lo) (hi := hi) HSA.out HS9.out.size HBX.out HMP.out.1 HMP.out.2 hz0 HOA.out.1 HOA.out.2 (fun b hb => by have := (HO.out.1.lt b hb).2; omega) (fun b hb => by have := (HO.out.2.lt b hb).2; omega)); clear hbx q0 q1 q2 q3 r0 r1 r2 r3; refine hK.out _ _ HEND.out.2.1 (fun hS => ?_); clear hK K; (try simp only [List.getElem_toArray, List.getElem_cons_zero, List.getElem_cons_succ]); (try dsimp only [Act.put]); (try simp only [List.setIfInBounds_toArray, List.set_cons_zero, List.set_cons_succ]); generalize World.setCell (World.setCell (World.setCell (World.setCell _ _ _) _ _) _ _) _ _ = Wz at *; refine headH_all (rs := [16]) (by kernel_rfl) (by simp) (by kernel_rfl) ?_; intro i0 hi0; simp only [List.mem_cons, List.not_mem_nil, or_false] at hi0; subst hi0; (refine headH_op rfl (fun K hK => ?_); (try simp only [List.getElem_toArray, List.getElem_cons_zero, List.getElem_cons_succ]); go_simp); refine hK.out _ _ HEND.out.2.1 (fun hS => ?_); clear hK K; (try simp only [List.getElem_toArray, List.getElem_cons_zero, List.getElem_cons_succ]); (try dsimp only [Act.put]); (try simp only [List.setIfInBounds_toArray, List.set_cons_zero, List.set_cons_succ]); change endL _ _ _ _ _ _; refine ⟨by kernel_rfl, ?_⟩; go_wp2_with fail; go_meet; exact ⟨_, _, rfl, rfl, HEND⟩)
          · dsimp only
            refine hK.out _ _ HS9.out (fun hS => ?_)
            clear hK K
            (try simp only [List.getElem_toArray, List.getElem_cons_zero, List.getElem_cons_succ]); (try dsimp only [Act.put]); (try simp only [List.setIfInBounds_toArray, List.set_cons_zero, List.set_cons_succ])
            refine headH_takeE (i := 11) (v := ?_) rfl (by kernel_rfl) (fun _ _ _ h => h) (Or.inl ⟨by rfl, ?_⟩) (by assumption) ?_; rotate_left; (· intro w' hSw; (try simp only [List.getElem_toArray, List.getElem_cons_zero, List.getElem_cons_succ]); go_simp; (try with_reducible rfl)); (try simp only [List.getElem_toArray, List.getElem_cons_zero, List.getElem_cons_succ]); (try dsimp only [Act.put]); (try simp only [List.setIfInBounds_toArray, List.set_cons_zero, List.set_cons_succ])
            refine headH_takeE (i := 12) (v := ?_) rfl (by kernel_rfl) (fun _ _ _ h => h) (Or.inl ⟨by rfl, ?_⟩) (by assumption) ?_; rotate_left; (· intro w' hSw; (try simp only [List.getElem_toArray, List.getElem_cons_zero, List.getElem_cons_succ]); go_simp; (try with_reducible rfl)); (try simp only [List.getElem_toArray, List.getElem_cons_zero, List.getElem_cons_succ]); (try dsimp only [Act.put]); (try simp only [List.setIfInBounds_toArray, List.set_cons_zero, List.set_cons_succ])
            refine headH_takeE (i := 13) (v := ?_) rfl (by kernel_rfl) (fun _ _ _ h => h) (Or.inl ⟨by rfl, ?_⟩) (by assumption) ?_; rotate_left; (· intro w' hSw; (try simp only [List.getElem_toArray, List.getElem_cons_zero, List.getElem_cons_succ]); go_simp; (try with_reducible rfl)); (try simp only [List.getElem_toArray, List.getElem_cons_zero, List.getElem_cons_succ]); (try dsimp only [Act.put]); (try simp only [List.setIfInBounds_toArray, List.set_cons_zero, List.set_cons_succ])
            refine headH_all (rs := [14]) (by kernel_rfl) (by simp) (by kernel_rfl) ?_; intro i0 hi0; simp only [List.mem_cons, List.not_mem_nil, or_false] at hi0; subst hi0
            (refine headH_op rfl (fun K hK => ?_); (try simp only [List.getElem_toArray, List.getElem_cons_zero, List.getElem_cons_succ]); go_simp)
            have HSA := Lib.hid (HS9.out.trans ((rk_below W9 (.cells #[.slice none 0 0, .slice none 0 0, .int .i64 0, .int .i64 0] 31)).mono HS9.out.size))
            have hbx := heap_alloc_new W9 (.cells #[.slice none 0 0, .slice none 0 0, .int .i64 0, .int .i64 0] 31)
            have HBX := Lib.hid hbx
            (have q0 := cell_of_row _ _ 0 _ _ _ hbx; have q1 := cell_of_row _ _ 1 _ _ _ hbx; have q2 := cell_of_row _ _ 2 _ _ _ hbx; have q3 := cell_of_row _ _ 3 _ _ _ hbx; have r0 := frozen_of_row _ _ 0 _ _ hbx; have r1 := frozen_of_row _ _ 1 _ _ hbx; have r2 := frozen_of_row _ _ 2 _ _ hbx; have r3 := frozen_of_row _ _ 3 _ _ hbx)
            refine hK.out _ _ HSA.out (fun hS => ?_)
            clear hK K
            (try simp only [List.getElem_toArray, List.getElem_cons_zero, List.getElem_cons_succ]); (try dsimp only [Act.put]); (try simp only [List.setIfInBounds_toArray, List.set_cons_zero, List.set_cons_succ])
            generalize World.alloc W9 _ = Wa at *
            (refine headH_all (rs := [15]) (by kernel_rfl) (by simp) (by kernel_rfl) ?_; intro i0 hi0; simp only [List.mem_cons, List.not_mem_nil, or_false] at hi0; subst hi0; (refine headH_op rfl (fun K hK => ?_); (try simp only [List.getElem_toArray, List.getElem_cons_zero, List.getElem_cons_succ]); go_simp); have HEND := Lib.hid (seEnd3 (lo := lo) (hi := hi) HSA.out HS9.out.size HBX.out HMP.out.1 HMP.out.2); clear hbx q0 q1 q2 q3 r0 r1 r2 r3; refine hK.out _ _ HEND.out.2.1 (fun hS => ?_); clear hK K; (try simp only [List.getElem_toArray, List.getElem_cons_zero, List.getElem_cons_succ]); (try dsimp only [Act.put]); (try simp only [List.setIfInBounds_toArray, List.set_cons_zero, List.set_cons_succ]); generalize World.setCell (World.setCell (World.setCell (World.setCell _ _ _) _ _) _ _) _ _ = Wz at *; refine headH_all (rs := [16]) (by kernel_rfl) (by simp) (by kernel_rfl) ?_; intro i0 hi0; simp only [List.mem_cons, List.not_mem_nil, or_false] at hi0; subst hi0; (refine headH_op rfl (fun K hK => ?_); (try simp only [List.getElem_toArray, List.getElem_cons_zero, List.getElem_cons_succ]); go_simp); refine hK.out _ _ HEND.out.2.1 (fun hS => ?_); clear hK K; (try simp only [List.getElem_toArray, List.getElem_cons_zero, List.getElem_cons_succ]); (try dsimp only [Act.put]); (try simp only [List.setIfInBounds_toArray, List.set_cons_zero, List.set_cons_succ]); change endL _ _ _ _ _ _; refine ⟨by kernel_rfl, ?_⟩; go_wp2_with fail; go_meet; exact ⟨_, _, rfl, rfl, HEND⟩)
        · (refine headH_op rfl (fun K hK => ?_); (try simp only [List.getElem_toArray, List.getElem_cons_zero, List.getElem_cons_succ]); go_simp)
          have HSA := Lib.hid (hS0.trans ((rk_below Wd (.cells #[.slice none 0 0, .slice none 0 0, .int .i64 0, .int .i64 0] 31)).mono hz0))
          have HBA := Lib.hid (HB9.out.trans ((rk_below Wd (.cells #[.slice none 0 0, .slice none 0 0, .int .i64 0, .int .i64 0] 31)).mono HB9.out.size))
          have HBX0 := Lib.hid (heap_alloc_new Wd (.cells #[.slice none 0 0, .slice none 0 0, .int .i64 0, .int .i64 0] 31))
          refine hK.out _ _ HSA.out (fun hS => ?_)
          clear hK K
          (try simp only [List.getElem_toArray, List.getElem_cons_zero, List.getElem_cons_succ]); (try dsimp only [Act.put]); (try simp only [List.setIfInBounds_toArray, List.set_cons_zero, List.set_cons_succ])
          generalize World.alloc Wd _ = Wa at *
          generalize Wd.heap.size = bb at *
          have hba := (Array.getElem?_eq_some_iff.1 HBX0.out).1
          refine headH_all (rs := [10]) (by kernel_rfl) (by simp) (by kernel_rfl) ?_; intro i0 hi0; simp only [List.mem_cons, List.not_mem_nil, or_false] at hi0; subst hi0
          (refine headH_op rfl (fun K hK => ?_); (try simp only [List.getElem_toArray, List.getElem_cons_zero, List.getElem_cons_succ]); go_simp)
          refine (HSHj.out _ HBA.out).mono ?_
          rintro e W9 ⟨m, S, hM, hP, hS2, hb9, hres⟩
          have hz9 := hb9.size
          have HS9 := Lib.hid (HSA.out.trans (hb9.mono HSA.out.size))
          have HMP := Lib.hid (And.intro hM hP)
          have hbx := (hb9.block _ hba).trans HBX0.out
          have HBX := Lib.hid hbx
          clear hM hP hS2
          rcases hres with ⟨hle, ca, cc, wa, wc, rfl, ho1, ho2⟩ | ⟨hgt, rfl⟩
          · have HO := Lib.hid (And.intro ho1 ho2)
            clear ho1 ho2 hle
            dsimp only
            refine hK.out _ _ HS9.out (fun hS => ?_)
            clear hK K
            (try simp only [List.getElem_toArray, List.getElem_cons_zero, List.getElem_cons_succ]); (try dsimp only [Act.put]); (try simp only [List.setIfInBounds_toArray, List.set_cons_zero, List.set_cons_succ])
            refine headH_takeE (i := 11) (v := ?_) rfl (by kernel_rfl) (fun _ _ _ h => h) (Or.inl ⟨by rfl, ?_⟩) (by assumption) ?_; rotate_left; (· intro w' hSw; (try simp only [List.getElem_toArray, List.getElem_cons_zero, List.getElem_cons_succ]); go_simp; (try with_reducible rfl)); (try simp only [List.getElem_toArray, List.getElem_cons_zero, List.getElem_cons_succ]); (try dsimp only [Act.put]); (try simp only [List.setIfInBounds_toArray, List.set_cons_zero, List.set_cons_succ])
            refine headH_takeE (i := 12) (v := ?_) rfl (by kernel_rfl) (fun _ _ _ h => h) (Or.inl ⟨by rfl, ?_⟩) (by assumption) ?_; rotate_left; (· intro w' hSw; (try simp only [List.getElem_toArray, List.getElem_cons_zero, List.getElem_cons_succ]); go_simp; (try with_reducible rfl)); (try simp only [List.getElem_toArray, List.getElem_cons_zero, List.getElem_cons_succ]); (try dsimp only [Act.put]); (try simp only [List.setIfInBounds_toArray, List.set_cons_zero, List.set_cons_succ])
            refine headH_takeE (i := 13) (v := ?_) rfl (by kernel_rfl) (fun _ _ _ h => h) (Or.inl ⟨by rfl, ?_⟩) (by assumption) ?_; rotate_left; (· intro w' hSw; (try simp only [List.getElem_toArray, List.getElem_cons_zero, List.getElem_cons_succ]); go_simp; (try with_reducible rfl)); (try simp only [List.getElem_toArray, List.getElem_cons_zero, List.getElem_cons_succ]); (try dsimp only [Act.put]); (try simp only [List.setIfInBounds_toArray, List.set_cons_zero, List.set_cons_succ])
            (have q0 := cell_of_row _ _ 0 _ _ _ hbx; have q1 := cell_of_row _ _ 1 _ _ _ hbx; have q2 := cell_of_row _ _ 2 _ _ _ hbx; have q3 := cell_of_row _ _ 3 _ _ _ hbx; have r0 := frozen_of_row _ _ 0 _ _ hbx; have r1 := frozen_of_row _ _ 1 _ _ hbx; have r2 := frozen_of_row _ _ 2 _ _ hbx; have r3 := frozen_of_row _ _ 3 _ _ hbx)
            (refine headH_all (rs := [15]) (by kernel_rfl) (by simp) (by kernel_rfl) ?_; intro i0 hi0; simp only [List.mem_cons, List.not_mem_nil, or_false] at hi0; subst hi0; (refine headH_op rfl (fun K hK => ?_); (try simp only [List.getElem_toArray, List.getElem_cons_zero, List.getElem_cons_succ]); go_simp); have HEND := Lib.hid (seEnd (lo := lo) (hi := hi) HS9.out hz0 HBX.out HMP.out.1 HMP.out.2 HSA.out.size HO.out.1 HO.out.2 (fun b hb => by have := own_block_le HO.out.1 hb; omega) (fun b hb => by have := own_block_le HO.out.2 hb; omega)); clear hbx q0 q1 q2 q3 r0 r1 r2 r3; refine hK.out _ _ HEND.out.2.1 (fun hS => ?_); clear hK K; (try simp only [List.getElem_toArray, List.getElem_cons_zero, List.getElem_cons_succ]); (try dsimp only [Act.put]); (try simp only [List.setIfInBounds_toArray, List.set_cons_zero, List.set_cons_succ]); generalize World.setCell (World.setCell (World.setCell (World.setCell _ _ _) _ _) _ _) _ _ = Wz at *; refine headH_all (rs := [16]) (by kernel_rfl) (by simp) (by kernel_rfl) ?_; intro i0 hi0; simp only [List.mem_cons, List.not_mem_nil, or_false] at hi0; subst hi0; (refine headH_op rfl (fun K hK => ?_); (try simp only [List.getElem_toArray, List.getElem_cons_zero, List.getElem_cons_succ]); go_simp); refine hK.out _ _ HEND.out.2.1 (fun hS => ?_); clear hK K; (try simp only [List.getElem_toArray, List.getElem_cons_zero, List.getElem_cons_succ]); (try dsimp only [Act.put]); (try simp only [List.setIfInBounds_toArray, List.set_cons_zero, List.set_cons_succ]); change endL _ _ _ _ _ _; refine ⟨by kernel_rfl, ?_⟩; go_wp2_with fail; go_meet; exact ⟨_, _, rfl, rfl, HEND⟩)
          · dsimp only
            refine hK.out _ _ HS9.out (fun hS => ?_)
            clear hK K
            (try simp only [List.getElem_toArray, List.getElem_cons_zero, List.getElem_cons_succ]); (try dsimp only [Act.put]); (try simp only [List.setIfInBounds_toArray, List.set_cons_zero, List.set_cons_succ])
            refine headH_takeE (i := 11) (v := ?_) rfl (by kernel_rfl) (fun _ _ _ h => h) (Or.inl ⟨by rfl, ?_⟩) (by assumption) ?_; rotate_left; (· intro w' hSw; (try simp only [List.getElem_toArray, List.getElem_cons_zero, List.getElem_cons_succ]); go_simp; (try with_reducible rfl)); (try simp only [List.getElem_toArray, List.getElem_cons_zero, List.getElem_cons_succ]); (try dsimp only [Act.put]); (try simp only [List.setIfInBounds_toArray, List.set_cons_zero, List.set_cons_succ])
            refine headH_takeE (i := 12) (v := ?_) rfl (by kernel_rfl) (fun _ _ _ h => h) (Or.inl ⟨by rfl, ?_⟩) (by assumption) ?_; rotate_left; (· intro w' hSw; (try simp only [List.getElem_toArray, List.getElem_cons_zero, List.getElem_cons_succ]); go_simp; (try with_reducible rfl)); (try simp only [List.getElem_toArray, List.getElem_cons_zero, List.getElem_cons_succ]); (try dsimp only [Act.put]); (try simp only [List.setIfInBounds_toArray, List.set_cons_zero, List.set_cons_succ])
            refine headH_takeE (i := 13) (v := ?_) rfl (by kernel_rfl) (fun _ _ _ h => h) (Or.inl ⟨by rfl, ?_⟩) (by assumption) ?_; rotate_left; (· intro w' hSw; (try simp only [List.getElem_toArray, List.getElem_cons_zero, List.getElem_cons_succ]); go_simp; (try with_reducible rfl)); (try simp only [List.getElem_toArray, List.getElem_cons_zero, List.getElem_cons_succ]); (try dsimp only [Act.put]); (try simp only [List.setIfInBounds_toArray, List.set_cons_zero, List.set_cons_succ])
            (have q0 := cell_of_row _ _ 0 _ _ _ hbx; have q1 := cell_of_row _ _ 1 _ _ _ hbx; have q2 := cell_of_row _ _ 2 _ _ _ hbx; have q3 := cell_of_row _ _ 3 _ _ _ hbx; have r0 := frozen_of_row _ _ 0 _ _ hbx; have r1 := frozen_of_row _ _ 1 _ _ hbx; have r2 := frozen_of_row _ _ 2 _ _ hbx; have r3 := frozen_of_row _ _ 3 _ _ hbx)
            (refine headH_all (rs := [15]) (by kernel_rfl) (by simp) (by kernel_rfl) ?_; intro i0 hi0; simp only [List.mem_cons, List.not_mem_nil, or_false] at hi0; subst hi0; (refine headH_op rfl (fun K hK => ?_); (try simp only [List.getElem_toArray, List.getElem_cons_zero, List.getElem_cons_succ]); go_simp); have HEND := Lib.hid (seEnd3 (lo := lo) (hi := hi) HS9.out hz0 HBX.out HMP.out.1 HMP.out.2); clear hbx q0 q1 q2 q3 r0 r1 r2 r3; refine hK.out _ _ HEND.out.2.1 (fun hS => ?_); clear hK K; (try simp only [List.getElem_toArray, List.getElem_cons_zero, List.getElem_cons_succ]); (try dsimp only [Act.put]); (try simp only [List.setIfInBounds_toArray, List.set_cons_zero, List.set_cons_succ]); generalize World.setCell (World.setCell (World.setCell (World.setCell _ _ _) _ _) _ _) _ _ = Wz at *; refine headH_all (rs := [16]) (by kernel_rfl) (by simp) (by kernel_rfl) ?_; intro i0 hi0; simp only [List.mem_cons, List.not_mem_nil, or_false] at hi0; subst hi0; (refine headH_op rfl (fun K hK => ?_); (try simp only [List.getElem_toArray, List.getElem_cons_zero, List.getElem_cons_succ]); go_simp); refine hK.out _ _ HEND.out.2.1 (fun hS => ?_); clear hK K; (try simp only [List.getElem_toArray, List.getElem_cons_zero, List.getElem_cons_succ]); (try dsimp only [Act.put]); (try simp only [List.setIfInBounds_toArray, List.set_cons_zero, List.set_cons_succ]); change endL _ _ _ _ _ _; refine ⟨by kernel_rfl, ?_⟩; go_wp2_with fail; go_meet; exact ⟨_, _, rfl, rfl, HEND⟩)
      case rest =>
      obtain ⟨bb, err, rfl, rfl, HE⟩ := hcut
      rename World => wx
      clear d0 d1 d2 d3 d4 d5 f0 f1 g0 g1 g2 g3 hrz8 hpz8 hvz8 HSHj
      obtain ⟨hbb, hbx8, m, S, hM, hP, halt⟩ := HE.out
      have HBx := Lib.hid (HB8.out.trans (hbx8.mono HB8.out.size))
      have HSTx := Lib.hid (HST8.out.step hbx8)
      have HVx := Lib.hid ((hbx8.block _ (Array.getElem?_eq_some_iff.1 HV8.out).1).trans HV8.out)
      have HMP := Lib.hid (And.intro hM hP)
      have HAL := Lib.hid halt
      have HBB := Lib.hid (And.intro hbb hbx8)
      have HMZ := Lib.hid (show mb + 1 ≤ W8.heap.size from by
        obtain ⟨oa, oc, h1, _⟩ := HST8.out.row
        exact (Array.getElem?_eq_some_iff.1 h1).1)
      have HSLn := Lib.hid (show S.length ≤ maxLen from by
        have h1 := hP.length_eq
        have h2 := prN_many (volB_iff.1 H1.out) (rayB_iff.1 hrb) (g := g) hM
        have h3 : (chs (prN v ⟨rx, ry, rz, rdx, rdy, rdz⟩ g (m + 1))).length = (prN v ⟨rx, ry, rz, rdx, rdy, rdz⟩ g (m + 1)).length := by simp [chs]
        unfold maxLen
        omega)
      clear hbb hbx8 hM hP halt HE HST8 HV8 HB8
      have HOPm : Hid (∀ (W : World), Below w.heap.size w W → Calls Tryz.prog 13 #[.agg #[.int .i64 v.nx, .int .i64 v.ny, .int .i64 v.nz, .int .i64 v.size], .slice ga gn gc, .slice da dn dc, .agg #[.int .i64 rx, .int .i64 ry, .int .i64 rz, .int .i64 rdx, .int .i64 rdy, .int .i64 rdz]] W fun e w' => e = .returned (.tuple #[.int .i64 (opS d (prN v ⟨rx, ry, rz, rdx, rdy, rdz⟩ g (m + 1))), .int .i64 0]) ∧ Below W.heap.size W w') := Lib.hid (fun W hb => (HOPj.out W hb).mono fun e w' ⟨m', hM', he, hb'⟩ => ⟨by rw [he, isM_eq hM' HMP.out.1], hb'⟩)
      clear HOPj
      generalize hop : opS d (prN v ⟨rx, ry, rz, rdx, rdy, rdz⟩ g (m + 1)) = op at *
      have HOV := Lib.hid hop
      clear hop
      obtain ⟨c0, c1, c2, c3, c4, c5⟩ := HRC.out.2
      have hrw := HRC.out.1
      have d0 := ((bcell HBx.out).1 rb _ hrw).trans c0
      have d1 := ((bcell HBx.out).1 rb _ hrw).trans c1
      have d2 := ((bcell HBx.out).1 rb _ hrw).trans c2
      have d3 := ((bcell HBx.out).1 rb _ hrw).trans c3
      have d4 := ((bcell HBx.out).1 rb _ hrw).trans c4
      have d5 := ((bcell HBx.out).1 rb _ hrw).trans c5
      have hrz : rb < wx.heap.size := Nat.lt_of_lt_of_le hrw HBx.out.size
      have g0 := cell_of_row _ _ 0 _ _ _ HVx.out
      have g1 := cell_of_row _ _ 1 _ _ _ HVx.out
      have g2 := cell_of_row _ _ 2 _ _ _ HVx.out
      have g3 := cell_of_row _ _ 3 _ _ _ HVx.out
      have hvz := (Array.getElem?_eq_some_iff.1 HVx.out).1
      clear c0 c1 c2 c3 c4 c5 hrw
      go_upto_region 11 with (fail)
      (refine wp_region_calm (wx.heap.size) (by kernel_rfl) (by kernel_rfl) ?_; (repeat (first | go_big_quiet_step ((go_at_call 13; exact Calls.calm_of (Nat.le_refl _) (HOPm.out _ (HBx.out.trans ((Calm.below _).mono HBx.out.size))))) | quiet_step ((go_at_call 13; exact Calls.calm_of (Nat.le_refl _) (HOPm.out _ (HBx.out.trans ((Calm.below _).mono HBx.out.size))))))); refine wpQuiet_nil ?_; intro _ hw'; obtain ⟨xq, hw''⟩ := hw'; subst hw'')
      have hb11 := Calm.below xq
      have HB11 := Lib.hid (HBx.out.trans (hb11.mono HBx.out.size))
      have HST11 := Lib.hid (HSTx.out.step hb11)
      clear d0 d1 d2 d3 d4 d5 g0 g1 g2 g3 hrz hvz HSTx HVx HBx
      have HBB2 := Lib.hid (And.intro HBB.out.1 hb11)
      clear hb11
      rcases HAL.out with ⟨rfl, ca, cc, wa, wc, hbox, ho1, ho2⟩ | rfl
      rotate_left
      · generalize Calm.val xq = W11 at *
        clear HAL HBB HBB2 HMP HST11
        go_wp2_with (go_at_call 5; refine (HKN.out _ HB11.out).mono ?_; rintro e w2 ⟨rfl, hb2⟩; have HBy := Lib.hid (HB11.out.trans (hb2.mono HB11.out.size)))
        go_ret
        exact ⟨rfl, HBy.out⟩
      have hbz := (Array.getElem?_eq_some_iff.1 hbox).1
      have hbox2 := (HBB2.out.2.block _ hbz).trans hbox
      have hmz := HMZ.out
      have HSB := Lib.hid (show SeBm (mb + 1) xq.val (bmS ca cc wa wc lo hi S) from ⟨S, ca, cc, wa, wc, lo, hi, rfl, HSLn.out, own_base (own_below ho1 HBB2.out.2) hmz, own_base (own_below ho2 HBB2.out.2) hmz⟩)
      have HOF := Lib.hid (show ofN (bmS ca cc wa wc lo hi S) d = op from (ofN_bmS HMP.out.2 d).trans HOV.out)
      generalize Calm.val xq = W11 at *
      clear hbox ho1 ho2 hbz HAL HBB HBB2 hmz HMP HSLn HMZ HOPm
      obtain ⟨oa, oc, hmbx, hown⟩ := HST11.out.row
      rw [HLN.out] at hmbx hown
      have HMBX := Lib.hid hmbx
      have HOWN := Lib.hid hown
      have HBM := Lib.hid hbox2
      have hml := (Array.getElem?_eq_some_iff.1 hmbx).1
      have hbl := (Array.getElem?_eq_some_iff.1 hbox2).1
      have hne : (Value.slice oa i oc).ownBlock ≠ some mb := fun e => by have := own_block_le hown e; omega
      have HNE := Lib.hid hne
      have HZA := Lib.hid (show (W11.alloc (.cells #[.slice ca S.length cc, .slice wa S.length wc, .int .i64 lo, .int .i64 hi] 31)).heap.size = W11.heap.size + 1 from by simp)
      have a0 := cell_of_row _ _ 0 _ _ _ hmbx
      have a1' := cell_of_row _ _ 1 _ _ _ hmbx
      have fz1 := frozen_of_row _ _ 1 _ _ hmbx
      have b0 := cell_of_row _ _ 0 _ _ _ hbox2
      have b1' := cell_of_row _ _ 1 _ _ _ hbox2
      have b2' := cell_of_row _ _ 2 _ _ _ hbox2
      have b3' := cell_of_row _ _ 3 _ _ _ hbox2
      clear hmbx hown hbox2 hne
      obtain ⟨j0, hj0, hz0, hz1, hz2⟩ := info_parts se_info
      have hb63 : i + 1 ≤ maxLen := by unfold maxLen; omega
      have hb47 : (i + 1) * 64 ≤ 140737488355328 := by omega
      have HNW := Lib.hid (World.news_of_block (heap_alloc_new W11 (.cells #[.slice ca S.length cc, .slice wa S.length wc, .int .i64 lo, .int .i64 hi] 31)))
      have HOA := Lib.hid (HOWN.out.alloc (.cells #[.slice ca S.length cc, .slice wa S.length wc, .int .i64 lo, .int .i64 hi] 31))
      go_upto_region 17 with (at_builtin; refine wpList_append_lies _ rfl _ _ 48 rfl (mb + 1) 31 j0 _ 4 64 Tryz.underlying48 hj0 hz0 hz1 hz2 rfl (by decide) (.slice oa i oc) i (seC L) rfl HOA.out ⟨W11.heap.size, 0, none⟩ 1 1 (seC1 (bmS ca cc wa wc lo hi S)) rfl rfl HNW.out se_one (by decide) hb63 hb47 (by have := HZA.out; omega) _ rfl ?_; intro g1 cp W13 hown13 hgrow13 hat13 hlt13; have HG13 := Lib.hid hgrow13; have HO13 := Lib.hid hown13; have e1 := (hgrow13.block mb (by have := HZA.out; omega) (Ne.symm HNE.out)).trans ((Below.heap_alloc W11 _ mb hml).trans HMBX.out); have e2 := cell_of_row _ _ 1 _ _ _ e1; have e3 := frozen_of_row _ _ 1 _ _ e1; clear e1 hown13 hgrow13 hat13)
      have HSTn := Lib.hid (SnT.pushk (p := bmS ca cc wa wc lo hi S) HLN.out HST11.out HSB.out HMBX.out HOWN.out HG13.out HO13.out)
      clear HST11 HSB HMBX HOWN HG13 HO13 HBM HNE HZA HNW HOA a0 a1' fz1 b0 b1' b2' b3' e2 e3 hml hbl hb63 hb47 hlt13 hj0 hz0 hz1 hz2 HB11
      generalize World.setCell W13 _ _ = W14 at *
      have HB14 := Lib.hid (HB.out.trans (HSTn.out.bel.mono (HMB.out ▸ HW3.out)))
      obtain ⟨e0, e1⟩ := HPC.out.2
      have hpw := HPC.out.1
      have f0 := ((bcell HB14.out).1 pb _ hpw).trans e0
      have f1 := ((bcell HB14.out).1 pb _ hpw).trans e1
      have hpz : pb < W14.heap.size := Nat.lt_of_lt_of_le hpw HB14.out.size
      have HNF := Lib.hid (show agreesB (i + 1) (fun j => (L ++ [bmS ca cc wa wc lo hi S]).getD j se0) d = (flag && inB op lo hi) from by
        have h1 := agreesB_snoc (L := L) (p := bmS ca cc wa wc lo hi S) (d := d)
        rw [HOF.out, HLN.out, HAG.out] at h1
        exact h1)
      have HLX := Lib.hid (show (L ++ [bmS ca cc wa wc lo hi S]).length = i + 1 from by rw [List.length_append, HLN.out]; rfl)
      clear e0 e1 hpw HB14
      cases flag
      · rw [Bool.false_and] at HNF
        go_wp2
        go_roundw
        case rel => exact ⟨i + 1, _, by omega, by first | (rw [HNF.out]; done) | rw [HNF.out, decide_eq_false (by omega)], by go_num, Lib.hid ⟨HLX.out, HSTn.out⟩⟩
        case measure => simp [intOf]; omega
      rw [Bool.true_and] at HNF
      by_cases k1 : lo ≤ op
      rotate_left
      · have hF : inB op lo hi = false := by cases e : inB op lo hi; rfl; have := inB_iff.1 e; omega
        rw [hF] at HNF
        have k3 : op < lo := by omega
        clear k1
        go_wp2
        go_roundw
        case rel => exact ⟨i + 1, _, by omega, by first | (rw [HNF.out]; done) | rw [HNF.out, decide_eq_false (by omega)], by go_num, Lib.hid ⟨HLX.out, HSTn.out⟩⟩
        case measure => simp [intOf]; omega
      by_cases k2 : op ≤ hi
      · have hF : inB op lo hi = true := inB_iff.2 ⟨k1, k2⟩
        rw [hF] at HNF
        go_wp2
        go_roundw
        case rel => exact ⟨i + 1, _, by omega, by first | (rw [HNF.out]; done) | rw [HNF.out, decide_eq_false (by omega)], by go_num, Lib.hid ⟨HLX.out, HSTn.out⟩⟩
        case measure => simp [intOf]; omega
      · have hF : inB op lo hi = false := by cases e : inB op lo hi; rfl; have := inB_iff.1 e; omega
        rw [hF] at HNF
        have k3 : hi < op := by omega
        clear k2
        go_wp2
        go_roundw
        case rel => exact ⟨i + 1, _, by omega, by first | (rw [HNF.out]; done) | rw [HNF.out, decide_eq_false (by omega)], by go_num, Lib.hid ⟨HLX.out, HSTn.out⟩⟩
        case measure => simp [intOf]; omega
    · obtain rfl : i = pn := by omega
      have hlt' : ¬ (i : Int) < (i : Int) := by omega
      obtain ⟨oa, oc, hmbx, hown⟩ := HST.out.row
      have HBM := Lib.hid (SnT.beams HST.out (by rw [HLN.out]; unfold maxLen; omega) hown)
      rw [HLN.out] at hmbx hown HBM
      have HCK := Lib.hid (fun (W : World) (hb : Below wr.heap.size wr W) => r8Check_any sa sn sc oa i oc ss (fun j => L.getD j se0) W wr.heap.size hb.size ((HI.out.S HBr.out).below hb) (HBM.out.below hb))
      have HFD := Lib.hid (fun (W : World) (hb : Below wr.heap.size wr W) => r8Field_any sa sn sc oa i oc ss da dn dc d W wr.heap.size hb.size ((HI.out.S HBr.out).below hb) (((HI.out.D HBr.out).below hb).up hb.size) HI.out.dl)
      have HAR := Lib.hid (fun (W : World) (hb : Below wr.heap.size wr W) => AgreesI_any sa sn sc oa i oc ss (fun j => L.getD j se0) da dn dc d W wr.heap.size hb.size ((HI.out.S HBr.out).below hb) (HBM.out.below hb) (((HI.out.D HBr.out).below hb).up hb.size) HI.out.dl)
      unfold imageV at HCK HFD HAR
      unfold AgrRes at HAR
      have HCF := Lib.hid (checkF_true (n := sn) (ss := ss) (m := i) (bs := fun j => L.getD j se0))
      have a0 := cell_of_row _ _ 0 _ _ _ hmbx
      have a1' := cell_of_row _ _ 1 _ _ _ hmbx
      have HMX := Lib.hid hmbx
      have HB0 := Lib.hid (Below.refl wr.heap.size wr)
      have HBs := HBr
      clear HST HVr HBl HSH HOP HVO HGR HDE HCE hmbx hown HBM
      generalize agreesB i (fun j => L.getD j se0) d = flag at *
      generalize checkN sn ss i (fun j => L.getD j se0) = c at *
      by_cases hc : c = 0
      rotate_left
      · have hc' : (c == 0) = false := by rw [beq_eq_false_iff_ne]; exact hc
        clear HFD HAR
        go_wp2_with (first | (go_at_call 16; refine (HCK.out _ HB0.out).mono ?_; rintro e w2 ⟨rfl, hb2⟩; have HBs := Lib.hid (HBr.out.trans (hb2.mono HBr.out.size))) | (go_at_call 5; refine (HKN.out _ HBs.out).mono ?_; rintro e w3 ⟨rfl, hb3⟩; have HBz := Lib.hid (HBs.out.trans (hb3.mono HBs.out.size))))
        go_ret
        exact ⟨rfl, HBz.out⟩
      subst hc
      cases hf : fieldB sn ss dn d
      · rw [hf] at HFD
        clear HAR
        go_wp2_with (first | (go_at_call 16; refine (HCK.out _ HB0.out).mono ?_; rintro e w2 ⟨rfl, hb2⟩; have HBp := Lib.hid hb2; have HMy := (hb2.block _ (Array.getElem?_eq_some_iff.1 HMX.out).1).trans HMX.out; have z0 := cell_of_row _ _ 0 _ _ _ HMy; have z1 := cell_of_row _ _ 1 _ _ _ HMy; clear HMy hb2) | (go_at_call 17; refine (HFD.out _ HBp.out).mono ?_; rintro e w4 ⟨rfl, hb4⟩; have HBs := Lib.hid (HBr.out.trans ((HBp.out.trans (hb4.mono HBp.out.size)).mono HBr.out.size))) | (go_at_call 5; refine (HKN.out _ HBs.out).mono ?_; rintro e w3 ⟨rfl, hb3⟩; have HBz := Lib.hid (HBs.out.trans (hb3.mono HBs.out.size))))
        go_ret
        exact ⟨rfl, HBz.out⟩
      rw [hf] at HFD HAR
      rw [HCF.out] at HAR
      simp only [decide_true, Bool.true_and] at HAR
      cases flag <;>
      · go_wp2_with (first | (go_at_call 16; refine (HCK.out _ HB0.out).mono ?_; rintro e w2 ⟨rfl, hb2⟩; have HBp := Lib.hid hb2; have HMy := (hb2.block _ (Array.getElem?_eq_some_iff.1 HMX.out).1).trans HMX.out; have z0 := cell_of_row _ _ 0 _ _ _ HMy; have z1 := cell_of_row _ _ 1 _ _ _ HMy; clear HMy hb2) | (go_at_call 17; refine (HFD.out _ HBp.out).mono ?_; rintro e w4 ⟨rfl, hb4⟩; have HBq := Lib.hid (HBp.out.trans (hb4.mono HBp.out.size)); have HMy := (HBq.out.block _ (Array.getElem?_eq_some_iff.1 HMX.out).1).trans HMX.out; have z0 := cell_of_row _ _ 0 _ _ _ HMy; have z1 := cell_of_row _ _ 1 _ _ _ HMy; clear HMy hb4) | (go_at_call 18; refine (HAR.out _ HBq.out).mono ?_; rintro e w5 ⟨rfl, hb5⟩; have HBs := Lib.hid (HBr.out.trans ((HBq.out.trans (hb5.mono HBq.out.size)).mono HBr.out.size))) | (go_at_call 5; refine (HKN.out _ HBs.out).mono ?_; rintro e w3 ⟨rfl, hb3⟩; have HBz := Lib.hid (HBs.out.trans (hb3.mono HBs.out.size))))
        go_ret
        exact ⟨rfl, HBz.out⟩
end Go.Proofs.YtkdopjkdokgipaaGreatDoor
namespace Go.Proofs.YtkdopjkdokgipaaGreatDoor
open Go.RowKit
theorem ImageSeen_any (v : VO) (ga : Option Addr) (gn gc : Nat) (g : Nat → Int) (ra : Option Addr) (rn rc : Nat) (rs : Nat → RY) (pa : Option Addr) (pn pc : Nat) (ps : Nat → SV) (sa : Option Addr) (sn sc : Nat) (ss : Nat → SV) (da : Option Addr) (dn dc : Nat) (d : Nat → Int) (w : World) (B : Nat) (hBw : B ≤ w.heap.size)
    (hG : Ints B w ga gn g) (hgn : gn ≤ maxLen) (hR : Rays B w ra rn rs) (hP : Spans B w pa pn ps) (hS : Spans B w sa sn ss) (hD : Ints B w da dn d) (hdn : dn ≤ maxLen) (htab : Lib.TabIs Tryz.prog w "internal/strconv.uint64pow10" .u64 Lib.pow10Tab) :
    Calls Tryz.prog 4 #[v.val, .slice ga gn gc, .slice ra rn rc, .slice pa pn pc, .slice sa sn sc, .slice da dn dc] w fun e w' => e = .returned (.bool true) ∧ Below w.heap.size w w' := by
  have h : SeIn w B ga gn g ra rn rs pa pn ps sa sn ss da dn d := ⟨hBw, hG, hgn, hR, hP, hS, hD, hdn, Lib.tabBelow_of_tabIs htab⟩
  cases h1 : volB v
  · exact Seen_bad0 v gc rc pc sc dc h h1
  · by_cases h2 : seOk v gn g rn pn sn dn d
    · exact Seen_ok v gc rc pc sc dc h h1 h2
    · exact Seen_bad1 v gc rc pc sc dc h h1 h2
end Go.Proofs.YtkdopjkdokgipaaGreatDoor
