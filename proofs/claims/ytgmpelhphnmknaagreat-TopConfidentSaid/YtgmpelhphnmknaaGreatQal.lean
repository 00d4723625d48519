/- Texts put together: RkI, ShA, ShB. -/
import Derived.Test.YtgmpelhphnmknaaGreatQak
set_option maxRecDepth 100000
set_option maxHeartbeats 8000000
set_option linter.unusedVariables false
set_option linter.unusedSimpArgs false
namespace Go.Proofs.YtgmpelhphnmknaaGreat
open Go.RowKit
theorem gr_iff {v : VO} {n : Nat} {g : Nat → Int} : grB v n g = true ↔ (∀ i, i < n → 0 ≤ g i ∧ g i ≤ v.nz * v.size) ∧ (n : Int) = v.nx * v.ny := by
 unfold grB
 rw [Bool.and_eq_true, allUpto_iff, beq_iff_eq]
 exact ⟨fun ⟨h1, h2⟩ => ⟨fun i hi => inB_iff.1 (h1 i hi), h2⟩, fun ⟨h1, h2⟩ => ⟨fun i hi => inB_iff.2 (h1 i hi), h2⟩⟩
theorem gr_ok {v : VO} (hv : v.Ok) {n : Nat} {g : Nat → Int} (h : grB v n g = true) : ∀ i, i < n → 0 ≤ g i ∧ g i ≤ 12000 := fun i hi => by
 have h1 := (gr_iff.1 h).1 i hi
 have h2 := rk_mul_abs (x := v.nz) (y := v.size) (K := 12) (M := 1000) (by decide) (by decide) (by have := hv.z; omega) (by have := hv.size; omega)
 omega
theorem gr_mod {v : VO} (hv : v.Ok) {n : Nat} {g : Nat → Int} (h : grB v n g = true) : ∀ p : PT, 0 ≤ p.cell → 0 ≤ g (p.cell.tmod (v.nx * v.ny)).toNat ∧ g (p.cell.tmod (v.nx * v.ny)).toNat ≤ 12000 := fun p hp => by
 obtain ⟨k, h1, h2⟩ := mod_bound hv hp
 rw [h1, Int.toNat_natCast]
 exact gr_ok hv h k (by have := (gr_iff.1 h).2; omega)
theorem prN_many {v : VO} {r : RY} (hv : v.Ok) (hr : r.Ok) {g : Nat → Int} {m : Nat} (hM : IsM v r m) : (prN v r g (m + 1)).length ≤ 43200000002 := by
 have h1 := prN_len v r g (m + 1)
 have h2 := atF_up hv hr m hM.1
 have h3 := (atF_low hv hr m).2
 omega
theorem htkW_RkI {P : Program} {md : Region.Mode} {Q : Exit → Act → World → Prop} {S : World → Prop} {l : List Oper} {n f : Nat} {listed : Array Bool} {a : Act} {w : World} {v : Value} {oi : Oper} {X : Prop} (i : Nat) (q : X) (hi : l.toArray[i]? = some oi := by rfl) (hB : TkB md l n listed i = true := by kernel_rfl) (hQ : ∀ c a w, Q (.panic c) (a.put oi.dst v) w → Q (.panic c) a w := by exact fun _ _ _ h => h) (hy : YieldsIf P l.toArray S oi v a := by (refine Or.inl ⟨by rfl, ?_⟩; intro w' hSw; (try dsimp only at hSw); obtain ⟨c0, c1, c2, c3, c4, c5, c6, c7, c8, c9, c10, c11, c12, c13⟩ := cr14 hSw; (try simp only [hng]); go_simp; (try with_reducible rfl))) (hS : S w := by assumption) (hx : X → headH P md l.toArray Q S n (tailL P md l Q n) f (listed.setIfInBounds i true) (a.put oi.dst v) w := by (intro qq; refine hnm ?_; exact qq)) : headH P md l.toArray Q S n (tailL P md l Q n) (f + 1) listed a w := headH_take hi hB hQ hy hS (hx q)
def rkOk (v : VO) (r : RY) (n : Nat) (g : Nat → Int) : Bool := (volB v && rayB r) && grB v n g
theorem Under_ok (v : VO) (r : RY) (ga : Option Addr) (gn gc : Nat) (g : Nat → Int) (w : World) (hgn : gn ≤ maxLen) (hG : Ints w.heap.size w ga gn g) (hok : rkOk v r gn g = true) :
  Calls Tryz.prog 44 #[v.val, .slice ga gn gc, r.val] w fun e w' => ∃ m ca cc, IsM v r m ∧ e = .returned (.tuple #[.slice ca (prN v r g (m + 1)).length cc, .int .i64 0]) ∧ w'.ownsRow w.heap.size 122 2 (.slice ca (prN v r g (m + 1)).length cc) (prN v r g (m + 1)).length (chC (prN v r g (m + 1))) ∧ Below w.heap.size w w' := by
 have HVO := Hd (fun (W : World) => volume_any v W); have HRY := Hd (fun (W : World) => ray_any r W); have HGR0 := Hd (fun (hv : v.Ok) (W : World) (hb : Below w.heap.size w W) => grounded_any v hv ga gn gc g W hgn ((hG.below hb).up hb.size)); unfold VO.val at HVO HGR0; unfold RY.val at HRY
 unfold rkOk at hok
 rw [Bool.and_eq_true, Bool.and_eq_true] at hok
 obtain ⟨⟨h1, h2⟩, h3⟩ := hok
 have hv := volB_iff.1 h1
 have hr := rayB_iff.1 h2
 have HGR := Hd (HGR0.out hv)
 have HTH := Hd (fun (W : World) => through_any v r W hr)
 have HVR := Hd (And.intro hv (And.intro hr h3))
 have HG0 := Lib.hid hG
 rw [h1] at HVO
 rw [h2] at HRY
 rw [h3] at HGR
 unfold VO.val RY.val wkVal at HTH
 unfold VO.val RY.val
 clear HGR0 hG h1 h2 h3 hv hr
 go_enter Tryz.func44, Tryz.ntmps44; go_upto_region 1 with (fail); (obtain ⟨hVb, e1, e2⟩ := rk_two w (.cells #[.int .i64 v.nx, .int .i64 v.ny, .int .i64 v.nz, .int .i64 v.size] 23) (.cells #[.int .i64 r.x, .int .i64 r.y, .int .i64 r.z, .int .i64 r.dx, .int .i64 r.dy, .int .i64 r.dz] 33)); have HB := Lib.hid hVb; have HV := Lib.hid e1; have HR := Lib.hid e2; clear hVb e1 e2; generalize World.alloc (World.alloc w _) _ = V at *; (try clear v0 v1 v2 v3 s0 s1 s2 s3 s4 s5); obtain ⟨v0, v1, v2, v3⟩ := cr4 HV.out; obtain ⟨s0, s1, s2, s3, s4, s5⟩ := cr6 HR.out
 go_upto_region 4 with (first | (go_at_call 64; refine (HVO.out _).mono ?_; rintro e w2 ⟨rfl, hb2⟩; (replace HB := Hd (HB.out.trans ((hb2).mono HB.out.size)); replace HV := Hd (blkS HV.out hb2); replace HR := Hd (blkS HR.out hb2); clear hb2; (try clear v0 v1 v2 v3 s0 s1 s2 s3 s4 s5); obtain ⟨v0, v1, v2, v3⟩ := cr4 HV.out; obtain ⟨s0, s1, s2, s3, s4, s5⟩ := cr6 HR.out)) | (go_at_call 65; refine (HRY.out _).mono ?_; rintro e w2 ⟨rfl, hb2⟩; (replace HB := Hd (HB.out.trans ((hb2).mono HB.out.size)); replace HV := Hd (blkS HV.out hb2); replace HR := Hd (blkS HR.out hb2); clear hb2; (try clear v0 v1 v2 v3 s0 s1 s2 s3 s4 s5); obtain ⟨v0, v1, v2, v3⟩ := cr4 HV.out; obtain ⟨s0, s1, s2, s3, s4, s5⟩ := cr6 HR.out)) | (go_at_call 66; refine (HGR.out _ HB.out).mono ?_; rintro e w2 ⟨rfl, hb2⟩; (replace HB := Hd (HB.out.trans ((hb2).mono HB.out.size)); replace HV := Hd (blkS HV.out hb2); replace HR := Hd (blkS HR.out hb2); clear hb2; (try clear v0 v1 v2 v3 s0 s1 s2 s3 s4 s5); obtain ⟨v0, v1, v2, v3⟩ := cr4 HV.out; obtain ⟨s0, s1, s2, s3, s4, s5⟩ := cr6 HR.out)) | (go_at_call 69; refine (HTH.out _).mono ?_; rintro e w2 ⟨rfl, hb2⟩; (replace HB := Hd (HB.out.trans ((hb2).mono HB.out.size)); replace HV := Hd (blkS HV.out hb2); replace HR := Hd (blkS HR.out hb2); clear hb2; (try clear v0 v1 v2 v3 s0 s1 s2 s3 s4 s5); obtain ⟨v0, v1, v2, v3⟩ := cr4 HV.out; obtain ⟨s0, s1, s2, s3, s4, s5⟩ := cr6 HR.out)))
 rename World => W2
 have hb8 := rk_below W2 (.cells #[.int .i64 v.nx, .int .i64 v.ny, .int .i64 v.nz, .int .i64 v.size, .int .i64 r.x, .int .i64 r.dx, .int .i64 v.nx, .int .i64 r.y, .int .i64 r.dy, .int .i64 v.ny, .int .i64 r.z, .int .i64 r.dz, .int .i64 v.nz, .int .i64 (tkF r : Int)] 150)
 have HQ := Hd (show WkAt v r W2.heap.size (W2.alloc (.cells #[.int .i64 v.nx, .int .i64 v.ny, .int .i64 v.nz, .int .i64 v.size, .int .i64 r.x, .int .i64 r.dx, .int .i64 v.nx, .int .i64 r.y, .int .i64 r.dy, .int .i64 v.ny, .int .i64 r.z, .int .i64 r.dz, .int .i64 v.nz, .int .i64 (tkF r : Int)] 150)) from heap_alloc_new W2 _)
 (replace HB := Hd (HB.out.trans ((hb8).mono HB.out.size)); replace HV := Hd (blkS HV.out hb8); replace HR := Hd (blkS HR.out hb8); clear hb8; (try clear v0 v1 v2 v3 s0 s1 s2 s3 s4 s5); obtain ⟨v0, v1, v2, v3⟩ := cr4 HV.out; obtain ⟨s0, s1, s2, s3, s4, s5⟩ := cr6 HR.out)
 generalize World.alloc W2 _ = V3 at *
 generalize W2.heap.size = q8 at *
 clear v0 v1 v2 v3 s0 s1 s2 s3 s4 s5 HV HR HVO HRY HGR HTH
 refine wp_region_any (by kernel_rfl) ?_
 change wpAny _ _ _ _ _ _ _ (World.drew V3)
 have HB := Hd (show Below w.heap.size w V3.drew from HB.out.drew)
 have HQ := Hd (show WkAt v r q8 V3.drew from HQ.out)
 generalize World.drew V3 = Vd at *
 refine any_of_tail 8 8 (fun w' => WkAt v r q8 w') (by kernel_rfl) HQ.out (fun hS => ?_)
 refine htkW_RkI 0 ?_
 refine htkW_RkI 1 ?_
 refine htkW_RkI 2 ?_
 refine headH_one 3 ?_
 refine headH_op rfl (fun K hK => ?_); (try simp only [hng]); go_simp
 refine (under_any v r ga gn gc Vd).mono ?_
 rintro e W5 ⟨rfl, hw5, hg5, hb5⟩
 dsimp only
 have HQ5 := Hd (HQ.out.step hb5)
 have HB5 := Hd (HB.out.trans (hb5.mono HB.out.size))
 have HW5 := Lib.hid hw5
 have HGA := Hd (show GrAt v g gn (Vd.heap.size + 1) W5 from ⟨(gr_iff.1 HVR.out.2.2).2, gr_ok HVR.out.1 HVR.out.2.2, ga, gc, hg5, (HG0.out.below HB5.out).up HB5.out.size⟩)
 refine hK.out _ _ HQ5.out (fun hS => ?_)
 clear hK K hb5 hw5 hg5
 refine hnm ?_
 refine headH_one 4 ?_
 refine headH_op rfl (fun K hK => ?_); (try simp only [hng]); go_simp
 have hb6 := rk_below W5 (.cells #[.func (.func 136) #[] #[.pointer (some ⟨Vd.heap.size + 1, 0, none⟩), .pointer (some ⟨Vd.heap.size, 0, none⟩)]] 186)
 have hn6 := heap_alloc_new W5 (.cells #[.func (.func 136) #[] #[.pointer (some ⟨Vd.heap.size + 1, 0, none⟩), .pointer (some ⟨Vd.heap.size, 0, none⟩)]] 186)
 have HC6 := Hd (cell_of_row _ _ 0 _ _ _ hn6)
 have hl6 := (blkL hn6)
 have HQ6 := Hd (HQ5.out.step hb6)
 have HW6 := Hd (HW5.out.step hb6)
 have HG6 := Hd (HGA.out.step hb6)
 have HB6 := Hd (HB5.out.trans (hb6.mono HB5.out.size))
 refine hK.out _ _ HQ6.out (fun hS => ?_)
 clear hK K hb6 hn6
 refine hnm ?_
 generalize World.alloc W5 _ = W6 at *
 refine headH_one 5 ?_
 refine headH_op rfl (fun K hK => ?_); (try simp only [hng]); go_simp
 have hparts := rkparts_any v r HVR.out.1 HVR.out.2.1 g gn (Vd.heap.size + 1) Vd.heap.size W5.heap.size 1 W6 HW6.out HG6.out HC6.out hl6
 unfold wkVal at hparts
 refine hparts.mono ?_
 rintro e W7 ⟨m, pa, pc, hM, rfl, hown7, hb7⟩
 dsimp only
 have HQ7 := Hd (HQ6.out.step hb7)
 have HB7 := Hd (HB6.out.trans (hb7.mono HB6.out.size))
 have HM := Lib.hid hM
 have HP7 := Hd (prow_of hown7)
 refine hK.out _ _ HQ7.out (fun hS => ?_)
 clear hK K hparts hown7 hb7
 refine hnm ?_
 refine headH_one 6 ?_
 refine headH_op rfl (fun K hK => ?_); (try simp only [hng]); go_simp
 have hch := chords_any (prN v r g (m + 1)) pa pc (v.nx * v.ny * v.nz) W7 HP7.out (prN_ok HVR.out.1 HVR.out.2.1 (gr_mod HVR.out.1 HVR.out.2.2) (m + 1)) (prN_many HVR.out.1 HVR.out.2.1 hM)
 generalize hLL : prN v r g (m + 1) = LL at *
 refine hch.mono ?_
 rintro e W8 ⟨ca, cc, rfl, hown8, hb8⟩
 dsimp only
 have HQ8 := Hd (HQ7.out.step hb8)
 have HB8 := Hd (HB7.out.trans (hb8.mono HB7.out.size))
 have HO8 := Hd (own_base hown8 (show w.heap.size ≤ W7.heap.size from HB7.out.size))
 refine hK.out _ _ HQ8.out (fun hS => ?_)
 clear hK K hch hown8 hb8
 refine hnm ?_
 refine htkW_RkI 7 ?_
 change tailL _ _ _ _ _ _ _ _
 refine ⟨by kernel_rfl, ?_⟩
 simp only [List.drop_succ_cons, List.drop_zero]
 go_wp2
 refine bodyPost_ret (results_tmp2 (t := 6) (u := 7) rfl _ _ _) rfl ?_
 exact ⟨m, ca, cc, HM.out, by rw [hLL]; rfl, by rw [hLL]; exact HO8.out, HB8.out⟩
end Go.Proofs.YtgmpelhphnmknaaGreat
namespace Go.Proofs.YtgmpelhphnmknaaGreat
open Go.RowKit Go.Shelf
structure BP (base : Nat) (W0 W : World) (c0 w0 vc vw : Value) (kc kw : Nat) (cs ws : List Value) : Prop where
 eqs : W.os = W0.os ∧ W.tape = W0.tape ∧ W.output = W0.output
 size : W0.heap.size ≤ W.heap.size
 keep : ∀ b, b < W0.heap.size → c0.ownBlock ≠ some b → w0.ownBlock ≠ some b → W.heap[b]? = W0.heap[b]?
 cin : ∀ b, vc.ownBlock = some b → c0.ownBlock = some b ∨ W0.heap.size ≤ b
 win : ∀ b, vw.ownBlock = some b → w0.ownBlock = some b ∨ W0.heap.size ≤ b
 dis : ∀ b, vc.ownBlock = some b → vw.ownBlock ≠ some b
 le : base ≤ W0.heap.size
 cown : W.ownsRow base 3 1 vc kc cs
 wown : W.ownsRow base 3 1 vw kw ws
def PB (W : World) (vc vw : Value) (nb : Nat) (z : Int) : Prop := W.heap[nb]? = some (.cells #[.int .i64 z] 3) ∧ vc.ownBlock ≠ some nb ∧ vw.ownBlock ≠ some nb
section
variable {base : Nat} {W0 W W' : World} {c0 w0 vc vw : Value} {kc kw : Nat} {cs ws : List Value}
theorem BP.start (h1 : W.ownsRow base 3 1 vc kc cs) (h2 : W.ownsRow base 3 1 vw kw ws) (hd : ∀ b, vc.ownBlock = some b → vw.ownBlock ≠ some b) (hl : base ≤ W.heap.size) : BP base W W vc vw vc vw kc kw cs ws :=
 ⟨⟨rfl, rfl, rfl⟩, Nat.le_refl _, fun _ _ _ _ => rfl, fun _ h => .inl h, fun _ h => .inl h, hd, hl, h1, h2⟩
theorem BP.drew (h : BP base W0 W c0 w0 vc vw kc kw cs ws) : BP base W0 W.drew c0 w0 vc vw kc kw cs ws := ⟨h.eqs, h.size, h.keep, h.cin, h.win, h.dis, h.le, h.cown, h.wown⟩
theorem BP.alloc (h : BP base W0 W c0 w0 vc vw kc kw cs ws) (o : Obj) : BP base W0 (W.alloc o) c0 w0 vc vw kc kw cs ws :=
 ⟨h.eqs, by have := h.size; simp; omega, fun b hb h1 h2 => (Below.heap_alloc W o b (by have := h.size; omega)).trans (h.keep b hb h1 h2), h.cin, h.win, h.dis, h.le, h.cown.alloc o, h.wown.alloc o⟩
theorem BP.appC {g p kc' : Nat} {cs' : List Value} (h : BP base W0 W c0 w0 vc vw kc kw cs ws) (hg : W.grownBy W' vc.ownBlock) (ho : W'.ownsRow base 3 1 (.slice (some ⟨g, 0, none⟩) kc' p) kc' cs') (hat : vc.ownBlock = some g ∨ g = W.heap.size) :
  BP base W0 W' c0 w0 (.slice (some ⟨g, 0, none⟩) kc' p) vw kc' kw cs' ws := by
 have hs := h.size
 have hz := hg.size
 have hgb : ∀ b, (Value.slice (some ⟨g, 0, none⟩) kc' p).ownBlock = some b → g = b := fun b hb => by simpa [Value.ownBlock] using hb
 refine ⟨⟨hg.os.trans h.eqs.1, hg.tape.trans h.eqs.2.1, hg.output.trans h.eqs.2.2⟩, by omega, fun b hb h1 h2 => (hg.block b (by omega) (fun e => ?_)).trans (h.keep b hb h1 h2), fun b hb => ?_, h.win, fun b hb hw => ?_, h.le, ho, own_keep h.wown (fun b hb => hg.block b ((h.wown.lt b hb).2) (fun e => ?_))⟩
 ·rcases h.cin b e.symm with h3 | h3
  ·exact h1 h3
  ·omega
 ·have := hgb b hb
  subst this
  rcases hat with h3 | h3
  ·exact h.cin _ h3
  ·exact .inr (by omega)
 ·have := hgb b hb
  subst this
  rcases hat with h3 | h3
  ·exact h.dis _ h3 hw
  ·have := (h.wown.lt _ hw).2; omega
 ·exact h.dis b e.symm hb
theorem BP.appW {g p kw' : Nat} {ws' : List Value} (h : BP base W0 W c0 w0 vc vw kc kw cs ws) (hg : W.grownBy W' vw.ownBlock) (ho : W'.ownsRow base 3 1 (.slice (some ⟨g, 0, none⟩) kw' p) kw' ws') (hat : vw.ownBlock = some g ∨ g = W.heap.size) :
  BP base W0 W' c0 w0 vc (.slice (some ⟨g, 0, none⟩) kw' p) kc kw' cs ws' := by
 have hs := h.size
 have hz := hg.size
 have hgb : ∀ b, (Value.slice (some ⟨g, 0, none⟩) kw' p).ownBlock = some b → g = b := fun b hb => by simpa [Value.ownBlock] using hb
 refine ⟨⟨hg.os.trans h.eqs.1, hg.tape.trans h.eqs.2.1, hg.output.trans h.eqs.2.2⟩, by omega, fun b hb h1 h2 => (hg.block b (by omega) (fun e => ?_)).trans (h.keep b hb h1 h2), h.cin, fun b hb => ?_, fun b hb hw => ?_, h.le, own_keep h.cown (fun b hb => hg.block b ((h.cown.lt b hb).2) (fun e => ?_)), ho⟩
 ·rcases h.win b e.symm with h3 | h3
  ·exact h2 h3
  ·omega
 ·have := hgb b hb
  subst this
  rcases hat with h3 | h3
  ·exact h.win _ h3
  ·exact .inr (by omega)
 ·have := hgb b hw
  subst this
  rcases hat with h3 | h3
  ·exact h.dis _ hb h3
  ·have := (h.cown.lt _ hb).2; omega
 ·exact h.dis b hb e.symm
theorem PB.new (h : BP base W0 W c0 w0 vc vw kc kw cs ws) (z : Int) : PB (W.alloc (.cells #[.int .i64 z] 3)) vc vw W.heap.size z :=
 ⟨heap_alloc_new W _, fun e => by have := (h.cown.lt _ e).2; omega, fun e => by have := (h.wown.lt _ e).2; omega⟩
theorem PB.alloc {nb : Nat} {z : Int} (h : PB W vc vw nb z) (o : Obj) : PB (W.alloc o) vc vw nb z :=
 ⟨(Below.heap_alloc W o nb (blkL h.1)).trans h.1, h.2.1, h.2.2⟩
theorem PB.appC {g p kc' nb : Nat} {z : Int} (h : PB W vc vw nb z) (hg : W.grownBy W' vc.ownBlock) (hat : vc.ownBlock = some g ∨ g = W.heap.size) : PB W' (.slice (some ⟨g, 0, none⟩) kc' p) vw nb z := by
 have hl := (blkL h.1)
 refine ⟨(hg.block nb hl (Ne.symm h.2.1)).trans h.1, fun e => ?_, h.2.2⟩
 have : g = nb := by simpa [Value.ownBlock] using e
 subst this
 rcases hat with h3 | h3
 ·exact h.2.1 h3
 ·omega
end
abbrev CH := Int × Int
def chs (L : List PT) : List CH := L.map fun p => (p.cell, p.hi - p.lo)
def crC : List CH → List Value
 | [] => []
 | x :: t => [.int .i64 x.1, .int .i64 x.2] ++ crC t
theorem chC_crC : ∀ (L : List PT), chC L = crC (chs L)
 | [] => rfl
 | x :: t => by rw [chC, chC_crC t]; rfl
def ch0 : CH := (0, 0)
theorem crC_get : ∀ (l : List CH) (i : Nat), i < l.length → (crC l)[i * 2]? = some (.int .i64 (l.getD i ch0).1) ∧ (crC l)[i * 2 + 1]? = some (.int .i64 (l.getD i ch0).2)
 | [], i, h => by simp at h
 | h :: t, 0, _ => by simp [crC]
 | h :: t, i + 1, hi => by
  have e1 : (i + 1) * 2 = i * 2 + 2 := by omega
  have := crC_get t i (by simpa using hi)
  rw [crC, e1]
  simpa using this
def CRow (W : World) (a : Option Addr) (S : List CH) : Prop := S.length = 0 ∨ ∃ b, a = some ⟨b, 0, none⟩ ∧ b < W.heap.size ∧ ∀ i, i < S.length → W.cell? ⟨b, i * 2, none⟩ = some (.int .i64 (S.getD i ch0).1) ∧ W.cell? ⟨b, i * 2 + 1, none⟩ = some (.int .i64 (S.getD i ch0).2)
theorem CRow.step {W W' : World} {a : Option Addr} {S : List CH} (h : CRow W a S) (hb : Below W.heap.size W W') : CRow W' a S := by
 rcases h with h | ⟨b, h1, h2, h3⟩
 ·exact .inl h
 ·exact .inr ⟨b, h1, Nat.lt_of_lt_of_le h2 hb.size, fun i hi => ⟨((bcell hb).1 _ _ h2).trans (h3 i hi).1, ((bcell hb).1 _ _ h2).trans (h3 i hi).2⟩⟩
def clC (S : List CH) : List Value := S.map fun x => .int .i64 x.1
def wtC (S : List CH) : List Value := S.map fun x => .int .i64 x.2
structure ShT (x : Nat) (lo hi : Int) (S : List CH) (Wb wr : World) : Prop where
 bel : Below x Wb wr
 row : ∃ ca cc wa wc, wr.heap[x]? = some (.cells #[.slice ca S.length cc, .slice wa S.length wc, .int .i64 lo, .int .i64 hi] 62) ∧ wr.ownsRow (x + 1) 3 1 (.slice ca S.length cc) S.length (clC S) ∧ wr.ownsRow (x + 1) 3 1 (.slice wa S.length wc) S.length (wtC S) ∧ ∀ b, (Value.slice ca S.length cc).ownBlock = some b → (Value.slice wa S.length wc).ownBlock ≠ some b
theorem ShT.next {x : Nat} {lo hi : Int} {S : List CH} {Wb W0 W : World} {y : CH} {c0 w0 : Value} {g1 p1 g2 p2 : Nat} (hx0 : Below x Wb W0) (hx1 : c0.ownBlock ≠ some x) (hx2 : w0.ownBlock ≠ some x) (hlow : ∀ b, c0.ownBlock = some b ∨ w0.ownBlock = some b → x < b)
  (hbox : W0.heap[x]? = some (.cells #[c0, w0, .int .i64 lo, .int .i64 hi] 62))
  (h : BP (x + 1) W0 W c0 w0 (.slice (some ⟨g1, 0, none⟩) (S.length + 1) p1) (.slice (some ⟨g2, 0, none⟩) (S.length + 1) p2) (S.length + 1) (S.length + 1) (clC S ++ [.int .i64 y.1]) (wtC S ++ [.int .i64 y.2])) :
  ShT x lo hi (S ++ [y]) Wb ((W.setCell ⟨x, 0, none⟩ (.slice (some ⟨g1, 0, none⟩) (S.length + 1) p1)).setCell ⟨x, 1, none⟩ (.slice (some ⟨g2, 0, none⟩) (S.length + 1) p2)) := by
 have hxl := (blkL hbox)
 have k0 := (h.keep x hxl hx1 hx2).trans hbox
 have k1 := heap_setCell_same W x 0 _ _ (.slice (some ⟨g1, 0, none⟩) (S.length + 1) p1) k0
 have k2 := heap_setCell_same _ x 1 _ _ (.slice (some ⟨g2, 0, none⟩) (S.length + 1) p2) k1
 have far : ∀ b, b ≠ x → ((W.setCell ⟨x, 0, none⟩ (.slice (some ⟨g1, 0, none⟩) (S.length + 1) p1)).setCell ⟨x, 1, none⟩ (.slice (some ⟨g2, 0, none⟩) (S.length + 1) p2)).heap[b]? = W.heap[b]? := fun b hb =>
  (heap_setCell_other _ ⟨x, 1, none⟩ b _ hb).trans (heap_setCell_other W ⟨x, 0, none⟩ b _ hb)
 have hlen : (S ++ [y]).length = S.length + 1 := by simp
 have hc : clC (S ++ [y]) = clC S ++ [.int .i64 y.1] := by simp [clC]
 have hw : wtC (S ++ [y]) = wtC S ++ [.int .i64 y.2] := by simp [wtC]
 refine ⟨⟨h.eqs.1.trans hx0.os, h.eqs.2.1.trans hx0.tape, h.eqs.2.2.trans hx0.output, ?_, fun b hb => ?_⟩, some ⟨g1, 0, none⟩, p1, some ⟨g2, 0, none⟩, p2, ?_, ?_, ?_, ?_⟩
 ·have h1 := hx0.size; have h2 := h.size
  rw [World.size_setCell, World.size_setCell]; omega
 ·refine (far b (by omega)).trans ((h.keep b (by omega) (fun e => ?_) (fun e => ?_)).trans (hx0.block b hb))
  ·have := hlow b (.inl e); omega
  ·have := hlow b (.inr e); omega
 ·rw [hlen]; exact k2
 ·rw [hlen, hc]; exact own_keep h.cown (fun b hb => far b (by have := own_block_le h.cown hb; omega))
 ·rw [hlen, hw]; exact own_keep h.wown (fun b hb => far b (by have := own_block_le h.wown hb; omega))
 ·rw [hlen]; exact h.dis
end Go.Proofs.YtgmpelhphnmknaaGreat
namespace Go.Proofs.YtgmpelhphnmknaaGreat
open Go.RowKit Go.Shelf
def SortCh (W : World) (base : Nat) (ca : Option Addr) (L : List CH) (e : Ending) (w' : World) : Prop :=
 e = .returned (.tuple #[]) ∧ ∃ S : List CH, S.Perm L ∧ S.Pairwise (fun x y => x.1 ≤ y.1) ∧ CRow w' ca S ∧ Below base W w'
def ShSort : Prop := ∀ (W : World) (base : Nat) (ca : Option Addr) (cc : Nat) (L : List CH), W.ownsRow base 122 2 (.slice ca L.length cc) L.length (crC L) → base ≤ W.heap.size → L.length ≤ 43200000002 →
 Calls Tryz.prog 46 #[.slice ca L.length cc, .func (.func 47) #[] #[]] W (SortCh W base ca L)
def ShRes (v : VO) (r : RY) (g : Nat → Int) (lo hi : Int) (w : World) (e : Ending) (w' : World) : Prop :=
 ∃ m S, IsM v r m ∧ S.Perm (chs (prN v r g (m + 1))) ∧ S.Pairwise (fun x y => x.1 ≤ y.1) ∧ Below w.heap.size w w' ∧
  (((∀ x ∈ S, x.2 ≤ 1000000) ∧ ∃ ca cc wa wc, e = .returned (.tuple #[.agg #[.slice ca S.length cc, .slice wa S.length wc, .int .i64 lo, .int .i64 hi], .int .i64 0]) ∧ w'.ownsRow w.heap.size 3 1 (.slice ca S.length cc) S.length (clC S) ∧ w'.ownsRow w.heap.size 3 1 (.slice wa S.length wc) S.length (wtC S)) ∨
   ((∃ x ∈ S, 1000000 < x.2) ∧ e = .returned (.tuple #[.agg #[.slice none 0 0, .slice none 0 0, .int .i64 0, .int .i64 0], .int .i64 3])))
theorem htk_ShB {P : Program} {md : Region.Mode} {Q : Exit → Act → World → Prop} {S : World → Prop} {l : List Oper} {n f : Nat} {listed : Array Bool} {a : Act} {w : World} {v : Value} {oi : Oper} {X : Prop} (i : Nat) (q : X) (hi : l.toArray[i]? = some oi := by rfl) (hB : TkB md l n listed i = true := by kernel_rfl) (hQ : ∀ c a w, Q (.panic c) (a.put oi.dst v) w → Q (.panic c) a w := by exact fun _ _ _ h => h) (hy : YieldsIf P l.toArray S oi v a := by (refine Or.inl ⟨by rfl, ?_⟩; intro w' hSw; (try dsimp only at hSw); obtain ⟨hA, hC⟩ := hSw; obtain ⟨a0, a1⟩ := cr2 hA; obtain ⟨b0, b1⟩ := cr2 hC; clear hA hC; (try simp only [hng]); go_simp; (try with_reducible rfl))) (hS : S w := by assumption) (hx : X → headH P md l.toArray Q S n (tailL P md l Q n) f (listed.setIfInBounds i true) (a.put oi.dst v) w := by (intro qq; refine hnm ?_; exact qq)) : headH P md l.toArray Q S n (tailL P md l Q n) (f + 1) listed a w := headH_take hi hB hQ hy hS (hx q)
theorem sh_int {a : Int} : ∀ u ∈ [Value.int .i64 a], u.oneCell' = true := by intro u hu; simp at hu; subst hu; rfl
theorem ch_take (S : List CH) {i : Nat} (h : i < S.length) : S.take (i + 1) = S.take i ++ [S.getD i ch0] := by
 rw [List.take_add_one, List.getElem?_eq_getElem h, List.getD_eq_getElem?_getD, List.getElem?_eq_getElem h]
 rfl
theorem set4 (W : World) (q : Nat) (T : TypeId) (a0 a1 a2 a3 v0 v1 v2 v3 : Value) (h : W.heap[q]? = some (.cells #[a0, a1, a2, a3] T)) :
  ((((W.setCell ⟨q, 0, none⟩ v0).setCell ⟨q, 1, none⟩ v1).setCell ⟨q, 2, none⟩ v2).setCell ⟨q, 3, none⟩ v3).heap[q]? = some (.cells #[v0, v1, v2, v3] T) ∧ (∀ b, b ≠ q → ((((W.setCell ⟨q, 0, none⟩ v0).setCell ⟨q, 1, none⟩ v1).setCell ⟨q, 2, none⟩ v2).setCell ⟨q, 3, none⟩ v3).heap[b]? = W.heap[b]?) ∧
  (∀ w, Below w.heap.size w W → w.heap.size ≤ q → Below w.heap.size w ((((W.setCell ⟨q, 0, none⟩ v0).setCell ⟨q, 1, none⟩ v1).setCell ⟨q, 2, none⟩ v2).setCell ⟨q, 3, none⟩ v3)) := by
 have h0 := heap_setCell_same W q 0 _ _ v0 h
 have h1 := heap_setCell_same _ q 1 _ _ v1 h0
 have h2 := heap_setCell_same _ q 2 _ _ v2 h1
 have h3 := heap_setCell_same _ q 3 _ _ v3 h2
 refine ⟨h3, fun b hb => ?_, fun w hw hq => (((hw.setCell (p := ⟨q, 0, none⟩) hq v0).setCell (p := ⟨q, 1, none⟩) hq v1).setCell (p := ⟨q, 2, none⟩) hq v2).setCell (p := ⟨q, 3, none⟩) hq v3⟩
 exact (heap_setCell_other _ ⟨q, 3, none⟩ b _ hb).trans ((heap_setCell_other _ ⟨q, 2, none⟩ b _ hb).trans ((heap_setCell_other _ ⟨q, 1, none⟩ b _ hb).trans (heap_setCell_other W ⟨q, 0, none⟩ b _ hb)))
theorem Shine_ok (hsort : ShSort) (v : VO) (r : RY) (ga : Option Addr) (gn gc : Nat) (g : Nat → Int) (lo hi : Int) (w : World) (hgn : gn ≤ maxLen) (hG : Ints w.heap.size w ga gn g) (hok : rkOk v r gn g = true) (hsp : spanB ⟨lo, hi⟩ 1000000000000 = true) :
  Calls Tryz.prog 16 #[v.val, .slice ga gn gc, r.val, .agg #[.int .i64 lo, .int .i64 hi]] w (ShRes v r g lo hi w) := by
 have HUN := Hd (fun (W : World) (hb : Below w.heap.size w W) => Under_ok v r ga gn gc g W hgn ((hG.below hb).up hb.size) hok)
 have HSP := Hd (fun (W : World) => span_any lo hi 1000000000000 W)
 have HSO := Lib.hid hsort
 have HVR := Hd (show v.Ok ∧ r.Ok from by
  unfold rkOk at hok
  rw [Bool.and_eq_true, Bool.and_eq_true] at hok
  exact ⟨volB_iff.1 hok.1.1, rayB_iff.1 hok.1.2⟩)
 have HRES := Hd (fun (e : Ending) (w' : World) (m : Nat) (S : List CH) (hM : IsM v r m) (h1 : S.Perm (chs (prN v r g (m + 1)))) (h2 : S.Pairwise (fun x y => x.1 ≤ y.1)) (h3 : Below w.heap.size w w') (h4 : _) => show ShRes v r g lo hi w e w' from ⟨m, S, hM, h1, h2, h3, h4⟩)
 generalize ShRes v r g lo hi w = RES at *
 rw [hsp] at HSP
 unfold VO.val RY.val at HUN
 unfold VO.val RY.val
 clear hG hok hsp hsort
 go_enter Tryz.func16, Tryz.ntmps16; go_upto_region 1 with (fail); (obtain ⟨hVb, hVz, e1, e2, e3, e4⟩ := rk_four w (.cells #[.int .i64 v.nx, .int .i64 v.ny, .int .i64 v.nz, .int .i64 v.size] 23) (.cells #[.int .i64 r.x, .int .i64 r.y, .int .i64 r.z, .int .i64 r.dx, .int .i64 r.dy, .int .i64 r.dz] 33) (.cells #[.int .i64 lo, .int .i64 hi] 28) (.cells #[.slice none 0 0, .slice none 0 0, .int .i64 0, .int .i64 0] 62)); have HB := Lib.hid hVb; have HV := Lib.hid e1; have HRY := Lib.hid e2; have HSB := Lib.hid e3; have HRS := Lib.hid e4; have HVZ := Lib.hid hVz; clear hVb hVz e1 e2 e3 e4; generalize World.alloc (World.alloc (World.alloc (World.alloc w _) _) _) _ = V at *; (try clear v0 v1 v2 v3 s0 s1 s2 s3 s4 s5 p0 p1); obtain ⟨v0, v1, v2, v3⟩ := cr4 HV.out; obtain ⟨s0, s1, s2, s3, s4, s5⟩ := cr6 HRY.out; obtain ⟨p0, p1⟩ := cr2 HSB.out
 go_upto_region 4 with (first | (go_at_call 44; refine (HUN.out _ HB.out).mono ?_; rintro e w2 ⟨m, ca, cc, hM, rfl, hown, hb2⟩; have HM := Lib.hid hM; have HOW := Lib.hid hown; have HWW := Lib.hid HB.out.size; have HZ := Lib.hid hb2.size; (replace HB := Hd (HB.out.trans ((hb2).mono HB.out.size)); replace HV := Hd (blkS HV.out hb2); replace HRY := Hd (blkS HRY.out hb2); replace HSB := Hd (blkS HSB.out hb2); replace HRS := Hd (blkS HRS.out hb2); (try clear v0 v1 v2 v3 s0 s1 s2 s3 s4 s5 p0 p1); obtain ⟨v0, v1, v2, v3⟩ := cr4 HV.out; obtain ⟨s0, s1, s2, s3, s4, s5⟩ := cr6 HRY.out; obtain ⟨p0, p1⟩ := cr2 HSB.out); clear hM hown hb2) | (go_at_call 45; refine (HSP.out _).mono ?_; rintro e w2 ⟨rfl, hb2⟩; have HOW := Hd (own_below HOW.out hb2); have HZ := Hd (Nat.le_trans HZ.out hb2.size); (replace HB := Hd (HB.out.trans ((hb2).mono HB.out.size)); replace HV := Hd (blkS HV.out hb2); replace HRY := Hd (blkS HRY.out hb2); replace HSB := Hd (blkS HSB.out hb2); replace HRS := Hd (blkS HRS.out hb2); (try clear v0 v1 v2 v3 s0 s1 s2 s3 s4 s5 p0 p1); obtain ⟨v0, v1, v2, v3⟩ := cr4 HV.out; obtain ⟨s0, s1, s2, s3, s4, s5⟩ := cr6 HRY.out; obtain ⟨p0, p1⟩ := cr2 HSB.out); clear hb2))
 have HSB2 := Hd (show (prN v r g (m + 1)).length = (chs (prN v r g (m + 1))).length from by simp [chs])
 have hsz := prN_many HVR.out.1 HVR.out.2 (g := g) HM.out
 have HCH := Hd (fun x (hx : x ∈ chs (prN v r g (m + 1))) => show True from trivial)
 have HOW2 := Hd (chC_crC (prN v r g (m + 1)) ▸ HOW.out)
 clear HOW
 rw [HSB2.out] at HOW2 hsz ⊢
 generalize hLC : chs (prN v r g (m + 1)) = L at *
 have HLC := Lib.hid hLC
 clear hLC
 have HVW := HVZ.out
 go_upto_region 5 with (go_at_call 46; refine (HSO.out _ _ _ _ _ HOW2.out HZ.out hsz).mono ?_; rintro e w3 ⟨rfl, S, hp, hs, hcr, hb3⟩; have HPS := Hd (And.intro hp (And.intro hs hcr)); (replace HB := Hd (HB.out.trans ((hb3).mono (by have := HVZ.out; omega))); replace HV := Hd (((hb3).block _ (by have := HVZ.out; omega)).trans HV.out); replace HRY := Hd (((hb3).block _ (by have := HVZ.out; omega)).trans HRY.out); replace HSB := Hd (((hb3).block _ (by have := HVZ.out; omega)).trans HSB.out); replace HRS := Hd (((hb3).block _ (by have := HVZ.out; omega)).trans HRS.out); (try clear v0 v1 v2 v3 s0 s1 s2 s3 s4 s5 p0 p1); obtain ⟨v0, v1, v2, v3⟩ := cr4 HV.out; obtain ⟨s0, s1, s2, s3, s4, s5⟩ := cr6 HRY.out; obtain ⟨p0, p1⟩ := cr2 HSB.out); clear hp hs hcr hb3)
 obtain ⟨hp, hs, hcr⟩ := HPS.out
 have hlen : L.length = S.length := hp.length_eq.symm
 have HPM := Hd (And.intro hp hs)
 have HCR := Lib.hid hcr
 rw [hlen] at hsz ⊢
 clear hp hs hcr HPS HOW2 hlen
 clear HZ
 go_upto_region 7 with (fail)
 have HBW := Hd (HB.out.trans ((rk_below w3 (.cells #[.slice none 0 0, .slice none 0 0, .int .i64 lo, .int .i64 hi] 62)).mono HB.out.size))
 have HT := Hd (show ShT w3.heap.size lo hi [] w3 (w3.alloc (.cells #[.slice none 0 0, .slice none 0 0, .int .i64 lo, .int .i64 hi] 62)) from ⟨rk_below w3 _, none, 0, none, 0, heap_alloc_new w3 _, World.ownsRow_nil _ _ _ _, World.ownsRow_nil _ _ _ _, fun b hb => by simp [Value.ownBlock] at hb⟩)
 clear HV HRY HSB v0 v1 v2 v3 s0 s1 s2 s3 s4 s5 p0 p1
 generalize World.alloc w3 _ = V5 at *
 have HHB := Lib.hid HB.out.size
 obtain ⟨x, hx⟩ : ∃ x, w3.heap.size = x := ⟨_, rfl⟩
 rw [hx] at HT ⊢
 have HX := Lib.hid hx
 obtain ⟨n, hn⟩ : ∃ n, S.length = n := ⟨_, rfl⟩
 have HN := Lib.hid hn
 rw [hn] at hsz ⊢
 clear hx hn
 go_wp2
 go_loopw [39] (fun s39 wr => ∃ i : Nat, i ≤ n ∧ s39 = .int .i64 (i : Int) ∧ Hid ((∀ j, j < i → (S.getD j ch0).2 ≤ 1000000) ∧ ShT x lo hi (S.take i) w3 wr)) (fun s39 _ => n - (intOf s39).toNat)
 case atStart => exact ⟨0, Nat.zero_le _, rfl, Lib.hid ⟨fun j hj => by omega, by simpa using HT.out⟩⟩
 case round =>
  clear HT HBW
  obtain ⟨i, hin, rfl, HY⟩ := hrel
  have HAL := Lib.hid HY.out.1
  have HST := Lib.hid HY.out.2
  clear HY
  have hxw : x ≤ wr.heap.size := by have := HST.out.bel.size; have := HX.out; omega
  by_cases hlt : i < n
  ·have hlt' : (i : Int) < (n : Int) := by omega
   rcases HCR.out.step (HX.out ▸ HST.out.bel) with h | ⟨b, rfl, hbz, hcs⟩
   ·have := HN.out; omega
   obtain ⟨d0, d1⟩ := hcs i (by have := HN.out; omega)
   have HTK := Hd (ch_take S (i := i) (by have := HN.out; omega))
   have HMEM := Hd (show S.getD i ch0 ∈ S from by
    rw [List.getD_eq_getElem?_getD, List.getElem?_eq_getElem (by have := HN.out; omega)]
    exact List.getElem_mem _)
   have HA2 := Hd (fun (h : (S.getD i ch0).2 ≤ 1000000) j (hj : j < i + 1) => show (S.getD j ch0).2 ≤ 1000000 from by
    by_cases e : j = i
    ·subst e; exact h
    ·exact HAL.out j (by omega))
   generalize S.getD i ch0 = y at *
   obtain ⟨cc0, cw0⟩ := y
   dsimp only at d0 d1
   clear hcs HAL
   go_upto_region 9 with (fail)
   have hb1 := rk_below wr (.cells #[.int .i64 cc0, .int .i64 cw0] 122)
   have hn1 := heap_alloc_new wr (.cells #[.int .i64 cc0, .int .i64 cw0] 122)
   have hl1 := (blkL hn1)
   have HBL := Hd (HST.out.bel.trans (hb1.mono hxw))
   have HCB := Lib.hid hn1
   have HB1 := Lib.hid hb1
   obtain ⟨e0, e1⟩ := cr2 hn1
   clear d0 d1 hb1 hn1 hbz
   generalize World.alloc wr _ = V2 at *
   by_cases hbig : 1000000 < cw0
   ·have hrb : V2.heap[w.heap.size + 1 + 1 + 1]? = _ := (HBL.out.block _ (by have h1 := HX.out; have h2 := (blkL HRS.out); omega)).trans HRS.out
    (obtain ⟨q0, q1, q2, q3⟩ := cr4 hrb; obtain ⟨f0, f1, f2, f3⟩ := fr4 hrb; have HRB := Lib.hid hrb; clear hrb)
    have HFB := Hd (HB.out.trans (HBL.out.mono (by have h1 := HX.out; have := HHB.out; omega)))
    go_wp2
    obtain ⟨z1, z2, z3⟩ := set4 V2 (w.heap.size + 1 + 1 + 1) _ _ _ _ _ (.slice none 0 0) (.slice none 0 0) (.int .i64 0) (.int .i64 0) HRB.out
    have z3 := z3 w HFB.out (by omega)
    clear q0 q1 q2 q3 f0 f1 f2 f3 z2
    generalize World.setCell (World.setCell (World.setCell (World.setCell V2 _ _) _ _) _ _) _ _ = wf at *
    obtain ⟨r0, r1, r2, r3⟩ := cr4 z1
    refine bodyPost_ret (v := .tuple #[.agg #[.slice none 0 0, .slice none 0 0, .int .i64 0, .int .i64 0], .int .i64 3]) (by simp [results, Tryz.results16, go_sem, r0, r1, r2, r3]) rfl ?_
    exact HRES.out _ _ m S HM.out (by rw [HLC.out]; exact HPM.out.1) HPM.out.2 z3 (.inr ⟨⟨_, HMEM.out, hbig⟩, rfl⟩)
   ·have hbig' : cw0 ≤ 1000000 := by omega
    have HA3 := Hd (HA2.out hbig')
    obtain ⟨ca0, cp0, wa0, wp0, hbox, hco, hwo, hdis⟩ := HST.out.row
    have hSl : (S.take i).length = i := by rw [List.length_take]; have := HN.out; omega
    rw [hSl] at hbox hco hwo hdis
    have hxl := (blkL hbox)
    have hbox2 := (HB1.out.block x hxl).trans hbox
    have hcl : ∀ b, (Value.slice ca0 i cp0).ownBlock = some b → x < b := fun b hb => own_block_le hco hb
    have hwl : ∀ b, (Value.slice wa0 i wp0).ownBlock = some b → x < b := fun b hb => own_block_le hwo hb
    have hcr : ∀ b, (Value.slice ca0 i cp0).ownBlock = some b → b < wr.heap.size := fun b hb => (hco.lt b hb).2
    have hwr : ∀ b, (Value.slice wa0 i wp0).ownBlock = some b → b < wr.heap.size := fun b hb => (hwo.lt b hb).2
    have hv2 : x + 1 ≤ V2.heap.size := by have := HB1.out.size; omega
    have HBP := Hd (BP.start (W := V2.drew) (own_below hco HB1.out.drew) (own_below hwo HB1.out.drew) hdis hv2)
    have HSS := Hd (fun (W : World) (vc vw : Value) (kc kw : Nat) (cs ws : List Value) (h : BP (x + 1) V2.drew W (.slice ca0 i cp0) (.slice wa0 i wp0) vc vw kc kw cs ws) => show W.heap[x]? = some (.cells #[.slice ca0 i cp0, .slice wa0 i wp0, .int .i64 lo, .int .i64 hi] 62) ∧ W.heap[wr.heap.size]? = some (.cells #[.int .i64 cc0, .int .i64 cw0] 122) from
     ⟨(h.keep x (show x < V2.heap.size by omega) (fun e => by have := hcl _ e; omega) (fun e => by have := hwl _ e; omega)).trans hbox2, (h.keep wr.heap.size (show wr.heap.size < V2.heap.size from hl1) (fun e => by have := hcr _ e; omega) (fun e => by have := hwr _ e; omega)).trans HCB.out⟩)
    have HNEXT := Hd (fun (W : World) (g1 p1 g2 p2 : Nat) (h : BP (x + 1) V2.drew W (.slice ca0 i cp0) (.slice wa0 i wp0) (.slice (some ⟨g1, 0, none⟩) (i + 1) p1) (.slice (some ⟨g2, 0, none⟩) (i + 1) p2) (i + 1) (i + 1) (clC (S.take i) ++ [.int .i64 cc0]) (wtC (S.take i) ++ [.int .i64 cw0])) =>
     And.intro HA3.out (show ShT x lo hi (S.take (i + 1)) w3 ((W.setCell ⟨x, 0, none⟩ (.slice (some ⟨g1, 0, none⟩) (i + 1) p1)).setCell ⟨x, 1, none⟩ (.slice (some ⟨g2, 0, none⟩) (i + 1) p2)) from by
      rw [HTK.out]
      have h2 := ShT.next (x := x) (lo := lo) (hi := hi) (S := S.take i) (Wb := w3) (y := (cc0, cw0)) (HBL.out.drew) (fun e => by have := hcl _ e; omega) (fun e => by have := hwl _ e; omega) (fun b e => by rcases e with e | e; exact hcl b e; exact hwl b e) hbox2 (by rw [hSl]; exact h)
      rwa [hSl] at h2))
    clear hSl hbox hco hwo hdis hcl hwl hcr hwr hbox2 HTK
    obtain ⟨i1, hi1, hz10, hz11, hz12⟩ := info_parts (show (Tryz.prog.info? 3).map (fun i => (i.zero, i.size, i.bytes)) = some (some (.int .i64 0), 1, 8) by kernel_rfl)
    have hb63 : i + 1 ≤ maxLen := by unfold maxLen; omega
    have hb47 : (i + 1) * 8 ≤ 140737488355328 := by omega
    clear HCB HB1
    go_upto_region 11 with (fail)
    refine wp_region_any (by kernel_rfl) ?_
    change wpAny _ _ _ _ _ _ _ (World.drew V2)
    generalize World.drew V2 = wd at *
    generalize wr.heap.size = q at *
    refine any_of_tail 13 13 (fun w' => w'.heap[x]? = some (.cells #[.slice ca0 i cp0, .slice wa0 i wp0, .int .i64 lo, .int .i64 hi] 62) ∧ w'.heap[q]? = some (.cells #[.int .i64 cc0, .int .i64 cw0] 122)) (by kernel_rfl) (HSS.out _ _ _ _ _ _ _ HBP.out) (fun hS => ?_)
    clear e0 e1
    refine htk_ShB 0 ?_
    refine htk_ShB 1 ?_
    refine htk_ShB 2 ?_
    refine htk_ShB 3 ?_
    refine htk_ShB 6 ?_
    refine htk_ShB 7 ?_
    refine htk_ShB 8 ?_
    refine htk_ShB 9 ?_
    refine headH_two 4 10 ?_ ?_
    ·(refine headH_op rfl (fun K hK => ?_); (try simp only [hng]); go_simp; have HP1 := Hd (PB.new HBP.out cc0); replace HBP := Hd (HBP.out.alloc (.cells #[.int .i64 cc0] 3)); (have HSx := Hd (HSS.out _ _ _ _ _ _ _ HBP.out); refine hK.out _ _ HSx.out (fun hS => ?_); clear hK K HSx; refine hnm ?_); generalize World.alloc wd _ = W1 at *)
     refine headH_two 5 10 ?_ ?_
     ·(refine headH_op rfl (fun K hK => ?_); refine step_append_lies _ rfl _ _ 24 rfl (x + 1) 3 i1 (.int .i64 0) 1 8 Tryz.underlying24 hi1 hz10 hz11 hz12 rfl (by decide) _ i _ rfl HBP.out.cown _ 1 1 [.int .i64 cc0] rfl rfl (World.news_of_block HP1.out.1) sh_int (by decide) hb63 hb47 (by have h1 := HBP.out.size; have h2 := HBP.out.le; omega) _ rfl ?_; intro g1 p1 W2 hown hgrow hat _; (try replace HP2 := Hd (HP2.out.appC (kc' := i + 1) (p := p1) hgrow hat)); replace HBP := Hd (HBP.out.appC hgrow hown hat); clear hown hgrow hat; (have HSx := Hd (HSS.out _ _ _ _ _ _ _ HBP.out); refine hK.out _ _ HSx.out (fun hS => ?_); clear hK K HSx; refine hnm ?_))
      refine htk_ShB 12 ?_
      refine headH_one 10 ?_
      (refine headH_op rfl (fun K hK => ?_); (try simp only [hng]); go_simp; have HP2 := Hd (PB.new HBP.out cw0); (try replace HP1 := Hd (HP1.out.alloc (.cells #[.int .i64 cw0] 3))); replace HBP := Hd (HBP.out.alloc (.cells #[.int .i64 cw0] 3)); (have HSx := Hd (HSS.out _ _ _ _ _ _ _ HBP.out); refine hK.out _ _ HSx.out (fun hS => ?_); clear hK K HSx; refine hnm ?_); generalize World.alloc W2 _ = W3 at *)
      refine headH_one 11 ?_
      (refine headH_op rfl (fun K hK => ?_); refine step_append_lies _ rfl _ _ 24 rfl (x + 1) 3 i1 (.int .i64 0) 1 8 Tryz.underlying24 hi1 hz10 hz11 hz12 rfl (by decide) _ i _ rfl HBP.out.wown _ 1 1 [.int .i64 cw0] rfl rfl (World.news_of_block HP2.out.1) sh_int (by decide) hb63 hb47 (by have h1 := HBP.out.size; have h2 := HBP.out.le; omega) _ rfl ?_; intro g2 p2 W4 hown hgrow hat _; replace HBP := Hd (HBP.out.appW hgrow hown hat); clear hown hgrow hat; (have HSx := Hd (HSS.out _ _ _ _ _ _ _ HBP.out); refine hK.out _ _ HSx.out (fun hS => ?_); clear hK K HSx; refine hnm ?_))
      (change tailL _ _ _ _ _ _ _ _; refine ⟨by kernel_rfl, ?_⟩; simp only [List.drop_succ_cons, List.drop_zero]; have hbx := (HSS.out _ _ _ _ _ _ _ HBP.out).1; obtain ⟨a0, a1⟩ := cr2 hbx; obtain ⟨f0, f1⟩ := fr2 hbx; have HNX := Hd (HNEXT.out _ _ _ _ _ HBP.out); clear hbx hS HBP; go_wp2; go_roundw; (· exact ⟨i + 1, by omega, by go_num, HNX⟩); (· simp [intOf]; omega))
     ·(refine headH_op rfl (fun K hK => ?_); (try simp only [hng]); go_simp; have HP2 := Hd (PB.new HBP.out cw0); (try replace HP1 := Hd (HP1.out.alloc (.cells #[.int .i64 cw0] 3))); replace HBP := Hd (HBP.out.alloc (.cells #[.int .i64 cw0] 3)); (have HSx := Hd (HSS.out _ _ _ _ _ _ _ HBP.out); refine hK.out _ _ HSx.out (fun hS => ?_); clear hK K HSx; refine hnm ?_); generalize World.alloc W1 _ = W2 at *)
      refine headH_one 5 ?_
      (refine headH_op rfl (fun K hK => ?_); refine step_append_lies _ rfl _ _ 24 rfl (x + 1) 3 i1 (.int .i64 0) 1 8 Tryz.underlying24 hi1 hz10 hz11 hz12 rfl (by decide) _ i _ rfl HBP.out.cown _ 1 1 [.int .i64 cc0] rfl rfl (World.news_of_block HP1.out.1) sh_int (by decide) hb63 hb47 (by have h1 := HBP.out.size; have h2 := HBP.out.le; omega) _ rfl ?_; intro g1 p1 W3 hown hgrow hat _; (try replace HP2 := Hd (HP2.out.appC (kc' := i + 1) (p := p1) hgrow hat)); replace HBP := Hd (HBP.out.appC hgrow hown hat); clear hown hgrow hat; (have HSx := Hd (HSS.out _ _ _ _ _ _ _ HBP.out); refine hK.out _ _ HSx.out (fun hS => ?_); clear hK K HSx; refine hnm ?_))
      refine htk_ShB 12 ?_
      refine headH_one 11 ?_
      (refine headH_op rfl (fun K hK => ?_); refine step_append_lies _ rfl _ _ 24 rfl (x + 1) 3 i1 (.int .i64 0) 1 8 Tryz.underlying24 hi1 hz10 hz11 hz12 rfl (by decide) _ i _ rfl HBP.out.wown _ 1 1 [.int .i64 cw0] rfl rfl (World.news_of_block HP2.out.1) sh_int (by decide) hb63 hb47 (by have h1 := HBP.out.size; have h2 := HBP.out.le; omega) _ rfl ?_; intro g2 p2 W4 hown hgrow hat _; replace HBP := Hd (HBP.out.appW hgrow hown hat); clear hown hgrow hat; (have HSx := Hd (HSS.out _ _ _ _ _ _ _ HBP.out); refine hK.out _ _ HSx.out (fun hS => ?_); clear hK K HSx; refine hnm ?_))
      (change tailL _ _ _ _ _ _ _ _; refine ⟨by kernel_rfl, ?_⟩; simp only [List.drop_succ_cons, List.drop_zero]; have hbx := (HSS.out _ _ _ _ _ _ _ HBP.out).1; obtain ⟨a0, a1⟩ := cr2 hbx; obtain ⟨f0, f1⟩ := fr2 hbx; have HNX := Hd (HNEXT.out _ _ _ _ _ HBP.out); clear hbx hS HBP; go_wp2; go_roundw; (· exact ⟨i + 1, by omega, by go_num, HNX⟩); (· simp [intOf]; omega))
    ·(refine headH_op rfl (fun K hK => ?_); (try simp only [hng]); go_simp; have HP2 := Hd (PB.new HBP.out cw0); (try replace HP1 := Hd (HP1.out.alloc (.cells #[.int .i64 cw0] 3))); replace HBP := Hd (HBP.out.alloc (.cells #[.int .i64 cw0] 3)); (have HSx := Hd (HSS.out _ _ _ _ _ _ _ HBP.out); refine hK.out _ _ HSx.out (fun hS => ?_); clear hK K HSx; refine hnm ?_); generalize World.alloc wd _ = W1 at *)
     refine headH_one 4 ?_
     (refine headH_op rfl (fun K hK => ?_); (try simp only [hng]); go_simp; have HP1 := Hd (PB.new HBP.out cc0); replace HP2 := Hd (HP2.out.alloc (.cells #[.int .i64 cc0] 3)); replace HBP := Hd (HBP.out.alloc (.cells #[.int .i64 cc0] 3)); (have HSx := Hd (HSS.out _ _ _ _ _ _ _ HBP.out); refine hK.out _ _ HSx.out (fun hS => ?_); clear hK K HSx; refine hnm ?_); generalize World.alloc W1 _ = W2 at *)
     refine headH_one 5 ?_
     (refine headH_op rfl (fun K hK => ?_); refine step_append_lies _ rfl _ _ 24 rfl (x + 1) 3 i1 (.int .i64 0) 1 8 Tryz.underlying24 hi1 hz10 hz11 hz12 rfl (by decide) _ i _ rfl HBP.out.cown _ 1 1 [.int .i64 cc0] rfl rfl (World.news_of_block HP1.out.1) sh_int (by decide) hb63 hb47 (by have h1 := HBP.out.size; have h2 := HBP.out.le; omega) _ rfl ?_; intro g1 p1 W3 hown hgrow hat _; (try replace HP2 := Hd (HP2.out.appC (kc' := i + 1) (p := p1) hgrow hat)); replace HBP := Hd (HBP.out.appC hgrow hown hat); clear hown hgrow hat; (have HSx := Hd (HSS.out _ _ _ _ _ _ _ HBP.out); refine hK.out _ _ HSx.out (fun hS => ?_); clear hK K HSx; refine hnm ?_))
     refine htk_ShB 12 ?_
     refine headH_one 11 ?_
     (refine headH_op rfl (fun K hK => ?_); refine step_append_lies _ rfl _ _ 24 rfl (x + 1) 3 i1 (.int .i64 0) 1 8 Tryz.underlying24 hi1 hz10 hz11 hz12 rfl (by decide) _ i _ rfl HBP.out.wown _ 1 1 [.int .i64 cw0] rfl rfl (World.news_of_block HP2.out.1) sh_int (by decide) hb63 hb47 (by have h1 := HBP.out.size; have h2 := HBP.out.le; omega) _ rfl ?_; intro g2 p2 W4 hown hgrow hat _; replace HBP := Hd (HBP.out.appW hgrow hown hat); clear hown hgrow hat; (have HSx := Hd (HSS.out _ _ _ _ _ _ _ HBP.out); refine hK.out _ _ HSx.out (fun hS => ?_); clear hK K HSx; refine hnm ?_))
     (change tailL _ _ _ _ _ _ _ _; refine ⟨by kernel_rfl, ?_⟩; simp only [List.drop_succ_cons, List.drop_zero]; have hbx := (HSS.out _ _ _ _ _ _ _ HBP.out).1; obtain ⟨a0, a1⟩ := cr2 hbx; obtain ⟨f0, f1⟩ := fr2 hbx; have HNX := Hd (HNEXT.out _ _ _ _ _ HBP.out); clear hbx hS HBP; go_wp2; go_roundw; (· exact ⟨i + 1, by omega, by go_num, HNX⟩); (· simp [intOf]; omega))
  ·obtain rfl : i = n := by omega
   have hlt' : ¬ (i : Int) < (i : Int) := by omega
   obtain ⟨ca0, cp0, wa0, wp0, hbox, hco, hwo, hdis⟩ := HST.out.row
   have hSl : S.take i = S := List.take_of_length_le (by have := HN.out; omega)
   rw [hSl, HN.out] at hbox hco hwo
   have hall : ∀ y ∈ S, y.2 ≤ 1000000 := fun y hy => by
    obtain ⟨j, hj, rfl⟩ := List.mem_iff_getElem.1 hy
    have := HAL.out j (by have := HN.out; omega)
    rwa [List.getD_eq_getElem?_getD, List.getElem?_eq_getElem hj] at this
   have hrl : w.heap.size + 1 + 1 + 1 < x := by have h1 := HX.out; have h2 := (blkL HRS.out); omega
   have hrb : wr.heap[w.heap.size + 1 + 1 + 1]? = _ := (HST.out.bel.block _ hrl).trans HRS.out
   (obtain ⟨q0, q1, q2, q3⟩ := cr4 hrb; obtain ⟨f0, f1, f2, f3⟩ := fr4 hrb; have HRB := Lib.hid hrb; clear hrb)
   obtain ⟨a0, a1, a2, a3⟩ := cr4 hbox
   have HFB := Hd (HB.out.trans (HST.out.bel.mono (by have h1 := HX.out; have := HHB.out; omega)))
   have HOC := Hd (fun (W' : World) (h : ∀ b, b ≠ w.heap.size + 1 + 1 + 1 → W'.heap[b]? = wr.heap[b]?) => And.intro (own_base (own_keep hco (fun b hb => h b (by have := own_block_le hco hb; omega))) (show w.heap.size ≤ x + 1 by omega)) (own_base (own_keep hwo (fun b hb => h b (by have := own_block_le hwo hb; omega))) (show w.heap.size ≤ x + 1 by omega)))
   have HALL := Lib.hid hall
   clear hbox hco hwo hdis hSl hall HST HAL
   go_wp2
   obtain ⟨z1, z2, z3⟩ := set4 wr (w.heap.size + 1 + 1 + 1) _ _ _ _ _ (.slice ca0 i cp0) (.slice wa0 i wp0) (.int .i64 lo) (.int .i64 hi) HRB.out
   have z3 := z3 w HFB.out (by omega)
   have HO2 := Hd (HOC.out _ z2)
   clear q0 q1 q2 q3 f0 f1 f2 f3 z2 a0 a1 a2 a3
   generalize World.setCell (World.setCell (World.setCell (World.setCell wr _ _) _ _) _ _) _ _ = wf at *
   obtain ⟨r0, r1, r2, r3⟩ := cr4 z1
   refine bodyPost_ret (v := .tuple #[.agg #[.slice ca0 i cp0, .slice wa0 i wp0, .int .i64 lo, .int .i64 hi], .int .i64 0]) (by simp [results, Tryz.results16, go_sem, r0, r1, r2, r3]) rfl ?_
   exact HRES.out _ _ m S HM.out (by rw [HLC.out]; exact HPM.out.1) HPM.out.2 z3 (.inl ⟨HALL.out, ca0, cp0, wa0, wp0, by rw [HN.out], by rw [HN.out]; exact HO2.out.1, by rw [HN.out]; exact HO2.out.2⟩)
end Go.Proofs.YtgmpelhphnmknaaGreat
