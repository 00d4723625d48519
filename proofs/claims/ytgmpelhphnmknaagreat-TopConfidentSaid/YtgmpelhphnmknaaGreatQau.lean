/- Texts put together: ToFlxI, ToCurve, ToFlxG, ToFlxJ, ToFlxK. -/
import Derived.Test.YtgmpelhphnmknaaGreatQas
import Derived.Test.YtgmpelhphnmknaaGreatQat
import Derived.Test.YtgmpelhphnmknaaGreatQaj
import Derived.Test.YtgmpelhphnmknaaGreatQan
set_option maxRecDepth 100000
set_option maxHeartbeats 8000000
set_option linter.unusedVariables false
set_option linter.unusedSimpArgs false
namespace Go.Proofs.YtgmpelhphnmknaaGreat
open Go Go.RowKit Go.Shelf
attribute [local go_sem] Oper.semAt_some
def mnF (f : Nat → Int) : Nat → Int
 | 0 => f 0
 | k + 1 => min (mnF f k) (f k)
def mxF (f : Nat → Int) : Nat → Int
 | 0 => f 0
 | k + 1 => max (mxF f k) (f k)
structure FcT (f : Nat → Int) (rb fb ob : Nat) (X : Nat → Prop) (xs : List Nat) (W : World) : Prop where
 xr : X rb
 xf : X fb
 xo : X ob
 res : W.heap[rb]? = some (.cells #[.int .i64 0, .int .i64 0] 28)
 mark : W.heap[fb]? = some (.cells #[.bool (decide (xs.length = 0))] 4)
 out : W.heap[ob]? = some (.cells (if xs.length = 0 then #[.int .i64 0, .int .i64 0] else #[.int .i64 (mnF f xs.length), .int .i64 (mxF f xs.length)]) 28)
theorem FcT.keep {f : Nat → Int} {rb fb ob : Nat} {X : Nat → Prop} {xs : List Nat} {W W' : World} (h : FcT f rb fb ob X xs W) (hk : ∀ b, X b → W'.heap[b]? = W.heap[b]?) : FcT f rb fb ob X xs W' := ⟨h.xr, h.xf, h.xo, (hk _ h.xr).trans h.res, (hk _ h.xf).trans h.mark, (hk _ h.xo).trans h.out⟩
section
variable {f : Nat → Int} {rb fb ob N k x : Nat} {R X O : Nat → Prop} {pre : List Nat} {W : World}
theorem FcT.next {lo hi : Int} (hT : FcT f rb fb ob X pre W) (hm : MineN N R X O W) (hlen : pre.length = k + 1) (h1 : ob ≠ rb) (h2 : ob ≠ fb) (hlo : lo = min (mnF f (k + 1)) (f (k + 1))) (hhi : hi = max (mxF f (k + 1)) (f (k + 1))) :
  ∃ X', StepN N X W ((W.setCell ⟨ob, 0, none⟩ (.int .i64 lo)).setCell ⟨ob, 1, none⟩ (.int .i64 hi)) X' ∧ FcT f rb fb ob X' (pre ++ [x]) ((W.setCell ⟨ob, 0, none⟩ (.int .i64 lo)).setCell ⟨ob, 1, none⟩ (.int .i64 hi)) := by
 have hl2 : (pre ++ [x]).length = k + 2 := by rw [List.length_append, hlen]; rfl
 obtain ⟨xr, xf, xo, c0, c1, c2⟩ := hT
 rw [hlen] at c1 c2
 have hot : ∀ b, b ≠ ob → ((W.setCell ⟨ob, 0, none⟩ (.int .i64 lo)).setCell ⟨ob, 1, none⟩ (.int .i64 hi)).heap[b]? = W.heap[b]? := fun b hb => (heap_setCell_other _ ⟨ob, 1, none⟩ b _ hb).trans (heap_setCell_other W ⟨ob, 0, none⟩ b _ hb)
 refine ⟨X, ((StepN.refl hm).setCell xo _).setCell xo _, xr, xf, xo, (hot _ (Ne.symm h1)).trans c0, ?_, ?_⟩
 ·rw [hl2]
  exact (hot _ (Ne.symm h2)).trans c1
 ·rw [hl2]
  have := heap_setCell_same _ _ 1 _ _ (.int .i64 hi) (heap_setCell_same W _ 0 _ _ (.int .i64 lo) c2)
  refine this.trans ?_
  subst hlo
  subst hhi
  rfl
theorem FcT.first {v : Int} (hT : FcT f rb fb ob X pre W) (hm : MineN N R X O W) (hlen : pre.length = 0) (h1 : ob ≠ rb) (h2 : ob ≠ fb) (h3 : fb ≠ rb) (hv : f 0 = v) :
  ∃ X', StepN N X W (((((W.setCell ⟨ob, 0, none⟩ (.int .i64 v)).setCell ⟨ob, 1, none⟩ (.int .i64 v)).setCell ⟨fb, 0, none⟩ (.bool false)).setCell ⟨ob, 0, none⟩ (.int .i64 v)).setCell ⟨ob, 1, none⟩ (.int .i64 v)) X' ∧ FcT f rb fb ob X' (pre ++ [x]) (((((W.setCell ⟨ob, 0, none⟩ (.int .i64 v)).setCell ⟨ob, 1, none⟩ (.int .i64 v)).setCell ⟨fb, 0, none⟩ (.bool false)).setCell ⟨ob, 0, none⟩ (.int .i64 v)).setCell ⟨ob, 1, none⟩ (.int .i64 v)) := by
 have hl2 : (pre ++ [x]).length = 1 := by rw [List.length_append, hlen]; rfl
 obtain ⟨xr, xf, xo, c0, c1, c2⟩ := hT
 rw [hlen] at c1 c2
 refine ⟨X, (((((StepN.refl hm).setCell xo _).setCell xo _).setCell xf _).setCell xo _).setCell xo _, xr, xf, xo, ?_, ?_, ?_⟩
 ·rw [heap_setCell_other _ ⟨ob, 1, none⟩ rb _ (Ne.symm h1), heap_setCell_other _ ⟨ob, 0, none⟩ rb _ (Ne.symm h1), heap_setCell_other _ ⟨fb, 0, none⟩ rb _ (Ne.symm h3), heap_setCell_other _ ⟨ob, 1, none⟩ rb _ (Ne.symm h1), heap_setCell_other _ ⟨ob, 0, none⟩ rb _ (Ne.symm h1)]
  exact c0
 ·rw [hl2, heap_setCell_other _ ⟨ob, 1, none⟩ fb _ (Ne.symm h2), heap_setCell_other _ ⟨ob, 0, none⟩ fb _ (Ne.symm h2)]
  have e : ((W.setCell ⟨ob, 0, none⟩ (.int .i64 v)).setCell ⟨ob, 1, none⟩ (.int .i64 v)).heap[fb]? = some (.cells #[.bool true] 4) := by
   rw [heap_setCell_other _ ⟨ob, 1, none⟩ fb _ (Ne.symm h2), heap_setCell_other _ ⟨ob, 0, none⟩ fb _ (Ne.symm h2)]
   exact c1
  exact heap_setCell_same _ _ 0 _ _ (.bool false) e
 ·rw [hl2]
  have e := heap_setCell_same _ _ 1 _ _ (.int .i64 v) (heap_setCell_same W _ 0 _ _ (.int .i64 v) c2)
  have e2 : (((W.setCell ⟨ob, 0, none⟩ (.int .i64 v)).setCell ⟨ob, 1, none⟩ (.int .i64 v)).setCell ⟨fb, 0, none⟩ (.bool false)).heap[ob]? = _ := (heap_setCell_other _ ⟨fb, 0, none⟩ ob _ h2).trans e
  have e3 := heap_setCell_same _ _ 1 _ _ (.int .i64 v) (heap_setCell_same _ _ 0 _ _ (.int .i64 v) e2)
  refine e3.trans ?_
  have hm1 : mnF f 1 = v := by show min (f 0) (f 0) = v; omega
  have hm2 : mxF f 1 = v := by show max (f 0) (f 0) = v; omega
  rw [hm1, hm2]
  rfl
end
theorem fx_five (W : World) (o1 o2 o3 o4 o5 : Obj) : Below W.heap.size W (((((W.alloc o1).alloc o2).alloc o3).alloc o4).alloc o5) ∧ (((((W.alloc o1).alloc o2).alloc o3).alloc o4).alloc o5).heap.size = W.heap.size + 5 ∧ (((((W.alloc o1).alloc o2).alloc o3).alloc o4).alloc o5).heap[W.heap.size]? = some o1 ∧ (((((W.alloc o1).alloc o2).alloc o3).alloc o4).alloc o5).heap[W.heap.size + 1]? = some o2 ∧ (((((W.alloc o1).alloc o2).alloc o3).alloc o4).alloc o5).heap[W.heap.size + 1 + 1]? = some o3 ∧ (((((W.alloc o1).alloc o2).alloc o3).alloc o4).alloc o5).heap[W.heap.size + 1 + 1 + 1]? = some o4 ∧ (((((W.alloc o1).alloc o2).alloc o3).alloc o4).alloc o5).heap[W.heap.size + 1 + 1 + 1 + 1]? = some o5 := by
 obtain ⟨h1, h2, h3, h4⟩ := fx_three W o1 o2 o3
 have z3 : (((W.alloc o1).alloc o2).alloc o3).heap.size = W.heap.size + 3 := by simp
 generalize ((W.alloc o1).alloc o2).alloc o3 = V at *
 have z4 : (V.alloc o4).heap.size = W.heap.size + 4 := by simp; omega
 refine ⟨(h1.alloc h1.size o4).alloc (by rw [z4]; omega) o5, by simp; omega, ?_, ?_, ?_, ?_, ?_⟩
 ·rw [Below.heap_alloc _ _ _ (by omega), Below.heap_alloc _ _ _ (by omega)]; exact h2
 ·rw [Below.heap_alloc _ _ _ (by omega), Below.heap_alloc _ _ _ (by omega)]; exact h3
 ·rw [Below.heap_alloc _ _ _ (by omega), Below.heap_alloc _ _ _ (by omega)]; exact h4
 ·rw [Below.heap_alloc _ _ _ (by omega)]
  have := heap_alloc_new V o4
  rwa [z3] at this
 ·have := heap_alloc_new (V.alloc o4) o5
  rwa [z4] at this
theorem factors_any (s : SK) (x : WX) (hbe : -100 ≤ s.be0 ∧ s.be0 ≤ s.be1 ∧ s.be1 ≤ 100) (hal : -100 ≤ s.al0 ∧ s.al0 ≤ s.al1 ∧ s.al1 ≤ 100) (hx : x.ok) (w : World) :
  Calls Tryz.prog 83 #[.agg s.cells, .agg x.cells] w fun e w' => e = .returned (spV (mnF (facF s x) 16) (mxF (facF s x) 16)) ∧ Below w.heap.size w w' := by
 have HCO := Hd (fun (W : World) => corners_any s x W)
 have HSQ := Hd (fun (q : Nat) (W : World) (h : CnAt s x q W) => corners_seq s x hbe hal hx q W h)
 unfold SK.cells WX.cells at *
 unfold spV
 generalize facF s x = fF at *
 obtain ⟨LO, hLO⟩ : ∃ LO, mnF fF 16 = LO := ⟨_, rfl⟩
 obtain ⟨HI, hHI⟩ : ∃ HI, mxF fF 16 = HI := ⟨_, rfl⟩
 rw [hLO, hHI]
 have HLO := Lib.hid hLO
 have HHI := Lib.hid hHI
 clear hbe hal hx hLO hHI
 refine (callsIn_wide (n := 6)).1 ?_
 refine callsIn_of_wp_marks Tryz.func83 rfl trivial ?_ rfl
 simp only [Tryz.ntmps83, List.size_toArray, List.length_cons, List.length_nil, Nat.reduceAdd, Nat.reduceSub, Array.replicate_succ, Array.replicate_zero, List.push_toArray, List.append_toArray, List.nil_append, List.cons_append]
 refine wpIn_wide.2 ?_
 go_upto_region 3 with (fail)
 obtain ⟨hVb, hVz, e1, e2, e3, e4, e5⟩ := fx_five w (.cells #[.int .i64 s.P, .slice s.ba s.bn s.bc, .int .i64 s.be0, .int .i64 s.be1, .int .i64 s.al0, .int .i64 s.al1] 30) (.cells #[.int .i64 x.p0, .int .i64 x.p1, .int .i64 x.x0, .int .i64 x.x1] 46) (.cells #[.int .i64 0, .int .i64 0] 28) (.cells #[.bool true] 4) (.cells #[.int .i64 0, .int .i64 0] 28)
 generalize World.alloc (World.alloc (World.alloc (World.alloc (World.alloc w _) _) _) _) _ = V at *
 have HVB := Lib.hid hVb
 have HVZ := Lib.hid hVz
 obtain ⟨k0, k1, k2, k3, k4, k5⟩ := cr6 e1
 obtain ⟨m0, m1, m2, m3⟩ := cr4 e2
 simp only [hnq] at k0 k1 k2 k3 k4 k5 m0 m1 m2 m3
 have HE := Hd (And.intro e3 (And.intro e4 e5))
 clear e1 e2 e3 e4 e5 hVb hVz
 go_wp2_with (go_at_call 126; refine (HCO.out _).mono ?_; rintro e W1 ⟨rfl, hc, hb⟩; have HC := Lib.hid hc; have HB1 := Lib.hid hb; clear hc hb)
 have hbw : Below w.heap.size w W1 := HVB.out.trans (HB1.out.mono HVB.out.size)
 have hz1 := HB1.out.size
 have hz2 : w.heap.size + 5 ≤ V.heap.size := by have := HVZ.out; omega
 have hl1 := (blkL HC.out.1)
 have hl2 := (blkL HC.out.2.1)
 have hl3 := (blkL HC.out.2.2)
 have hT0 : FcT fF (w.heap.size + 1 + 1) (w.heap.size + 1 + 1 + 1) (w.heap.size + 1 + 1 + 1 + 1) (fun b => b = w.heap.size + 1 + 1 ∨ b = w.heap.size + 1 + 1 + 1 ∨ b = w.heap.size + 1 + 1 + 1 + 1) [] W1 :=
  ⟨.inl rfl, .inr (.inl rfl), .inr (.inr rfl), keep_at HE.out.1 HB1.out, keep_at HE.out.2.1 HB1.out, keep_at HE.out.2.2 HB1.out⟩
 clear k0 k1 k2 k3 k4 k5 m0 m1 m2 m3
 refine wp_seq (P := Tryz.prog) rfl (enters_of Tryz.func170 (by kernel_rfl) rfl) (HSQ.out _ W1 HC.out) (by rintro b (h | h | h) <;> omega) w hbw (fun _ => rfl)
  (fun b => b = w.heap.size + 1 + 1 ∨ b = w.heap.size + 1 + 1 + 1 ∨ b = w.heap.size + 1 + 1 + 1 + 1) (by rintro b (h | h | h) <;> exact ⟨by omega, by rintro (h | h | h) <;> omega, by omega⟩)
  (fun X xs W => FcT fF (w.heap.size + 1 + 1) (w.heap.size + 1 + 1 + 1) (w.heap.size + 1 + 1 + 1 + 1) X xs W) (fun _ _ _ _ h hk => h.keep hk) hT0
  (fun k => ⟨#[.agg #[.int .i64 s.P, .slice s.ba s.bn s.bc, .int .i64 s.be0, .int .i64 s.be1, .int .i64 s.al0, .int .i64 s.al1], .agg #[.int .i64 x.p0, .int .i64 x.p1, .int .i64 x.x0, .int .i64 x.x1], .pointer (some ⟨w.heap.size, 0, none⟩), .pointer (some ⟨w.heap.size + 1, 0, none⟩), .pointer (some ⟨w.heap.size + 1 + 1, 0, none⟩), .pointer (some ⟨w.heap.size + 1 + 1 + 1, 0, none⟩), .pointer (some ⟨w.heap.size + 1 + 1 + 1 + 1, 0, none⟩), .int .i64 (fF k), .agg #[.int .i64 s.P, .slice s.ba s.bn s.bc, .int .i64 s.be0, .int .i64 s.be1, .int .i64 s.al0, .int .i64 s.al1], .agg #[.int .i64 x.p0, .int .i64 x.p1, .int .i64 x.x0, .int .i64 x.x1], .func (.func 170) #[] #[.pointer (some ⟨V.heap.size + 1 + 1, 0, none⟩), .pointer (some ⟨V.heap.size, 0, none⟩), .pointer (some ⟨V.heap.size + 1, 0, none⟩)], .int .i64 (fF k), undef, undef, undef, undef, undef, undef, undef, undef, undef, undef, undef, undef, undef, undef], []⟩) ?hassign ?hbody ?hdone
 case hassign =>
  intro l k W K hK
  gi_wp2
  exact hK
 case hbody =>
  intro l pre k O X W hz hm hT hb hrr hnx
  obtain ⟨hpre, hk⟩ := hnx
  have hlen : pre.length = k := by rw [hpre, List.length_range]
  clear hT0 hrr hpre
  have HT := Lib.hid hT
  have HM := Lib.hid hm
  obtain ⟨xr, xf, xo, c0, c1, c2⟩ := hT
  rw [hlen] at c1 c2
  have p0 := cell_of_row _ _ 0 _ _ _ c1
  have g0 := frozen_of_row _ _ 0 _ _ c1
  obtain ⟨g1, g2⟩ := fr2 c2
  cases k with
  | zero =>
   simp only [if_true, decide_true] at c1 c2 p0
   obtain ⟨p1, p2⟩ := cr2 c2
   simp only [hnq] at p0 p1 p2
   obtain ⟨v, hv⟩ : ∃ v, fF 0 = v := ⟨_, rfl⟩
   rw [hv]
   gi_wp2
   exact HT.out.first HM.out hlen (by omega) (by omega) (by omega) hv
  | succ k =>
   simp only [Nat.succ_ne_zero, if_false, decide_false] at c1 c2 p0
   obtain ⟨p1, p2⟩ := cr2 c2
   simp only [hnq] at p0 p1 p2
   gi_wp2
   all_goals exact HT.out.next HM.out hlen (by omega) (by omega) (by omega) (by omega)
 case hdone =>
  rintro D xs X W hD hDl hDX hxs hT hb hrr hDD
  unfold Rng16 at hxs
  subst hxs
  obtain ⟨xr, xf, xo, c0, c1, c2⟩ := hT
  simp only [List.length_range, Nat.reduceEqDiff, if_false] at c1 c2
  obtain ⟨p1, p2⟩ := cr2 c2
  obtain ⟨r1, r2⟩ := cr2 c0
  obtain ⟨g1, g2⟩ := fr2 c0
  simp only [hnq] at p1 p2 r1 r2
  rw [HLO.out] at c2 p1
  rw [HHI.out] at c2 p2
  have hwl : w.heap.size ≤ w.heap.size + 1 + 1 := by omega
  have hdn : w.heap.size + 1 + 1 ≠ D := fun e => hDX (by rw [← e]; exact xr)
  have hrow := heap_setCell_same _ _ 1 _ _ (.int .i64 HI) (heap_setCell_same W _ 0 _ _ (.int .i64 LO) c0)
  have HRW := Lib.hid hrow
  have HBE := Hd ((hb.setCell (p := ⟨w.heap.size + 1 + 1, 0, none⟩) hwl (.int .i64 LO)).setCell (p := ⟨w.heap.size + 1 + 1, 1, none⟩) hwl (.int .i64 HI))
  have HDD := Hd (((heap_setCell_other _ ⟨w.heap.size + 1 + 1, 1, none⟩ D (.int .i64 HI) (Ne.symm hdn)).trans (heap_setCell_other W ⟨w.heap.size + 1 + 1, 0, none⟩ D (.int .i64 LO) (Ne.symm hdn))).trans hDD)
  have hDw : w.heap.size ≤ D := Nat.le_trans hbw.size hD
  clear hrow hDD hb c0 c1 c2
  go_wp2
  generalize World.setCell (World.setCell W _ _) _ _ = V6 at *
  refine leave_marked (v := .agg #[.int .i64 LO, .int .i64 HI]) HDD.out (fun o' => ⟨?_, rfl, below_put HBE.out hDw o'⟩)
  have hr : (V6.putObj D o').heap[w.heap.size + 1 + 1]? = _ := (World.putObj_heap_other hdn).trans HRW.out
  obtain ⟨q0, q1⟩ := cr2 hr
  simp [results, Tryz.results83, go_sem, q0, q1]
end Go.Proofs.YtgmpelhphnmknaaGreat
namespace Go.Proofs.YtgmpelhphnmknaaGreat
structure CurveOk (K : Nat) (fr lo hi : Nat → Int) (el eh : Int → Int) : Prop where
 pos : 1 ≤ K
 zero : fr 0 = 0
 up : ∀ i, i + 1 < K → fr i < fr (i + 1)
 deep : ∀ i, i < K → fr i ≤ 1000000
 is : ∀ i, i < K → ∀ y, fr i ≤ y → (i + 1 < K → y < fr (i + 1)) → y ≤ 1000000 → el y = lo i ∧ eh y = hi i
section
variable {K : Nat} {fr lo hi : Nat → Int} {el eh : Int → Int}
theorem CurveOk.rises (h : CurveOk K fr lo hi el eh) {i : Nat} : ∀ {d : Nat}, i + d < K → fr i ≤ fr (i + d)
 | 0, _ => by simp
 | d + 1, hd => by
  have h1 := h.rises (i := i) (d := d) (by omega)
  have h2 := h.up (i + d) (by omega)
  have e : i + (d + 1) = i + d + 1 := by omega
  rw [e]
  omega
theorem CurveOk.find (h : CurveOk K fr lo hi el eh) {y : Int} (h0 : 0 ≤ y) : ∃ k, k < K ∧ fr k ≤ y ∧ (k + 1 < K → y < fr (k + 1)) := by
 have key : ∀ d, d < K → fr (K - 1 - d) ≤ y ∨ ∃ k, k < K - 1 - d ∧ fr k ≤ y ∧ y < fr (k + 1) := by
  intro d hd
  rcases Int.lt_or_le y (fr (K - 1 - d)) with h1 | h1
  ·right
   have : ∀ j, j ≤ K - 1 - d → y < fr j → ∃ k, k < j ∧ fr k ≤ y ∧ y < fr (k + 1) := by
    intro j
    induction j with
    | zero =>
     intro _ h2
     rw [h.zero] at h2
     omega
    | succ j ih =>
     intro hj h2
     rcases Int.lt_or_le y (fr j) with h3 | h3
     ·obtain ⟨k, hk, h4⟩ := ih (by omega) h3
      exact ⟨k, by omega, h4⟩
     ·exact ⟨j, by omega, h3, h2⟩
   exact this _ (Nat.le_refl _) h1
  ·exact .inl h1
 rcases key 0 (by have := h.pos; omega) with h1 | ⟨k, hk, h2, h3⟩
 ·exact ⟨K - 1 - 0, by have := h.pos; omega, h1, fun h2 => by omega⟩
 ·exact ⟨k, by omega, h2, fun _ => h3⟩
def agrB (lo hi : Nat → Int) (L H : Int) (i : Nat) : Bool := decide (lo i ≤ H ∧ L ≤ hi i)
def opI (K : Nat) (lo hi : Nat → Int) (L H : Int) : Nat := fstN K (agrB lo hi L H)
def opJ (K : Nat) (lo hi : Nat → Int) (L H : Int) : Nat := opI K lo hi L H + fstN (K - opI K lo hi L H) (fun d => !agrB lo hi L H (opI K lo hi L H + d))
def opTo (K : Nat) (fr lo hi : Nat → Int) (L H : Int) : Int := if opJ K lo hi L H < K then fr (opJ K lo hi L H) - 1 else 1000000
theorem op_has (h : CurveOk K fr lo hi el eh) (ha : ∀ x y, 0 ≤ x → x ≤ y → y ≤ 1000000 → el y ≤ el x ∧ eh y ≤ eh x) {L H y : Int} (h0 : 0 ≤ y) (h1 : y ≤ 1000000) (hL : el y ≤ H) (hH : L ≤ eh y) :
  opI K lo hi L H < K ∧ fr (opI K lo hi L H) ≤ y ∧ y ≤ opTo K fr lo hi L H := by
 obtain ⟨k, hk, hk1, hk2⟩ := h.find h0
 obtain ⟨e1, e2⟩ := h.is k hk y hk1 hk2 h1
 have hkA : agrB lo hi L H k = true := by
  unfold agrB
  rw [decide_eq_true_eq]
  omega
 have hik : opI K lo hi L H ≤ k := by
  rcases Nat.lt_or_ge k (opI K lo hi L H) with h2 | h2
  ·have := fst_not h2
   rw [hkA] at this
   cases this
  ·exact h2
 have hz : ∀ i, i < K → 0 ≤ fr i := fun i hi => by
  have := h.rises (i := 0) (d := i) (by omega)
  rw [h.zero, Nat.zero_add] at this
  exact this
 have hat : ∀ i, i < K → el (fr i) = lo i ∧ eh (fr i) = hi i := fun i hi => h.is i hi (fr i) (Int.le_refl _) (fun h2 => h.up i h2) (h.deep i hi)
 have hiA : agrB lo hi L H (opI K lo hi L H) = true := fst_is (show opI K lo hi L H < K by omega)
 have hfi := h.rises (i := opI K lo hi L H) (d := k - opI K lo hi L H) (by omega)
 rw [show opI K lo hi L H + (k - opI K lo hi L H) = k by omega] at hfi
 refine ⟨by omega, by omega, ?_⟩
 have hall : ∀ q, opI K lo hi L H ≤ q → q ≤ k → agrB lo hi L H q = true := fun q hq1 hq2 => by
  have f1 := h.rises (i := opI K lo hi L H) (d := q - opI K lo hi L H) (by omega)
  rw [show opI K lo hi L H + (q - opI K lo hi L H) = q by omega] at f1
  have f2 := h.rises (i := q) (d := k - q) (by omega)
  rw [show q + (k - q) = k by omega] at f2
  have g1 := ha (fr (opI K lo hi L H)) (fr q) (hz _ (by omega)) f1 (h.deep q (by omega))
  have g2 := ha (fr q) (fr k) (hz _ (by omega)) f2 (h.deep k hk)
  have a1 := hat (opI K lo hi L H) (by omega)
  have a2 := hat q (by omega)
  have a3 := hat k hk
  unfold agrB at *
  rw [decide_eq_true_eq] at *
  omega
 have hJ : k < opJ K lo hi L H := by
  rcases Nat.lt_or_ge k (opJ K lo hi L H) with h2 | h2
  ·exact h2
  ·exfalso
   have hlt : fstN (K - opI K lo hi L H) (fun d => !agrB lo hi L H (opI K lo hi L H + d)) < K - opI K lo hi L H := by
    unfold opJ at h2
    omega
   have h3 := fst_is hlt
   have h4 := hall (opJ K lo hi L H) (by unfold opJ; omega) h2
   unfold opJ at h4
   rw [h4] at h3
   cases h3
 unfold opTo
 split
 ·rename_i h2
  have h3 := hk2 (by omega)
  have h4 := h.rises (i := k + 1) (d := opJ K lo hi L H - (k + 1)) (by omega)
  rw [show k + 1 + (opJ K lo hi L H - (k + 1)) = opJ K lo hi L H by omega] at h4
  omega
 ·exact h1
theorem op_ok (h : CurveOk K fr lo hi el eh) {L H : Int} (hi' : opI K lo hi L H < K) : 0 ≤ fr (opI K lo hi L H) ∧ fr (opI K lo hi L H) ≤ opTo K fr lo hi L H ∧ opTo K fr lo hi L H ≤ 1000000 := by
 have h1 := h.rises (i := 0) (d := opI K lo hi L H) (by omega)
 rw [h.zero, Nat.zero_add] at h1
 have hiA : agrB lo hi L H (opI K lo hi L H) = true := fst_is hi'
 have hJ : opI K lo hi L H < opJ K lo hi L H := by
  unfold opJ
  rcases Nat.eq_zero_or_pos (fstN (K - opI K lo hi L H) (fun d => !agrB lo hi L H (opI K lo hi L H + d))) with h2 | h2
  ·have h3 := fst_is (n := K - opI K lo hi L H) (p := fun d => !agrB lo hi L H (opI K lo hi L H + d)) (by omega)
   rw [h2, Nat.add_zero, hiA] at h3
   cases h3
  ·omega
 refine ⟨h1, ?_, ?_⟩
 ·unfold opTo
  split
  ·rename_i h2
   have h3 := h.up (opI K lo hi L H) (by omega)
   have h4 := h.rises (i := opI K lo hi L H + 1) (d := opJ K lo hi L H - (opI K lo hi L H + 1)) (by omega)
   rw [show opI K lo hi L H + 1 + (opJ K lo hi L H - (opI K lo hi L H + 1)) = opJ K lo hi L H by omega] at h4
   omega
  ·exact h.deep _ hi'
 ·unfold opTo
  split
  ·rename_i h2
   have := h.deep _ h2
   omega
  ·omega
end
end Go.Proofs.YtgmpelhphnmknaaGreat
namespace Go.Proofs.YtgmpelhphnmknaaGreat
open Go Go.RowKit Go.Maps
def memR (v : Value) : Option (DataW Unit × List MemPlace) := some (.lit (.int .i64 0), [])
def MapAt (W : World) (mb n : Nat) (D : DataW Unit) : Prop := W.ownsMap Tryz.prog 3 memR mb n D
theorem MapAt.start {W : World} {mb : Nat} (h : W.heap[mb]? = some (.map #[] 0)) : MapAt W mb 0 (.map []) := ⟨#[], 0, h, ⟨by simp, MapKept.stamped_empty 0, by simp⟩, Nat.le_refl _, rfl⟩
theorem MapAt.step {W W' : World} {mb n : Nat} {D : DataW Unit} (h : MapAt W mb n D) (hb : Below W.heap.size W W') : MapAt W' mb n D := by
 have hl := World.ownsMap.lt h
 obtain ⟨es, clock, h1, h2⟩ := h
 exact ⟨es, clock, (hb.block _ hl).trans h1, h2⟩
theorem map_law : Keyed Tryz.prog 3 := int_keyed Tryz.underlying3
theorem key_of {x : Int} (h0 : -1 ≤ x) (h1 : x ≤ 10000000) : keyOf Tryz.prog 3 (.int .i64 x) = some (.int .i64 x) := keyOf_int_mk Tryz.underlying3 (WalkArith.wf_i64 (by omega))
theorem zero_span (w : World) : (zeroValue 28).run Tryz.prog w = .ok (.agg #[.int .i64 0, .int .i64 0]) w := by kernel_rfl
theorem look_miss {W : World} {mb n : Nat} {D : DataW Unit} {x : Int} (h : MapAt W mb n D) (h0 : -1 ≤ x) (h1 : x ≤ 10000000) (hno : Maps.has D (.int .i64 x) = false) :
  (Instr.lookup 169 (.map (some mb)) (.int .i64 x) true).run Tryz.prog W = .ok (.tuple #[.agg #[.int .i64 0, .int .i64 0], .bool false]) W := by
 obtain ⟨es, clock, hb, F, _, rfl⟩ := h
 rcases Maps.fit_look true map_law Tryz.underlying169 (zero_span W) hb F (key_of h0 h1) with ⟨hrun, _, hat⟩ | ⟨e0, y, _, _, hrun, hRv, hat, _⟩
 ·exact hrun
 ·rw [Maps.has_true_of_atKey hat] at hno
  cases hno
def Fresh (D : DataW Unit) (x : Int) : Prop := IsMap D ∧ ∀ y, x ≤ y → y ≤ 10000000 → Maps.has D (.int .i64 y) = false
theorem Fresh.put {D : DataW Unit} {x y : Int} (h : Fresh D x) (hxy : x < y) : Fresh (D.put (.int .i64 x) (.lit (.int .i64 0))) y := by
 obtain ⟨⟨es, rfl⟩, h2⟩ := h
 refine ⟨?_, fun z hz hz2 => ?_⟩
 ·rw [DataW.put_eq]
  exact ⟨_, rfl⟩
 ·rw [has_put_other (by intro e; injection e with _ e; omega)]
  exact h2 z (by omega) hz2
theorem grown_of {W W' : World} {mb : Nat} (hb : Below W.heap.size W W') : W.grownBy W' (some mb) := ⟨hb.os, hb.tape, hb.output, hb.size, fun k hk _ => hb.block k hk⟩
theorem grown_at {W W' : World} {mb b : Nat} {o : Obj} (h : W.grownBy W' (some mb)) (hne : b ≠ mb) (hx : W.heap[b]? = some o) : W'.heap[b]? = some o := (h.block b (blkL hx) (by intro e; injection e with e; exact hne e)).trans hx
theorem grown_bel {W W' : World} {mb B : Nat} (h : W.grownBy W' (some mb)) (hB : B ≤ mb) (hW : B ≤ W.heap.size) : Below B W W' := ⟨h.os, h.tape, h.output, h.size, fun k hk => h.block k (by omega) (by intro e; injection e with e; omega)⟩
theorem map_cells {W : World} {mb gb n : Nat} {D : DataW Unit} {cs : Array Value} {t : TypeId} (h : MapAt W mb n D) (hg : W.heap[gb]? = some (.cells cs t)) : gb ≠ mb := by
 rintro rfl
 obtain ⟨es, clock, hb, _⟩ := h
 rw [hg] at hb
 cases hb
theorem expected_any (s : SK) (ta : Option Addr) (tn tc gb mb n : Nat) (t : Nat → RW) (D : DataW Unit) (bin : Nat) (x : Int) (B : Nat) (w : World) (hBw : B ≤ w.heap.size) (hBm : B ≤ mb) (hS : s.mem B w) (hO : s.ok) (hT : RWs B w ta tn t) (htn : tn ≤ 40) (ht : TabOk tn t)
  (hG : GrdAt s ta tn tc gb mb w) (hM : MapAt w mb n D) (hn : n < maxLen) (hbin : bin < s.bn) (hx : 0 ≤ x ∧ x ≤ 1000000) (hF : Fresh D x) :
  Calls Tryz.prog 39 #[.pointer (some ⟨gb, 0, none⟩), .int .i64 (bin : Int), .int .i64 x] w fun e w' =>
   e = .returned (spV (exLo tn t (s.ln bin) (s.l bin) x) (exHi tn t (s.ln bin) (s.l bin) x)) ∧ MapAt w' mb (n + 1) (D.put (.int .i64 x) (.lit (.int .i64 0))) ∧ w.grownBy w' (some mb) := by
 have HTH := Hd (fun (W : World) (hb : Below B w W) => threshold_any ta tn tc t x B W (Nat.le_trans hBw hb.size) htn (hT.below hb) (fun i hi => ⟨(ht.key i hi).2, (ht.key i hi).1⟩))
 have HAB := Hd (fun (W : World) (hb : Below B w W) y z => above_any (s.la bin) (s.ln bin) (s.lc bin) (s.l bin) y z B W (Nat.le_trans hBw hb.size) ⟨(hO.rows bin hbin).2.1.pos, (hO.rows bin hbin).1⟩ ((hS.rows bin hbin).below hb))
 obtain ⟨b, off, hba, hbB, hc⟩ := hS.get hbin
 have HC := Lib.hid hc
 have hb0 := al_below w (.cells #[.int .i64 0, .int .i64 0] 28)
 have HMN := Hd (map_cells hM hG)
 have HG := Hd (show GrdAt s ta tn tc gb mb _ from hG.step hb0)
 have HM := Hd (hM.step hb0)
 have hlk := look_miss (hM.step hb0) (by omega) (by omega) (hF.2 x (Int.le_refl _) (by omega))
 have HLM := Hd (World.ownsMap.lt hM)
 have HB := Hd (hb0)
 have HR := Hd (heap_alloc_new w (.cells #[.int .i64 0, .int .i64 0] 28))
 have hbn := hO.bins.2
 have hbb : (bin : Int) < (s.bn : Int) := by omega
 clear hS hO hT ht hG hM hF hc hb0
 unfold exLo exHi spV
 unfold spV at HTH HAB
 generalize thrLo tn t x = tlo at *
 generalize thrHi tn t x = thi at *
 obtain ⟨P, ba, bn, bc, be0, be1, al0, al1, la, ln, lc, l⟩ := s
 dsimp only at *
 generalize ln bin = lnb at *
 generalize la bin = lab at *
 generalize lc bin = lcb at *
 generalize l bin = lb at *
 subst hba
 unfold GrdAt at HG
 dsimp only at HG
 have HABx := Hd (fun (W : World) (hb : Below B w W) => HAB.out W hb tlo thi)
 clear HAB
 generalize abvLo lnb lb thi = LO at *
 generalize abvHi lnb lb tlo = HI at *
 go_enter Tryz.func39, Tryz.ntmps39
 go_upto_region 1 with (fail)
 generalize World.alloc w _ = V at *
 (obtain ⟨g0, g1, g2, g3, g4, g5, g6, g7⟩ := cr8 HG.out; simp only [hnq] at g0 g1 g2 g3 g4 g5 g6 g7)
 go_upto_region 3 with (fail)
 have hbx := al_below V (.cells #[.int .i64 0, .int .i64 0] 28)
 have HT1 := Hd (heap_alloc_new V (.cells #[.int .i64 0, .int .i64 0] 28))
 have HG1 := Hd (keep_at HG.out hbx)
 have HM1 := Hd (MapAt.step HM.out hbx)
 have HR1 := Hd (keep_at HR.out hbx)
 have HB1 := Hd (HB.out.trans (hbx.mono HB.out.size))
 have hgt := (blkL HG.out)
 have hrt := (blkL HR.out)
 have hmt := HB.out.size
 have hml := HLM.out
 have hmg := HMN.out
 clear g0 g1 g2 g3 g4 g5 g6 g7
 clear hlk HG HM HR HB hbx
 generalize World.alloc V _ = V1 at *
 generalize V.heap.size = tb at *
 have HC1 := Hd (((bcell HB1.out).1 b (off + bin) (by omega)).trans HC.out)
 have HBW := Hd (show Below B w V1 from HB1.out.mono hBw)
 have HTH1 := Hd (fun (W : World) (hb : Below V1.heap.size V1 W) => HTH.out W (HBW.out.trans (hb.mono (by have := HB1.out.size; omega))))
 have HAB1 := Hd (fun (W : World) (hb : Below V1.heap.size V1 W) => HABx.out W (HBW.out.trans (hb.mono (by have := HB1.out.size; omega))))
 clear HTH HABx HC
 (obtain ⟨g0, g1, g2, g3, g4, g5, g6, g7⟩ := cr8 HG1.out; simp only [hnq] at g0 g1 g2 g3 g4 g5 g6 g7)
 have c1 := HC1.out
 have lt1 : gb < V1.heap.size := (blkL HG1.out)
 have lt2 : b < V1.heap.size := by have := HB1.out.size; omega
 (refine wp_region_calm_tail (V1.heap.size) 15 (by kernel_rfl) (by kernel_rfl) ?_; simp only [List.take_succ_cons, List.take_zero, List.drop_succ_cons, List.drop_zero]; (repeat (first | go_big_quiet_step ((first | (go_at_call 87; exact Calls.calm_of (Nat.le_refl _) (HTH1.out _ (Calm.below _))) | (go_at_call 86; exact Calls.calm_of (Nat.le_refl _) (HAB1.out _ (Calm.below _))))) | quiet_step ((first | (go_at_call 87; exact Calls.calm_of (Nat.le_refl _) (HTH1.out _ (Calm.below _))) | (go_at_call 86; exact Calls.calm_of (Nat.le_refl _) (HAB1.out _ (Calm.below _))))))); refine wpQuiet_nil (wqn ?_); intro xq)
 have hq := xq.below
 have HG2 := Hd (keep_at HG1.out hq)
 have HM2 := Hd (MapAt.step HM1.out hq)
 have HR2 := Hd (keep_at HR1.out hq)
 have HT2 := Hd (keep_at HT1.out hq)
 have HB2 := Hd (HB1.out.trans (hq.mono HB1.out.size))
 clear g0 g1 g2 g3 g4 g5 g6 g7
 clear hq HG1 HM1 HR1 HT1 c1 HC1 HTH1 HAB1 HBW HB1
 generalize Calm.val xq = V2 at *
 obtain ⟨p0, p1⟩ := cr2 HT2.out
 obtain ⟨f0, f1⟩ := fr2 HT2.out
 simp only [hnq] at p0 p1
 go_upto_region 4 with (fail)
 have hrow := heap_setCell_same _ _ 1 _ _ (.int .i64 HI) (heap_setCell_same V2 _ 0 _ _ (.int .i64 LO) HT2.out)
 have hgb := (blkL HG2.out)
 have htb := (blkL HT2.out)
 have HT3 := Hd (show ((V2.setCell ⟨tb, 0, none⟩ (.int .i64 LO)).setCell ⟨tb, 1, none⟩ (.int .i64 HI)).heap[tb]? = some (.cells #[.int .i64 LO, .int .i64 HI] 28) from hrow)
 have HG3 := Hd (((heap_setCell_other _ ⟨tb, 1, none⟩ gb (.int .i64 HI) (by dsimp only; omega)).trans (heap_setCell_other V2 ⟨tb, 0, none⟩ gb (.int .i64 LO) (by dsimp only; omega))).trans HG2.out)
 have HR3 := Hd (((heap_setCell_other _ ⟨tb, 1, none⟩ w.heap.size (.int .i64 HI) (by dsimp only; omega)).trans (heap_setCell_other V2 ⟨tb, 0, none⟩ w.heap.size (.int .i64 LO) (by dsimp only; omega))).trans HR2.out)
 have HM3 := Hd (World.ownsMap.setCell (World.ownsMap.setCell HM2.out (a := ⟨tb, 0, none⟩) (by dsimp only; omega) (.int .i64 LO)) (a := ⟨tb, 1, none⟩) (by dsimp only; omega) (.int .i64 HI))
 have HB3 := Hd ((HB2.out.setCell (p := ⟨tb, 0, none⟩) (by dsimp only; omega) (.int .i64 LO)).setCell (p := ⟨tb, 1, none⟩) (by dsimp only; omega) (.int .i64 HI))
 clear hrow HT2 HG2 HR2 HM2 HB2 p0 p1 f0 f1 hgb htb
 generalize World.setCell (World.setCell V2 _ _) _ _ = V3 at *
 (obtain ⟨g0, g1, g2, g3, g4, g5, g6, g7⟩ := cr8 HG3.out; simp only [hnq] at g0 g1 g2 g3 g4 g5 g6 g7)
 obtain ⟨p0, p1⟩ := cr2 HT3.out
 simp only [hnq] at p0 p1
 have lt1 : gb < V3.heap.size := (blkL HG3.out)
 have lt2 : tb < V3.heap.size := (blkL HT3.out)
 have hk := key_of (x := x) (by omega) (by omega)
 have HK := Lib.hid hk
 clear hk
 (refine wp_region_calm_tail (V3.heap.size) 6 (by kernel_rfl) (by kernel_rfl) ?_; simp only [List.take_succ_cons, List.take_zero, List.drop_succ_cons, List.drop_zero]; (repeat (first | go_big_quiet_step (fail) | quiet_step (fail))); refine wpQuiet_nil (wqn ?_); intro xq)
 have hq := xq.below
 have HM4 := Hd (MapAt.step HM3.out hq)
 have HR4 := Hd (keep_at HR3.out hq)
 have HT4 := Hd (keep_at HT3.out hq)
 have HB4 := Hd (HB3.out.trans (hq.mono HB3.out.size))
 clear g0 g1 g2 g3 g4 g5 g6 g7
 clear hq p0 p1 lt1 lt2 HM3 HR3 HT3 HB3 HG3
 generalize Calm.val xq = V4 at *
 go_upto_region 5 with (at_mapUpdate; refine wpList_mapUpdate_own _ rfl _ _ _ 169 rfl 3 28 map_law Tryz.underlying169 memR mb n D rfl HM4.out hn _ _ (.int .i64 x) rfl rfl HK.out (.lit (.int .i64 0)) [] rfl ?_; intro V5 hown hgrow)
 have HM5 := Lib.hid hown
 have HR5 := Hd (grown_at hgrow (by omega) HR4.out)
 have HT5 := Hd (grown_at hgrow (by omega) HT4.out)
 have HB5 := Hd ((grown_of (mb := mb) (HB4.out)).trans hgrow)
 clear hown hgrow HM4 HR4 HT4 HB4
 obtain ⟨p0, p1⟩ := cr2 HT5.out
 obtain ⟨r0, r1⟩ := cr2 HR5.out
 obtain ⟨f0, f1⟩ := fr2 HR5.out
 simp only [hnq] at p0 p1 r0 r1
 go_wp2
 have hrow := heap_setCell_same _ _ 1 _ _ (.int .i64 HI) (heap_setCell_same V5 _ 0 _ _ (.int .i64 LO) HR5.out)
 have HM6 := Hd (World.ownsMap.setCell (World.ownsMap.setCell HM5.out (a := ⟨w.heap.size, 0, none⟩) (by dsimp only; omega) (.int .i64 LO)) (a := ⟨w.heap.size, 1, none⟩) (by dsimp only; omega) (.int .i64 HI))
 have HB6 := Hd (show w.grownBy ((V5.setCell ⟨w.heap.size, 0, none⟩ (.int .i64 LO)).setCell ⟨w.heap.size, 1, none⟩ (.int .i64 HI)) (some mb) from
  ⟨HB5.out.os, HB5.out.tape, HB5.out.output, by have := HB5.out.size; simp [World.setCell]; omega, fun k hk hne => ((heap_setCell_other _ ⟨w.heap.size, 1, none⟩ k (.int .i64 HI) (by dsimp only; omega)).trans (heap_setCell_other V5 ⟨w.heap.size, 0, none⟩ k (.int .i64 LO) (by dsimp only; omega))).trans (HB5.out.block k hk hne)⟩)
 generalize World.setCell (World.setCell V5 _ _) _ _ = V6 at *
 obtain ⟨q0, q1⟩ := cr2 hrow
 exact bodyPost_ret (v := .agg #[.int .i64 LO, .int .i64 HI]) (by simp [results, Tryz.results39, go_sem, q0, q1]) rfl ⟨rfl, HM6.out, HB6.out⟩
end Go.Proofs.YtgmpelhphnmknaaGreat
namespace Go.Proofs.YtgmpelhphnmknaaGreat
open Go Go.RowKit Go.Shelf
structure SPL where
 slots : Int
 w : WX
structure SPL.ok (s : SPL) : Prop where
 slots : 1 ≤ s.slots ∧ s.slots ≤ 1000000
 w : s.w.ok
def Spls (B : Nat) (w : World) (a : Option Addr) (n : Nat) (t : Nat → SPL) : Prop :=
 n = 0 ∨ ∃ b off, a = some ⟨b, off, none⟩ ∧ b < B ∧ ∀ i, i < n → w.cell? ⟨b, off + i * 5, none⟩ = some (.int .i64 (t i).slots) ∧ w.cell? ⟨b, off + i * 5 + 1, none⟩ = some (.int .i64 (t i).w.p0) ∧ w.cell? ⟨b, off + i * 5 + 2, none⟩ = some (.int .i64 (t i).w.p1) ∧ w.cell? ⟨b, off + i * 5 + 3, none⟩ = some (.int .i64 (t i).w.x0) ∧ w.cell? ⟨b, off + i * 5 + 4, none⟩ = some (.int .i64 (t i).w.x1)
theorem Spls.below {B : Nat} {w w' : World} {a : Option Addr} {n : Nat} {t : Nat → SPL} (h : Spls B w a n t) (hb : Below B w w') : Spls B w' a n t := by
 rcases h with h | ⟨b, off, ha, hB, hc⟩
 ·exact .inl h
 ·refine .inr ⟨b, off, ha, hB, fun i hi => ?_⟩
  obtain ⟨h0, h1, h2, h3, h4⟩ := hc i hi
  have hk := (bcell hb).1
  exact ⟨(hk _ _ hB).trans h0, (hk _ _ hB).trans h1, (hk _ _ hB).trans h2, (hk _ _ hB).trans h3, (hk _ _ hB).trans h4⟩
theorem Spls.get {B : Nat} {w : World} {a : Option Addr} {n : Nat} {t : Nat → SPL} (h : Spls B w a n t) {i : Nat} (hi : i < n) : ∃ b off, a = some ⟨b, off, none⟩ ∧ b < B ∧ w.cell? ⟨b, off + i * 5, none⟩ = some (.int .i64 (t i).slots) ∧ w.cell? ⟨b, off + i * 5 + 1, none⟩ = some (.int .i64 (t i).w.p0) ∧ w.cell? ⟨b, off + i * 5 + 2, none⟩ = some (.int .i64 (t i).w.p1) ∧ w.cell? ⟨b, off + i * 5 + 3, none⟩ = some (.int .i64 (t i).w.x0) ∧ w.cell? ⟨b, off + i * 5 + 4, none⟩ = some (.int .i64 (t i).w.x1) := by
 rcases h with h | ⟨b, off, ha, hB, hc⟩
 ·omega
 ·exact ⟨b, off, ha, hB, hc i hi⟩
theorem weathered_any (x : WX) (hx : x.ok) (w : World) : Calls Tryz.prog 82 #[.agg x.cells] w fun e w' => e = .returned (.bool true) ∧ Below w.heap.size w w' := by
 obtain ⟨p0, p1, x0, x1⟩ := x
 have HS1 := Hd (fun W => spanned_any p0 p1 (-1000) 1000 W)
 have HS2 := Hd (fun W => spanned_any x0 x1 (-1000) 1000 W)
 rw [fspanB_true hx.p] at HS1
 rw [fspanB_true hx.x] at HS2
 have hb0 := al_below w (.cells #[.int .i64 p0, .int .i64 p1, .int .i64 x0, .int .i64 x1] 46)
 have HB := Lib.hid hb0
 have HX := Hd (heap_alloc_new w (.cells #[.int .i64 p0, .int .i64 p1, .int .i64 x0, .int .i64 x1] 46))
 clear hx hb0
 unfold WX.cells
 go_enter Tryz.func82, Tryz.ntmps82
 go_upto_region 1 with (fail)
 generalize World.alloc w _ = V at *
 obtain ⟨e0, e1, e2, e3⟩ := cr4 HX.out
 simp only [hnq] at e0 e1 e2 e3
 go_wp2_with (first
  | (go_at_call 40; with_reducible refine (HS1.out _).mono ?_; rintro e W1 ⟨rfl, hb1⟩; have HB1 := Hd (HB.out.trans (hb1.mono HB.out.size)); have HX1 := Hd (keep_at HX.out hb1); clear hb1 e0 e1 e2 e3; have e2 := cell_of_row _ _ 2 _ _ _ HX1.out; have e3 := cell_of_row _ _ 3 _ _ _ HX1.out; simp only [hnq] at e2 e3)
  | (go_at_call 40; with_reducible refine (HS2.out _).mono ?_; rintro e W2 ⟨rfl, hb2⟩; have HB2 := Hd (HB1.out.trans (hb2.mono HB1.out.size)); clear hb2 e2 e3))
 go_ret
 exact ⟨rfl, HB2.out⟩
theorem spelled_any (a : Option Addr) (n c : Nat) (t : Nat → SPL) (B : Nat) (w : World) (hBw : B ≤ w.heap.size) (hT : Spls B w a n t) (hn : 1 ≤ n ∧ n ≤ 50) (ht : ∀ i, i < n → (t i).ok) :
  Calls Tryz.prog 37 #[.slice a n c] w fun e w' => e = .returned (.bool true) ∧ Below w.heap.size w w' := by
 have HT := Lib.hid hT
 have HO := Lib.hid ht
 have HB0 := Hd (Below.refl w.heap.size w)
 have HW := Hd (fun i (hi : i < n) W => weathered_any (t i).w (ht i hi).w W)
 have hn1 : withinB (n : Int) 1 50 = true := withinB_true (by omega) (by omega)
 have HN := Lib.hid hn1
 clear hT ht hn1
 unfold WX.cells at HW
 go_enter Tryz.func37, Tryz.ntmps37
 go_wp2
 go_loopw [7] (fun x wr => ∃ i : Nat, i ≤ n ∧ x = .int .i64 (i : Int) ∧ Hid (Below w.heap.size w wr)) (fun x _ => n - (intOf x).toNat)
 case atStart => exact ⟨0, Nat.zero_le _, rfl, HB0⟩
 case round =>
  clear HB0
  obtain ⟨i, hi, rfl, HB⟩ := hrel
  by_cases hlt : i < n
  ·have hlt' : (i : Int) < (n : Int) := by omega
   obtain ⟨b, off, rfl, hbB, c0, c1, c2, c3, c4⟩ := (HT.out.below (HB.out.mono hBw)).get hlt
   have hok := (HO.out i hlt).slots
   have HWi := Hd (HW.out i hlt)
   generalize t i = ti at *
   obtain ⟨sl, p0, p1, x0, x1⟩ := ti
   dsimp only at *
   have hw1 := withinB_true hok.1 hok.2
   have HW1 := Lib.hid hw1
   clear hw1 hok HW
   go_upto_region 4 with (fail)
   have HB1 := Hd (HB.out.trans ((al_below wr (.cells #[.int .i64 sl, .int .i64 p0, .int .i64 p1, .int .i64 x0, .int .i64 x1] 48)).mono HB.out.size))
   have hx := heap_alloc_new wr (.cells #[.int .i64 sl, .int .i64 p0, .int .i64 p1, .int .i64 x0, .int .i64 x1] 48)
   generalize World.alloc wr _ = V at *
   obtain ⟨e0, e1, e2, e3, e4⟩ := cr5 hx
   simp only [hnq] at e0 e1 e2 e3 e4
   clear hx c0 c1 c2 c3 c4
   go_wp2_with (first
    | (go_at_call 81; refine (fwithin_any _ _ _ _).mono ?_; rintro e w' ⟨rfl, rfl⟩; rw [HW1.out])
    | (go_at_call 82; refine (HWi.out _).mono ?_; rintro e W2 ⟨rfl, hb2⟩; have HB2 := Hd (HB1.out.trans (hb2.mono HB1.out.size)); clear hb2 e0 e1 e2 e3 e4))
   go_roundw
   case rel => exact ⟨i + 1, by omega, by go_num, HB2⟩
   case measure => simp [intOf]; omega
  ·obtain rfl : i = n := by omega
   have hlt' : ¬ (i : Int) < (i : Int) := by omega
   go_wp2_with (go_at_call 81; refine (fwithin_any _ _ _ _).mono ?_; rintro e w' ⟨rfl, rfl⟩; rw [HN.out])
   go_ret
   exact ⟨rfl, HB.out⟩
end Go.Proofs.YtgmpelhphnmknaaGreat
namespace Go.Proofs.YtgmpelhphnmknaaGreat
open Go Go.RowKit Go.Shelf
def lstF (P r f : Int) : Int := min P (r * f / 1000)
def mstF (P r f : Int) : Int := min P ((r * f + 999) / 1000)
theorem rf_bound {r f : Int} (hr : 0 ≤ r ∧ r ≤ 1000000) (hf : 0 ≤ f ∧ f ≤ 201000) : 0 ≤ r * f ∧ r * f ≤ 201000000000 := by
 refine ⟨Int.mul_nonneg hr.1 hf.1, ?_⟩
 have := Int.mul_le_mul hr.2 hf.2 hf.1 (by decide)
 omega
theorem lstF_bound {P r f : Int} (hP : 2 ≤ P ∧ P ≤ 1000000) (hr : 0 ≤ r ∧ r ≤ 1000000) (hf : 0 ≤ f ∧ f ≤ 201000) : 0 ≤ lstF P r f ∧ lstF P r f ≤ 1000000 := by
 have h := rf_bound hr hf
 unfold lstF
 have := Int.ediv_nonneg h.1 (show (0 : Int) ≤ 1000 by decide)
 omega
theorem mstF_bound {P r f : Int} (hP : 2 ≤ P ∧ P ≤ 1000000) (hr : 0 ≤ r ∧ r ≤ 1000000) (hf : 0 ≤ f ∧ f ≤ 201000) : 0 ≤ mstF P r f ∧ mstF P r f ≤ 1000000 := by
 have h := rf_bound hr hf
 unfold mstF
 have := Int.ediv_nonneg (show 0 ≤ r * f + 999 by omega) (show (0 : Int) ≤ 1000 by decide)
 omega
theorem least_any (s : SK) (ta : Option Addr) (tn tc gb mb : Nat) (r f : Int) (w : World) (hG : GrdAt s ta tn tc gb mb w) (hr : 0 ≤ r ∧ r ≤ 1000000) (hf : 0 ≤ f ∧ f ≤ 201000) :
  Calls Tryz.prog 84 #[.pointer (some ⟨gb, 0, none⟩), .int .i64 r, .int .i64 f] w fun e w' => e = .returned (.int .i64 (lstF s.P r f)) ∧ w = w' := by
 have g0 := cell_of_row _ _ 0 _ _ _ hG
 simp only [List.getElem?_toArray, List.getElem?_cons_zero] at g0
 have hb := rf_bound hr hf
 unfold lstF
 generalize s.P = P at *
 clear hG
 generalize hm : r * f = m at *
 have hq := Int.ediv_nonneg hb.1 (show (0 : Int) ≤ 1000 by decide)
 by_cases h : P ≤ m / 1000
 ·rw [show min P (m / 1000) = P by omega]
  go_enter Tryz.func84, Tryz.ntmps84
  go_wp2
  go_ret
  exact ⟨rfl, rfl⟩
 ·rw [show min P (m / 1000) = m / 1000 by omega]
  go_enter Tryz.func84, Tryz.ntmps84
  go_wp2
  go_ret
  exact ⟨rfl, rfl⟩
theorem most_any (s : SK) (ta : Option Addr) (tn tc gb mb : Nat) (r f : Int) (w : World) (hG : GrdAt s ta tn tc gb mb w) (hr : 0 ≤ r ∧ r ≤ 1000000) (hf : 0 ≤ f ∧ f ≤ 201000) :
  Calls Tryz.prog 85 #[.pointer (some ⟨gb, 0, none⟩), .int .i64 r, .int .i64 f] w fun e w' => e = .returned (.int .i64 (mstF s.P r f)) ∧ w = w' := by
 have g0 := cell_of_row _ _ 0 _ _ _ hG
 simp only [List.getElem?_toArray, List.getElem?_cons_zero] at g0
 have hb := rf_bound hr hf
 unfold mstF
 generalize s.P = P at *
 clear hG
 generalize hm : r * f = m at *
 have hq := Int.ediv_nonneg (show 0 ≤ m + 999 by omega) (show (0 : Int) ≤ 1000 by decide)
 by_cases h : P ≤ (m + 999) / 1000
 ·rw [show min P ((m + 999) / 1000) = P by omega]
  go_enter Tryz.func85, Tryz.ntmps85
  go_wp2
  go_ret
  exact ⟨rfl, rfl⟩
 ·rw [show min P ((m + 999) / 1000) = (m + 999) / 1000 by omega]
  go_enter Tryz.func85, Tryz.ntmps85
  go_wp2
  go_ret
  exact ⟨rfl, rfl⟩
def fLo (s : SK) (x : SPL) : Int := mnF (facF s x.w) 16
def fHi (s : SK) (x : SPL) : Int := mxF (facF s x.w) 16
theorem facF_bound (s : SK) (x : WX) (hbe : -100 ≤ s.be0 ∧ s.be0 ≤ s.be1 ∧ s.be1 ≤ 100) (hal : -100 ≤ s.al0 ∧ s.al0 ≤ s.al1 ∧ s.al1 ≤ 100) (hx : x.ok) (k : Nat) : 0 ≤ facF s x k ∧ facF s x k ≤ 201000 := by
 unfold facF fac4
 have c1 := fmul_bound (K := 100) (M := 1000) (by decide) (pk2_bound (i := k / 8) hbe) (pk2_bound (i := k / 4 % 2) hx.p)
 have c2 := fmul_bound (K := 100) (M := 1000) (by decide) (pk2_bound (i := k / 2 % 2) hal) (pk2_bound (i := k % 2) hx.x)
 omega
theorem mnF_bound {f : Nat → Int} {M : Int} (h : ∀ k, 0 ≤ f k ∧ f k ≤ M) : ∀ k, 0 ≤ mnF f k ∧ mnF f k ≤ M
 | 0 => h 0
 | k + 1 => by
  have h1 := mnF_bound h k
  have h2 := h k
  unfold mnF
  omega
theorem mxF_bound {f : Nat → Int} {M : Int} (h : ∀ k, 0 ≤ f k ∧ f k ≤ M) : ∀ k, 0 ≤ mxF f k ∧ mxF f k ≤ M
 | 0 => h 0
 | k + 1 => by
  have h1 := mxF_bound h k
  have h2 := h k
  unfold mxF
  omega
def slS (t : Nat → SPL) : Nat → Int
 | 0 => 0
 | k + 1 => slS t k + (t k).slots
def s0S (s : SK) (lo : Int) (t : Nat → SPL) : Nat → Int
 | 0 => 0
 | k + 1 => s0S s lo t k + (t k).slots * lstF s.P lo (fLo s (t k))
def s1S (s : SK) (hi : Int) (t : Nat → SPL) : Nat → Int
 | 0 => 0
 | k + 1 => s1S s hi t k + (t k).slots * mstF s.P hi (fHi s (t k))
def mnLo (s : SK) (lo : Int) (t : Nat → SPL) (n : Nat) : Int := s0S s lo t n / slS t n
def mnHi (s : SK) (hi : Int) (t : Nat → SPL) (n : Nat) : Int := (s1S s hi t n + slS t n - 1) / slS t n
theorem slS_bound {t : Nat → SPL} {n : Nat} (h : ∀ i, i < n → (t i).ok) : ∀ k, k ≤ n → (k : Int) ≤ slS t k ∧ slS t k ≤ 1000000 * (k : Int)
 | 0, _ => by simp [slS]
 | k + 1, hk => by
  have h1 := slS_bound h k (by omega)
  have h2 := (h k (by omega)).slots
  unfold slS
  omega
theorem sm_bound {a b : Int} (ha : 1 ≤ a ∧ a ≤ 1000000) (hb : 0 ≤ b ∧ b ≤ 1000000) : 0 ≤ a * b ∧ a * b ≤ 1000000000000 := by
 refine ⟨Int.mul_nonneg (by omega) hb.1, ?_⟩
 have := Int.mul_le_mul ha.2 hb.2 hb.1 (by decide)
 omega
theorem s0S_bound {s : SK} {lo : Int} {t : Nat → SPL} {n : Nat} (h : ∀ i, i < n → (t i).ok) (hl : ∀ i, i < n → 0 ≤ lstF s.P lo (fLo s (t i)) ∧ lstF s.P lo (fLo s (t i)) ≤ 1000000) : ∀ k, k ≤ n → 0 ≤ s0S s lo t k ∧ s0S s lo t k ≤ 1000000000000 * (k : Int)
 | 0, _ => by simp [s0S]
 | k + 1, hk => by
  have h1 := s0S_bound h hl k (by omega)
  have h2 := sm_bound (h k (by omega)).slots (hl k (by omega))
  unfold s0S
  omega
theorem s1S_bound {s : SK} {hi : Int} {t : Nat → SPL} {n : Nat} (h : ∀ i, i < n → (t i).ok) (hl : ∀ i, i < n → 0 ≤ mstF s.P hi (fHi s (t i)) ∧ mstF s.P hi (fHi s (t i)) ≤ 1000000) : ∀ k, k ≤ n → 0 ≤ s1S s hi t k ∧ s1S s hi t k ≤ 1000000000000 * (k : Int)
 | 0, _ => by simp [s1S]
 | k + 1, hk => by
  have h1 := s1S_bound h hl k (by omega)
  have h2 := sm_bound (h k (by omega)).slots (hl k (by omega))
  unfold s1S
  omega
theorem mn_calm (s : SK) (lo hi : Int) (t : Nat → SPL) (hP : 2 ≤ s.P ∧ s.P ≤ 1000000) (hl : 0 ≤ lo ∧ lo ≤ hi ∧ hi ≤ s.P) (hk : 1 ≤ (t 0).slots) (hw : (t 0).w = ⟨0, 0, 0, 0⟩) : mnLo s lo t 1 = lo ∧ mnHi s hi t 1 = hi := by
 have hf : ∀ k, facF s ⟨0, 0, 0, 0⟩ k = 1000 := fun k => by
  unfold facF fac4
  have e1 : ∀ i, pk2 i 0 0 = 0 := fun i => by unfold pk2; split <;> rfl
  simp only [e1, Int.mul_zero]
  decide
 have hm : ∀ k, mnF (facF s ⟨0, 0, 0, 0⟩) k = 1000 ∧ mxF (facF s ⟨0, 0, 0, 0⟩) k = 1000 := fun k => by
  induction k with
  | zero => exact ⟨hf 0, hf 0⟩
  | succ k ih =>
   unfold mnF mxF
   rw [ih.1, ih.2, hf]
   exact ⟨rfl, rfl⟩
 have e2 : fLo s (t 0) = 1000 := by unfold fLo; rw [hw]; exact (hm 16).1
 have e3 : fHi s (t 0) = 1000 := by unfold fHi; rw [hw]; exact (hm 16).2
 have e4 : lstF s.P lo 1000 = lo := by
  unfold lstF
  rw [Int.mul_ediv_cancel _ (by decide)]
  omega
 have e5 : mstF s.P hi 1000 = hi := by
  unfold mstF
  have : (hi * 1000 + 999) / 1000 = hi := by
   omega
  rw [this]
  omega
 have hz : (t 0).slots ≠ 0 := by omega
 constructor
 ·show (0 + (t 0).slots * lstF s.P lo (fLo s (t 0))) / (0 + (t 0).slots) = lo
  rw [e2, e4, Int.zero_add, Int.zero_add, Int.mul_comm, Int.mul_ediv_cancel _ hz]
 ·show (0 + (t 0).slots * mstF s.P hi (fHi s (t 0)) + (0 + (t 0).slots) - 1) / (0 + (t 0).slots) = hi
  rw [e3, e5, Int.zero_add, Int.zero_add]
  generalize (t 0).slots = k at *
  have hn : 0 ≤ k * hi := Int.mul_nonneg (by omega) (by omega)
  rw [show k * hi + k - 1 = (k - 1) + k * hi by omega, Int.add_mul_ediv_left _ _ hz, Int.ediv_eq_zero_of_lt (by omega) (by omega)]
  omega
end Go.Proofs.YtgmpelhphnmknaaGreat
