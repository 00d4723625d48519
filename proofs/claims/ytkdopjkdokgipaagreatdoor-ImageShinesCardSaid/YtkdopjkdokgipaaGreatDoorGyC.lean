/- Texts put together: ShS, ShBad, RefSb, LawShA. -/
import Derived.Test.YtkdopjkdokgipaaGreatDoorGxC
import Derived.Test.YtkdopjkdokgipaaGreatDoorChShelf
import Derived.Test.YtkdopjkdokgipaaGreatDoorGqA
import Derived.Test.YtkdopjkdokgipaaGreatDoorGaA
import Derived.Test.YtkdopjkdokgipaaGreatDoorGyB
import Derived.Test.YtkdopjkdokgipaaGreatDoorLawK
namespace Go.Proofs.YtkdopjkdokgipaaGreatDoor
open Go.RowKit
set_option linter.unusedVariables false
set_option linter.unusedSimpArgs false
def encCh (x : CH) : List Value := [.int .i64 x.1, .int .i64 x.2]
instance : Inhabited CH := ⟨(0, 0)⟩
def cfCh (x y : CH) : Int := Lib.compareInt x.1 y.1
theorem cfCh_lt (x y : CH) : ltOf cfCh x y = true ↔ x.1 < y.1 := by
  unfold ltOf cfCh Lib.compareInt
  rw [decide_eq_true_iff]
  split
  · rename_i h; exact ⟨fun _ => h, fun _ => by decide⟩
  · rename_i h
    split
    · exact ⟨fun h2 => absurd h2 (by decide), fun h2 => absurd h2 h⟩
    · exact ⟨fun h2 => absurd h2 (by decide), fun h2 => absurd h2 h⟩
theorem cfCh_swo : Go.Sort.SWO (ltOf cfCh) where
  irrefl x := by rw [Bool.eq_false_iff]; intro h; have := (cfCh_lt x x).1 h; omega
  trans x y z h1 h2 := by rw [cfCh_lt] at *; omega
  ntrans x y z h1 h2 := by
    rw [Bool.eq_false_iff] at *
    intro h
    rw [ne_eq, cfCh_lt] at h1 h2
    rw [cfCh_lt] at h
    omega
set_option maxHeartbeats 1000000 in
theorem closureCh (x y : CH) (W : World) : Calls Tryz.prog 34 #[.agg #[.int .i64 x.1, .int .i64 x.2], .agg #[.int .i64 y.1, .int .i64 y.2]] W fun e w' => e = .returned (.int .i64 (Lib.compareInt x.1 y.1)) ∧ ∃ q os', w' = Go.Sort.grow (W.drewN q) os' := by
  have hcon := fun W' => AnyG.cmp_Compare_int Tryz.laysCmpCh x.1 y.1 W'
  change ∀ W', Calls Tryz.prog 35 _ _ _ at hcon
  generalize Lib.compareInt x.1 y.1 = r at hcon ⊢
  obtain ⟨x1, x2⟩ := x
  obtain ⟨y1, y2⟩ := y
  dsimp only at hcon ⊢
  go_enter Tryz.func34, Tryz.ntmps34
  go_wp2_with (go_at_call 35; refine (hcon _).mono ?_; rintro e w' ⟨rfl, rfl⟩)
  go_ret
  exact ⟨rfl, 0, _, by rw [Go.Sort.alloc_eq_grow, Go.Sort.alloc_eq_grow, Go.Sort.grow_grow]; rfl⟩
theorem heap_sortedK (W : World) (blk n : Nat) (dk : Array CH) (os : Array Obj) (k : Nat) (hk : k < W.heap.size) (hn : k ≠ blk) : (sortWorldK encCh 2 W blk 0 n dk os).heap[k]? = W.heap[k]? := by
  unfold sortWorldK Go.Sort.putRowK
  rw [Go.Sort.heap_grow_old _ _ (by simpa [Go.Sort.putRow, Go.Sort.mapBlock, Go.Sort.ahead] using hk)]
  simp [Go.Sort.putRow, Go.Sort.mapBlock, Go.Sort.ahead, Array.getElem?_modify, Ne.symm hn]
theorem size_sortedK (W : World) (blk n : Nat) (dk : Array CH) (os : Array Obj) : W.heap.size ≤ (sortWorldK encCh 2 W blk 0 n dk os).heap.size := by
  simp [sortWorldK, Go.Sort.grow, Go.Sort.putRowK, Go.Sort.putRow, Go.Sort.mapBlock, Go.Sort.ahead]
theorem crow_ne (x : CH) : ∀ v ∈ encCh x, v.oneCell' = true := by
  intro v hv
  simp [encCh] at hv
  rcases hv with rfl | rfl <;> rfl
set_option maxRecDepth 100000 in
theorem shSort : ShSort := by
  intro W base ca cc L hown hbs hsz
  rcases Nat.eq_zero_or_pos L.length with h0 | hpos
  · have hL : L = [] := List.eq_nil_of_length_eq_zero h0
    subst hL
    have hcon := AnyF.slices_SortFunc_none Tryz.laysSortCh ca cc (.func (.func 34) #[] #[]) W
    change Calls Tryz.prog 33 _ _ _ at hcon
    refine hcon.mono fun e w' ⟨he, hw⟩ => ⟨he, [], List.Perm.refl _, List.Pairwise.nil, .inl rfl, ?_⟩
    subst hw
    exact Below.refl _ _
  · obtain ⟨b, rfl, hb1, hb2⟩ := own_at hown hpos
    have hsize : L.toArray.size = L.length := by simp
    have hget : ∀ i (h : i < L.length), L.toArray[i]! = L.getD i ch0 := fun i h => by
      rw [getElem!_pos _ i (by simpa using h), List.getD_eq_getElem?_getD, List.getElem?_eq_getElem h]; simp
    have hH : Go.Sort.HoldsK encCh 2 W b 0 L.toArray := fun j hj => by
      rw [Go.Sort.size_flatK] at hj
      have hj2 : j < L.length * 2 := by simpa using hj
      have e1 : j / 2 < L.length := by omega
      have hc := crC_get L (j / 2) e1
      rw [Go.Sort.get_flatK _ _ _ _ hj, hget _ e1, Nat.zero_add]
      have hcell := hown.cellAt j (by omega)
      refine ⟨?_, hown.frozenAt j⟩
      rcases Nat.mod_two_eq_zero_or_one j with h | h
      · have e2 : j = j / 2 * 2 := by omega
        rw [h]
        rw [e2] at hcell ⊢
        rw [hcell, hc.1]
        simp [encCh]
      · have e2 : j = j / 2 * 2 + 1 := by omega
        rw [h]
        rw [e2] at hcell ⊢
        rw [hcell, hc.2]
        have : (j / 2 * 2 + 1) / 2 = j / 2 := by omega
        simp [encCh, this]
    have eg : ∀ args w, (callFunc 34 args).run Tryz.prog w = .ok (.enter 34 args) w := enters_of Tryz.func34 (by kernel_rfl) rfl
    have hcmp : CmpLays Tryz.prog 34 #[] encCh 2 cfCh b 0 L.toArray.size W := fun _ _ _ _ x y => closureCh x y _
    have hcon := AnyQ.slices_SortFunc Tryz.laysSortCh 2 Tryz.isAgg83 Tryz.sizeOf83 encCh (fun _ => rfl) crow_ne cfCh cfCh_swo 34 #[] b 0 cc L.toArray W eg hcmp hH hb2 (by rw [hsize]; omega)
    rw [hsize] at hcon
    change Calls Tryz.prog 33 _ _ _ at hcon
    refine hcon.mono fun e w' ⟨he, d', q, os, hp', hs', hw⟩ => ⟨he, d'.toList, ?_, ?_, ?_, ?_⟩
    · have hd : d'.size = L.length := by rw [hp'.1, hsize]
      have := hp'.2.2
      rw [show d'.extract 0 L.length = d' from by rw [← hd]; simp, show L.toArray.extract 0 L.length = L.toArray from by rw [← hsize]; simp] at this
      simpa using this
    · have hd : d'.size = L.length := by rw [hp'.1, hsize]
      rw [List.pairwise_iff_getElem]
      intro i j hi hj hij
      have hi' : i < d'.size := by simpa using hi
      have hj' : j < d'.size := by simpa using hj
      have h1 := hs' i j (Nat.zero_le _) hij (by omega)
      rw [getElem!_pos d' j hj', getElem!_pos d' i hi', Bool.eq_false_iff, ne_eq, cfCh_lt] at h1
      simp only [Array.getElem_toList]
      omega
    · have hd : d'.size = L.length := by rw [hp'.1, hsize]
      have hz := size_sortedK W b q d' os
      refine .inr ⟨b, rfl, by rw [hw]; omega, fun i hi => ?_⟩
      have hi' : i < d'.size := by simpa using hi
      have hh := holdsK_sortWorldK_c encCh 2 W b 0 L.toArray d' q os hH hb2 (by rw [hd, hsize])
      have c0 := (hh.cell (i := i) (c := 0) hi' (by decide)).1
      have c1 := (hh.cell (i := i) (c := 1) hi' (by decide)).1
      have hg : d'[i]! = d'.toList.getD i ch0 := by rw [getElem!_pos d' i hi', List.getD_eq_getElem?_getD, List.getElem?_eq_getElem hi]; simp
      rw [hg] at c0 c1
      rw [hw]
      refine ⟨?_, ?_⟩
      · have := c0; rw [Nat.zero_add, Nat.add_zero] at this; rw [this]; simp [encCh]
      · have := c1; rw [Nat.zero_add] at this; rw [this]; simp [encCh]
    · rw [hw]
      exact ⟨rfl, rfl, rfl, size_sortedK W b q d' os |> Nat.le_trans (Nat.le_refl _), fun k hk => heap_sortedK W b q d' os k (by omega) (by omega)⟩
end Go.Proofs.YtkdopjkdokgipaaGreatDoor
namespace Go.Proofs.YtkdopjkdokgipaaGreatDoor
open Go.RowKit Go.Shelf
set_option linter.unusedVariables false
set_option linter.unusedSimpArgs false
set_option maxRecDepth 100000 in
set_option maxHeartbeats 4000000 in
theorem Shine_bad (v : VO) (r : RY) (ga : Option Addr) (gn gc : Nat) (g : Nat → Int) (lo hi : Int) (w : World) (hgn : gn ≤ maxLen) (hG : Ints w.heap.size w ga gn g) (hno : rkOk v r gn g = false ∨ spanB ⟨lo, hi⟩ 1000000000000 = false) :
    Calls Tryz.prog 6 #[v.val, .slice ga gn gc, r.val, .agg #[.int .i64 lo, .int .i64 hi]] w fun e w' => e = .returned (.tuple #[.agg #[.slice none 0 0, .slice none 0 0, .int .i64 0, .int .i64 0], .int .i64 2]) ∧ Below w.heap.size w w' := by
  have HSP := Lib.hid (fun (W : World) => span_any lo hi 1000000000000 W)
  cases hok : rkOk v r gn g
  · have HUN := Lib.hid (fun (W : World) (hb : Below w.heap.size w W) => Under_bad v r ga gn gc g W hgn ((hG.below hb).up hb.size) hok)
    unfold VO.val RY.val at HUN
    unfold VO.val RY.val
    clear hG hok hno HSP
    go_enter Tryz.func6, Tryz.ntmps6; go_upto_region 1 with (fail); (obtain ⟨hVb, hVz, e1, e2, e3, e4⟩ := rk_four w (.cells #[.int .i64 v.nx, .int .i64 v.ny, .int .i64 v.nz, .int .i64 v.size] 23) (.cells #[.int .i64 r.x, .int .i64 r.y, .int .i64 r.z, .int .i64 r.dx, .int .i64 r.dy, .int .i64 r.dz] 26) (.cells #[.int .i64 lo, .int .i64 hi] 28) (.cells #[.slice none 0 0, .slice none 0 0, .int .i64 0, .int .i64 0] 31)); have HB := Lib.hid hVb; have HV := Lib.hid e1; have HRY := Lib.hid e2; have HSB := Lib.hid e3; have HRS := Lib.hid e4; have HVZ := Lib.hid hVz; clear hVb hVz e1 e2 e3 e4; generalize World.alloc (World.alloc (World.alloc (World.alloc w _) _) _) _ = V at *; (try clear v0 v1 v2 v3 s0 s1 s2 s3 s4 s5 p0 p1); obtain ⟨v0, v1, v2, v3⟩ := cr4 HV.out; obtain ⟨s0, s1, s2, s3, s4, s5⟩ := cr6 HRY.out; obtain ⟨p0, p1⟩ := cr2 HSB.out
    go_upto_region 3 with (first | (go_at_call 31; refine (HUN.out _ HB.out).mono ?_; rintro e w2 ⟨rfl, hb2⟩; (replace HB := Lib.hid (HB.out.trans ((hb2).mono HB.out.size)); replace HV := Lib.hid (bs HV.out hb2); replace HRY := Lib.hid (bs HRY.out hb2); replace HSB := Lib.hid (bs HSB.out hb2); replace HRS := Lib.hid (bs HRS.out hb2); (try clear v0 v1 v2 v3 s0 s1 s2 s3 s4 s5 p0 p1); obtain ⟨v0, v1, v2, v3⟩ := cr4 HV.out; obtain ⟨s0, s1, s2, s3, s4, s5⟩ := cr6 HRY.out; obtain ⟨p0, p1⟩ := cr2 HSB.out); clear hb2))
    rename World => w2
    (have hrb := HRS.out; (obtain ⟨q0, q1, q2, q3⟩ := cr4 hrb; have f0 := frozen_of_row _ _ 0 _ _ hrb; have f1 := frozen_of_row _ _ 1 _ _ hrb; have f2 := frozen_of_row _ _ 2 _ _ hrb; have f3 := frozen_of_row _ _ 3 _ _ hrb; have HRB := Lib.hid hrb; clear hrb); go_wp2; obtain ⟨z1, z2, z3⟩ := set4 w2 (w.heap.size + 1 + 1 + 1) _ _ _ _ _ (.slice none 0 0) (.slice none 0 0) (.int .i64 0) (.int .i64 0) HRB.out; have z3 := z3 w HB.out (by omega); clear q0 q1 q2 q3 f0 f1 f2 f3 z2; generalize World.setCell (World.setCell (World.setCell (World.setCell w2 _ _) _ _) _ _) _ _ = wf at *; obtain ⟨r0, r1, r2, r3⟩ := cr4 z1; refine bodyPost_ret (v := .tuple #[.agg #[.slice none 0 0, .slice none 0 0, .int .i64 0, .int .i64 0], .int .i64 2]) (by simp [results, Tryz.results6, go_sem, r0, r1, r2, r3]) rfl ?_; exact ⟨rfl, z3⟩)
  · have hsp : spanB ⟨lo, hi⟩ 1000000000000 = false := by
      rcases hno with h | h
      · rw [hok] at h; cases h
      · exact h
    have HUN := Lib.hid (fun (W : World) (hb : Below w.heap.size w W) => Under_ok v r ga gn gc g W hgn ((hG.below hb).up hb.size) hok)
    rw [hsp] at HSP
    unfold VO.val RY.val at HUN
    unfold VO.val RY.val
    clear hG hok hno hsp
    go_enter Tryz.func6, Tryz.ntmps6; go_upto_region 1 with (fail); (obtain ⟨hVb, hVz, e1, e2, e3, e4⟩ := rk_four w (.cells #[.int .i64 v.nx, .int .i64 v.ny, .int .i64 v.nz, .int .i64 v.size] 23) (.cells #[.int .i64 r.x, .int .i64 r.y, .int .i64 r.z, .int .i64 r.dx, .int .i64 r.dy, .int .i64 r.dz] 26) (.cells #[.int .i64 lo, .int .i64 hi] 28) (.cells #[.slice none 0 0, .slice none 0 0, .int .i64 0, .int .i64 0] 31)); have HB := Lib.hid hVb; have HV := Lib.hid e1; have HRY := Lib.hid e2; have HSB := Lib.hid e3; have HRS := Lib.hid e4; have HVZ := Lib.hid hVz; clear hVb hVz e1 e2 e3 e4; generalize World.alloc (World.alloc (World.alloc (World.alloc w _) _) _) _ = V at *; (try clear v0 v1 v2 v3 s0 s1 s2 s3 s4 s5 p0 p1); obtain ⟨v0, v1, v2, v3⟩ := cr4 HV.out; obtain ⟨s0, s1, s2, s3, s4, s5⟩ := cr6 HRY.out; obtain ⟨p0, p1⟩ := cr2 HSB.out
    go_upto_region 3 with (first | (go_at_call 31; refine (HUN.out _ HB.out).mono ?_; rintro e w2 ⟨m, ca, cc, hM, rfl, hown, hb2⟩; (replace HB := Lib.hid (HB.out.trans ((hb2).mono HB.out.size)); replace HV := Lib.hid (bs HV.out hb2); replace HRY := Lib.hid (bs HRY.out hb2); replace HSB := Lib.hid (bs HSB.out hb2); replace HRS := Lib.hid (bs HRS.out hb2); (try clear v0 v1 v2 v3 s0 s1 s2 s3 s4 s5 p0 p1); obtain ⟨v0, v1, v2, v3⟩ := cr4 HV.out; obtain ⟨s0, s1, s2, s3, s4, s5⟩ := cr6 HRY.out; obtain ⟨p0, p1⟩ := cr2 HSB.out); clear hM hown hb2) | (go_at_call 32; refine (HSP.out _).mono ?_; rintro e w3 ⟨rfl, hb2⟩; (replace HB := Lib.hid (HB.out.trans ((hb2).mono HB.out.size)); replace HV := Lib.hid (bs HV.out hb2); replace HRY := Lib.hid (bs HRY.out hb2); replace HSB := Lib.hid (bs HSB.out hb2); replace HRS := Lib.hid (bs HRS.out hb2); (try clear v0 v1 v2 v3 s0 s1 s2 s3 s4 s5 p0 p1); obtain ⟨v0, v1, v2, v3⟩ := cr4 HV.out; obtain ⟨s0, s1, s2, s3, s4, s5⟩ := cr6 HRY.out; obtain ⟨p0, p1⟩ := cr2 HSB.out); clear hb2))
    rename World => w2
    (have hrb := HRS.out; (obtain ⟨q0, q1, q2, q3⟩ := cr4 hrb; have f0 := frozen_of_row _ _ 0 _ _ hrb; have f1 := frozen_of_row _ _ 1 _ _ hrb; have f2 := frozen_of_row _ _ 2 _ _ hrb; have f3 := frozen_of_row _ _ 3 _ _ hrb; have HRB := Lib.hid hrb; clear hrb); go_wp2; obtain ⟨z1, z2, z3⟩ := set4 w2 (w.heap.size + 1 + 1 + 1) _ _ _ _ _ (.slice none 0 0) (.slice none 0 0) (.int .i64 0) (.int .i64 0) HRB.out; have z3 := z3 w HB.out (by omega); clear q0 q1 q2 q3 f0 f1 f2 f3 z2; generalize World.setCell (World.setCell (World.setCell (World.setCell w2 _ _) _ _) _ _) _ _ = wf at *; obtain ⟨r0, r1, r2, r3⟩ := cr4 z1; refine bodyPost_ret (v := .tuple #[.agg #[.slice none 0 0, .slice none 0 0, .int .i64 0, .int .i64 0], .int .i64 2]) (by simp [results, Tryz.results6, go_sem, r0, r1, r2, r3]) rfl ?_; exact ⟨rfl, z3⟩)
end Go.Proofs.YtkdopjkdokgipaaGreatDoor
namespace Go.Proofs.YtkdopjkdokgipaaGreatDoor
open Go.RowKit
set_option linter.unusedVariables false
set_option linter.unusedSimpArgs false
/-- two beams hold the same -/
structure BmEq (p q : BM) : Prop where
  cn : p.cn = q.cn
  wn : p.wn = q.wn
  lo : p.lo = q.lo
  hi : p.hi = q.hi
  cs : ∀ i, i < p.cn → p.cs i = q.cs i
  ws : ∀ i, i < p.wn → p.ws i = q.ws i
set_option maxRecDepth 100000 in
set_option maxHeartbeats 2000000 in
theorem r8SameBeam_eq (p q : BM) (w : World) (hp : p.mem w.heap.size w) (hq : q.mem w.heap.size w) (he : BmEq p q) :
    Calls Tryz.prog 11 #[p.val, q.val] w fun e w' => e = .returned (.bool true) ∧ Below w.heap.size w w' := by
  obtain ⟨pca, pcn, pcc, pwa, pwn, pwc, plo, phi, pcs, pws⟩ := p
  obtain ⟨qca, qcn, qcc, qwa, qwn, qwc, qlo, qhi, qcs, qws⟩ := q
  obtain ⟨e1, e2, e3, e4, e5, e6⟩ := he
  obtain ⟨p1, p2, p3, p4⟩ := hp
  obtain ⟨q1, q2, q3, q4⟩ := hq
  dsimp only at e1 e2 e3 e4 e5 e6 p1 p2 p3 p4 q1 q2 q3 q4
  subst e1 e2 e3 e4
  have HS1 := Lib.hid (fun (W : World) (hb : Below w.heap.size w W) => show Calls Tryz.prog 28 #[.slice pca pcn pcc, .slice qca pcn qcc] W (fun e w' => e = .returned (.bool true) ∧ Below W.heap.size W w') from by
    have h := Same_any pca qca pcn pcn pcc qcc pcs qcs W w.heap.size hb.size (p3.below hb) (q3.below hb) p1 p1
    rw [sameB_iff.2 ⟨rfl, e5⟩] at h
    exact h)
  have HS2 := Lib.hid (fun (W : World) (hb : Below w.heap.size w W) => show Calls Tryz.prog 28 #[.slice pwa pwn pwc, .slice qwa pwn qwc] W (fun e w' => e = .returned (.bool true) ∧ Below W.heap.size W w') from by
    have h := Same_any pwa qwa pwn pwn pwc qwc pws qws W w.heap.size hb.size (p4.below hb) (q4.below hb) p2 p2
    rw [sameB_iff.2 ⟨rfl, e6⟩] at h
    exact h)
  have m1 : True := trivial
  unfold BM.val
  dsimp only
  clear p1 p2 p3 p4 q1 q2 q3 q4 e5 e6
  go_enter Tryz.func11, Tryz.ntmps11
  go_upto_region 1 with (fail)
  obtain ⟨hVb, hVz, e1, e2⟩ := two_allocs w (.cells #[.slice pca pcn pcc, .slice pwa pwn pwc, .int .i64 plo, .int .i64 phi] 31) (.cells #[.slice qca pcn qcc, .slice qwa pwn qwc, .int .i64 plo, .int .i64 phi] 31)
  generalize World.alloc (World.alloc w _) _ = V at *
  have k0 : V.cell? ⟨w.heap.size, 0, none⟩ = some (.slice pca pcn pcc) := cell_of_row _ _ _ _ _ _ e1
  have k1 : V.cell? ⟨w.heap.size, 1, none⟩ = some (.slice pwa pwn pwc) := cell_of_row _ _ _ _ _ _ e1
  have k2 : V.cell? ⟨w.heap.size, 2, none⟩ = some (.int .i64 plo) := cell_of_row _ _ _ _ _ _ e1
  have k3 : V.cell? ⟨w.heap.size, 3, none⟩ = some (.int .i64 phi) := cell_of_row _ _ _ _ _ _ e1
  have j0 : V.cell? ⟨w.heap.size + 1, 0, none⟩ = some (.slice qca pcn qcc) := cell_of_row _ _ _ _ _ _ e2
  have j1 : V.cell? ⟨w.heap.size + 1, 1, none⟩ = some (.slice qwa pwn qwc) := cell_of_row _ _ _ _ _ _ e2
  have j2 : V.cell? ⟨w.heap.size + 1, 2, none⟩ = some (.int .i64 plo) := cell_of_row _ _ _ _ _ _ e2
  have j3 : V.cell? ⟨w.heap.size + 1, 3, none⟩ = some (.int .i64 phi) := cell_of_row _ _ _ _ _ _ e2
  have hz0 : w.heap.size < V.heap.size := by omega
  have hz1 : w.heap.size + 1 < V.heap.size := by omega
  have HB := Lib.hid hVb
  clear hVb hVz e1 e2
  go_wp2_with (first | (go_at_call 28; have _ := m1; clear m1; refine (HS1.out _ HB.out).mono ?_; rintro e w2 ⟨rfl, hb2⟩; have HBx := Lib.hid (HB.out.trans ((hb2).mono HB.out.size)); have k0x := ((bcell hb2).1 _ _ hz0).trans k0; have k1x := ((bcell hb2).1 _ _ hz0).trans k1; have k2x := ((bcell hb2).1 _ _ hz0).trans k2; have k3x := ((bcell hb2).1 _ _ hz0).trans k3; have j0x := ((bcell hb2).1 _ _ hz1).trans j0; have j1x := ((bcell hb2).1 _ _ hz1).trans j1; have j2x := ((bcell hb2).1 _ _ hz1).trans j2; have j3x := ((bcell hb2).1 _ _ hz1).trans j3; have hz0x := Nat.lt_of_lt_of_le hz0 (hb2).size; have hz1x := Nat.lt_of_lt_of_le hz1 (hb2).size; clear HB k0 k1 k2 k3 j0 j1 j2 j3 hz0 hz1; have HB := HBx; have k0 := k0x; have k1 := k1x; have k2 := k2x; have k3 := k3x; have j0 := j0x; have j1 := j1x; have j2 := j2x; have j3 := j3x; have hz0 := hz0x; have hz1 := hz1x; clear HBx k0x k1x k2x k3x j0x j1x j2x j3x hz0x hz1x; clear hb2) | (go_at_call 28; refine (HS2.out _ HB.out).mono ?_; rintro e w3 ⟨rfl, hb3⟩; have HBx := Lib.hid (HB.out.trans ((hb3).mono HB.out.size)); have k0x := ((bcell hb3).1 _ _ hz0).trans k0; have k1x := ((bcell hb3).1 _ _ hz0).trans k1; have k2x := ((bcell hb3).1 _ _ hz0).trans k2; have k3x := ((bcell hb3).1 _ _ hz0).trans k3; have j0x := ((bcell hb3).1 _ _ hz1).trans j0; have j1x := ((bcell hb3).1 _ _ hz1).trans j1; have j2x := ((bcell hb3).1 _ _ hz1).trans j2; have j3x := ((bcell hb3).1 _ _ hz1).trans j3; have hz0x := Nat.lt_of_lt_of_le hz0 (hb3).size; have hz1x := Nat.lt_of_lt_of_le hz1 (hb3).size; clear HB k0 k1 k2 k3 j0 j1 j2 j3 hz0 hz1; have HB := HBx; have k0 := k0x; have k1 := k1x; have k2 := k2x; have k3 := k3x; have j0 := j0x; have j1 := j1x; have j2 := j2x; have j3 := j3x; have hz0 := hz0x; have hz1 := hz1x; clear HBx k0x k1x k2x k3x j0x j1x j2x j3x hz0x hz1x; clear hb3))
  go_ret
  exact ⟨rfl, HB.out⟩
end Go.Proofs.YtkdopjkdokgipaaGreatDoor
namespace Go.Proofs.YtkdopjkdokgipaaGreatDoor
open Go.RowKit Go.Shelf
set_option linter.unusedVariables false
set_option linter.unusedSimpArgs false
/-- what came in -/
structure ShIn (w : World) (B : Nat) (ga : Option Addr) (gn : Nat) (g : Nat → Int) (da : Option Addr) (dn : Nat) (d : Nat → Int) : Prop where
  le : B ≤ w.heap.size
  gr : Ints B w ga gn g
  gl : gn ≤ maxLen
  de : Ints B w da dn d
  dl : dn ≤ maxLen
  tab : Lib.TabBelow Tryz.prog w.heap.size w "internal/strconv.uint64pow10" .u64 Lib.pow10Tab
section
variable {w : World} {B : Nat} {ga : Option Addr} {gn : Nat} {g : Nat → Int} {da : Option Addr} {dn : Nat} {d : Nat → Int} {W : World}
theorem ShIn.known (h : ShIn w B ga gn g da dn d) (hb : Below w.heap.size w W) : Calls Tryz.prog 5 #[] W fun e w' => e = .returned (.bool true) ∧ Below W.heap.size W w' := known_any W (h.tab W hb)
theorem ShIn.G (h : ShIn w B ga gn g da dn d) (hb : Below w.heap.size w W) : Ints W.heap.size W ga gn g := (h.gr.below (hb.mono h.le)).up (Nat.le_trans h.le hb.size)
theorem ShIn.D (h : ShIn w B ga gn g da dn d) (hb : Below w.heap.size w W) : Ints W.heap.size W da dn d := (h.de.below (hb.mono h.le)).up (Nat.le_trans h.le hb.size)
end
set_option maxRecDepth 100000 in
set_option maxHeartbeats 4000000 in
theorem Shn_long {w : World} {B : Nat} {ga : Option Addr} {gn : Nat} {g : Nat → Int} {da : Option Addr} {dn : Nat} {d : Nat → Int} (v : VO) (gc dc : Nat) (r : RY) (s : SV) (h : ShIn w B ga gn g da dn d) (hlong : 200 < gn ∨ 700 < dn) :
    Calls Tryz.prog 3 #[v.val, .slice ga gn gc, r.val, .agg #[.int .i64 s.lo, .int .i64 s.hi], .slice da dn dc] w fun e w' => e = .returned (.bool true) ∧ Below w.heap.size w w' := by
  have HKN := Lib.hid (fun (W : World) (hb : Below w.heap.size w W) => h.known hb)
  obtain ⟨lo, hi⟩ := s
  dsimp only
  have hgl := h.gl
  have hdl := h.dl
  unfold maxLen at hgl hdl
  unfold VO.val RY.val
  clear h
  by_cases h1 : 200 < gn
  · have h1' : (200 : Int) < (gn : Int) := by omega
    clear hlong
    go_enter Tryz.func3, Tryz.ntmps3; go_upto_region 1 with (fail); (obtain ⟨hVb, e1, e2, e3⟩ := rk_three w (.cells #[.int .i64 v.nx, .int .i64 v.ny, .int .i64 v.nz, .int .i64 v.size] 23) (.cells #[.int .i64 r.x, .int .i64 r.y, .int .i64 r.z, .int .i64 r.dx, .int .i64 r.dy, .int .i64 r.dz] 26) (.cells #[.int .i64 lo, .int .i64 hi] 28)); have HB := Lib.hid hVb; have HV := Lib.hid e1; have HRY := Lib.hid e2; have HSB := Lib.hid e3; clear hVb e1 e2 e3; generalize World.alloc (World.alloc (World.alloc w _) _) _ = V at *; (try clear v0 v1 v2 v3 s0 s1 s2 s3 s4 s5 p0 p1); obtain ⟨v0, v1, v2, v3⟩ := cr4 HV.out; obtain ⟨s0, s1, s2, s3, s4, s5⟩ := cr6 HRY.out; obtain ⟨p0, p1⟩ := cr2 HSB.out
    go_wp2_with ((go_at_call 5; refine (HKN.out _ HB.out).mono ?_; rintro e w2 ⟨rfl, hb2⟩; (replace HB := Lib.hid (HB.out.trans ((hb2).mono HB.out.size)); replace HV := Lib.hid (bs HV.out hb2); replace HRY := Lib.hid (bs HRY.out hb2); replace HSB := Lib.hid (bs HSB.out hb2); (try clear v0 v1 v2 v3 s0 s1 s2 s3 s4 s5 p0 p1); obtain ⟨v0, v1, v2, v3⟩ := cr4 HV.out; obtain ⟨s0, s1, s2, s3, s4, s5⟩ := cr6 HRY.out; obtain ⟨p0, p1⟩ := cr2 HSB.out); clear hb2))
    go_ret
    exact ⟨rfl, HB.out⟩
  · have h1' : ¬ (200 : Int) < (gn : Int) := by omega
    have h2' : (700 : Int) < (dn : Int) := by omega
    clear hlong
    go_enter Tryz.func3, Tryz.ntmps3; go_upto_region 1 with (fail); (obtain ⟨hVb, e1, e2, e3⟩ := rk_three w (.cells #[.int .i64 v.nx, .int .i64 v.ny, .int .i64 v.nz, .int .i64 v.size] 23) (.cells #[.int .i64 r.x, .int .i64 r.y, .int .i64 r.z, .int .i64 r.dx, .int .i64 r.dy, .int .i64 r.dz] 26) (.cells #[.int .i64 lo, .int .i64 hi] 28)); have HB := Lib.hid hVb; have HV := Lib.hid e1; have HRY := Lib.hid e2; have HSB := Lib.hid e3; clear hVb e1 e2 e3; generalize World.alloc (World.alloc (World.alloc w _) _) _ = V at *; (try clear v0 v1 v2 v3 s0 s1 s2 s3 s4 s5 p0 p1); obtain ⟨v0, v1, v2, v3⟩ := cr4 HV.out; obtain ⟨s0, s1, s2, s3, s4, s5⟩ := cr6 HRY.out; obtain ⟨p0, p1⟩ := cr2 HSB.out
    go_wp2_with ((go_at_call 5; refine (HKN.out _ HB.out).mono ?_; rintro e w2 ⟨rfl, hb2⟩; (replace HB := Lib.hid (HB.out.trans ((hb2).mono HB.out.size)); replace HV := Lib.hid (bs HV.out hb2); replace HRY := Lib.hid (bs HRY.out hb2); replace HSB := Lib.hid (bs HSB.out hb2); (try clear v0 v1 v2 v3 s0 s1 s2 s3 s4 s5 p0 p1); obtain ⟨v0, v1, v2, v3⟩ := cr4 HV.out; obtain ⟨s0, s1, s2, s3, s4, s5⟩ := cr6 HRY.out; obtain ⟨p0, p1⟩ := cr2 HSB.out); clear hb2))
    go_ret
    exact ⟨rfl, HB.out⟩
def zbm : BM := ⟨none, 0, 0, none, 0, 0, 0, 0, fun _ => 0, fun _ => 0⟩
theorem same_zero (W : World) : Calls Tryz.prog 11 #[.agg #[.slice none 0 0, .slice none 0 0, .int .i64 0, .int .i64 0], .agg #[.slice none 0 0, .slice none 0 0, .int .i64 0, .int .i64 0]] W fun e w' => e = .returned (.bool true) ∧ Below W.heap.size W w' :=
  r8SameBeam_eq zbm zbm W ⟨Nat.zero_le _, Nat.zero_le _, .inl rfl, .inl rfl⟩ ⟨Nat.zero_le _, Nat.zero_le _, .inl rfl, .inl rfl⟩ ⟨rfl, rfl, rfl, rfl, fun _ _ => rfl, fun _ _ => rfl⟩
set_option maxRecDepth 100000 in
set_option maxHeartbeats 4000000 in
theorem Shn_bad {w : World} {B : Nat} {ga : Option Addr} {gn : Nat} {g : Nat → Int} {da : Option Addr} {dn : Nat} {d : Nat → Int} (v : VO) (gc dc : Nat) (r : RY) (s : SV) (h : ShIn w B ga gn g da dn d) (hg : gn ≤ 200) (hd : dn ≤ 700) (hno : rkOk v r gn g = false ∨ spanB ⟨s.lo, s.hi⟩ 1000000000000 = false) :
    Calls Tryz.prog 3 #[v.val, .slice ga gn gc, r.val, .agg #[.int .i64 s.lo, .int .i64 s.hi], .slice da dn dc] w fun e w' => e = .returned (.bool true) ∧ Below w.heap.size w w' := by
  obtain ⟨lo, hi⟩ := s
  dsimp only at hno ⊢
  have HKN := Lib.hid (fun (W : World) (hb : Below w.heap.size w W) => h.known hb)
  have HSH := Lib.hid (fun (W : World) (hb : Below w.heap.size w W) => Shine_bad v r ga gn gc g lo hi W h.gl (h.G hb) hno)
  have HSZ := Lib.hid (fun (W : World) => same_zero W)
  have HVO := Lib.hid (fun (W : World) => r6Volume_any v W)
  have hg' : ¬ (200 : Int) < (gn : Int) := by omega
  have hd' : ¬ (700 : Int) < (dn : Int) := by omega
  unfold VO.val at HVO HSH
  unfold RY.val at HSH
  unfold VO.val RY.val
  have HRA := Lib.hid (fun (W : World) => r6Ray_any r W)
  have HGR0 := Lib.hid (fun (hv : v.Ok) (W : World) (hb : Below w.heap.size w W) => r6Ground_any v hv ga gn gc g W h.gl (h.G hb))
  unfold RY.val at HRA
  unfold VO.val at HGR0
  have HNO := Lib.hid hno
  clear h hno
  go_enter Tryz.func3, Tryz.ntmps3; go_upto_region 1 with (fail); (obtain ⟨hVb, e1, e2, e3⟩ := rk_three w (.cells #[.int .i64 v.nx, .int .i64 v.ny, .int .i64 v.nz, .int .i64 v.size] 23) (.cells #[.int .i64 r.x, .int .i64 r.y, .int .i64 r.z, .int .i64 r.dx, .int .i64 r.dy, .int .i64 r.dz] 26) (.cells #[.int .i64 lo, .int .i64 hi] 28)); have HB := Lib.hid hVb; have HV := Lib.hid e1; have HRY := Lib.hid e2; have HSB := Lib.hid e3; clear hVb e1 e2 e3; generalize World.alloc (World.alloc (World.alloc w _) _) _ = V at *; (try clear v0 v1 v2 v3 s0 s1 s2 s3 s4 s5 p0 p1); obtain ⟨v0, v1, v2, v3⟩ := cr4 HV.out; obtain ⟨s0, s1, s2, s3, s4, s5⟩ := cr6 HRY.out; obtain ⟨p0, p1⟩ := cr2 HSB.out; go_upto_region 4 with (go_at_call 6; refine (HSH.out _ HB.out).mono ?_; rintro e w2 ⟨rfl, hb2⟩; (replace HB := Lib.hid (HB.out.trans ((hb2).mono HB.out.size)); replace HV := Lib.hid (bs HV.out hb2); replace HRY := Lib.hid (bs HRY.out hb2); replace HSB := Lib.hid (bs HSB.out hb2); (try clear v0 v1 v2 v3 s0 s1 s2 s3 s4 s5 p0 p1); obtain ⟨v0, v1, v2, v3⟩ := cr4 HV.out; obtain ⟨s0, s1, s2, s3, s4, s5⟩ := cr6 HRY.out; obtain ⟨p0, p1⟩ := cr2 HSB.out); clear hb2); rename World => w2; have HBB := Lib.hid (heap_alloc_new w2 (.cells #[.slice none 0 0, .slice none 0 0, .int .i64 0, .int .i64 0] 31)); have hb3 := rk_below w2 (.cells #[.slice none 0 0, .slice none 0 0, .int .i64 0, .int .i64 0] 31); (replace HB := Lib.hid (HB.out.trans ((hb3).mono HB.out.size)); replace HV := Lib.hid (bs HV.out hb3); replace HRY := Lib.hid (bs HRY.out hb3); replace HSB := Lib.hid (bs HSB.out hb3); (try clear v0 v1 v2 v3 s0 s1 s2 s3 s4 s5 p0 p1); obtain ⟨v0, v1, v2, v3⟩ := cr4 HV.out; obtain ⟨s0, s1, s2, s3, s4, s5⟩ := cr6 HRY.out; obtain ⟨p0, p1⟩ := cr2 HSB.out); clear hb3; generalize w2.heap.size = bb at *; generalize World.alloc w2 _ = w3 at *; go_upto_region 6 with (fail); have hb4 := rk_below w3 (.cells #[.slice none 0 0, .slice none 0 0, .int .i64 0, .int .i64 0] 31); (replace HBB := Lib.hid (bs HBB.out hb4); (try clear q0 q1 q2 q3); obtain ⟨q0, q1, q2, q3⟩ := cr4 HBB.out; (replace HB := Lib.hid (HB.out.trans ((hb4).mono HB.out.size)); replace HV := Lib.hid (bs HV.out hb4); replace HRY := Lib.hid (bs HRY.out hb4); replace HSB := Lib.hid (bs HSB.out hb4); (try clear v0 v1 v2 v3 s0 s1 s2 s3 s4 s5 p0 p1); obtain ⟨v0, v1, v2, v3⟩ := cr4 HV.out; obtain ⟨s0, s1, s2, s3, s4, s5⟩ := cr6 HRY.out; obtain ⟨p0, p1⟩ := cr2 HSB.out)); clear hb4; generalize w3.heap.size = xb at *; generalize World.alloc w3 _ = w4 at *
  cases h1 : volB v
  · rw [h1] at HVO
    go_wp2_with (first | (go_at_call 7; refine (HVO.out _).mono ?_; rintro e w9 ⟨rfl, hb2⟩; (replace HBB := Lib.hid (bs HBB.out hb2); (try clear q0 q1 q2 q3); obtain ⟨q0, q1, q2, q3⟩ := cr4 HBB.out; (replace HB := Lib.hid (HB.out.trans ((hb2).mono HB.out.size)); replace HV := Lib.hid (bs HV.out hb2); replace HRY := Lib.hid (bs HRY.out hb2); replace HSB := Lib.hid (bs HSB.out hb2); (try clear v0 v1 v2 v3 s0 s1 s2 s3 s4 s5 p0 p1); obtain ⟨v0, v1, v2, v3⟩ := cr4 HV.out; obtain ⟨s0, s1, s2, s3, s4, s5⟩ := cr6 HRY.out; obtain ⟨p0, p1⟩ := cr2 HSB.out)); clear hb2) | (go_at_call 11; refine (HSZ.out _).mono ?_; rintro e w9 ⟨rfl, hb2⟩; (replace HBB := Lib.hid (bs HBB.out hb2); (try clear q0 q1 q2 q3); obtain ⟨q0, q1, q2, q3⟩ := cr4 HBB.out; (replace HB := Lib.hid (HB.out.trans ((hb2).mono HB.out.size)); replace HV := Lib.hid (bs HV.out hb2); replace HRY := Lib.hid (bs HRY.out hb2); replace HSB := Lib.hid (bs HSB.out hb2); (try clear v0 v1 v2 v3 s0 s1 s2 s3 s4 s5 p0 p1); obtain ⟨v0, v1, v2, v3⟩ := cr4 HV.out; obtain ⟨s0, s1, s2, s3, s4, s5⟩ := cr6 HRY.out; obtain ⟨p0, p1⟩ := cr2 HSB.out)); clear hb2) | (go_at_call 5; refine (HKN.out _ HB.out).mono ?_; rintro e w9 ⟨rfl, hb2⟩; (replace HBB := Lib.hid (bs HBB.out hb2); (try clear q0 q1 q2 q3); obtain ⟨q0, q1, q2, q3⟩ := cr4 HBB.out; (replace HB := Lib.hid (HB.out.trans ((hb2).mono HB.out.size)); replace HV := Lib.hid (bs HV.out hb2); replace HRY := Lib.hid (bs HRY.out hb2); replace HSB := Lib.hid (bs HSB.out hb2); (try clear v0 v1 v2 v3 s0 s1 s2 s3 s4 s5 p0 p1); obtain ⟨v0, v1, v2, v3⟩ := cr4 HV.out; obtain ⟨s0, s1, s2, s3, s4, s5⟩ := cr6 HRY.out; obtain ⟨p0, p1⟩ := cr2 HSB.out)); clear hb2))
    (go_ret; exact ⟨rfl, HB.out⟩)
  have hv := volB_iff.1 h1
  rw [h1] at HVO
  have HGR := Lib.hid (HGR0.out hv)
  clear HGR0 hv
  cases h2 : rayB r
  · rw [h2] at HRA
    go_wp2_with (first | (go_at_call 7; refine (HVO.out _).mono ?_; rintro e w9 ⟨rfl, hb2⟩; (replace HBB := Lib.hid (bs HBB.out hb2); (try clear q0 q1 q2 q3); obtain ⟨q0, q1, q2, q3⟩ := cr4 HBB.out; (replace HB := Lib.hid (HB.out.trans ((hb2).mono HB.out.size)); replace HV := Lib.hid (bs HV.out hb2); replace HRY := Lib.hid (bs HRY.out hb2); replace HSB := Lib.hid (bs HSB.out hb2); (try clear v0 v1 v2 v3 s0 s1 s2 s3 s4 s5 p0 p1); obtain ⟨v0, v1, v2, v3⟩ := cr4 HV.out; obtain ⟨s0, s1, s2, s3, s4, s5⟩ := cr6 HRY.out; obtain ⟨p0, p1⟩ := cr2 HSB.out)); clear hb2) | (go_at_call 8; refine (HRA.out _).mono ?_; rintro e w9 ⟨rfl, hb2⟩; (replace HBB := Lib.hid (bs HBB.out hb2); (try clear q0 q1 q2 q3); obtain ⟨q0, q1, q2, q3⟩ := cr4 HBB.out; (replace HB := Lib.hid (HB.out.trans ((hb2).mono HB.out.size)); replace HV := Lib.hid (bs HV.out hb2); replace HRY := Lib.hid (bs HRY.out hb2); replace HSB := Lib.hid (bs HSB.out hb2); (try clear v0 v1 v2 v3 s0 s1 s2 s3 s4 s5 p0 p1); obtain ⟨v0, v1, v2, v3⟩ := cr4 HV.out; obtain ⟨s0, s1, s2, s3, s4, s5⟩ := cr6 HRY.out; obtain ⟨p0, p1⟩ := cr2 HSB.out)); clear hb2) | (go_at_call 11; refine (HSZ.out _).mono ?_; rintro e w9 ⟨rfl, hb2⟩; (replace HBB := Lib.hid (bs HBB.out hb2); (try clear q0 q1 q2 q3); obtain ⟨q0, q1, q2, q3⟩ := cr4 HBB.out; (replace HB := Lib.hid (HB.out.trans ((hb2).mono HB.out.size)); replace HV := Lib.hid (bs HV.out hb2); replace HRY := Lib.hid (bs HRY.out hb2); replace HSB := Lib.hid (bs HSB.out hb2); (try clear v0 v1 v2 v3 s0 s1 s2 s3 s4 s5 p0 p1); obtain ⟨v0, v1, v2, v3⟩ := cr4 HV.out; obtain ⟨s0, s1, s2, s3, s4, s5⟩ := cr6 HRY.out; obtain ⟨p0, p1⟩ := cr2 HSB.out)); clear hb2) | (go_at_call 5; refine (HKN.out _ HB.out).mono ?_; rintro e w9 ⟨rfl, hb2⟩; (replace HBB := Lib.hid (bs HBB.out hb2); (try clear q0 q1 q2 q3); obtain ⟨q0, q1, q2, q3⟩ := cr4 HBB.out; (replace HB := Lib.hid (HB.out.trans ((hb2).mono HB.out.size)); replace HV := Lib.hid (bs HV.out hb2); replace HRY := Lib.hid (bs HRY.out hb2); replace HSB := Lib.hid (bs HSB.out hb2); (try clear v0 v1 v2 v3 s0 s1 s2 s3 s4 s5 p0 p1); obtain ⟨v0, v1, v2, v3⟩ := cr4 HV.out; obtain ⟨s0, s1, s2, s3, s4, s5⟩ := cr6 HRY.out; obtain ⟨p0, p1⟩ := cr2 HSB.out)); clear hb2))
    (go_ret; exact ⟨rfl, HB.out⟩)
  rw [h2] at HRA
  cases h3 : grB v gn g
  · rw [h3] at HGR
    go_wp2_with (first | (go_at_call 7; refine (HVO.out _).mono ?_; rintro e w9 ⟨rfl, hb2⟩; (replace HBB := Lib.hid (bs HBB.out hb2); (try clear q0 q1 q2 q3); obtain ⟨q0, q1, q2, q3⟩ := cr4 HBB.out; (replace HB := Lib.hid (HB.out.trans ((hb2).mono HB.out.size)); replace HV := Lib.hid (bs HV.out hb2); replace HRY := Lib.hid (bs HRY.out hb2); replace HSB := Lib.hid (bs HSB.out hb2); (try clear v0 v1 v2 v3 s0 s1 s2 s3 s4 s5 p0 p1); obtain ⟨v0, v1, v2, v3⟩ := cr4 HV.out; obtain ⟨s0, s1, s2, s3, s4, s5⟩ := cr6 HRY.out; obtain ⟨p0, p1⟩ := cr2 HSB.out)); clear hb2) | (go_at_call 8; refine (HRA.out _).mono ?_; rintro e w9 ⟨rfl, hb2⟩; (replace HBB := Lib.hid (bs HBB.out hb2); (try clear q0 q1 q2 q3); obtain ⟨q0, q1, q2, q3⟩ := cr4 HBB.out; (replace HB := Lib.hid (HB.out.trans ((hb2).mono HB.out.size)); replace HV := Lib.hid (bs HV.out hb2); replace HRY := Lib.hid (bs HRY.out hb2); replace HSB := Lib.hid (bs HSB.out hb2); (try clear v0 v1 v2 v3 s0 s1 s2 s3 s4 s5 p0 p1); obtain ⟨v0, v1, v2, v3⟩ := cr4 HV.out; obtain ⟨s0, s1, s2, s3, s4, s5⟩ := cr6 HRY.out; obtain ⟨p0, p1⟩ := cr2 HSB.out)); clear hb2) | (go_at_call 9; refine (HGR.out _ HB.out).mono ?_; rintro e w9 ⟨rfl, hb2⟩; (replace HBB := Lib.hid (bs HBB.out hb2); (try clear q0 q1 q2 q3); obtain ⟨q0, q1, q2, q3⟩ := cr4 HBB.out; (replace HB := Lib.hid (HB.out.trans ((hb2).mono HB.out.size)); replace HV := Lib.hid (bs HV.out hb2); replace HRY := Lib.hid (bs HRY.out hb2); replace HSB := Lib.hid (bs HSB.out hb2); (try clear v0 v1 v2 v3 s0 s1 s2 s3 s4 s5 p0 p1); obtain ⟨v0, v1, v2, v3⟩ := cr4 HV.out; obtain ⟨s0, s1, s2, s3, s4, s5⟩ := cr6 HRY.out; obtain ⟨p0, p1⟩ := cr2 HSB.out)); clear hb2) | (go_at_call 11; refine (HSZ.out _).mono ?_; rintro e w9 ⟨rfl, hb2⟩; (replace HBB := Lib.hid (bs HBB.out hb2); (try clear q0 q1 q2 q3); obtain ⟨q0, q1, q2, q3⟩ := cr4 HBB.out; (replace HB := Lib.hid (HB.out.trans ((hb2).mono HB.out.size)); replace HV := Lib.hid (bs HV.out hb2); replace HRY := Lib.hid (bs HRY.out hb2); replace HSB := Lib.hid (bs HSB.out hb2); (try clear v0 v1 v2 v3 s0 s1 s2 s3 s4 s5 p0 p1); obtain ⟨v0, v1, v2, v3⟩ := cr4 HV.out; obtain ⟨s0, s1, s2, s3, s4, s5⟩ := cr6 HRY.out; obtain ⟨p0, p1⟩ := cr2 HSB.out)); clear hb2) | (go_at_call 5; refine (HKN.out _ HB.out).mono ?_; rintro e w9 ⟨rfl, hb2⟩; (replace HBB := Lib.hid (bs HBB.out hb2); (try clear q0 q1 q2 q3); obtain ⟨q0, q1, q2, q3⟩ := cr4 HBB.out; (replace HB := Lib.hid (HB.out.trans ((hb2).mono HB.out.size)); replace HV := Lib.hid (bs HV.out hb2); replace HRY := Lib.hid (bs HRY.out hb2); replace HSB := Lib.hid (bs HSB.out hb2); (try clear v0 v1 v2 v3 s0 s1 s2 s3 s4 s5 p0 p1); obtain ⟨v0, v1, v2, v3⟩ := cr4 HV.out; obtain ⟨s0, s1, s2, s3, s4, s5⟩ := cr6 HRY.out; obtain ⟨p0, p1⟩ := cr2 HSB.out)); clear hb2))
    (go_ret; exact ⟨rfl, HB.out⟩)
  rw [h3] at HGR
  have hsp : spanB ⟨lo, hi⟩ 1000000000000 = false := by
    rcases HNO.out with h | h
    · unfold rkOk at h; rw [h1, h2, h3] at h; cases h
    · exact h
  by_cases b1 : lo < 0
  · clear hsp
    go_wp2_with (first | (go_at_call 7; refine (HVO.out _).mono ?_; rintro e w9 ⟨rfl, hb2⟩; (replace HBB := Lib.hid (bs HBB.out hb2); (try clear q0 q1 q2 q3); obtain ⟨q0, q1, q2, q3⟩ := cr4 HBB.out; (replace HB := Lib.hid (HB.out.trans ((hb2).mono HB.out.size)); replace HV := Lib.hid (bs HV.out hb2); replace HRY := Lib.hid (bs HRY.out hb2); replace HSB := Lib.hid (bs HSB.out hb2); (try clear v0 v1 v2 v3 s0 s1 s2 s3 s4 s5 p0 p1); obtain ⟨v0, v1, v2, v3⟩ := cr4 HV.out; obtain ⟨s0, s1, s2, s3, s4, s5⟩ := cr6 HRY.out; obtain ⟨p0, p1⟩ := cr2 HSB.out)); clear hb2) | (go_at_call 8; refine (HRA.out _).mono ?_; rintro e w9 ⟨rfl, hb2⟩; (replace HBB := Lib.hid (bs HBB.out hb2); (try clear q0 q1 q2 q3); obtain ⟨q0, q1, q2, q3⟩ := cr4 HBB.out; (replace HB := Lib.hid (HB.out.trans ((hb2).mono HB.out.size)); replace HV := Lib.hid (bs HV.out hb2); replace HRY := Lib.hid (bs HRY.out hb2); replace HSB := Lib.hid (bs HSB.out hb2); (try clear v0 v1 v2 v3 s0 s1 s2 s3 s4 s5 p0 p1); obtain ⟨v0, v1, v2, v3⟩ := cr4 HV.out; obtain ⟨s0, s1, s2, s3, s4, s5⟩ := cr6 HRY.out; obtain ⟨p0, p1⟩ := cr2 HSB.out)); clear hb2) | (go_at_call 9; refine (HGR.out _ HB.out).mono ?_; rintro e w9 ⟨rfl, hb2⟩; (replace HBB := Lib.hid (bs HBB.out hb2); (try clear q0 q1 q2 q3); obtain ⟨q0, q1, q2, q3⟩ := cr4 HBB.out; (replace HB := Lib.hid (HB.out.trans ((hb2).mono HB.out.size)); replace HV := Lib.hid (bs HV.out hb2); replace HRY := Lib.hid (bs HRY.out hb2); replace HSB := Lib.hid (bs HSB.out hb2); (try clear v0 v1 v2 v3 s0 s1 s2 s3 s4 s5 p0 p1); obtain ⟨v0, v1, v2, v3⟩ := cr4 HV.out; obtain ⟨s0, s1, s2, s3, s4, s5⟩ := cr6 HRY.out; obtain ⟨p0, p1⟩ := cr2 HSB.out)); clear hb2) | (go_at_call 11; refine (HSZ.out _).mono ?_; rintro e w9 ⟨rfl, hb2⟩; (replace HBB := Lib.hid (bs HBB.out hb2); (try clear q0 q1 q2 q3); obtain ⟨q0, q1, q2, q3⟩ := cr4 HBB.out; (replace HB := Lib.hid (HB.out.trans ((hb2).mono HB.out.size)); replace HV := Lib.hid (bs HV.out hb2); replace HRY := Lib.hid (bs HRY.out hb2); replace HSB := Lib.hid (bs HSB.out hb2); (try clear v0 v1 v2 v3 s0 s1 s2 s3 s4 s5 p0 p1); obtain ⟨v0, v1, v2, v3⟩ := cr4 HV.out; obtain ⟨s0, s1, s2, s3, s4, s5⟩ := cr6 HRY.out; obtain ⟨p0, p1⟩ := cr2 HSB.out)); clear hb2) | (go_at_call 5; refine (HKN.out _ HB.out).mono ?_; rintro e w9 ⟨rfl, hb2⟩; (replace HBB := Lib.hid (bs HBB.out hb2); (try clear q0 q1 q2 q3); obtain ⟨q0, q1, q2, q3⟩ := cr4 HBB.out; (replace HB := Lib.hid (HB.out.trans ((hb2).mono HB.out.size)); replace HV := Lib.hid (bs HV.out hb2); replace HRY := Lib.hid (bs HRY.out hb2); replace HSB := Lib.hid (bs HSB.out hb2); (try clear v0 v1 v2 v3 s0 s1 s2 s3 s4 s5 p0 p1); obtain ⟨v0, v1, v2, v3⟩ := cr4 HV.out; obtain ⟨s0, s1, s2, s3, s4, s5⟩ := cr6 HRY.out; obtain ⟨p0, p1⟩ := cr2 HSB.out)); clear hb2))
    (go_ret; exact ⟨rfl, HB.out⟩)
  by_cases b2 : hi < lo
  · clear hsp
    go_wp2_with (first | (go_at_call 7; refine (HVO.out _).mono ?_; rintro e w9 ⟨rfl, hb2⟩; (replace HBB := Lib.hid (bs HBB.out hb2); (try clear q0 q1 q2 q3); obtain ⟨q0, q1, q2, q3⟩ := cr4 HBB.out; (replace HB := Lib.hid (HB.out.trans ((hb2).mono HB.out.size)); replace HV := Lib.hid (bs HV.out hb2); replace HRY := Lib.hid (bs HRY.out hb2); replace HSB := Lib.hid (bs HSB.out hb2); (try clear v0 v1 v2 v3 s0 s1 s2 s3 s4 s5 p0 p1); obtain ⟨v0, v1, v2, v3⟩ := cr4 HV.out; obtain ⟨s0, s1, s2, s3, s4, s5⟩ := cr6 HRY.out; obtain ⟨p0, p1⟩ := cr2 HSB.out)); clear hb2) | (go_at_call 8; refine (HRA.out _).mono ?_; rintro e w9 ⟨rfl, hb2⟩; (replace HBB := Lib.hid (bs HBB.out hb2); (try clear q0 q1 q2 q3); obtain ⟨q0, q1, q2, q3⟩ := cr4 HBB.out; (replace HB := Lib.hid (HB.out.trans ((hb2).mono HB.out.size)); replace HV := Lib.hid (bs HV.out hb2); replace HRY := Lib.hid (bs HRY.out hb2); replace HSB := Lib.hid (bs HSB.out hb2); (try clear v0 v1 v2 v3 s0 s1 s2 s3 s4 s5 p0 p1); obtain ⟨v0, v1, v2, v3⟩ := cr4 HV.out; obtain ⟨s0, s1, s2, s3, s4, s5⟩ := cr6 HRY.out; obtain ⟨p0, p1⟩ := cr2 HSB.out)); clear hb2) | (go_at_call 9; refine (HGR.out _ HB.out).mono ?_; rintro e w9 ⟨rfl, hb2⟩; (replace HBB := Lib.hid (bs HBB.out hb2); (try clear q0 q1 q2 q3); obtain ⟨q0, q1, q2, q3⟩ := cr4 HBB.out; (replace HB := Lib.hid (HB.out.trans ((hb2).mono HB.out.size)); replace HV := Lib.hid (bs HV.out hb2); replace HRY := Lib.hid (bs HRY.out hb2); replace HSB := Lib.hid (bs HSB.out hb2); (try clear v0 v1 v2 v3 s0 s1 s2 s3 s4 s5 p0 p1); obtain ⟨v0, v1, v2, v3⟩ := cr4 HV.out; obtain ⟨s0, s1, s2, s3, s4, s5⟩ := cr6 HRY.out; obtain ⟨p0, p1⟩ := cr2 HSB.out)); clear hb2) | (go_at_call 11; refine (HSZ.out _).mono ?_; rintro e w9 ⟨rfl, hb2⟩; (replace HBB := Lib.hid (bs HBB.out hb2); (try clear q0 q1 q2 q3); obtain ⟨q0, q1, q2, q3⟩ := cr4 HBB.out; (replace HB := Lib.hid (HB.out.trans ((hb2).mono HB.out.size)); replace HV := Lib.hid (bs HV.out hb2); replace HRY := Lib.hid (bs HRY.out hb2); replace HSB := Lib.hid (bs HSB.out hb2); (try clear v0 v1 v2 v3 s0 s1 s2 s3 s4 s5 p0 p1); obtain ⟨v0, v1, v2, v3⟩ := cr4 HV.out; obtain ⟨s0, s1, s2, s3, s4, s5⟩ := cr6 HRY.out; obtain ⟨p0, p1⟩ := cr2 HSB.out)); clear hb2) | (go_at_call 5; refine (HKN.out _ HB.out).mono ?_; rintro e w9 ⟨rfl, hb2⟩; (replace HBB := Lib.hid (bs HBB.out hb2); (try clear q0 q1 q2 q3); obtain ⟨q0, q1, q2, q3⟩ := cr4 HBB.out; (replace HB := Lib.hid (HB.out.trans ((hb2).mono HB.out.size)); replace HV := Lib.hid (bs HV.out hb2); replace HRY := Lib.hid (bs HRY.out hb2); replace HSB := Lib.hid (bs HSB.out hb2); (try clear v0 v1 v2 v3 s0 s1 s2 s3 s4 s5 p0 p1); obtain ⟨v0, v1, v2, v3⟩ := cr4 HV.out; obtain ⟨s0, s1, s2, s3, s4, s5⟩ := cr6 HRY.out; obtain ⟨p0, p1⟩ := cr2 HSB.out)); clear hb2))
    (go_ret; exact ⟨rfl, HB.out⟩)
  have b3 : 1000000000000 < hi := by
    false_or_by_contra
    have : spanB ⟨lo, hi⟩ 1000000000000 = true := by
      unfold spanB
      rw [Bool.and_eq_true, inB_iff]
      simp only [decide_eq_true_eq]
      omega
    rw [hsp] at this
    cases this
  clear hsp
  go_wp2_with (first | (go_at_call 7; refine (HVO.out _).mono ?_; rintro e w9 ⟨rfl, hb2⟩; (replace HBB := Lib.hid (bs HBB.out hb2); (try clear q0 q1 q2 q3); obtain ⟨q0, q1, q2, q3⟩ := cr4 HBB.out; (replace HB := Lib.hid (HB.out.trans ((hb2).mono HB.out.size)); replace HV := Lib.hid (bs HV.out hb2); replace HRY := Lib.hid (bs HRY.out hb2); replace HSB := Lib.hid (bs HSB.out hb2); (try clear v0 v1 v2 v3 s0 s1 s2 s3 s4 s5 p0 p1); obtain ⟨v0, v1, v2, v3⟩ := cr4 HV.out; obtain ⟨s0, s1, s2, s3, s4, s5⟩ := cr6 HRY.out; obtain ⟨p0, p1⟩ := cr2 HSB.out)); clear hb2) | (go_at_call 8; refine (HRA.out _).mono ?_; rintro e w9 ⟨rfl, hb2⟩; (replace HBB := Lib.hid (bs HBB.out hb2); (try clear q0 q1 q2 q3); obtain ⟨q0, q1, q2, q3⟩ := cr4 HBB.out; (replace HB := Lib.hid (HB.out.trans ((hb2).mono HB.out.size)); replace HV := Lib.hid (bs HV.out hb2); replace HRY := Lib.hid (bs HRY.out hb2); replace HSB := Lib.hid (bs HSB.out hb2); (try clear v0 v1 v2 v3 s0 s1 s2 s3 s4 s5 p0 p1); obtain ⟨v0, v1, v2, v3⟩ := cr4 HV.out; obtain ⟨s0, s1, s2, s3, s4, s5⟩ := cr6 HRY.out; obtain ⟨p0, p1⟩ := cr2 HSB.out)); clear hb2) | (go_at_call 9; refine (HGR.out _ HB.out).mono ?_; rintro e w9 ⟨rfl, hb2⟩; (replace HBB := Lib.hid (bs HBB.out hb2); (try clear q0 q1 q2 q3); obtain ⟨q0, q1, q2, q3⟩ := cr4 HBB.out; (replace HB := Lib.hid (HB.out.trans ((hb2).mono HB.out.size)); replace HV := Lib.hid (bs HV.out hb2); replace HRY := Lib.hid (bs HRY.out hb2); replace HSB := Lib.hid (bs HSB.out hb2); (try clear v0 v1 v2 v3 s0 s1 s2 s3 s4 s5 p0 p1); obtain ⟨v0, v1, v2, v3⟩ := cr4 HV.out; obtain ⟨s0, s1, s2, s3, s4, s5⟩ := cr6 HRY.out; obtain ⟨p0, p1⟩ := cr2 HSB.out)); clear hb2) | (go_at_call 11; refine (HSZ.out _).mono ?_; rintro e w9 ⟨rfl, hb2⟩; (replace HBB := Lib.hid (bs HBB.out hb2); (try clear q0 q1 q2 q3); obtain ⟨q0, q1, q2, q3⟩ := cr4 HBB.out; (replace HB := Lib.hid (HB.out.trans ((hb2).mono HB.out.size)); replace HV := Lib.hid (bs HV.out hb2); replace HRY := Lib.hid (bs HRY.out hb2); replace HSB := Lib.hid (bs HSB.out hb2); (try clear v0 v1 v2 v3 s0 s1 s2 s3 s4 s5 p0 p1); obtain ⟨v0, v1, v2, v3⟩ := cr4 HV.out; obtain ⟨s0, s1, s2, s3, s4, s5⟩ := cr6 HRY.out; obtain ⟨p0, p1⟩ := cr2 HSB.out)); clear hb2) | (go_at_call 5; refine (HKN.out _ HB.out).mono ?_; rintro e w9 ⟨rfl, hb2⟩; (replace HBB := Lib.hid (bs HBB.out hb2); (try clear q0 q1 q2 q3); obtain ⟨q0, q1, q2, q3⟩ := cr4 HBB.out; (replace HB := Lib.hid (HB.out.trans ((hb2).mono HB.out.size)); replace HV := Lib.hid (bs HV.out hb2); replace HRY := Lib.hid (bs HRY.out hb2); replace HSB := Lib.hid (bs HSB.out hb2); (try clear v0 v1 v2 v3 s0 s1 s2 s3 s4 s5 p0 p1); obtain ⟨v0, v1, v2, v3⟩ := cr4 HV.out; obtain ⟨s0, s1, s2, s3, s4, s5⟩ := cr6 HRY.out; obtain ⟨p0, p1⟩ := cr2 HSB.out)); clear hb2))
  (go_ret; exact ⟨rfl, HB.out⟩)
end Go.Proofs.YtkdopjkdokgipaaGreatDoor
