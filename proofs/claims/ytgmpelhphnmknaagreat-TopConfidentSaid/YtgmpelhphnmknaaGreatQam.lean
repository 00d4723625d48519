/- Texts put together: RkJ, RegFull, RkK, RkL, SeA, OpenVo. -/
import Derived.Test.YtgmpelhphnmknaaGreatQal
import Derived.Test.YtgmpelhphnmknaaGreatQab
import Derived.Test.YtgmpelhphnmknaaGreatQad
import Derived.Test.YtgmpelhphnmknaaGreatQaa
set_option maxRecDepth 100000
set_option maxHeartbeats 8000000
set_option linter.unusedVariables false
set_option linter.unusedSimpArgs false
namespace Go.Proofs.YtgmpelhphnmknaaGreat
open Go.RowKit
def lenS : List PT → Int
 | [] => 0
 | p :: t => (p.hi - p.lo) + lenS t
def opS (d : Nat → Int) : List PT → Int
 | [] => 0
 | p :: t => (p.hi - p.lo) * d p.cell.toNat + opS d t
theorem lenS_append : ∀ (a b : List PT), lenS (a ++ b) = lenS a + lenS b
 | [], b => by simp [lenS]
 | p :: t, b => by rw [List.cons_append, lenS, lenS, lenS_append t b]; omega
theorem opS_append (d : Nat → Int) : ∀ (a b : List PT), opS d (a ++ b) = opS d a + opS d b
 | [], b => by simp [opS]
 | p :: t, b => by rw [List.cons_append, opS, opS, opS_append d t b]; omega
theorem cut_in (v : VO) (r : RY) (g : Nat → Int) (p : PT) (h : (cutF v r g p).lo < (cutF v r g p).hi) : p.lo ≤ (cutF v r g p).lo ∧ (cutF v r g p).hi ≤ p.hi := by
 unfold cutF at h ⊢
 split
 ·dsimp only; omega
 ·rename_i h1
  rw [if_neg h1] at h
  split
  ·dsimp only; omega
  ·rename_i h2
   rw [if_neg h2] at h
   split
   ·rename_i h3; rw [if_pos h3] at h; dsimp only at h; omega
   ·omega
theorem one_lenS (v : VO) (r : RY) (g : Nat → Int) (p q : Int) (hpq : p ≤ q) : lenS (oneF v r g p q) ≤ q - p := by
 unfold oneF
 split
 ·simp [lenS]; omega
 ·split
  ·rename_i h1 h2
   have := cut_in v r g _ h2
   dsimp only at this
   simp only [lenS]
   omega
  ·simp [lenS]; omega
theorem prN_lenS {v : VO} {r : RY} (hv : v.Ok) (hr : r.Ok) (g : Nat → Int) : ∀ k, (∀ j, j ≤ k → 0 ≤ atF v r j) → lenS (prN v r g (k + 1)) ≤ atF v r k
 | 0, _ => by simp [prN, lenS, atF]
 | k + 1, h => by
  have ih := prN_lenS hv hr g k (fun j hj => h j (by omega))
  have hup : atF v r k < atF v r (k + 1) := by
   rcases nxF_ok hv hr (atF_low hv hr k).1 with h2 | h2
   ·have := h (k + 1) (Nat.le_refl _); rw [atF, h2] at this; omega
   ·rw [atF]; omega
  have h1 := one_lenS v r g (atF v r k) (atF v r (k + 1)) (by omega)
  rw [prN, lenS_append]
  omega
theorem lenS_nn {N : Int} : ∀ (l : List PT), (∀ p ∈ l, PtOk N p) → 0 ≤ lenS l
 | [], _ => by simp [lenS]
 | p :: t, h => by
  have h1 := (h p (by simp)).2.1
  have h2 := lenS_nn t (fun q hq => h q (by simp [hq]))
  rw [lenS]; omega
theorem opS_bound {N : Int} {d : Nat → Int} (hd : ∀ c : Nat, (c : Int) < N → 0 ≤ d c ∧ d c ≤ 10000) : ∀ (l : List PT), (∀ p ∈ l, PtOk N p) → 0 ≤ opS d l ∧ opS d l ≤ 10000 * lenS l
 | [], _ => by simp [opS, lenS]
 | p :: t, h => by
  obtain ⟨⟨h1, h2⟩, h3, _⟩ := h p (by simp)
  have h4 := opS_bound hd t (fun q hq => h q (by simp [hq]))
  have h5 := hd p.cell.toNat (by omega)
  have h6 : 0 ≤ (p.hi - p.lo) * d p.cell.toNat := Int.mul_nonneg (by omega) (by omega)
  have h7 : (p.hi - p.lo) * d p.cell.toNat ≤ (p.hi - p.lo) * 10000 := Int.mul_le_mul_of_nonneg_left (by omega) (by omega)
  rw [opS, lenS]
  omega
theorem opd_any (db : Nat) (da : Option Addr) (dn dc : Nat) (d : Nat → Int) (c : Nat) (w : World) (hb : w.cell? ⟨db, 0, none⟩ = some (.slice da dn dc)) (hD : Ints w.heap.size w da dn d) (hc : c < dn) (hdn : dn ≤ maxLen) :
  Calls Tryz.prog 70 #[.int .i64 (c : Int), .pointer (some ⟨db, 0, none⟩)] w fun e w' => e = .returned (.int .i64 (d c)) ∧ w = w' := by
 obtain ⟨b, off, rfl, hl, h1⟩ := hD.get hc
 have hc' : (c : Int) < (dn : Int) := by omega
 unfold maxLen at hdn
 go_enter Tryz.func70, Tryz.ntmps70
 go_wp2
 go_ret
 exact ⟨rfl, rfl⟩
end Go.Proofs.YtgmpelhphnmknaaGreat
namespace Go.Proofs.YtgmpelhphnmknaaGreat
open Go Go.RowKit
section
variable {P : Program} {ops : Array Oper} {md : Region.Mode} {S : World → Prop} {Q : Exit → Act → World → Prop}
def endL (md : Region.Mode) (ops : Array Oper) (Q : Exit → Act → World → Prop) (listed : Array Bool) (a : Act) (w : World) : Prop := Region.ready md ops listed = [] ∧ Q .normal a w
theorem any_of_full {a : Act} {w : World} {listed : Array Bool} (f : Nat) (S : World → Prop) (hS : S w) (h : S w → headH P md ops Q S ops.size (endL md ops Q) f listed a w) : wpAny P md ops Q f listed a w := by
 have := any_of_headH (g := 0) (fun listed a' w' (hL : endL md ops Q listed a' w') => (show wpAny P md ops Q 0 listed a' w' from ⟨hL.1, hL.2⟩)) f listed a w (h hS)
 simpa using this
theorem headH_firstE {i : Nat} {oi : Oper} {v : Value} (hi : ops[i]? = some oi) (hsel : ∀ (j : Nat) (o : Oper) cs b, ops[j]? = some o → o.op ≠ .select cs b)
  (hQ : ∀ c a w, Q (.panic c) (a.put oi.dst v) w → Q (.panic c) a w) :
  ∀ (f : Nat) (listed : Array Bool) (a : Act) (w : World), HeadInv md ops ops.size listed →
   (∀ j oj, ops[j]? = some oj → j ≠ i → listed.getD j true = false → (∀ e ∈ oj.after, Region.binds md e = true → e.on ≠ i) → oi.apart ops oj = true) →
   i ∈ Region.ready md ops listed → YieldsIf P ops S oi v a → S w →
   headH P md ops Q S ops.size (endL md ops Q) f (listed.setIfInBounds i true) (a.put oi.dst v) w → headH P md ops Q S ops.size (endL md ops Q) (f + 1) listed a w := by
 have inside : ∀ (listed : Array Bool), ∀ j ∈ Region.ready md ops listed, j < ops.size := fun listed j hj => by
  obtain ⟨_, oj, hoj, _⟩ := mem_ready.1 hj
  exact (blkL hoj)
 have nonempty : ∀ (listed : Array Bool), i ∈ Region.ready md ops listed → Region.ready md ops listed ≠ [] := fun listed hr h => by rw [h] at hr; cases hr
 intro f
 induction f with
 | zero =>
  intro listed a w inv _ hr hy hS H
  refine ⟨nonempty _ hr, fun j hj => ⟨inside _ j hj, ?_⟩⟩
  by_cases hji : j = i
  ·subst hji; exact hy.wpOp hi hS ⟨hS, H⟩
  ·have h1 := ready_mono hj hji
   have h2 : Region.ready md ops (listed.setIfInBounds i true) = [] := H.1
   rw [h2] at h1
   cases h1
 | succ f ih =>
  intro listed a w inv hfree hr hy hS H
  refine ⟨nonempty _ hr, fun j hj => ?_⟩
  have hjn := inside _ j hj
  refine ⟨hjn, ?_⟩
  by_cases hji : j = i
  ·subst hji; exact hy.wpOp hi hS ⟨hS, H⟩
  ·obtain ⟨hjun, oj, hoj, hall⟩ := mem_ready.1 hj
   have hnot : ∀ e ∈ oj.after, Region.binds md e = true → e.on ≠ i := fun e he hb heq => by
    have h1 := hall e he hb
    rw [heq, getD_both (mem_ready.1 hr).1] at h1
    cases h1
   have h2 := wpOp_putIf hoj (hfree j oj hoj hji hjun hnot) (fun cs b => hsel i oi cs b hi) (fun cs b => hsel j oj cs b hoj) hQ hy (H.2 j (ready_mono hj hji)).2
   refine wpOp_mono (fun a' w' h3 => ⟨h3.2.1, ih (listed.setIfInBounds j true) a' w' (inv.set hj hjn) ?_ (ready_mono hr (Ne.symm hji)) h3.1 h3.2.1 ?_⟩) h2
   ·intro k ok hk hki hun hno
    refine hfree k ok hk hki ?_ hno
    by_cases hjk : j = k
    ·subst hjk; exact hjun
    ·rw [getD_set_ne true hjk] at hun; exact hun
   ·rw [Array.setIfInBounds_comm _ _ hji]
    exact h3.2.2
def TkE (md : Region.Mode) (ops : Array Oper) (listed : Array Bool) (i : Nat) : Bool := Region.noSelect ops && headInvB md ops ops.size listed && Region.free md ops listed i && (Region.ready md ops listed).contains i
theorem headH_takeE {i : Nat} {oi : Oper} {v : Value} {f : Nat} {listed : Array Bool} {a : Act} {w : World} (hi : ops[i]? = some oi)
  (hB : (Region.noSelect ops && headInvB md ops ops.size listed && Region.free md ops listed i && (Region.ready md ops listed).contains i) = true)
  (hQ : ∀ c a w, Q (.panic c) (a.put oi.dst v) w → Q (.panic c) a w) (hy : YieldsIf P ops S oi v a) (hS : S w)
  (h : headH P md ops Q S ops.size (endL md ops Q) f (listed.setIfInBounds i true) (a.put oi.dst v) w) : headH P md ops Q S ops.size (endL md ops Q) (f + 1) listed a w := by
 simp only [Bool.and_eq_true] at hB
 obtain ⟨⟨⟨h1, h6⟩, h7⟩, h8⟩ := hB
 exact headH_firstE hi (Region.noSelect_spec h1) hQ f listed a w (headInv_of h6) (Region.free_spec hi h7) (by simpa using h8) hy hS h
end
end Go.Proofs.YtgmpelhphnmknaaGreat
namespace Go.Proofs.YtgmpelhphnmknaaGreat
open Go.RowKit
theorem htkE_RkK {P : Program} {md : Region.Mode} {Q : Exit → Act → World → Prop} {S : World → Prop} {ops : Array Oper} {f : Nat} {listed : Array Bool} {a : Act} {w : World} {v : Value} {oi : Oper} {X : Prop} (i : Nat) (q : X) (hi : ops[i]? = some oi := by rfl) (hB : TkE md ops listed i = true := by kernel_rfl) (hQ : ∀ c a w, Q (.panic c) (a.put oi.dst v) w → Q (.panic c) a w := by exact fun _ _ _ h => h) (hy : YieldsIf P ops S oi v a := by (refine Or.inl ⟨by rfl, ?_⟩; intro w' hSw; (try dsimp only at hSw); obtain ⟨c0, c1, c2, c3, c4, c5, c6, c7, c8, c9, c10, c11, c12, c13⟩ := cr14 hSw; (try simp only [hng]); go_simp; (try with_reducible rfl))) (hS : S w := by assumption) (hx : X → headH P md ops Q S ops.size (endL md ops Q) f (listed.setIfInBounds i true) (a.put oi.dst v) w := by (intro qq; refine hnm ?_; exact qq)) : headH P md ops Q S ops.size (endL md ops Q) (f + 1) listed a w := headH_takeE hi hB hQ hy hS (hx q)
theorem opS_take (d : Nat → Int) (L : List PT) {i : Nat} (h : i < L.length) : opS d (L.take (i + 1)) = opS d (L.take i) + ((L.getD i pt0).hi - (L.getD i pt0).lo) * d (L.getD i pt0).cell.toNat := by
 rw [take_succ_getD L h, opS_append]
 simp [opS]
theorem lenS_take {N : Int} (L : List PT) (h : ∀ p ∈ L, PtOk N p) (i : Nat) : lenS (L.take i) ≤ lenS L := by
 have h1 := lenS_append (L.take i) (L.drop i)
 rw [List.take_append_drop] at h1
 have h2 := lenS_nn (L.drop i) (fun p hp => h p (List.mem_of_mem_drop hp))
 omega
theorem opacity_any (v : VO) (r : RY) (hv : v.Ok) (hr : r.Ok) (ga : Option Addr) (gn gc : Nat) (g : Nat → Int) (db : Nat) (da : Option Addr) (dn dc : Nat) (d : Nat → Int) (w : World)
  (hg3 : grB v gn g = true) (hG : Ints w.heap.size w ga gn g) (hb : w.cell? ⟨db, 0, none⟩ = some (.slice da dn dc)) (hD : Ints w.heap.size w da dn d) (hdb : db < w.heap.size)
  (hdn : (dn : Int) = v.nx * v.ny * v.nz) (hd : ∀ c : Nat, (c : Int) < v.nx * v.ny * v.nz → 0 ≤ d c ∧ d c ≤ 10000) :
  Calls Tryz.prog 68 #[wkVal v r, .slice ga gn gc, .func (.func 70) #[] #[.pointer (some ⟨db, 0, none⟩)]] w fun e w' => ∃ m, IsM v r m ∧ e = .returned (.int .i64 (opS d (prN v r g (m + 1)))) ∧ Below w.heap.size w w' := by
 have HVR := Hd (And.intro hv (And.intro hr hg3))
 have HG0 := Lib.hid hG
 have HDB := Hd (And.intro hb (And.intro hD (And.intro hdb (And.intro hdn hd))))
 clear hg3 hG hb hD hdb hdn hd hv hr
 unfold wkVal
 go_enter Tryz.func68, Tryz.ntmps68
 go_upto_region 2 with (fail)
 have hb8 := rk_below w (.cells #[.int .i64 v.nx, .int .i64 v.ny, .int .i64 v.nz, .int .i64 v.size, .int .i64 r.x, .int .i64 r.dx, .int .i64 v.nx, .int .i64 r.y, .int .i64 r.dy, .int .i64 v.ny, .int .i64 r.z, .int .i64 r.dz, .int .i64 v.nz, .int .i64 (tkF r : Int)] 150)
 have HQ := Hd (show WkAt v r w.heap.size (w.alloc (.cells #[.int .i64 v.nx, .int .i64 v.ny, .int .i64 v.nz, .int .i64 v.size, .int .i64 r.x, .int .i64 r.dx, .int .i64 v.nx, .int .i64 r.y, .int .i64 r.dy, .int .i64 v.ny, .int .i64 r.z, .int .i64 r.dz, .int .i64 v.nz, .int .i64 (tkF r : Int)] 150)) from heap_alloc_new w _)
 have HB := Lib.hid hb8
 clear hb8
 generalize World.alloc w _ = V3 at *
 generalize hq8 : w.heap.size = q8 at *
 refine wp_region_any (by kernel_rfl) ?_
 change wpAny _ _ _ _ _ _ _ (World.drew V3)
 have HB1 := Hd (show Below q8 w V3.drew from HB.out.drew)
 have HQ1 := Hd (show WkAt v r q8 V3.drew from HQ.out)
 clear HB HQ
 have HB := HB1
 have HQ := HQ1
 clear HB1 HQ1
 generalize World.drew V3 = Vd at *
 refine any_of_full 8 (fun w' => WkAt v r q8 w') HQ.out (fun hS => ?_)
 refine htkE_RkK 0 ?_
 refine htkE_RkK 1 ?_
 refine htkE_RkK 2 ?_
 refine htkE_RkK 7 ?_
 refine headH_one 3 ?_
 refine headH_op rfl (fun K hK => ?_); (try simp only [hng]); go_simp
 refine (under_any v r ga gn gc Vd).mono ?_
 rintro e W5 ⟨rfl, hw5, hg5, hb5⟩
 dsimp only
 have HQ5 := Hd (HQ.out.step hb5)
 have HB5 := Hd (HB.out.trans (hb5.mono (by have := HB.out.size; omega)))
 have HW5 := Lib.hid hw5
 have HGA := Hd (show GrAt v g gn (Vd.heap.size + 1) W5 from ⟨(gr_iff.1 HVR.out.2.2).2, gr_ok HVR.out.1 HVR.out.2.2, ga, gc, hg5, ((HG0.out).below (hq8 ▸ HB5.out)).up (by have := HB5.out.size; omega)⟩)
 refine hK.out _ _ HQ5.out (fun hS => ?_)
 clear hK K hb5 hw5 hg5
 refine hnm ?_
 refine headH_one 4 ?_
 refine headH_op rfl (fun K hK => ?_); (try simp only [hng]); go_simp
 have hb6 := rk_below W5 (.cells #[.func (.func 136) #[] #[.pointer (some ⟨Vd.heap.size + 1, 0, none⟩), .pointer (some ⟨Vd.heap.size, 0, none⟩)]] 186)
 have hn6 := heap_alloc_new W5 (.cells #[.func (.func 136) #[] #[.pointer (some ⟨Vd.heap.size + 1, 0, none⟩), .pointer (some ⟨Vd.heap.size, 0, none⟩)]] 186)
 have HC6 := Hd (cell_of_row _ _ 0 _ _ _ hn6)
 have hl6 := (blkL hn6)
 have HQ6 := Hd (HQ5.out.step hb6)
 have HW6 := Hd (HW5.out.step hb6)
 have HG6 := Hd (HGA.out.step hb6)
 have HB6 := Hd (HB5.out.trans (hb6.mono (by have := HB5.out.size; omega)))
 refine hK.out _ _ HQ6.out (fun hS => ?_)
 clear hK K hb6 hn6
 refine hnm ?_
 generalize World.alloc W5 _ = W6 at *
 refine headH_one 5 ?_
 refine headH_op rfl (fun K hK => ?_); (try simp only [hng]); go_simp
 have hparts := rkparts_any v r HVR.out.1 HVR.out.2.1 g gn (Vd.heap.size + 1) Vd.heap.size W5.heap.size 1 W6 HW6.out HG6.out HC6.out hl6
 unfold wkVal at hparts
 refine hparts.mono ?_
 rintro e W7 ⟨m, pa, pc, hM, rfl, hown7, hb7⟩
 dsimp only
 have HQ7 := Hd (HQ6.out.step hb7)
 have HB7 := Hd (HB6.out.trans (hb7.mono (by have := HB6.out.size; omega)))
 have HM := Lib.hid hM
 have HP7 := Hd (prow_of hown7)
 refine hK.out _ _ HQ7.out (fun hS => ?_)
 clear hK K hparts hown7 hb7
 have HN := Hd (prN_ok HVR.out.1 HVR.out.2.1 (gr_mod HVR.out.1 HVR.out.2.2) (m + 1))
 have hl := prN_many HVR.out.1 HVR.out.2.1 (g := g) hM
 have HLS := Hd (Int.le_trans (prN_lenS HVR.out.1 HVR.out.2.1 g m hM.1) (atF_low HVR.out.1 HVR.out.2.1 m).2)
 clear hM
 generalize hLL : prN v r g (m + 1) = L at *
 obtain ⟨n, hn⟩ : ∃ n, L.length = n := ⟨_, rfl⟩
 have HLN := Lib.hid hn
 have HLL := Lib.hid hLL
 rw [hn] at hl ⊢
 clear hn hLL
 refine hnm ?_
 refine headH_one 6 ?_
 refine headH_op rfl (fun K hK => ?_); (try simp only [hng]); go_simp
 refine hK.out _ _ HQ7.out (fun hS => ?_)
 clear hK K
 refine hnm ?_
 change endL _ _ _ _ _ _
 refine ⟨by kernel_rfl, ?_⟩
 clear HQ HQ5 HQ6 HQ7 HW5 HW6 HG6 HGA HC6 HB HB5 HB6 hl6
 go_wp2
 go_loopw [7, 17] (fun s7 s17 wr => ∃ i : Nat, i ≤ n ∧ s7 = .int .i64 (opS d (L.take i)) ∧ s17 = .int .i64 (i : Int) ∧ Hid (Below W7.heap.size W7 wr)) (fun _ s17 _ => n - (intOf s17).toNat)
 case atStart => exact ⟨0, Nat.zero_le _, by simp [opS], rfl, Hd (Below.refl _ _)⟩
 case round =>
  obtain ⟨i, hi, rfl, rfl, HBW⟩ := hrel
  clear hS
  have HPW := Hd (HP7.out.step HBW.out)
  have hw7 := HB7.out.size
  by_cases hlt : i < n
  ·have hlt' : (i : Int) < (n : Int) := by omega
   rcases HPW.out with h | ⟨b, rfl, hbz, hcs⟩
   ·have := HLN.out; omega
   obtain ⟨d0, d1, d2⟩ := hcs i (by have := HLN.out; omega)
   have HTK := Hd (opS_take d L (i := i) (by have := HLN.out; omega))
   have hmem : L.getD i pt0 ∈ L := by
    rw [List.getD_eq_getElem?_getD, List.getElem?_eq_getElem (by have := HLN.out; omega)]
    exact List.getElem_mem _
   obtain ⟨⟨hk1, hk2⟩, hk3, hk4, hk5⟩ := HN.out (L.getD i pt0) hmem
   have hob := opS_bound HDB.out.2.2.2.2 (L.take i) (fun p hp => HN.out p (List.mem_of_mem_take hp))
   have hol := lenS_take L HN.out i
   have hol2 := HLS.out
   have HOD := Hd (fun (W : World) (hbl : Below q8 w W) => opd_any db da dn dc d (L.getD i pt0).cell.toNat W ((hbl.cell (p := ⟨db, 0, none⟩) HDB.out.2.2.1).trans HDB.out.1) ((HDB.out.2.1.below hbl).up (by have := hbl.size; have := hq8; omega)) (by have := HDB.out.2.2.2.1; omega) (by have := HDB.out.2.2.2.1; have := HVR.out.1.cells; unfold maxLen; omega))
   obtain ⟨he1, he2⟩ := HDB.out.2.2.2.2 (L.getD i pt0).cell.toNat (by omega)
   have h6 : 0 ≤ ((L.getD i pt0).hi - (L.getD i pt0).lo) * d (L.getD i pt0).cell.toNat := Int.mul_nonneg (by omega) (by omega)
   have h7 : ((L.getD i pt0).hi - (L.getD i pt0).lo) * d (L.getD i pt0).cell.toNat ≤ ((L.getD i pt0).hi - (L.getD i pt0).lo) * 10000 := Int.mul_le_mul_of_nonneg_left (by omega) (by omega)
   generalize L.getD i pt0 = p at *
   obtain ⟨pcell, plo, phi⟩ := p
   dsimp only at d0 d1 d2 hk1 hk2 hk3 hk4 hk5 h6 h7 he1 he2 HTK HOD
   rw [Int.toNat_of_nonneg hk1] at HOD
   generalize d pcell.toNat = dv at *
   generalize hpr : (phi - plo) * dv = pr at *
   generalize hac : opS d (L.take i) = acc at *
   obtain ⟨ho1, ho2⟩ := hob
   have ho3 : acc ≤ 432000000000000 := by omega
   clear hcs hol hol2 ho2 hmem HPW hac he1 he2
   go_upto_region 5 with (fail)
   have hb1 := rk_below wr (.cells #[.int .i64 pcell, .int .i64 plo, .int .i64 phi] 209)
   have hn1 := heap_alloc_new wr (.cells #[.int .i64 pcell, .int .i64 plo, .int .i64 phi] 209)
   have HB0 := Hd (HBW.out.trans (hb1.mono HBW.out.size))
   have HB1 := Hd (HB7.out.trans (HB0.out.mono (by omega)))
   obtain ⟨p0, p1, p2⟩ := cr3 hn1
   have hl1 := (blkL hn1)
   clear hb1 hn1 HBW d0 d1 d2
   generalize World.alloc wr _ = W2 at *
   (refine wp_region_calm (W2.heap.size) (by kernel_rfl) (by kernel_rfl) ?_; (repeat (first | go_big_quiet_step ((go_at_call 70; exact Calls.calm_same (HOD.out _ (HB1.out.trans ((Calm.below _).mono (by have := HB1.out.size; have := hq8; omega)))))) | quiet_step ((go_at_call 70; exact Calls.calm_same (HOD.out _ (HB1.out.trans ((Calm.below _).mono (by have := HB1.out.size; have := hq8; omega)))))))); refine wpQuiet_nil (wqn ?_); intro xq)
   go_wp2
   have HF := Hd (HB0.out.trans ((Calm.below xq).mono (by have := HB0.out.size; omega)))
   go_roundw
   case rel => exact ⟨i + 1, by omega, by rw [HTK.out], by go_num, HF⟩
   case measure => simp [intOf]; omega
  ·obtain rfl : i = n := by omega
   have hlt' : ¬ (i : Int) < (i : Int) := by omega
   have HFI := Hd (show opS d (L.take i) = opS d (prN v r g (m + 1)) from by rw [HLL.out, List.take_of_length_le (by have := HLN.out; omega)])
   rw [HFI.out]
   have HE := Hd (HB7.out.trans (HBW.out.mono (by have := HB7.out.size; have := hq8; omega)))
   go_wp2
   go_ret
   exact ⟨m, HM.out, rfl, HE.out⟩
def denB (n : Nat) (d : Nat → Int) : Bool := allUpto n fun i => inB (d i) 0 10000
theorem denB_iff {n : Nat} {d : Nat → Int} : denB n d = true ↔ ∀ i, i < n → 0 ≤ d i ∧ d i ≤ 10000 := by
 unfold denB
 rw [allUpto_iff]
 exact ⟨fun h i hi => inB_iff.1 (h i hi), fun h i hi => inB_iff.2 (h i hi)⟩
end Go.Proofs.YtgmpelhphnmknaaGreat
namespace Go.Proofs.YtgmpelhphnmknaaGreat
open Go.RowKit
theorem Opacity_ok (v : VO) (r : RY) (ga : Option Addr) (gn gc : Nat) (g : Nat → Int) (da : Option Addr) (dn dc : Nat) (d : Nat → Int) (w : World) (hgn : gn ≤ maxLen) (hG : Ints w.heap.size w ga gn g) (hD : Ints w.heap.size w da dn d)
  (hok : rkOk v r gn g = true) (hdn : (dn : Int) = v.nx * v.ny * v.nz) (hd : denB dn d = true) :
  Calls Tryz.prog 30 #[v.val, .slice ga gn gc, .slice da dn dc, r.val] w fun e w' => ∃ m, IsM v r m ∧ e = .returned (.tuple #[.int .i64 (opS d (prN v r g (m + 1))), .int .i64 0]) ∧ Below w.heap.size w w' := by
 have HVO := Hd (fun (W : World) => volume_any v W)
 have HRY := Hd (fun (W : World) => ray_any r W)
 unfold rkOk at hok
 rw [Bool.and_eq_true, Bool.and_eq_true] at hok
 obtain ⟨⟨h1, h2⟩, h3⟩ := hok
 have hv := volB_iff.1 h1
 have hr := rayB_iff.1 h2
 have HGR := Hd (fun (W : World) (hb : Below w.heap.size w W) => grounded_any v hv ga gn gc g W hgn ((hG.below hb).up hb.size))
 have HTH := Hd (fun (W : World) => through_any v r W hr)
 have HVR := Hd (And.intro hv (And.intro hr h3))
 have HG0 := Lib.hid hG
 have HD0 := Lib.hid hD
 have HDD := Hd (And.intro hdn (denB_iff.1 hd))
 have hm1 := rk_mul_abs (x := v.nx) (y := v.ny) (K := 12) (M := 12) (by decide) (by decide) (by have := hv.x; omega) (by have := hv.y; omega)
 have hdl := hv.cells
 rw [h1] at HVO
 rw [h2] at HRY
 rw [h3] at HGR
 have HOP := Hd (fun (W : World) (db : Nat) (hb : Below w.heap.size w W) (hc : W.cell? ⟨db, 0, none⟩ = some (.slice da dn dc)) (hl : db < W.heap.size) => opacity_any v r hv hr ga gn gc g db da dn dc d W h3 ((hG.below hb).up hb.size) hc ((hD.below hb).up hb.size) hl hdn (fun c hc => denB_iff.1 hd c (by omega)))
 unfold wkVal at HTH HOP
 unfold VO.val at HVO HGR HTH
 unfold RY.val at HRY HTH
 unfold VO.val RY.val
 generalize hxyz : v.nx * v.ny * v.nz = xyz at *
 generalize hxy : v.nx * v.ny = xy at *
 clear hG hD h1 h2 h3 hv hr hd
 go_enter Tryz.func30, Tryz.ntmps30
 go_upto_region 1 with (fail)
 (obtain ⟨hVb, e1, e2, e3⟩ := rk_three w (.cells #[.int .i64 v.nx, .int .i64 v.ny, .int .i64 v.nz, .int .i64 v.size] 23) (.cells #[.slice da dn dc] 24) (.cells #[.int .i64 r.x, .int .i64 r.y, .int .i64 r.z, .int .i64 r.dx, .int .i64 r.dy, .int .i64 r.dz] 33))
 have HB := Lib.hid hVb
 have HV := Lib.hid e1
 have HD := Lib.hid e2
 have HR := Lib.hid e3
 clear hVb e1 e2 e3
 generalize World.alloc (World.alloc (World.alloc w _) _) _ = V at *
 (try clear v0 v1 v2 v3 d0 s0 s1 s2 s3 s4 s5); obtain ⟨v0, v1, v2, v3⟩ := cr4 HV.out; have d0 := cell_of_row _ _ 0 _ _ _ HD.out; obtain ⟨s0, s1, s2, s3, s4, s5⟩ := cr6 HR.out
 go_upto_region 4 with (first | (go_at_call 64; refine (HVO.out _).mono ?_; rintro e w2 ⟨rfl, hb2⟩; (replace HB := Hd (HB.out.trans ((hb2).mono HB.out.size)); replace HV := Hd (blkS HV.out hb2); replace HD := Hd (blkS HD.out hb2); replace HR := Hd (blkS HR.out hb2); clear hb2; (try clear v0 v1 v2 v3 d0 s0 s1 s2 s3 s4 s5); obtain ⟨v0, v1, v2, v3⟩ := cr4 HV.out; have d0 := cell_of_row _ _ 0 _ _ _ HD.out; obtain ⟨s0, s1, s2, s3, s4, s5⟩ := cr6 HR.out)) | (go_at_call 65; refine (HRY.out _).mono ?_; rintro e w2 ⟨rfl, hb2⟩; (replace HB := Hd (HB.out.trans ((hb2).mono HB.out.size)); replace HV := Hd (blkS HV.out hb2); replace HD := Hd (blkS HD.out hb2); replace HR := Hd (blkS HR.out hb2); clear hb2; (try clear v0 v1 v2 v3 d0 s0 s1 s2 s3 s4 s5); obtain ⟨v0, v1, v2, v3⟩ := cr4 HV.out; have d0 := cell_of_row _ _ 0 _ _ _ HD.out; obtain ⟨s0, s1, s2, s3, s4, s5⟩ := cr6 HR.out)) | (go_at_call 66; refine (HGR.out _ HB.out).mono ?_; rintro e w2 ⟨rfl, hb2⟩; (replace HB := Hd (HB.out.trans ((hb2).mono HB.out.size)); replace HV := Hd (blkS HV.out hb2); replace HD := Hd (blkS HD.out hb2); replace HR := Hd (blkS HR.out hb2); clear hb2; (try clear v0 v1 v2 v3 d0 s0 s1 s2 s3 s4 s5); obtain ⟨v0, v1, v2, v3⟩ := cr4 HV.out; have d0 := cell_of_row _ _ 0 _ _ _ HD.out; obtain ⟨s0, s1, s2, s3, s4, s5⟩ := cr6 HR.out)))
 rename World => V4
 go_loopw [41] (fun s wr => ∃ i : Nat, i ≤ dn ∧ s = .int .i64 (i : Int) ∧ wr = V4) (fun s _ => dn - (intOf s).toNat)
 case atStart => exact ⟨0, Nat.zero_le _, rfl, rfl⟩
 case round =>
  obtain ⟨i, hi, rfl, rfl⟩ := hrel
  have hdz := HDD.out.1
  by_cases hlt : i < dn
  ·have hlt' : (i : Int) < (dn : Int) := by omega
   obtain ⟨gb, go, rfl, hgl, hgc⟩ := HD0.out.get hlt
   have hg1 := ((bcell HB.out).1 gb (go + i) hgl).trans hgc
   have hin := inB_iff.2 (HDD.out.2 i hlt)
   clear hgc
   go_wp2_with (go_at_call 67; refine (rkin_any _ _ _ _).mono ?_; rintro e w' ⟨rfl, rfl⟩; rw [hin])
   go_roundw
   case rel => exact ⟨i + 1, by omega, by go_num, trivial⟩
   case measure => simp [intOf]; omega
  ·obtain rfl : i = dn := by omega
   have hlt' : ¬ (i : Int) < (i : Int) := by omega
   have hdlt := (blkL HD.out)
   go_wp2_with (first | (go_at_call 69; refine (HTH.out _).mono ?_; rintro e w2 ⟨rfl, hb2⟩; (replace HB := Hd (HB.out.trans ((hb2).mono HB.out.size)); replace HV := Hd (blkS HV.out hb2); replace HD := Hd (blkS HD.out hb2); replace HR := Hd (blkS HR.out hb2); clear hb2; (try clear v0 v1 v2 v3 d0 s0 s1 s2 s3 s4 s5); obtain ⟨v0, v1, v2, v3⟩ := cr4 HV.out; have d0 := cell_of_row _ _ 0 _ _ _ HD.out; obtain ⟨s0, s1, s2, s3, s4, s5⟩ := cr6 HR.out)) | (go_at_call 68; refine (HOP.out _ _ HB.out d0 (blkL HD.out)).mono ?_; rintro e w9 ⟨m, hM, rfl, hb9⟩; have HM := Lib.hid hM; have HB9 := Hd (HB.out.trans (hb9.mono HB.out.size)); clear hM hb9))
   refine bodyPost_ret (results_tmp2 (t := 8) (u := 9) rfl _ _ _) rfl ?_
   exact ⟨_, HM.out, rfl, HB9.out⟩
end Go.Proofs.YtgmpelhphnmknaaGreat
namespace Go.Proofs.YtgmpelhphnmknaaGreat
open Go.RowKit Go.Shelf
def Rays (B : Nat) (w : World) (a : Option Addr) (n : Nat) (rs : Nat → RY) : Prop :=
 n ≤ maxLen ∧ (n = 0 ∨ ∃ b off, a = some ⟨b, off, none⟩ ∧ b < B ∧ ∀ i, i < n → w.cell? ⟨b, off + i * 6, none⟩ = some (.int .i64 (rs i).x) ∧ w.cell? ⟨b, off + i * 6 + 1, none⟩ = some (.int .i64 (rs i).y) ∧ w.cell? ⟨b, off + i * 6 + 2, none⟩ = some (.int .i64 (rs i).z) ∧ w.cell? ⟨b, off + i * 6 + 3, none⟩ = some (.int .i64 (rs i).dx) ∧ w.cell? ⟨b, off + i * 6 + 4, none⟩ = some (.int .i64 (rs i).dy) ∧ w.cell? ⟨b, off + i * 6 + 5, none⟩ = some (.int .i64 (rs i).dz))
theorem Rays.below {B : Nat} {w w' : World} {a : Option Addr} {n : Nat} {rs : Nat → RY} (h : Rays B w a n rs) (hb : Below B w w') : Rays B w' a n rs := by
 refine ⟨h.1, ?_⟩
 rcases h.2 with h | ⟨b, off, ha, hB, hc⟩
 ·exact .inl h
 ·have c := (bcell hb).1
  exact .inr ⟨b, off, ha, hB, fun i hi => by
   obtain ⟨h0, h1, h2, h3, h4, h5⟩ := hc i hi
   exact ⟨(c _ _ hB).trans h0, (c _ _ hB).trans h1, (c _ _ hB).trans h2, (c _ _ hB).trans h3, (c _ _ hB).trans h4, (c _ _ hB).trans h5⟩⟩
def chS (d : Nat → Int) : List CH → Int
 | [] => 0
 | x :: t => x.2 * d x.1.toNat + chS d t
theorem chS_append (d : Nat → Int) : ∀ (a b : List CH), chS d (a ++ b) = chS d a + chS d b
 | [], b => by simp [chS]
 | p :: t, b => by rw [List.cons_append, chS, chS, chS_append d t b]; omega
theorem chS_perm (d : Nat → Int) {a b : List CH} (h : a.Perm b) : chS d a = chS d b := by
 induction h with
 | nil => rfl
 | cons x _ ih => rw [chS, chS, ih]
 | swap x y l => simp only [chS]; omega
 | trans _ _ ih1 ih2 => exact ih1.trans ih2
theorem chS_chs (d : Nat → Int) : ∀ (L : List PT), chS d (chs L) = opS d L
 | [] => rfl
 | p :: t => by
  have := chS_chs d t
  show (p.hi - p.lo) * d p.cell.toNat + chS d (chs t) = _
  rw [this, opS]
theorem sumN_take (d : Nat → Int) (S : List CH) : ∀ i, i ≤ S.length → sumN (fun k => (S.getD k ch0).2 * d (S.getD k ch0).1.toNat) i = chS d (S.take i)
 | 0, _ => by simp [sumN, chS]
 | i + 1, h => by
  rw [sumN, sumN_take d S i (by omega), ch_take S (by omega), chS_append]
  simp [chS]
def bmS (ca : Option Addr) (cc : Nat) (wa : Option Addr) (wc : Nat) (lo hi : Int) (S : List CH) : BM := ⟨ca, S.length, cc, wa, S.length, wc, lo, hi, fun k => (S.getD k ch0).1, fun k => (S.getD k ch0).2⟩
theorem ofN_bmS {ca : Option Addr} {cc : Nat} {wa : Option Addr} {wc : Nat} {lo hi : Int} {S : List CH} {L : List PT} (h : S.Perm (chs L)) (d : Nat → Int) : ofN (bmS ca cc wa wc lo hi S) d = opS d L := by
 show sumN (fun k => (S.getD k ch0).2 * d (S.getD k ch0).1.toNat) S.length = _
 rw [sumN_take d S _ (Nat.le_refl _), List.take_of_length_le (Nat.le_refl _), chS_perm d h, chS_chs]
def se0 : BM := ⟨none, 0, 0, none, 0, 0, 0, 0, fun _ => 0, fun _ => 0⟩
def seC1 (p : BM) : List Value := [.slice p.ca p.cn p.cc, .slice p.wa p.wn p.wc, .int .i64 p.lo, .int .i64 p.hi]
def seC : List BM → List Value
 | [] => []
 | x :: t => seC1 x ++ seC t
theorem seC_append : ∀ (a b : List BM), seC (a ++ b) = seC a ++ seC b
 | [], b => rfl
 | h :: t, b => by rw [List.cons_append, seC, seC, seC_append t b, List.append_assoc]
theorem seC_one (x : BM) : seC [x] = seC1 x := by simp [seC]
theorem seC_get : ∀ (l : List BM) (i r : Nat) (z : BM), i < l.length → r < 4 → (seC l)[i * 4 + r]? = (seC1 (l.getD i z))[r]?
 | [], i, r, z, h, _ => by simp at h
 | h :: t, 0, r, z, _, hr => by
  rw [seC, List.getElem?_append_left (by simp [seC1]; omega)]
  simp
 | h :: t, i + 1, r, z, hi, hr => by
  have e : (i + 1) * 4 + r - 4 = i * 4 + r := by omega
  rw [seC, List.getElem?_append_right (by simp [seC1]; omega)]
  have : (seC1 h).length = 4 := rfl
  rw [this, e, seC_get t i r z (by simpa using hi) hr]
  simp
theorem se_info : (Tryz.prog.info? 62).map (fun i => (i.zero, i.size, i.bytes)) = some (some (.agg #[.slice none 0 0, .slice none 0 0, .int .i64 0, .int .i64 0]), 4, 64) := by kernel_rfl
theorem se_one {p : BM} : ∀ u ∈ seC1 p, u.oneCell' = true := by
 intro u hu
 simp [seC1] at hu
 rcases hu with rfl | rfl | rfl | rfl <;> rfl
def SeBm (base : Nat) (W : World) (p : BM) : Prop := ∃ (S : List CH) (ca : Option Addr) (cc : Nat) (wa : Option Addr) (wc : Nat) (lo hi : Int), p = bmS ca cc wa wc lo hi S ∧ S.length ≤ maxLen ∧ W.ownsRow base 3 1 (.slice ca S.length cc) S.length (clC S) ∧ W.ownsRow base 3 1 (.slice wa S.length wc) S.length (wtC S)
structure SnT (mb : Nat) (w : World) (sa : Option Addr) (n sc : Nat) (L : List BM) (W : World) : Prop where
 bel : Below mb w W
 row : ∃ oa oc, W.heap[mb]? = some (.cells #[.slice sa n sc, .slice oa L.length oc] 59) ∧ W.ownsRow (mb + 1) 62 4 (.slice oa L.length oc) L.length (seC L)
 mem : ∀ p ∈ L, SeBm (mb + 1) W p
theorem SeBm.below {base : Nat} {W W' : World} {p : BM} (h : SeBm base W p) (hb : Below W.heap.size W W') : SeBm base W' p := by
 obtain ⟨S, ca, cc, wa, wc, lo, hi, h1, h0, h2, h3⟩ := h
 exact ⟨S, ca, cc, wa, wc, lo, hi, h1, h0, own_below h2 hb, own_below h3 hb⟩
theorem SnT.step {mb : Nat} {w : World} {sa : Option Addr} {n sc : Nat} {L : List BM} {W W' : World} (h : SnT mb w sa n sc L W) (hb : Below W.heap.size W W') : SnT mb w sa n sc L W' := by
 obtain ⟨oa, oc, h1, h2⟩ := h.row
 have hl := (blkL h1)
 exact ⟨h.bel.trans (hb.mono (by omega)), ⟨oa, oc, (hb.block mb hl).trans h1, own_below h2 hb⟩, fun p hp => (h.mem p hp).below hb⟩
theorem SnT.push {mb : Nat} {w : World} {sa : Option Addr} {n sc : Nat} {L : List BM} {W W1 : World} {p : BM} {oa : Option Addr} {oc : Nat} {o : Obj} {g cp : Nat} (h : SnT mb w sa n sc L W) (hp : SeBm (mb + 1) W p)
  (hbox : W.heap[mb]? = some (.cells #[.slice sa n sc, .slice oa L.length oc] 59)) (hown : W.ownsRow (mb + 1) 62 4 (.slice oa L.length oc) L.length (seC L))
  (hg : (W.alloc o).grownBy W1 (Value.slice oa L.length oc).ownBlock) (ho : W1.ownsRow (mb + 1) 62 4 (.slice (some ⟨g, 0, none⟩) (L.length + 1) cp) (L.length + 1) (seC L ++ seC1 p)) :
  SnT mb w sa n sc (L ++ [p]) (W1.setCell ⟨mb, 1, none⟩ (.slice (some ⟨g, 0, none⟩) (L.length + 1) cp)) := by
 have hl := (blkL hbox)
 have hne : (Value.slice oa L.length oc).ownBlock ≠ some mb := fun e => by have := own_block_le hown e; omega
 have hza : (W.alloc o).heap.size = W.heap.size + 1 := by simp
 have hz1 := hg.size
 have hb1 : W1.heap[mb]? = some (.cells #[.slice sa n sc, .slice oa L.length oc] 59) := (hg.block mb (by omega) (Ne.symm hne)).trans ((Below.heap_alloc W o mb hl).trans hbox)
 have hb2 := heap_setCell_same W1 mb 1 _ _ (.slice (some ⟨g, 0, none⟩) (L.length + 1) cp) hb1
 have far : ∀ b, b ≠ mb → (W1.setCell ⟨mb, 1, none⟩ (.slice (some ⟨g, 0, none⟩) (L.length + 1) cp)).heap[b]? = W1.heap[b]? := fun b hb => heap_setCell_other W1 ⟨mb, 1, none⟩ b _ hb
 have hrow : ∀ (v : Value) (k : Nat) (xs : List Value), W.ownsRow (mb + 1) 3 1 v k xs → (W1.setCell ⟨mb, 1, none⟩ (.slice (some ⟨g, 0, none⟩) (L.length + 1) cp)).ownsRow (mb + 1) 3 1 v k xs := fun v k xs hv => by
  have e1 := (hv.alloc o).kept hg (own_ne (hv.alloc o) (hown.alloc o) (by decide))
  exact own_keep e1 (fun b hb => far b (by have := own_block_le e1 hb; omega))
 have hlen : (L ++ [p]).length = L.length + 1 := by simp
 refine ⟨?_, ⟨some ⟨g, 0, none⟩, cp, ?_, ?_⟩, fun q hq => ?_⟩
 ·have e1 : Below mb w (W.alloc o) := h.bel.alloc (by omega) o
  have e2 : Below mb w W1 := e1.grown hg (by omega) (fun b hb => by have := own_block_le hown hb; omega)
  exact e2.setCell (p := ⟨mb, 1, none⟩) (Nat.le_refl _) _
 ·rw [hlen]; exact hb2
 ·rw [hlen, seC_append, seC_one]
  exact own_keep ho (fun b hb => far b (by have := own_block_le ho hb; omega))
 ·rw [List.mem_append, List.mem_singleton] at hq
  have hq2 : SeBm (mb + 1) W q := by
   rcases hq with hq | rfl
   ·exact h.mem q hq
   ·exact hp
  obtain ⟨S, ca, cc, wa, wc, lo, hi, h1, h0, h2, h3⟩ := hq2
  exact ⟨S, ca, cc, wa, wc, lo, hi, h1, h0, hrow _ _ _ h2, hrow _ _ _ h3⟩
theorem own_cl {W : World} {base : Nat} {a : Option Addr} {c : Nat} {S : List CH} (h : W.ownsRow base 3 1 (.slice a S.length c) S.length (clC S)) : Ints W.heap.size W a S.length (fun k => (S.getD k ch0).1) := by
 by_cases hl : S.length = 0
 ·exact .inl hl
 ·obtain ⟨b, rfl, h1, h2⟩ := own_at h (by omega)
  refine .inr ⟨b, 0, rfl, h2, fun i hi => ?_⟩
  have := h.cellAt i (by omega)
  rw [Nat.zero_add, this]
  dsimp only
  rw [List.getD_eq_getElem?_getD]
  simp [clC, hi]
theorem own_wt {W : World} {base : Nat} {a : Option Addr} {c : Nat} {S : List CH} (h : W.ownsRow base 3 1 (.slice a S.length c) S.length (wtC S)) : Ints W.heap.size W a S.length (fun k => (S.getD k ch0).2) := by
 by_cases hl : S.length = 0
 ·exact .inl hl
 ·obtain ⟨b, rfl, h1, h2⟩ := own_at h (by omega)
  refine .inr ⟨b, 0, rfl, h2, fun i hi => ?_⟩
  have := h.cellAt i (by omega)
  rw [Nat.zero_add, this]
  dsimp only
  rw [List.getD_eq_getElem?_getD]
  simp [wtC, hi]
theorem SnT.beams {mb : Nat} {w : World} {sa : Option Addr} {n sc : Nat} {L : List BM} {W : World} {oa : Option Addr} {oc : Nat} (h : SnT mb w sa n sc L W) (hl : L.length ≤ maxLen) (hown : W.ownsRow (mb + 1) 62 4 (.slice oa L.length oc) L.length (seC L)) : Beams W.heap.size W oa L.length (fun i => L.getD i se0) := by
 refine ⟨hl, ?_⟩
 by_cases h0 : L.length = 0
 ·exact .inl h0
 ·obtain ⟨b, rfl, h1, h2⟩ := own_at hown (by omega)
  refine .inr ⟨b, 0, rfl, h2, fun i hi => ⟨?_, ?_⟩⟩
  ·have hc : ∀ s, s < 4 → W.cell? ⟨b, 0 + i * 4 + s, none⟩ = (seC1 (L.getD i se0))[s]? := fun s hs => by
    rw [Nat.zero_add, hown.cellAt (i * 4 + s) (by omega)]
    exact seC_get L i s se0 hi hs
   exact ⟨hc 0 (by omega), hc 1 (by omega), hc 2 (by omega), hc 3 (by omega)⟩
  ·have hmem : L.getD i se0 ∈ L := by
    rw [List.getD_eq_getElem?_getD, List.getElem?_eq_getElem hi]
    exact List.getElem_mem _
   obtain ⟨S, ca, cc, wa, wc, lo, hi2, h3, h0, h4, h5⟩ := h.mem _ hmem
   show (L.getD i se0).mem _ _
   rw [h3]
   exact ⟨h0, h0, own_cl h4, own_wt h5⟩
theorem agreesB_snoc {L : List BM} {p : BM} {d : Nat → Int} : agreesB (L.length + 1) (fun i => (L ++ [p]).getD i se0) d = (agreesB L.length (fun i => L.getD i se0) d && inB (ofN p d) p.lo p.hi) := by
 unfold agreesB
 rw [Bool.eq_iff_iff, Bool.and_eq_true, allUpto_iff, allUpto_iff]
 have e1 : ∀ i, i < L.length → (L ++ [p]).getD i se0 = L.getD i se0 := fun i hi => by
  rw [List.getD_eq_getElem?_getD, List.getElem?_append_left hi, List.getD_eq_getElem?_getD]
 have e2 : (L ++ [p]).getD L.length se0 = p := by simp
 constructor
 ·intro h
  exact ⟨fun i hi => by have := h i (by omega); dsimp only at this ⊢; rwa [e1 i hi] at this, by have := h L.length (by omega); dsimp only at this; rwa [e2] at this⟩
 ·rintro ⟨h1, h2⟩ i hi
  by_cases e : i = L.length
  ·subst e; dsimp only; rw [e2]; exact h2
  ·dsimp only; rw [e1 i (by omega)]; exact h1 i (by omega)
end Go.Proofs.YtgmpelhphnmknaaGreat
namespace Go.Proofs.YtgmpelhphnmknaaGreat
open Go.ChangeShapes Go.WideShapes Go.ChangeAt Go.RowKit Go.Deep Go.Joins
instance : Nonempty RY := ⟨⟨0, 0, 0, 0, 0, 0⟩⟩
section
variable {H : Type} {enc : TypeId × Value → H} {w : World} {base : Nat} {held : Bool}
theorem volume_of {n : Nat} {cs : List Value} {x : DataW H × List MemPlace} (h : DataW.trod enc Tryz.prog w base (fun _ => true) held n 23 cs = some x) :
  ∃ p : VO, cs[0]? = some (.int .i64 p.nx) ∧ cs[1]? = some (.int .i64 p.ny) ∧ cs[2]? = some (.int .i64 p.nz) ∧ cs[3]? = some (.int .i64 p.size) := by
 obtain ⟨xs, m, _, _, _, hxl, hf⟩ := DataW.trod_struct Tryz.underlying23 h
 have hx : ∀ i, i < 4 → ∃ z, xs[i]? = some z := fun i hi => ⟨_, List.getElem?_eq_getElem (by rw [hxl]; exact hi)⟩
 obtain ⟨z0, e0⟩ := hx 0 (by decide)
 obtain ⟨z1, e1⟩ := hx 1 (by decide)
 obtain ⟨z2, e2⟩ := hx 2 (by decide)
 obtain ⟨z3, e3⟩ := hx 3 (by decide)
 obtain ⟨a0, k0⟩ := field_int Tryz.underlying3 (hf 0 _ rfl) e0
 obtain ⟨a1, k1⟩ := field_int Tryz.underlying3 (hf 1 _ rfl) e1
 obtain ⟨a2, k2⟩ := field_int Tryz.underlying3 (hf 2 _ rfl) e2
 obtain ⟨a3, k3⟩ := field_int Tryz.underlying3 (hf 3 _ rfl) e3
 exact ⟨⟨a0, a1, a2, a3⟩, k0, k1, k2, k3⟩
theorem ray_of {n : Nat} {cs : List Value} {x : DataW H × List MemPlace} (h : DataW.trod enc Tryz.prog w base (fun _ => true) held n 33 cs = some x) :
  ∃ p : RY, cs[0]? = some (.int .i64 p.x) ∧ cs[1]? = some (.int .i64 p.y) ∧ cs[2]? = some (.int .i64 p.z) ∧ cs[3]? = some (.int .i64 p.dx) ∧ cs[4]? = some (.int .i64 p.dy) ∧ cs[5]? = some (.int .i64 p.dz) := by
 obtain ⟨xs, m, _, _, _, hxl, hf⟩ := DataW.trod_struct Tryz.underlying33 h
 have hx : ∀ i, i < 6 → ∃ z, xs[i]? = some z := fun i hi => ⟨_, List.getElem?_eq_getElem (by rw [hxl]; exact hi)⟩
 obtain ⟨z0, e0⟩ := hx 0 (by decide)
 obtain ⟨z1, e1⟩ := hx 1 (by decide)
 obtain ⟨z2, e2⟩ := hx 2 (by decide)
 obtain ⟨z3, e3⟩ := hx 3 (by decide)
 obtain ⟨z4, e4⟩ := hx 4 (by decide)
 obtain ⟨z5, e5⟩ := hx 5 (by decide)
 obtain ⟨a0, k0⟩ := field_int Tryz.underlying3 (hf 0 _ rfl) e0
 obtain ⟨a1, k1⟩ := field_int Tryz.underlying3 (hf 1 _ rfl) e1
 obtain ⟨a2, k2⟩ := field_int Tryz.underlying3 (hf 2 _ rfl) e2
 obtain ⟨a3, k3⟩ := field_int Tryz.underlying3 (hf 3 _ rfl) e3
 obtain ⟨a4, k4⟩ := field_int Tryz.underlying3 (hf 4 _ rfl) e4
 obtain ⟨a5, k5⟩ := field_int Tryz.underlying3 (hf 5 _ rfl) e5
 exact ⟨⟨a0, a1, a2, a3, a4, a5⟩, k0, k1, k2, k3, k4, k5⟩
theorem open_volume {r : Reach} {b0 : Nat} {v : Value} {d : DataW H} {p : List MemPlace} (hv : Value.okWide Tryz.prog w r b0 23 v) (h : DataW.Trod enc Tryz.prog w base (fun _ => true) held 23 v d p) :
  ∃ q : VO, v = q.val := by
 obtain ⟨cs, rfl, hsz⟩ := okWide_struct Tryz.underlying23 hv
 have hsz1 : cs.size = 4 := hsz.trans (by kernel_rfl)
 obtain ⟨fuel, hf⟩ := h
 obtain ⟨q, k0, k1, k2, k3⟩ := volume_of hf
 obtain ⟨l⟩ := cs
 match l, hsz1 with
 | [c0, c1, c2, c3], _ =>
  have e0 : c0 = .int .i64 q.nx := by simpa [Value.cells] using k0
  have e1 : c1 = .int .i64 q.ny := by simpa [Value.cells] using k1
  have e2 : c2 = .int .i64 q.nz := by simpa [Value.cells] using k2
  have e3 : c3 = .int .i64 q.size := by simpa [Value.cells] using k3
  subst e0 e1 e2 e3
  exact ⟨q, rfl⟩
theorem open_spans {r : Reach} {b0 : Nat} {v : Value} {d : DataW H} {p : List MemPlace} (hv : Value.okWide Tryz.prog w r b0 25 v) (h : DataW.Trod enc Tryz.prog w base (fun _ => true) held 25 v d p) :
  ∃ (a : Option Addr) (n c : Nat) (ss : Nat → SV), v = .slice a n c ∧ Spans w.heap.size w a n ss := by
 obtain ⟨a0, len0, cap0, rfl⟩ := okWide_slice Tryz.underlying25 hv
 obtain ⟨fuel, hf⟩ := h
 have hf' : DataW.trod enc Tryz.prog w base (fun _ => true) held fuel 25 ((([Value.slice a0 len0 cap0] : List Value).drop 0).take 1) = some (d, p) := hf
 obtain ⟨a, len, cap, ss, hcs, hS, _, _⟩ := spans_of hf' rfl
 have e : Value.slice a0 len0 cap0 = .slice a len cap := by simpa using hcs
 rw [e]
 exact ⟨a, len, cap, ss, rfl, hS⟩
theorem open_ints6 {r : Reach} {b0 : Nat} {v : Value} {d : DataW H} {p : List MemPlace} (hv : Value.okWide Tryz.prog w r b0 24 v) (h : DataW.Trod enc Tryz.prog w base (fun _ => true) held 24 v d p) :
  ∃ (a : Option Addr) (n c : Nat) (es : Nat → Int), v = .slice a n c ∧ n ≤ maxLen ∧ Ints w.heap.size w a n es := by
 obtain ⟨a0, len0, cap0, rfl⟩ := okWide_slice Tryz.underlying24 hv
 obtain ⟨fuel, hf⟩ := h
 have hf' : DataW.trod enc Tryz.prog w base (fun _ => true) held fuel 24 ((([Value.slice a0 len0 cap0] : List Value).drop 0).take 1) = some (d, p) := hf
 obtain ⟨a, len, cap, es, hcs, hl, hE⟩ := ints_of hf' rfl
 have e : Value.slice a0 len0 cap0 = .slice a len cap := by simpa using hcs
 exact ⟨a, len, cap, es, e, hl, hE⟩
end
end Go.Proofs.YtgmpelhphnmknaaGreat
