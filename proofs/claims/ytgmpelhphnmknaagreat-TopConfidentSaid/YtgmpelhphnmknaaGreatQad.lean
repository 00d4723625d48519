/- Texts put together: RegHead, RkC, RkD. -/
import Derived.Test.YtgmpelhphnmknaaGreatQab
import Derived.Deep.RegionHeld
import Derived.Test.YtgmpelhphnmknaaGreatQac
set_option maxRecDepth 100000
set_option maxHeartbeats 8000000
set_option linter.unusedVariables false
set_option linter.unusedSimpArgs false
namespace Go.Proofs.YtgmpelhphnmknaaGreat
open Go Go.RowKit
section
variable {P : Program} {ops : Array Oper} {md : Region.Mode} {S : World → Prop} {Q : Exit → Act → World → Prop}
def headH (P : Program) (md : Region.Mode) (ops : Array Oper) (Q : Exit → Act → World → Prop) (S : World → Prop) (n : Nat) (L : Array Bool → Act → World → Prop) : Nat → Array Bool → Act → World → Prop
 | 0, listed, a, w => L listed a w
 | f + 1, listed, a, w => Region.ready md ops listed ≠ [] ∧ ∀ i ∈ Region.ready md ops listed, i < n ∧ wpOp P ops Q i (fun a' w' => S w' ∧ headH P md ops Q S n L f (listed.setIfInBounds i true) a' w') a w
theorem any_of_headH {n g : Nat} {L : Array Bool → Act → World → Prop} (hL : ∀ listed a w, L listed a w → wpAny P md ops Q g listed a w) :
  ∀ (f : Nat) (listed : Array Bool) (a : Act) (w : World), headH P md ops Q S n L f listed a w → wpAny P md ops Q (f + g) listed a w
 | 0, listed, a, w, h => by rw [Nat.zero_add]; exact hL _ _ _ h
 | f + 1, listed, a, w, h => by
  rw [show f + 1 + g = (f + g) + 1 by omega]
  exact ⟨fun h0 => absurd h0 h.1, fun i hi => wpOp_mono (fun a' w' h' => any_of_headH hL f _ a' w' h'.2) (h.2 i hi).2⟩
def Sunk (md : Region.Mode) (ops : Array Oper) (n : Nat) (listed : Array Bool) : Prop := ∀ i, i < n → listed.getD i true = false → ∃ j, i < j ∧ j ≤ n ∧ Region.waitsFor md ops j i = true
theorem Sunk.set {n i : Nat} {listed : Array Bool} (h : Sunk md ops n listed) : Sunk md ops n (listed.setIfInBounds i true) := fun k hk hl => h k hk (by
 by_cases e : i = k
 ·subst e
  rcases Nat.lt_or_ge i listed.size with h' | h'
  ·simp [h'] at hl
  ·simp [Array.getElem?_eq_none h'] at hl
 ·rw [getD_set_ne true e] at hl; exact hl)
theorem late_waits {n : Nat} {listed : Array Bool} (hs : Sunk md ops n listed) (hc : Region.chainB md ops n = true) (hn : n < ops.size) (inv : HeadInv md ops n listed) :
  ∀ (d i : Nat), n - i = d → i < n → listed.getD i true = false → ∀ t, n ≤ t → t ∉ Region.ready md ops listed := by
 intro d
 induction d using Nat.strongRecOn with
 | _ d ih =>
  intro i hd hi hun t ht hr
  obtain ⟨_, ot, hot, hall⟩ := mem_ready.1 hr
  have htlt : t < ops.size := (blkL hot)
  by_cases htn : t = n
  ·subst htn
   obtain ⟨j, hj1, hj2, hw⟩ := hs i hi hun
   obtain ⟨oj, hoj, e, he, hb, hon⟩ := Region.waitsFor_spec hw
   by_cases hjt : j = t
   ·subst hjt
    obtain rfl : oj = ot := Option.some.inj (hoj.symm.trans hot)
    have h2 := hall e he hb
    rw [hon, getD_both hun] at h2
    cases h2
   ·cases hl : listed.getD j false with
    | true =>
     have h2 := inv.closed j oj hoj hl e he hb
     rw [hon, getD_both hun] at h2
     cases h2
    | false =>
     exact ih (t - j) (by omega) j rfl (by omega) (getD_in (by rw [inv.size]; omega) hl) t (Nat.le_refl _) hr
  ·have h1 := List.all_eq_true.1 hc t (List.mem_range.2 htlt)
   simp only [Bool.or_eq_true, decide_eq_true_eq] at h1
   rcases h1 with h1 | h1
   ·omega
   ·obtain ⟨o', ho', e, he, hb, hon⟩ := Region.waitsFor_spec h1
    obtain rfl : o' = ot := Option.some.inj (ho'.symm.trans hot)
    have h2 := hall e he hb
    rw [hon, getD_both (inv.tail (t - 1) (by omega) (by omega))] at h2
    cases h2
theorem headH_first {n i : Nat} {oi : Oper} {v : Value} {L : Array Bool → Act → World → Prop} (hi : ops[i]? = some oi) (hsel : ∀ (j : Nat) (o : Oper) cs b, ops[j]? = some o → o.op ≠ .select cs b)
  (hQ : ∀ c a w, Q (.panic c) (a.put oi.dst v) w → Q (.panic c) a w)
  (hc : Region.chainB md ops n = true) (hn : n < ops.size) (hin : i < n)
  (hdone : ∀ listed a w, L listed a w → ∀ j ∈ Region.ready md ops listed, n ≤ j) :
  ∀ (f : Nat) (listed : Array Bool) (a : Act) (w : World), HeadInv md ops n listed → Sunk md ops n listed →
   (∀ j oj, ops[j]? = some oj → j ≠ i → listed.getD j true = false → (∀ e ∈ oj.after, Region.binds md e = true → e.on ≠ i) → oi.apart ops oj = true) →
   i ∈ Region.ready md ops listed → YieldsIf P ops S oi v a → S w →
   headH P md ops Q S n L f (listed.setIfInBounds i true) (a.put oi.dst v) w → headH P md ops Q S n L (f + 1) listed a w := by
 have inside : ∀ (listed : Array Bool), HeadInv md ops n listed → Sunk md ops n listed → i ∈ Region.ready md ops listed → ∀ j ∈ Region.ready md ops listed, j < n := fun listed inv sk hr j hj => by
  rcases Nat.lt_or_ge j n with h | h
  ·exact h
  ·exact absurd hj (late_waits sk hc hn inv _ i rfl hin (mem_ready.1 hr).1 j h)
 have nonempty : ∀ (listed : Array Bool), i ∈ Region.ready md ops listed → Region.ready md ops listed ≠ [] := fun listed hr h => by rw [h] at hr; cases hr
 intro f
 induction f with
 | zero =>
  intro listed a w inv sk _ hr hy hS H
  refine ⟨nonempty _ hr, fun j hj => ⟨inside _ inv sk hr j hj, ?_⟩⟩
  by_cases hji : j = i
  ·subst hji; exact hy.wpOp hi hS ⟨hS, H⟩
  ·have := hdone _ _ _ H j (ready_mono hj hji)
   have := inside _ inv sk hr j hj
   omega
 | succ f ih =>
  intro listed a w inv sk hfree hr hy hS H
  refine ⟨nonempty _ hr, fun j hj => ?_⟩
  have hjn := inside _ inv sk hr j hj
  refine ⟨hjn, ?_⟩
  by_cases hji : j = i
  ·subst hji; exact hy.wpOp hi hS ⟨hS, H⟩
  ·obtain ⟨hjun, oj, hoj, hall⟩ := mem_ready.1 hj
   have hnot : ∀ e ∈ oj.after, Region.binds md e = true → e.on ≠ i := fun e he hb heq => by
    have h1 := hall e he hb
    rw [heq, getD_both (mem_ready.1 hr).1] at h1
    cases h1
   have h2 := wpOp_putIf hoj (hfree j oj hoj hji hjun hnot) (fun cs b => hsel i oi cs b hi) (fun cs b => hsel j oj cs b hoj) hQ hy (H.2 j (ready_mono hj hji)).2
   refine wpOp_mono (fun a' w' h3 => ⟨h3.2.1, ih (listed.setIfInBounds j true) a' w' (inv.set hj hjn) sk.set ?_ (ready_mono hr (Ne.symm hji)) h3.1 h3.2.1 ?_⟩) h2
   ·intro k ok hk hki hun hno
    refine hfree k ok hk hki ?_ hno
    by_cases hjk : j = k
    ·subst hjk; exact hjun
    ·rw [getD_set_ne true hjk] at hun; exact hun
   ·rw [Array.setIfInBounds_comm _ _ hji]
    exact h3.2.2
def headInvB (md : Region.Mode) (ops : Array Oper) (n : Nat) (listed : Array Bool) : Bool :=
 decide (listed.size = ops.size) && ((List.range ops.size).all (fun j => !(listed.getD j false) || ((ops[j]?).map (·.after.all fun e => !Region.binds md e || listed.getD e.on false)).getD true) && (List.range ops.size).all (fun t => decide (t < n) || !listed.getD t true))
theorem headInv_of {md : Region.Mode} {ops : Array Oper} {n : Nat} {listed : Array Bool} (h : headInvB md ops n listed = true) : HeadInv md ops n listed := by
 simp only [headInvB, Bool.and_eq_true, decide_eq_true_eq, List.all_eq_true, List.mem_range, Bool.or_eq_true, Bool.not_eq_true'] at h
 obtain ⟨h1, h2, h3⟩ := h
 refine ⟨h1, fun j oj hoj hl e he hb => ?_, fun t ht ht' => ?_⟩
 ·have hj : j < ops.size := (blkL hoj)
  rcases h2 j hj with h | h
  ·rw [hl] at h; cases h
  ·rw [hoj] at h
   simp only [Option.map_some, Option.getD_some, Array.all_eq_true'] at h
   have := h e he
   rw [hb] at this
   simpa using this
 ·rcases h3 t ht' with h | h
  ·omega
  ·exact h
def sunkB (md : Region.Mode) (ops : Array Oper) (n : Nat) (listed : Array Bool) : Bool := (List.range n).all fun i => listed.getD i true || (List.range (n + 1)).any fun j => decide (i < j) && Region.waitsFor md ops j i
theorem sunk_of {md : Region.Mode} {ops : Array Oper} {n : Nat} {listed : Array Bool} (h : sunkB md ops n listed = true) : Sunk md ops n listed := fun i hi hl => by
 have h1 := List.all_eq_true.1 h i (List.mem_range.2 hi)
 rw [hl, Bool.false_or] at h1
 obtain ⟨j, hj, hj2⟩ := List.any_eq_true.1 h1
 simp only [Bool.and_eq_true, decide_eq_true_eq] at hj2
 exact ⟨j, hj2.1, by have := List.mem_range.1 hj; omega, hj2.2⟩
def tailL (P : Program) (md : Region.Mode) (l : List Oper) (Q : Exit → Act → World → Prop) (n : Nat) (listed : Array Bool) (a : Act) (w : World) : Prop :=
 Region.seqB md l.toArray (l.toArray.size - n) n listed = true ∧ wpList P l.toArray Q (l.drop n) a w
def TkB (md : Region.Mode) (l : List Oper) (n : Nat) (listed : Array Bool) (i : Nat) : Bool := Region.noSelect l.toArray && decide (n < l.toArray.size) && sunkB md l.toArray n listed && Region.chainB md l.toArray n && decide (i < n) && headInvB md l.toArray n listed && Region.free md l.toArray listed i && (Region.ready md l.toArray listed).contains i
theorem headH_take {l : List Oper} {n i : Nat} {oi : Oper} {v : Value} {f : Nat} {listed : Array Bool} {a : Act} {w : World} (hi : l.toArray[i]? = some oi)
  (hB : (Region.noSelect l.toArray && decide (n < l.toArray.size) && sunkB md l.toArray n listed && Region.chainB md l.toArray n && decide (i < n) && headInvB md l.toArray n listed && Region.free md l.toArray listed i && (Region.ready md l.toArray listed).contains i) = true)
  (hQ : ∀ c a w, Q (.panic c) (a.put oi.dst v) w → Q (.panic c) a w) (hy : YieldsIf P l.toArray S oi v a) (hS : S w)
  (h : headH P md l.toArray Q S n (tailL P md l Q n) f (listed.setIfInBounds i true) (a.put oi.dst v) w) : headH P md l.toArray Q S n (tailL P md l Q n) (f + 1) listed a w := by
 simp only [Bool.and_eq_true, decide_eq_true_eq] at hB
 obtain ⟨⟨⟨⟨⟨⟨⟨h1, h2⟩, h3⟩, h4⟩, h5⟩, h6⟩, h7⟩, h8⟩ := hB
 exact headH_first hi (Region.noSelect_spec h1) hQ h4 h2 h5 (fun listed a w hL => seqB_ready hL.1) f listed a w (headInv_of h6) (sunk_of h3) (Region.free_spec hi h7) (by simpa using h8) hy hS h
theorem headH_all {n f : Nat} {L : Array Bool → Act → World → Prop} {rs : List Nat} {listed : Array Bool} {a : Act} {w : World} (hr : Region.ready md ops listed = rs) (hne : rs ≠ []) (hl : rs.all (fun i => decide (i < n)) = true)
  (h : ∀ i ∈ rs, wpOp P ops Q i (fun a' w' => S w' ∧ headH P md ops Q S n L f (listed.setIfInBounds i true) a' w') a w) : headH P md ops Q S n L (f + 1) listed a w :=
 ⟨by rw [hr]; exact hne, fun i hi => ⟨by rw [hr] at hi; have := List.all_eq_true.1 hl i hi; simpa using this, h i (by rw [← hr]; exact hi)⟩⟩
theorem headH_one {n f : Nat} {L : Array Bool → Act → World → Prop} {listed : Array Bool} {a : Act} {w : World} (i : Nat) (h : wpOp P ops Q i (fun a' w' => S w' ∧ headH P md ops Q S n L f (listed.setIfInBounds i true) a' w') a w) (hr : Region.ready md ops listed = [i] := by kernel_rfl) (hl : decide (i < n) = true := by kernel_rfl) : headH P md ops Q S n L (f + 1) listed a w :=
 headH_all hr (by simp) (by simpa using hl) fun j hj => by rw [List.mem_singleton] at hj; subst hj; exact h
theorem headH_two {n f : Nat} {L : Array Bool → Act → World → Prop} {listed : Array Bool} {a : Act} {w : World} (i j : Nat) (h : wpOp P ops Q i (fun a' w' => S w' ∧ headH P md ops Q S n L f (listed.setIfInBounds i true) a' w') a w) (h2 : wpOp P ops Q j (fun a' w' => S w' ∧ headH P md ops Q S n L f (listed.setIfInBounds j true) a' w') a w) (hr : Region.ready md ops listed = [i, j] := by kernel_rfl) (hl : (decide (i < n) && decide (j < n)) = true := by kernel_rfl) : headH P md ops Q S n L (f + 1) listed a w :=
 headH_all hr (by simp) (by simpa using hl) fun k hk => by
  rw [List.mem_cons, List.mem_singleton] at hk
  rcases hk with rfl | rfl
  ·exact h
  ·exact h2
theorem headH_op {n f : Nat} {L : Array Bool → Act → World → Prop} {i : Nat} {o : Oper} {listed : Array Bool} {a : Act} {w : World} (ho : ops[i]? = some o)
  (h : ∀ K' : Act → World → Prop, Shut (∀ a w, S w → (S w → headH P md ops Q S n L f (listed.setIfInBounds i true) a w) → K' a w) → if Region.wanted o (yielded ops a.tmps) = true then Oper.wp P o a w K' Q else K' (a.put o.dst undef) w) :
  wpOp P ops Q i (fun a' w' => S w' ∧ headH P md ops Q S n L f (listed.setIfInBounds i true) a' w') a w :=
 wpOp_step ho (fun K' hK => h K' (fun a w hS hW => hK a w ⟨hS, hW hS⟩))
end
theorem any_of_tail {P : Program} {md : Region.Mode} {Q : Exit → Act → World → Prop} {a : Act} {w : World} {l : List Oper} {listed : Array Bool} (n f : Nat) (S : World → Prop) (hB : decide (n < l.toArray.size) = true) (hS : S w)
  (h : S w → headH P md l.toArray Q S n (tailL P md l Q n) f listed a w) : wpAny P md l.toArray Q (f + (l.toArray.size - n)) listed a w := by
 have hn := of_decide_eq_true hB
 exact any_of_headH (Q := Q) (g := l.toArray.size - n) (fun listed a' w' hL => by
  have hdl : (l.drop n).length = l.toArray.size - n := by simp
  have := wpAny_of_seq (md := md) (Q' := Q) (l.drop n) n listed a' w' (fun j => by simp [List.getElem?_drop]) (by rw [hdl]; exact hL.1) hL.2
  rwa [hdl] at this) _ _ _ _ (h hS)
end Go.Proofs.YtgmpelhphnmknaaGreat
namespace Go.Proofs.YtgmpelhphnmknaaGreat
open Go.RowKit
theorem htkS_RkC {P : Program} {md : Region.Mode} {Q : Exit → Act → World → Prop} {S : World → Prop} {l : List Oper} {n f : Nat} {listed : Array Bool} {a : Act} {w : World} {v : Value} {oi : Oper} {X : Prop} (i : Nat) (q : X) (hi : l.toArray[i]? = some oi := by rfl) (hB : TkB md l n listed i = true := by kernel_rfl) (hQ : ∀ c a w, Q (.panic c) (a.put oi.dst v) w → Q (.panic c) a w := by exact fun _ _ _ h => h) (hy : YieldsIf P l.toArray S oi v a := by (refine Or.inl ⟨by rfl, ?_⟩; intro w' hSw; (try dsimp only at hSw); (obtain ⟨a0, a1, a2, a3, b0, b1, b2, b3, b4, b5⟩ := hSw); (try simp only [hng]); go_simp; (try with_reducible rfl))) (hS : S w := by assumption) (hx : X → headH P md l.toArray Q S n (tailL P md l Q n) f (listed.setIfInBounds i true) (a.put oi.dst v) w := by (intro qq; refine hnm ?_; exact qq)) : headH P md l.toArray Q S n (tailL P md l Q n) (f + 1) listed a w := headH_take hi hB hQ hy hS (hx q)
def ThS (q : Nat) (v : VO) (r : RY) (w' : World) : Prop := w'.cell? ⟨q, 0, none⟩ = some (.int .i64 v.nx) ∧ w'.cell? ⟨q, 1, none⟩ = some (.int .i64 v.ny) ∧ w'.cell? ⟨q, 2, none⟩ = some (.int .i64 v.nz) ∧ w'.cell? ⟨q, 3, none⟩ = some (.int .i64 v.size) ∧ w'.cell? ⟨q + 1, 0, none⟩ = some (.int .i64 r.x) ∧ w'.cell? ⟨q + 1, 1, none⟩ = some (.int .i64 r.y) ∧ w'.cell? ⟨q + 1, 2, none⟩ = some (.int .i64 r.z) ∧ w'.cell? ⟨q + 1, 3, none⟩ = some (.int .i64 r.dx) ∧ w'.cell? ⟨q + 1, 4, none⟩ = some (.int .i64 r.dy) ∧ w'.cell? ⟨q + 1, 5, none⟩ = some (.int .i64 r.dz)
theorem ths_of {q : Nat} {v : VO} {r : RY} {W : World} (h0 : W.heap[q]? = some (.cells #[.int .i64 v.nx, .int .i64 v.ny, .int .i64 v.nz, .int .i64 v.size] 23)) (h1 : W.heap[q + 1]? = some (.cells #[.int .i64 r.x, .int .i64 r.y, .int .i64 r.z, .int .i64 r.dx, .int .i64 r.dy, .int .i64 r.dz] 33)) : ThS q v r W :=
 ⟨cell_of_row _ _ _ _ _ _ h0, cell_of_row _ _ _ _ _ _ h0, cell_of_row _ _ _ _ _ _ h0, cell_of_row _ _ _ _ _ _ h0, cell_of_row _ _ _ _ _ _ h1, cell_of_row _ _ _ _ _ _ h1, cell_of_row _ _ _ _ _ _ h1, cell_of_row _ _ _ _ _ _ h1, cell_of_row _ _ _ _ _ _ h1, cell_of_row _ _ _ _ _ _ h1⟩
theorem row_there {W : World} {b j : Nat} {cur : Array Value} {t : TypeId} (h : W.heap[b]? = some (.cells cur t)) (hj : j < cur.size) : (W.cell? ⟨b, 0 + j, none⟩).isSome = true ∧ W.frozen? ⟨b, 0 + j, none⟩ = false := by
 rw [Nat.zero_add]
 refine ⟨?_, frozen_of_row _ _ _ _ _ h⟩
 rw [cell_of_row W b j cur _ _ h, Array.getElem?_eq_getElem hj]
 rfl
theorem rk_setCells {B : Nat} {a : World} {b : Nat} (hB : B ≤ b) : ∀ (vs : List Value) (o : Nat) (w : World), Below B a w → Below B a (w.setCells b o vs)
 | [], _, _, h => h
 | v :: r, o, w, h => rk_setCells hB r (o + 1) _ (h.setCell (p := ⟨b, o, none⟩) hB v)
theorem rk_three (W : World) (o1 o2 o3 : Obj) : Below W.heap.size W (((W.alloc o1).alloc o2).alloc o3) ∧ (((W.alloc o1).alloc o2).alloc o3).heap[W.heap.size]? = some o1 ∧ (((W.alloc o1).alloc o2).alloc o3).heap[W.heap.size + 1]? = some o2 ∧ (((W.alloc o1).alloc o2).alloc o3).heap[W.heap.size + 1 + 1]? = some o3 := by
 obtain ⟨h1, h2, h3⟩ := rk_two W o1 o2
 have a3 := rk_below ((W.alloc o1).alloc o2) o3
 have z2 : ((W.alloc o1).alloc o2).heap.size = W.heap.size + 1 + 1 := by simp
 refine ⟨h1.trans (a3.mono h1.size), (a3.block _ (by omega)).trans h2, (a3.block _ (by omega)).trans h3, ?_⟩
 have := heap_alloc_new ((W.alloc o1).alloc o2) o3
 rwa [z2] at this
theorem through_any (v : VO) (r : RY) (w : World) (hr : r.Ok) : Calls Tryz.prog 69 #[v.val, r.val] w fun e w' => e = .returned (wkVal v r) ∧ Below w.heap.size w w' := by
 have HTK := Hd (fun (W : World) => ticks_any r W hr)
 unfold wkVal
 unfold RY.val at HTK
 unfold VO.val RY.val
 clear hr
 generalize tkF r = T at *
 go_enter Tryz.func69, Tryz.ntmps69
 go_upto_region 1 with (fail)
 obtain ⟨hVb, e1, e2, e3⟩ := rk_three w (.cells #[.int .i64 v.nx, .int .i64 v.ny, .int .i64 v.nz, .int .i64 v.size] 23) (.cells #[.int .i64 r.x, .int .i64 r.y, .int .i64 r.z, .int .i64 r.dx, .int .i64 r.dy, .int .i64 r.dz] 33) (.cells #[.int .i64 0, .int .i64 0, .int .i64 0, .int .i64 0, .int .i64 0, .int .i64 0, .int .i64 0, .int .i64 0, .int .i64 0, .int .i64 0, .int .i64 0, .int .i64 0, .int .i64 0, .int .i64 0] 150)
 have HB := Lib.hid hVb
 have HR0 := Lib.hid e1
 have HR1 := Lib.hid e2
 have HR2 := Lib.hid e3
 clear hVb e1 e2 e3
 generalize World.alloc (World.alloc (World.alloc w _) _) _ = V at *
 refine wp_region_any (by kernel_rfl) ?_
 change wpAny _ _ _ _ _ _ _ (World.drew V)
 have HB := Hd (show Below w.heap.size w V.drew from HB.out.drew)
 have HR0 := Hd (show V.drew.heap[w.heap.size]? = _ from HR0.out)
 have HR1 := Hd (show V.drew.heap[w.heap.size + 1]? = _ from HR1.out)
 have HR2 := Hd (show V.drew.heap[w.heap.size + 1 + 1]? = _ from HR2.out)
 generalize World.drew V = Vd at *
 refine any_of_tail 25 25 (ThS w.heap.size v r) (by kernel_rfl) (ths_of HR0.out HR1.out) (fun hS => ?_)
 refine htkS_RkC 0 ?_
 refine htkS_RkC 1 ?_
 refine htkS_RkC 2 ?_
 refine htkS_RkC 3 ?_
 refine htkS_RkC 4 ?_
 refine htkS_RkC 5 ?_
 refine htkS_RkC 6 ?_
 refine htkS_RkC 7 ?_
 refine htkS_RkC 8 ?_
 refine htkS_RkC 9 ?_
 refine htkS_RkC 10 ?_
 refine htkS_RkC 11 ?_
 refine htkS_RkC 12 ?_
 refine htkS_RkC 13 ?_
 refine htkS_RkC 14 ?_
 refine htkS_RkC 15 ?_
 refine htkS_RkC 16 ?_
 refine htkS_RkC 17 ?_
 refine htkS_RkC 18 ?_
 refine htkS_RkC 19 ?_
 refine htkS_RkC 20 ?_
 refine htkS_RkC 21 ?_
 refine htkS_RkC 22 ?_
 refine htkS_RkC 23 ?_
 refine headH_one 24 ?_
 refine headH_op rfl (fun K hK => ?_)
 (try simp only [hng])
 go_simp
 refine (HTK.out _).mono ?_
 rintro e W2 ⟨rfl, hb⟩
 dsimp only
 have HS0 := Hd (blkS HR0.out hb)
 have HS1 := Hd (blkS HR1.out hb)
 have HS2 := Hd (blkS HR2.out hb)
 have HBB := Hd (HB.out.trans (hb.mono HB.out.size))
 refine hK.out _ _ (ths_of HS0.out HS1.out) (fun hS => ?_)
 clear hK K hb HR0 HR1 HR2
 refine hnm ?_
 change tailL _ _ _ _ _ _ _ _
 refine ⟨by kernel_rfl, ?_⟩
 simp only [List.drop_succ_cons, List.drop_zero]
 have z0 : W2.cell? ⟨w.heap.size + 1 + 1, 0, none⟩ = some (.int .i64 0) := cell_of_row _ _ _ _ _ _ HS2.out
 have f0 : W2.frozen? ⟨w.heap.size + 1 + 1, 0, none⟩ = false := frozen_of_row _ _ _ _ _ HS2.out
 have z1 : W2.cell? ⟨w.heap.size + 1 + 1, 1, none⟩ = some (.int .i64 0) := cell_of_row _ _ _ _ _ _ HS2.out
 have f1 : W2.frozen? ⟨w.heap.size + 1 + 1, 1, none⟩ = false := frozen_of_row _ _ _ _ _ HS2.out
 have z2 : W2.cell? ⟨w.heap.size + 1 + 1, 2, none⟩ = some (.int .i64 0) := cell_of_row _ _ _ _ _ _ HS2.out
 have f2 : W2.frozen? ⟨w.heap.size + 1 + 1, 2, none⟩ = false := frozen_of_row _ _ _ _ _ HS2.out
 have z3 : W2.cell? ⟨w.heap.size + 1 + 1, 3, none⟩ = some (.int .i64 0) := cell_of_row _ _ _ _ _ _ HS2.out
 have f3 : W2.frozen? ⟨w.heap.size + 1 + 1, 3, none⟩ = false := frozen_of_row _ _ _ _ _ HS2.out
 have z4 : W2.cell? ⟨w.heap.size + 1 + 1, 4, none⟩ = some (.int .i64 0) := cell_of_row _ _ _ _ _ _ HS2.out
 have f4 : W2.frozen? ⟨w.heap.size + 1 + 1, 4, none⟩ = false := frozen_of_row _ _ _ _ _ HS2.out
 have z5 : W2.cell? ⟨w.heap.size + 1 + 1, 5, none⟩ = some (.int .i64 0) := cell_of_row _ _ _ _ _ _ HS2.out
 have f5 : W2.frozen? ⟨w.heap.size + 1 + 1, 5, none⟩ = false := frozen_of_row _ _ _ _ _ HS2.out
 have z6 : W2.cell? ⟨w.heap.size + 1 + 1, 6, none⟩ = some (.int .i64 0) := cell_of_row _ _ _ _ _ _ HS2.out
 have f6 : W2.frozen? ⟨w.heap.size + 1 + 1, 6, none⟩ = false := frozen_of_row _ _ _ _ _ HS2.out
 have z7 : W2.cell? ⟨w.heap.size + 1 + 1, 7, none⟩ = some (.int .i64 0) := cell_of_row _ _ _ _ _ _ HS2.out
 have f7 : W2.frozen? ⟨w.heap.size + 1 + 1, 7, none⟩ = false := frozen_of_row _ _ _ _ _ HS2.out
 have z8 : W2.cell? ⟨w.heap.size + 1 + 1, 8, none⟩ = some (.int .i64 0) := cell_of_row _ _ _ _ _ _ HS2.out
 have f8 : W2.frozen? ⟨w.heap.size + 1 + 1, 8, none⟩ = false := frozen_of_row _ _ _ _ _ HS2.out
 have z9 : W2.cell? ⟨w.heap.size + 1 + 1, 9, none⟩ = some (.int .i64 0) := cell_of_row _ _ _ _ _ _ HS2.out
 have f9 : W2.frozen? ⟨w.heap.size + 1 + 1, 9, none⟩ = false := frozen_of_row _ _ _ _ _ HS2.out
 have z10 : W2.cell? ⟨w.heap.size + 1 + 1, 10, none⟩ = some (.int .i64 0) := cell_of_row _ _ _ _ _ _ HS2.out
 have f10 : W2.frozen? ⟨w.heap.size + 1 + 1, 10, none⟩ = false := frozen_of_row _ _ _ _ _ HS2.out
 have z11 : W2.cell? ⟨w.heap.size + 1 + 1, 11, none⟩ = some (.int .i64 0) := cell_of_row _ _ _ _ _ _ HS2.out
 have f11 : W2.frozen? ⟨w.heap.size + 1 + 1, 11, none⟩ = false := frozen_of_row _ _ _ _ _ HS2.out
 have z12 : W2.cell? ⟨w.heap.size + 1 + 1, 12, none⟩ = some (.int .i64 0) := cell_of_row _ _ _ _ _ _ HS2.out
 have f12 : W2.frozen? ⟨w.heap.size + 1 + 1, 12, none⟩ = false := frozen_of_row _ _ _ _ _ HS2.out
 have z13 : W2.cell? ⟨w.heap.size + 1 + 1, 13, none⟩ = some (.int .i64 0) := cell_of_row _ _ _ _ _ _ HS2.out
 have f13 : W2.frozen? ⟨w.heap.size + 1 + 1, 13, none⟩ = false := frozen_of_row _ _ _ _ _ HS2.out
 go_wp2
 refine bodyPost_ret (ret_cell_one rfl _ _ (w.heap.size + 1 + 1) [.int .i64 v.nx, .int .i64 v.ny, .int .i64 v.nz, .int .i64 v.size, .int .i64 r.x, .int .i64 r.dx, .int .i64 v.nx, .int .i64 r.y, .int .i64 r.dy, .int .i64 v.ny, .int .i64 r.z, .int .i64 r.dz, .int .i64 v.nz, .int .i64 (T : Int)] rfl ?hr Tryz.underlying150 rfl size_walk) rfl ⟨rfl, ?_⟩
 case hr => exact World.rangeAt_setCells_same _ _ 0 _ (fun j hj => row_there HS2.out hj)
 exact rk_setCells (by omega) _ _ _ HBB.out
end Go.Proofs.YtgmpelhphnmknaaGreat
namespace Go.Proofs.YtgmpelhphnmknaaGreat
open Go.RowKit
def caI (v : VO) (r : RY) (p q : Int) (i j : Nat) : Int := if j < i then cAx (tkF r) v.size (axF v r j) p q else 0
theorem ix_axes (v : VO) (r : RY) {i : Nat} (hi : i < 3) : ∀ W : World, (Instr.index 148 (.agg #[.int .i64 r.x, .int .i64 r.dx, .int .i64 v.nx, .int .i64 r.y, .int .i64 r.dy, .int .i64 v.ny, .int .i64 r.z, .int .i64 r.dz, .int .i64 v.nz]) (.int .i64 (i : Int))).run Tryz.prog W = .ok (axF v r i).val W := by
 match i, hi with
 | 0, _ => intro W; kernel_rfl
 | 1, _ => intro W; kernel_rfl
 | 2, _ => intro W; kernel_rfl
theorem ca_set {v : VO} {r : RY} {p q : Int} {i : Nat} (hi : i < 3) : (#[Value.int .i64 (caI v r p q i 0), .int .i64 (caI v r p q i 1), .int .i64 (caI v r p q i 2)] : Array Value).setIfInBounds i (.int .i64 (cAx (tkF r) v.size (axF v r i) p q)) = #[.int .i64 (caI v r p q (i + 1) 0), .int .i64 (caI v r p q (i + 1) 1), .int .i64 (caI v r p q (i + 1) 2)] := by
 match i, hi with
 | 0, _ => rfl
 | 1, _ => rfl
 | 2, _ => rfl
theorem cell_no {v : VO} {r : RY} {p q : Int} {i : Nat} (hi : i < 3) (h : cAx (tkF r) v.size (axF v r i) p q < 0) : cellF v r p q = -1 := by
 unfold cellF
 rw [if_pos]
 match i, hi with
 | 0, _ => exact .inl h
 | 1, _ => exact .inr (.inl h)
 | 2, _ => exact .inr (.inr h)
theorem cell_yes {v : VO} {r : RY} {p q : Int} (h : ∀ j, j < 3 → 0 ≤ cAx (tkF r) v.size (axF v r j) p q) : cellF v r p q = (caI v r p q 3 2 * v.ny + caI v r p q 3 1) * v.nx + caI v r p q 3 0 := by
 unfold cellF
 rw [if_neg]
 ·rfl
 ·have h0 := h 0 (by omega)
  have h1 := h 1 (by omega)
  have h2 := h 2 (by omega)
  omega
structure CeI (q : Nat) (v : VO) (r : RY) (x y : Int) (i : Nat) (w W : World) : Prop where
 below : Below w.heap.size w W
 wk : W.heap[q]? = some (.cells #[.int .i64 v.nx, .int .i64 v.ny, .int .i64 v.nz, .int .i64 v.size, .int .i64 r.x, .int .i64 r.dx, .int .i64 v.nx, .int .i64 r.y, .int .i64 r.dy, .int .i64 v.ny, .int .i64 r.z, .int .i64 r.dz, .int .i64 v.nz, .int .i64 (tkF r : Int)] 150)
 at_ : W.heap[q + 1]? = some (.cells #[.int .i64 (caI v r x y i 0), .int .i64 (caI v r x y i 1), .int .i64 (caI v r x y i 2)] 207)
 done : ∀ j, j < i → 0 ≤ cAx (tkF r) v.size (axF v r j) x y
theorem CeI.step {q : Nat} {v : VO} {r : RY} {x y : Int} {i : Nat} {w W W' : World} (h : CeI q v r x y i w W) (hb : Below W.heap.size W W') : CeI q v r x y i w W' :=
 ⟨h.below.trans (hb.mono h.below.size), (hb.block _ (blkL h.wk)).trans h.wk, (hb.block _ (blkL h.at_)).trans h.at_, h.done⟩
theorem CeI.set {q : Nat} {v : VO} {r : RY} {x y : Int} {i : Nat} {w W : World} (h : CeI q v r x y i w W) (hi : i < 3) (hq : w.heap.size ≤ q) (h0 : 0 ≤ cAx (tkF r) v.size (axF v r i) x y) : CeI q v r x y (i + 1) w (W.setCell ⟨q + 1, i, none⟩ (.int .i64 (cAx (tkF r) v.size (axF v r i) x y))) :=
 ⟨h.below.setCell (p := ⟨q + 1, i, none⟩) (show w.heap.size ≤ q + 1 by omega) _, (heap_setCell_other W ⟨q + 1, i, none⟩ q _ (by show q ≠ q + 1; omega)).trans h.wk, by
  have h1 := heap_setCell_same W (q + 1) i _ _ (.int .i64 (cAx (tkF r) v.size (axF v r i) x y)) h.at_
  rw [ca_set hi] at h1
  exact h1, fun j hj => by
  by_cases e : j = i
  ·subst e; exact h0
  ·exact h.done j (by omega)⟩
theorem cell_any (v : VO) (r : RY) (x y : Int) (w : World) (hv : v.Ok) (hr : r.Ok) (hx : -1 ≤ x ∧ x ≤ 43200000000) (hy : -1 ≤ y ∧ y ≤ 43200000000) :
  Calls Tryz.prog 135 #[wkVal v r, .int .i64 x, .int .i64 y] w fun e w' => e = .returned (.int .i64 (cellF v r x y)) ∧ Below w.heap.size w w' := by
 have HV := Lib.hid hv
 have HR := Lib.hid hr
 obtain ⟨hx1, hx2⟩ := hx
 obtain ⟨hy1, hy2⟩ := hy
 have HNO := Hd (fun (i : Nat) (hi : i < 3) (h : cAx (tkF r) v.size (axF v r i) x y < 0) => cell_no hi h)
 have HYES := Hd (fun (h : ∀ j, j < 3 → 0 ≤ cAx (tkF r) v.size (axF v r j) x y) => cell_yes h)
 have HCB := Hd (cell_bound hv hr x y)
 generalize cellF v r x y = RES at *
 unfold wkVal
 clear hv hr
 go_enter Tryz.func135, Tryz.ntmps135
 go_upto_region 2 with (fail)
 obtain ⟨hVb, e1, e2⟩ := rk_two w (.cells #[.int .i64 v.nx, .int .i64 v.ny, .int .i64 v.nz, .int .i64 v.size, .int .i64 r.x, .int .i64 r.dx, .int .i64 v.nx, .int .i64 r.y, .int .i64 r.dy, .int .i64 v.ny, .int .i64 r.z, .int .i64 r.dz, .int .i64 v.nz, .int .i64 (tkF r : Int)] 150) (.cells #[.int .i64 0, .int .i64 0, .int .i64 0] 207)
 have HI := Hd (show CeI w.heap.size v r x y 0 w ((w.alloc (.cells #[.int .i64 v.nx, .int .i64 v.ny, .int .i64 v.nz, .int .i64 v.size, .int .i64 r.x, .int .i64 r.dx, .int .i64 v.nx, .int .i64 r.y, .int .i64 r.dy, .int .i64 v.ny, .int .i64 r.z, .int .i64 r.dz, .int .i64 v.nz, .int .i64 (tkF r : Int)] 150)).alloc (.cells #[.int .i64 0, .int .i64 0, .int .i64 0] 207)) from ⟨hVb, e1, e2, fun j hj => by omega⟩)
 clear hVb e1 e2
 generalize World.alloc (World.alloc w _) _ = V at *
 have m4 := cell_of_row _ _ 4 _ _ _ HI.out.wk
 have m5 := cell_of_row _ _ 5 _ _ _ HI.out.wk
 have m6 := cell_of_row _ _ 6 _ _ _ HI.out.wk
 have m7 := cell_of_row _ _ 7 _ _ _ HI.out.wk
 have m8 := cell_of_row _ _ 8 _ _ _ HI.out.wk
 have m9 := cell_of_row _ _ 9 _ _ _ HI.out.wk
 have m10 := cell_of_row _ _ 10 _ _ _ HI.out.wk
 have m11 := cell_of_row _ _ 11 _ _ _ HI.out.wk
 have m12 := cell_of_row _ _ 12 _ _ _ HI.out.wk
 go_wp2
 clear m4 m5 m6 m7 m8 m9 m10 m11 m12
 go_loopw [13] (fun s wr => ∃ i : Nat, i ≤ 3 ∧ s = .int .i64 (i : Int) ∧ Hid (CeI w.heap.size v r x y i w wr)) (fun s _ => 3 - (intOf s).toNat)
 case atStart => exact ⟨0, by omega, rfl, HI⟩
 case round =>
  clear HI
  obtain ⟨i, hi, rfl, HI⟩ := hrel
  by_cases hlt : i < 3
  ·have hlt' : (i : Int) < 3 := by omega
   have hix := ix_axes v r hlt
   unfold AX.val at hix
   obtain ⟨⟨g1, g2⟩, ⟨g3, g4⟩, g5, g6⟩ := ax_bound HV.out HR.out i
   obtain ⟨hT1, hT2⟩ := tkF_bound HR.out
   obtain ⟨hS1, hS2⟩ := HV.out.size
   have HN := Hd (HNO.out i hlt)
   have HSET := Hd (HI.out.set hlt (Nat.le_refl _))
   have HCA := Hd (show cAx (tkF r) v.size (axF v r i) x y = if 2 * (axF v r i).b * (tkF r : Int) + (axF v r i).t * (x + y) < 0 then -1 else if (axF v r i).c ≤ (2 * (axF v r i).b * (tkF r : Int) + (axF v r i).t * (x + y)).tdiv (2 * (tkF r : Int) * v.size) then -1 else (2 * (axF v r i).b * (tkF r : Int) + (axF v r i).t * (x + y)).tdiv (2 * (tkF r : Int) * v.size) from rfl)
   have hm1 := rk_mul_abs (x := 2 * (axF v r i).b) (y := (tkF r : Int)) (K := 200000) (M := 216000) (by decide) (by decide) (by omega) (by omega)
   have hm2 := rk_mul_abs (x := (axF v r i).t) (y := x + y) (K := 60) (M := 86400000000) (by decide) (by decide) (by omega) (by omega)
   have hm3 := rk_mul_abs (x := 2 * (tkF r : Int)) (y := v.size) (K := 432000) (M := 1000) (by decide) (by decide) (by omega) (by omega)
   have hm4 : 0 < 2 * (tkF r : Int) * v.size := Int.mul_pos (by omega) (by omega)
   have a3 := cell_of_row _ _ 3 _ _ _ HI.out.wk
   have a13 := cell_of_row _ _ 13 _ _ _ HI.out.wk
   have lz := (blkL HI.out.wk)
   have lz1 := (blkL HI.out.at_)
   generalize hcax : cAx (tkF r) v.size (axF v r i) x y = CA at *
   generalize (axF v r i).b = ab at *
   generalize (axF v r i).t = at_ at *
   generalize (axF v r i).c = ac at *
   go_upto_region 5 with (fail)
   have hb1 := rk_below wr (.cells #[.int .i64 ab, .int .i64 at_, .int .i64 ac] 147)
   have hn1 := heap_alloc_new wr (.cells #[.int .i64 ab, .int .i64 at_, .int .i64 ac] 147)
   have HI1 := Hd (HI.out.step hb1)
   have HSET1 := Hd (fun (h : 0 ≤ CA) => (HI1.out.set hlt (Nat.le_refl _) (by rw [hcax]; exact h)))
   have hxq := lz1
   clear HI HSET a3 a13 lz lz1 hb1 hix
   have lx := (blkL hn1)
   generalize World.alloc wr _ = V1 at *
   generalize wr.heap.size = xb at *
   have a3 := cell_of_row _ _ 3 _ _ _ HI1.out.wk
   have a13 := cell_of_row _ _ 13 _ _ _ HI1.out.wk
   obtain ⟨x0, x1, x2⟩ := cr3 hn1
   have HX := Lib.hid hn1
   have lz := (blkL HI1.out.wk)
   have lz1 := (blkL HI1.out.at_)
   have z1 : ∃ u, V1.cell? ⟨w.heap.size + 1, i, none⟩ = some u := ⟨_, by
    rw [cell_of_row _ _ i _ _ _ HI1.out.at_]
    exact Array.getElem?_eq_getElem (by simpa using hlt)⟩
   have zf : V1.frozen? ⟨w.heap.size + 1, i, none⟩ = false := frozen_of_row _ _ _ _ _ HI1.out.at_
   obtain ⟨zu, z1⟩ := z1
   clear hn1
   have HCAX := Lib.hid hcax
   clear hcax
   generalize hs1 : 2 * ab * (tkF r : Int) = s1 at *
   generalize hs2 : x + y = s2 at *
   generalize hs3 : at_ * s2 = s3 at *
   generalize hs4 : 2 * (tkF r : Int) * v.size = s4 at *
   generalize hs5 : s1 + s3 = s5 at *
   obtain ⟨hq1, hq2⟩ := tdiv_abs s5 s4 6000000000000 (by omega)
   have hd4 : (s4 == 0) = false := beq_eq_false_iff_ne.2 (by omega)
   by_cases hneg : s5 < 0
   ·have HE := Hd (HN.out (by rw [HCA.out, if_pos hneg]; decide))
    obtain rfl := HE.out
    go_wp2
    go_ret
    exact ⟨rfl, HI1.out.below⟩
   ·rw [if_neg hneg] at HCA
    have hq0 : 0 ≤ s5.tdiv s4 := Int.tdiv_nonneg (by omega) (by omega)
    generalize hqq : s5.tdiv s4 = qq at *
    by_cases hge : ac ≤ qq
    ·have HE := Hd (HN.out (by rw [HCA.out, if_pos hge]; decide))
     obtain rfl := HE.out
     go_upto_region 9 with (fail)
     (have zs := World.cell?_setCell_same' V1 ⟨w.heap.size + 1, i, none⟩ (.int .i64 qq) (by rw [z1]; rfl); have x2' := (World.cell?_of_block (heap_setCell_other V1 ⟨w.heap.size + 1, i, none⟩ xb (.int .i64 qq) (by show xb ≠ w.heap.size + 1; omega))).trans x2; have HB2 := Hd (HI1.out.below.setCell (p := ⟨w.heap.size + 1, i, none⟩) (show w.heap.size ≤ w.heap.size + 1 by omega) (.int .i64 qq)); have lz1' : w.heap.size + 1 < (V1.setCell ⟨w.heap.size + 1, i, none⟩ (.int .i64 qq)).heap.size := (by simpa using lz1); have lx' : xb < (V1.setCell ⟨w.heap.size + 1, i, none⟩ (.int .i64 qq)).heap.size := (by simpa using lx); clear a3 a13 x0 x1 x2 lz z1 zf HX; generalize World.setCell V1 ⟨w.heap.size + 1, i, none⟩ (.int .i64 qq) = V2 at *)
     (refine wp_region_calm (V2.heap.size) (by kernel_rfl) (by kernel_rfl) ?_; (repeat (first | go_big_quiet_step (fail) | quiet_step (fail))); refine wpQuiet_nil (wqn ?_); intro xq)
     have HB3 := Hd (HB2.out.trans ((Calm.below xq).mono HB2.out.size))
     generalize Calm.val xq = wq at *
     go_wp2
     go_ret
     exact ⟨rfl, HB3.out⟩
    ·rw [if_neg hge] at HCA
     have hge' : decide (ac ≤ qq) = false := decide_eq_false hge
     have HSET2 := Hd (HSET1.out (by rw [HCA.out]; omega))
     rw [HCAX.out, HCA.out] at HSET2
     go_upto_region 9 with (fail)
     (have zs := World.cell?_setCell_same' V1 ⟨w.heap.size + 1, i, none⟩ (.int .i64 qq) (by rw [z1]; rfl); have x2' := (World.cell?_of_block (heap_setCell_other V1 ⟨w.heap.size + 1, i, none⟩ xb (.int .i64 qq) (by show xb ≠ w.heap.size + 1; omega))).trans x2; have HB2 := Hd (HI1.out.below.setCell (p := ⟨w.heap.size + 1, i, none⟩) (show w.heap.size ≤ w.heap.size + 1 by omega) (.int .i64 qq)); have lz1' : w.heap.size + 1 < (V1.setCell ⟨w.heap.size + 1, i, none⟩ (.int .i64 qq)).heap.size := (by simpa using lz1); have lx' : xb < (V1.setCell ⟨w.heap.size + 1, i, none⟩ (.int .i64 qq)).heap.size := (by simpa using lx); clear a3 a13 x0 x1 x2 lz z1 zf HX; generalize World.setCell V1 ⟨w.heap.size + 1, i, none⟩ (.int .i64 qq) = V2 at *)
     (refine wp_region_calm (V2.heap.size) (by kernel_rfl) (by kernel_rfl) ?_; (repeat (first | go_big_quiet_step (fail) | quiet_step (fail))); refine wpQuiet_nil (wqn ?_); intro xq)
     have HI3 := Hd (HSET2.out.step (Calm.below xq))
     generalize Calm.val xq = wq at *
     go_wp2
     go_roundw
     case rel => first | exact ⟨i + 1, by omega, by go_num, HI3⟩ | ((repeat apply Exists.intro); exact ⟨⟨i + 1, by omega, by go_num, HI3⟩, rfl⟩)
     case measure => simp [intOf]; omega
  ·obtain rfl : i = 3 := by omega
   have hlt' : ¬ (3 : Int) < 3 := by omega
   have HE := Hd (HYES.out HI.out.done)
   obtain ⟨a0, a1⟩ := cr2 HI.out.wk
   obtain ⟨b0, b1, b2⟩ := cr3 HI.out.at_
   have hb0 : -1 ≤ caI v r x y 3 0 ∧ caI v r x y 3 0 < 12 := by
    have := cAx_bound (T := (tkF r : Int)) (S := v.size) (a := axF v r 0) (p := x) (q := y) (by have := tkF_bound HR.out; omega) HV.out.size.1 HV.out.x.1
    have h2 := HV.out.x
    show -1 ≤ cAx (tkF r) v.size (axF v r 0) x y ∧ cAx (tkF r) v.size (axF v r 0) x y < 12
    have h3 : (axF v r 0).c = v.nx := rfl
    omega
   have hb1 : -1 ≤ caI v r x y 3 1 ∧ caI v r x y 3 1 < 12 := by
    have := cAx_bound (T := (tkF r : Int)) (S := v.size) (a := axF v r 1) (p := x) (q := y) (by have := tkF_bound HR.out; omega) HV.out.size.1 HV.out.y.1
    have h2 := HV.out.y
    show -1 ≤ cAx (tkF r) v.size (axF v r 1) x y ∧ cAx (tkF r) v.size (axF v r 1) x y < 12
    have h3 : (axF v r 1).c = v.ny := rfl
    omega
   have hb2 : -1 ≤ caI v r x y 3 2 ∧ caI v r x y 3 2 < 12 := by
    have := cAx_bound (T := (tkF r : Int)) (S := v.size) (a := axF v r 2) (p := x) (q := y) (by have := tkF_bound HR.out; omega) HV.out.size.1 HV.out.z.1
    have h2 := HV.out.z
    show -1 ≤ cAx (tkF r) v.size (axF v r 2) x y ∧ cAx (tkF r) v.size (axF v r 2) x y < 12
    have h3 : (axF v r 2).c = v.nz := rfl
    omega
   generalize caI v r x y 3 0 = k0 at *
   generalize caI v r x y 3 1 = k1 at *
   generalize caI v r x y 3 2 = k2 at *
   have hx := HV.out.x
   have hy := HV.out.y
   have hm1 := rk_mul_abs (x := k2) (y := v.ny) (K := 12) (M := 12) (by decide) (by decide) (by omega) (by omega)
   have hm2 := rk_mul_abs (x := k2 * v.ny + k1) (y := v.nx) (K := 156) (M := 12) (by decide) (by decide) (by omega) (by omega)
   generalize hs1 : k2 * v.ny = s1 at *
   generalize hs2 : s1 + k1 = s2 at *
   generalize hs3 : s2 * v.nx = s3 at *
   obtain rfl := HE.out
   have HBB := Lib.hid HI.out.below
   clear HI HNO HYES HCB
   go_wp2
   go_ret
   exact ⟨rfl, HBB.out⟩
end Go.Proofs.YtgmpelhphnmknaaGreat
