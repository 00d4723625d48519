/- Texts put together: RegHead, ImLk. -/
import Derived.Test.YtkdopjkdokgipaaGreatDoorGaA
import Derived.Deep.RegionHeld
import Derived.Test.YtkdopjkdokgipaaGreatDoorImOwn
import Derived.Test.YtkdopjkdokgipaaGreatDoorImB
namespace Go.Proofs.YtkdopjkdokgipaaGreatDoor
open Go Go.RowKit
set_option linter.unusedVariables false
set_option linter.unusedSimpArgs false
section
variable {P : Program} {ops : Array Oper} {md : Region.Mode} {S : World → Prop} {Q : Exit → Act → World → Prop}
/-- Whatever order the first n operations come in, S holding behind each, L holds behind them. -/
def headH (P : Program) (md : Region.Mode) (ops : Array Oper) (Q : Exit → Act → World → Prop) (S : World → Prop) (n : Nat) (L : Array Bool → Act → World → Prop) : Nat → Array Bool → Act → World → Prop
  | 0, listed, a, w => L listed a w
  | f + 1, listed, a, w => Region.ready md ops listed ≠ [] ∧ ∀ i ∈ Region.ready md ops listed, i < n ∧ wpOp P ops Q i (fun a' w' => S w' ∧ headH P md ops Q S n L f (listed.setIfInBounds i true) a' w') a w
theorem any_of_headH {n g : Nat} {L : Array Bool → Act → World → Prop} (hL : ∀ listed a w, L listed a w → wpAny P md ops Q g listed a w) :
    ∀ (f : Nat) (listed : Array Bool) (a : Act) (w : World), headH P md ops Q S n L f listed a w → wpAny P md ops Q (f + g) listed a w
  | 0, listed, a, w, h => by rw [Nat.zero_add]; exact hL _ _ _ h
  | f + 1, listed, a, w, h => by
    rw [show f + 1 + g = (f + g) + 1 by omega]
    exact ⟨fun h0 => absurd h0 h.1, fun i hi => wpOp_mono (fun a' w' h' => any_of_headH hL f _ a' w' h'.2) (h.2 i hi).2⟩
/-- each of the first n operations that has not come up is waited for by one up to n -/
def Sunk (md : Region.Mode) (ops : Array Oper) (n : Nat) (listed : Array Bool) : Prop := ∀ i, i < n → listed.getD i true = false → ∃ j, i < j ∧ j ≤ n ∧ Region.waitsFor md ops j i = true
theorem Sunk.set {n i : Nat} {listed : Array Bool} (h : Sunk md ops n listed) : Sunk md ops n (listed.setIfInBounds i true) := fun k hk hl => h k hk (by
  by_cases e : i = k
  · subst e
    rcases Nat.lt_or_ge i listed.size with h' | h'
    · simp [h'] at hl
    · simp [Array.getElem?_eq_none h'] at hl
  · rw [getD_set_ne true e] at hl; exact hl)
theorem late_waits {n : Nat} {listed : Array Bool} (hs : Sunk md ops n listed) (hc : Region.chainB md ops n = true) (hn : n < ops.size) (inv : HeadInv md ops n listed) :
    ∀ (d i : Nat), n - i = d → i < n → listed.getD i true = false → ∀ t, n ≤ t → t ∉ Region.ready md ops listed := by
  intro d
  induction d using Nat.strongRecOn with
  | _ d ih =>
    intro i hd hi hun t ht hr
    obtain ⟨_, ot, hot, hall⟩ := mem_ready.1 hr
    have htlt : t < ops.size := (Array.getElem?_eq_some_iff.1 hot).1
    by_cases htn : t = n
    · subst htn
      obtain ⟨j, hj1, hj2, hw⟩ := hs i hi hun
      obtain ⟨oj, hoj, e, he, hb, hon⟩ := Region.waitsFor_spec hw
      by_cases hjt : j = t
      · subst hjt
        obtain rfl : oj = ot := Option.some.inj (hoj.symm.trans hot)
        have h2 := hall e he hb
        rw [hon, getD_both hun] at h2
        cases h2
      · cases hl : listed.getD j false with
        | true =>
          have h2 := inv.closed j oj hoj hl e he hb
          rw [hon, getD_both hun] at h2
          cases h2
        | false =>
          exact ih (t - j) (by omega) j rfl (by omega) (getD_in (by rw [inv.size]; omega) hl) t (Nat.le_refl _) hr
    · have h1 := List.all_eq_true.1 hc t (List.mem_range.2 htlt)
      simp only [Bool.or_eq_true, decide_eq_true_eq] at h1
      rcases h1 with h1 | h1
      · omega
      · obtain ⟨o', ho', e, he, hb, hon⟩ := Region.waitsFor_spec h1
        obtain rfl : o' = ot := Option.some.inj (ho'.symm.trans hot)
        have h2 := hall e he hb
        rw [hon, getD_both (inv.tail (t - 1) (by omega) (by omega))] at h2
        cases h2
theorem headH_first {n i : Nat} {oi : Oper} {v : Value} {L : Array Bool → Act → World → Prop} (hi : ops[i]? = some oi) (hsel : ∀ (j : Nat) (o : Oper) cs b, ops[j]? = some o → o.op ≠ .select cs b)
    (hQ : ∀ c a w, Q (.panic c) (a.put oi.dst v) w → Q (.panic c) a w)
    (hc : Region.chainB md ops n = true) (hn : n < ops.size) (hin : i < n)
    (hdone : ∀ listed a w, L listed a w → ∀ j ∈ Region.ready md ops listed, n ≤ j) :
    ∀ (f : Nat) (listed : Array Bool) (a : Act) (w : World), HeadInv md ops n listed → Sunk md ops n listed →
      (∀ j oj, ops[j]? = some oj → j ≠ i → listed.getD j true = false → (∀ e ∈ oj.after, Region.binds md e = true → e.on ≠ i) → oi.apart ops oj = true) →
      i ∈ Region.ready md ops listed → YieldsIf P ops S oi v a → S w →
      headH P md ops Q S n L f (listed.setIfInBounds i true) (a.put oi.dst v) w → headH P md ops Q S n L (f + 1) listed a w := by
  have inside : ∀ (listed : Array Bool), HeadInv md ops n listed → Sunk md ops n listed → i ∈ Region.ready md ops listed → ∀ j ∈ Region.ready md ops listed, j < n := fun listed inv sk hr j hj => by
    rcases Nat.lt_or_ge j n with h | h
    · exact h
    · exact absurd hj (late_waits sk hc hn inv _ i rfl hin (mem_ready.1 hr).1 j h)
  have nonempty : ∀ (listed : Array Bool), i ∈ Region.ready md ops listed → Region.ready md ops listed ≠ [] := fun listed hr h => by rw [h] at hr; cases hr
  intro f
  induction f with
  | zero =>
    intro listed a w inv sk _ hr hy hS H
    refine ⟨nonempty _ hr, fun j hj => ⟨inside _ inv sk hr j hj, ?_⟩⟩
    by_cases hji : j = i
    · subst hji; exact hy.wpOp hi hS ⟨hS, H⟩
    · have := hdone _ _ _ H j (ready_mono hj hji)
      have := inside _ inv sk hr j hj
      omega
  | succ f ih =>
    intro listed a w inv sk hfree hr hy hS H
    refine ⟨nonempty _ hr, fun j hj => ?_⟩
    have hjn := inside _ inv sk hr j hj
    refine ⟨hjn, ?_⟩
    by_cases hji : j = i
    · subst hji; exact hy.wpOp hi hS ⟨hS, H⟩
    · obtain ⟨hjun, oj, hoj, hall⟩ := mem_ready.1 hj
      have hnot : ∀ e ∈ oj.after, Region.binds md e = true → e.on ≠ i := fun e he hb heq => by
        have h1 := hall e he hb
        rw [heq, getD_both (mem_ready.1 hr).1] at h1
        cases h1
      have h2 := wpOp_putIf hoj (hfree j oj hoj hji hjun hnot) (fun cs b => hsel i oi cs b hi) (fun cs b => hsel j oj cs b hoj) hQ hy (H.2 j (ready_mono hj hji)).2
      refine wpOp_mono (fun a' w' h3 => ⟨h3.2.1, ih (listed.setIfInBounds j true) a' w' (inv.set hj hjn) sk.set ?_ (ready_mono hr (Ne.symm hji)) h3.1 h3.2.1 ?_⟩) h2
      · intro k ok hk hki hun hno
        refine hfree k ok hk hki ?_ hno
        by_cases hjk : j = k
        · subst hjk; exact hjun
        · rw [getD_set_ne true hjk] at hun; exact hun
      · rw [Array.setIfInBounds_comm _ _ hji]
        exact h3.2.2
/-- what HeadInv asks, as a Bool -/
def headInvB (md : Region.Mode) (ops : Array Oper) (n : Nat) (listed : Array Bool) : Bool :=
  decide (listed.size = ops.size) && ((List.range ops.size).all (fun j => !(listed.getD j false) || ((ops[j]?).map (·.after.all fun e => !Region.binds md e || listed.getD e.on false)).getD true) && (List.range ops.size).all (fun t => decide (t < n) || !listed.getD t true))
theorem headInv_of {md : Region.Mode} {ops : Array Oper} {n : Nat} {listed : Array Bool} (h : headInvB md ops n listed = true) : HeadInv md ops n listed := by
  simp only [headInvB, Bool.and_eq_true, decide_eq_true_eq, List.all_eq_true, List.mem_range, Bool.or_eq_true, Bool.not_eq_true'] at h
  obtain ⟨h1, h2, h3⟩ := h
  refine ⟨h1, fun j oj hoj hl e he hb => ?_, fun t ht ht' => ?_⟩
  · have hj : j < ops.size := (Array.getElem?_eq_some_iff.1 hoj).1
    rcases h2 j hj with h | h
    · rw [hl] at h; cases h
    · rw [hoj] at h
      simp only [Option.map_some, Option.getD_some, Array.all_eq_true'] at h
      have := h e he
      rw [hb] at this
      simpa using this
  · rcases h3 t ht' with h | h
    · omega
    · exact h
def sunkB (md : Region.Mode) (ops : Array Oper) (n : Nat) (listed : Array Bool) : Bool := (List.range n).all fun i => listed.getD i true || (List.range (n + 1)).any fun j => decide (i < j) && Region.waitsFor md ops j i
theorem sunk_of {md : Region.Mode} {ops : Array Oper} {n : Nat} {listed : Array Bool} (h : sunkB md ops n listed = true) : Sunk md ops n listed := fun i hi hl => by
  have h1 := List.all_eq_true.1 h i (List.mem_range.2 hi)
  rw [hl, Bool.false_or] at h1
  obtain ⟨j, hj, hj2⟩ := List.any_eq_true.1 h1
  simp only [Bool.and_eq_true, decide_eq_true_eq] at hj2
  exact ⟨j, hj2.1, by have := List.mem_range.1 hj; omega, hj2.2⟩
/-- what the tail is owed -/
def tailL (P : Program) (md : Region.Mode) (l : List Oper) (Q : Exit → Act → World → Prop) (n : Nat) (listed : Array Bool) (a : Act) (w : World) : Prop :=
  Region.seqB md l.toArray (l.toArray.size - n) n listed = true ∧ wpList P l.toArray Q (l.drop n) a w
theorem headH_take {l : List Oper} {n i : Nat} {oi : Oper} {v : Value} {f : Nat} {listed : Array Bool} {a : Act} {w : World} (hi : l.toArray[i]? = some oi)
    (hB : (Region.noSelect l.toArray && decide (n < l.toArray.size) && sunkB md l.toArray n listed && Region.chainB md l.toArray n && decide (i < n) && headInvB md l.toArray n listed && Region.free md l.toArray listed i && (Region.ready md l.toArray listed).contains i) = true)
    (hQ : ∀ c a w, Q (.panic c) (a.put oi.dst v) w → Q (.panic c) a w) (hy : YieldsIf P l.toArray S oi v a) (hS : S w)
    (h : headH P md l.toArray Q S n (tailL P md l Q n) f (listed.setIfInBounds i true) (a.put oi.dst v) w) : headH P md l.toArray Q S n (tailL P md l Q n) (f + 1) listed a w := by
  simp only [Bool.and_eq_true, decide_eq_true_eq] at hB
  obtain ⟨⟨⟨⟨⟨⟨⟨h1, h2⟩, h3⟩, h4⟩, h5⟩, h6⟩, h7⟩, h8⟩ := hB
  exact headH_first hi (Region.noSelect_spec h1) hQ h4 h2 h5 (fun listed a w hL => seqB_ready hL.1) f listed a w (headInv_of h6) (sunk_of h3) (Region.free_spec hi h7) (by simpa using h8) hy hS h
/-- Whichever comes up next. -/
theorem headH_all {n f : Nat} {L : Array Bool → Act → World → Prop} {rs : List Nat} {listed : Array Bool} {a : Act} {w : World} (hr : Region.ready md ops listed = rs) (hne : rs ≠ []) (hl : rs.all (fun i => decide (i < n)) = true)
    (h : ∀ i ∈ rs, wpOp P ops Q i (fun a' w' => S w' ∧ headH P md ops Q S n L f (listed.setIfInBounds i true) a' w') a w) : headH P md ops Q S n L (f + 1) listed a w :=
  ⟨by rw [hr]; exact hne, fun i hi => ⟨by rw [hr] at hi; have := List.all_eq_true.1 hl i hi; simpa using this, h i (by rw [← hr]; exact hi)⟩⟩
/-- One operation that comes up, written out. -/
theorem headH_op {n f : Nat} {L : Array Bool → Act → World → Prop} {i : Nat} {o : Oper} {listed : Array Bool} {a : Act} {w : World} (ho : ops[i]? = some o)
    (h : ∀ K' : Act → World → Prop, Shut (∀ a w, S w → (S w → headH P md ops Q S n L f (listed.setIfInBounds i true) a w) → K' a w) → if Region.wanted o (yielded ops a.tmps) = true then Oper.wp P o a w K' Q else K' (a.put o.dst undef) w) :
    wpOp P ops Q i (fun a' w' => S w' ∧ headH P md ops Q S n L f (listed.setIfInBounds i true) a' w') a w :=
  wpOp_step ho (fun K' hK => h K' (fun a w hS hW => hK a w ⟨hS, hW hS⟩))
end
theorem any_of_tail {P : Program} {md : Region.Mode} {Q : Exit → Act → World → Prop} {a : Act} {w : World} {l : List Oper} {listed : Array Bool} (n f : Nat) (S : World → Prop) (hB : decide (n < l.toArray.size) = true) (hS : S w)
    (h : S w → headH P md l.toArray Q S n (tailL P md l Q n) f listed a w) : wpAny P md l.toArray Q (f + (l.toArray.size - n)) listed a w := by
  have hn := of_decide_eq_true hB
  exact any_of_headH (Q := Q) (g := l.toArray.size - n) (fun listed a' w' hL => by
    have hdl : (l.drop n).length = l.toArray.size - n := by simp
    have := wpAny_of_seq (md := md) (Q' := Q) (l.drop n) n listed a' w' (fun j => by simp [List.getElem?_drop]) (by rw [hdl]; exact hL.1) hL.2
    rwa [hdl] at this) _ _ _ _ (h hS)
end Go.Proofs.YtkdopjkdokgipaaGreatDoor
namespace Go.Proofs.YtkdopjkdokgipaaGreatDoor
open Go.RowKit
set_option linter.unusedVariables false
set_option linter.unusedSimpArgs false
def rowW (n : Nat) (b : Nat) : Value := .slice (some ⟨b, 0, none⟩) n n
/-- what look holds behind i beams: the image's box, the search's box, the rows -/
structure LK (a : Option Addr) (n c : Nat) (ba : Option Addr) (m bc : Nat) (ss : Nat → SV) (bs : Nat → BM) (w : World) (wa : Option Addr) (wc : Nat) (ra : Option Addr) (rc : Nat) (i : Nat) (ws rs : List Nat) (W : World) : Prop where
  li : LI a n c ba m bc w W
  sbox : W.heap[w.heap.size + 1]? = some (.cells #[.slice a n c, .slice ba m bc, .slice wa i wc, .slice ra i rc] 165)
  wl : ws.length = i
  rl : rs.length = i
  wown : W.ownsRow (w.heap.size + 2) 24 1 (.slice wa i wc) i (ws.map (rowW n))
  rown : W.ownsRow (w.heap.size + 2) 46 1 (.slice ra i rc) i (rs.map (rowW (n + 1)))
  wrow : ∀ j, j < i → IR 3 W (ws.getD j 0) n (bs j).w
  rrow : ∀ j, j < i → SR 28 W (rs.getD j 0) (n + 1) (restS n ss (bs j))
  wlt : ∀ j, j < i → w.heap.size + 2 ≤ ws.getD j 0
  rlt : ∀ j, j < i → w.heap.size + 2 ≤ rs.getD j 0
theorem LK.step {a : Option Addr} {n c : Nat} {ba : Option Addr} {m bc : Nat} {ss : Nat → SV} {bs : Nat → BM} {w : World} {wa : Option Addr} {wc : Nat} {ra : Option Addr} {rc i : Nat} {ws rs : List Nat} {W W' : World} (h : LK a n c ba m bc ss bs w wa wc ra rc i ws rs W) (hb : Below W.heap.size W W') : LK a n c ba m bc ss bs w wa wc ra rc i ws rs W' :=
  ⟨LI_step h.li hb, (hb.block _ (Array.getElem?_eq_some_iff.1 h.sbox).1).trans h.sbox, h.wl, h.rl, own_below h.wown hb, own_below h.rown hb, fun j hj => (h.wrow j hj).step hb, fun j hj => (h.rrow j hj).step hb, h.wlt, h.rlt⟩
/-- a store into a block of numbers or spans that is none of the rows -/
theorem LK.put {a : Option Addr} {n c : Nat} {ba : Option Addr} {m bc : Nat} {ss : Nat → SV} {bs : Nat → BM} {w : World} {wa : Option Addr} {wc : Nat} {ra : Option Addr} {rc i : Nat} {ws rs : List Nat} {W : World} {b o : Nat} {cur : Array Value} {t : TypeId} {f : Nat × Nat} (h : LK a n c ba m bc ss bs w wa wc ra rc i ws rs W) (hb : w.heap.size + 2 ≤ b) (hw : ∀ j, j < i → ws.getD j 0 < b) (hr : ∀ j, j < i → rs.getD j 0 < b)
    (hc : W.heap[b]? = some (.cells cur t f)) (t1 : 24 ≠ t) (t2 : 46 ≠ t) (u : Value) : LK a n c ba m bc ss bs w wa wc ra rc i ws rs (W.setCell ⟨b, o, none⟩ u) := by
  obtain ⟨l0, l1, l2, l3⟩ := h.li
  refine ⟨⟨(World.cell?_of_block (heap_setCell_other W ⟨b, o, none⟩ w.heap.size u (by show w.heap.size ≠ b; omega))).trans l0, (World.cell?_of_block (heap_setCell_other W ⟨b, o, none⟩ w.heap.size u (by show w.heap.size ≠ b; omega))).trans l1, by simpa using l2, l3.setCell (p := ⟨b, o, none⟩) (by show w.heap.size ≤ b; omega) u⟩,
    (heap_setCell_other W ⟨b, o, none⟩ (w.heap.size + 1) u (by show w.heap.size + 1 ≠ b; omega)).trans h.sbox, h.wl, h.rl, ownsRow_setCell_other h.wown (own_off h.wown hc t1) u, ownsRow_setCell_other h.rown (own_off h.rown hc t2) u,
    fun j hj => (h.wrow j hj).other (by have := hw j hj; omega) u, fun j hj => (h.rrow j hj).other (by have := hr j hj; omega) u, h.wlt, h.rlt⟩
/-- the rests that are known when t cells, the last ones, are done -/
def restT (n : Nat) (ss : Nat → SV) (b : BM) (t c : Nat) : SV := if n - t ≤ c then restS n ss b c else ⟨0, 0⟩
theorem restT_zero {n : Nat} {ss : Nat → SV} {b : BM} {c : Nat} (hc : c < n + 1) : (⟨0, 0⟩ : SV) = restT n ss b 0 c := by
  unfold restT
  split
  · have : n - c = 0 := by omega
    unfold restS; rw [this]; rfl
  · rfl
theorem restT_step {n t c : Nat} {ss : Nat → SV} {b : BM} (ht : t < n) (hc : c < n + 1) : (if c = n - (t + 1) then (⟨rest n b (sLo ss) (t + 1), rest n b (sHi ss) (t + 1)⟩ : SV) else restT n ss b t c) = restT n ss b (t + 1) c := by
  unfold restT
  by_cases e : c = n - (t + 1)
  · rw [if_pos e, if_pos (by omega), restS, show n - c = t + 1 by omega]
  · rw [if_neg e]
    by_cases h : n - t ≤ c
    · rw [if_pos h, if_pos (by omega)]
    · rw [if_neg h, if_neg (by omega)]
theorem rest_bound {n : Nat} {b : BM} {f : Nat → Int} (hw : ∀ c, 0 ≤ b.w c ∧ b.w c ≤ 1000000) (hf : ∀ c, c < n → 0 ≤ f c ∧ f c ≤ 1000) : ∀ t, t ≤ n → 0 ≤ rest n b f t ∧ rest n b f t ≤ 1000000000 * (t : Int)
  | 0, _ => by simp [rest]
  | t + 1, ht => by
    have ih := rest_bound hw hf t (by omega)
    have h1 := hw (n - (t + 1))
    have h2 := hf (n - (t + 1)) (by omega)
    have h3 : 0 ≤ b.w (n - (t + 1)) * f (n - (t + 1)) := Int.mul_nonneg h1.1 h2.1
    have h4 : b.w (n - (t + 1)) * f (n - (t + 1)) ≤ 1000000 * 1000 := Int.mul_le_mul h1.2 h2.2 h2.1 (by omega)
    rw [rest]
    push_cast
    omega
theorem wUp_step {n m : Nat} {cs ws : Nat → Int} {j c : Nat} (hs : setB n m cs = true) (hj : j < m) : (if c = (cs j).toNat then ws j else wUp cs ws j c) = wUp cs ws (j + 1) c := by
  have := setB_at hs hj
  rw [wUp]
  by_cases e : c = (cs j).toNat
  · rw [if_pos e, if_pos (by omega)]
  · rw [if_neg e, if_neg (by omega)]
/-- what look holds while a beam's row and its rests are filled -/
structure LP (a : Option Addr) (n c : Nat) (ba : Option Addr) (m bc : Nat) (ss : Nat → SV) (bs : Nat → BM) (w : World) (wa : Option Addr) (wc : Nat) (ra : Option Addr) (rc : Nat) (i : Nat) (ws rs : List Nat)
    (x : Nat) (ca : Option Addr) (cn cc : Nat) (va : Option Addr) (vn vc : Nat) (lo hi : Int) (wb rb : Nat) (f : Nat → Int) (g : Nat → SV) (W : World) : Prop where
  lk : LK a n c ba m bc ss bs w wa wc ra rc i ws rs W
  bx : BX x ca cn cc va vn vc lo hi W
  ir : IR 3 W wb n f
  sr : SR 28 W rb (n + 1) g
  wlt : ∀ j, j < i → ws.getD j 0 < wb ∧ ws.getD j 0 < rb
  rlt : ∀ j, j < i → rs.getD j 0 < wb ∧ rs.getD j 0 < rb
  ne : wb ≠ rb
  x0 : x < wb ∧ x < rb
  w0 : w.heap.size + 2 ≤ wb
  r0 : w.heap.size + 2 ≤ rb
section
variable {a : Option Addr} {n c : Nat} {ba : Option Addr} {m bc : Nat} {ss : Nat → SV} {bs : Nat → BM} {w : World} {wa : Option Addr} {wc : Nat} {ra : Option Addr} {rc : Nat} {i : Nat} {ws rs : List Nat}
  {x : Nat} {ca : Option Addr} {cn cc : Nat} {va : Option Addr} {vn vc : Nat} {lo hi : Int} {wb rb : Nat} {f : Nat → Int} {g : Nat → SV} {W : World}
theorem BX_put {b o : Nat} (h : BX x ca cn cc va vn vc lo hi W) (hb : x ≠ b) (u : Value) : BX x ca cn cc va vn vc lo hi (W.setCell ⟨b, o, none⟩ u) := by
  obtain ⟨h0, h1, h2, h3, h4⟩ := h
  have k : ∀ j, (W.setCell ⟨b, o, none⟩ u).cell? ⟨x, j, none⟩ = W.cell? ⟨x, j, none⟩ := fun j => World.cell?_of_block (heap_setCell_other W ⟨b, o, none⟩ x u hb)
  exact ⟨by simpa using h0, (k 0).trans h1, (k 1).trans h2, (k 2).trans h3, (k 3).trans h4⟩
theorem LP.step {W' : World} (h : LP a n c ba m bc ss bs w wa wc ra rc i ws rs x ca cn cc va vn vc lo hi wb rb f g W) (hb : Below W.heap.size W W') : LP a n c ba m bc ss bs w wa wc ra rc i ws rs x ca cn cc va vn vc lo hi wb rb f g W' :=
  ⟨h.lk.step hb, BX_step h.bx hb, h.ir.step hb, h.sr.step hb, h.wlt, h.rlt, h.ne, h.x0, h.w0, h.r0⟩
theorem LP.gcongr {g' : Nat → SV} (h : LP a n c ba m bc ss bs w wa wc ra rc i ws rs x ca cn cc va vn vc lo hi wb rb f g W) (e : ∀ k, k < n + 1 → g k = g' k) : LP a n c ba m bc ss bs w wa wc ra rc i ws rs x ca cn cc va vn vc lo hi wb rb f g' W :=
  ⟨h.lk, h.bx, h.ir, h.sr.congr e, h.wlt, h.rlt, h.ne, h.x0, h.w0, h.r0⟩
theorem LP.setw (h : LP a n c ba m bc ss bs w wa wc ra rc i ws rs x ca cn cc va vn vc lo hi wb rb f g W) {j : Nat} (hj : j < n) (y : Int) {f' : Nat → Int} (e : ∀ k, k < n → (if k = j then y else f k) = f' k) : LP a n c ba m bc ss bs w wa wc ra rc i ws rs x ca cn cc va vn vc lo hi wb rb f' g (W.setCell ⟨wb, j, none⟩ (.int .i64 y)) := by
  obtain ⟨cur, hc, _, _⟩ := h.ir
  exact ⟨h.lk.put h.w0 (fun j hj => (h.wlt j hj).1) (fun j hj => (h.rlt j hj).1) hc (by decide) (by decide) _, BX_put h.bx (by have := h.x0; omega) _, (h.ir.set hj y).congr e, h.sr.other h.ne _, h.wlt, h.rlt, h.ne, h.x0, h.w0, h.r0⟩
theorem LP.setr (h : LP a n c ba m bc ss bs w wa wc ra rc i ws rs x ca cn cc va vn vc lo hi wb rb f g W) {j : Nat} (hj : j < n + 1) (y z : Int) {g' : Nat → SV} (e : ∀ k, k < n + 1 → (if k = j then (⟨y, z⟩ : SV) else g k) = g' k) :
    LP a n c ba m bc ss bs w wa wc ra rc i ws rs x ca cn cc va vn vc lo hi wb rb f g' ((W.setCell ⟨rb, j * 2, none⟩ (.int .i64 y)).setCell ⟨rb, j * 2 + 1, none⟩ (.int .i64 z)) := by
  obtain ⟨cur, hc, _, _⟩ := h.sr
  have h1 := h.lk.put (o := j * 2) h.r0 (fun j hj => (h.wlt j hj).2) (fun j hj => (h.rlt j hj).2) hc (by decide) (by decide) (.int .i64 y)
  have hc2 := heap_setCell_same W rb (j * 2) _ _ (.int .i64 y) hc
  have h2 := h1.put (o := j * 2 + 1) h.r0 (fun j hj => (h.wlt j hj).2) (fun j hj => (h.rlt j hj).2) hc2 (by decide) (by decide) (.int .i64 z)
  exact ⟨h2, BX_put (BX_put h.bx (by have := h.x0; omega) _) (by have := h.x0; omega) _, (h.ir.other (Ne.symm h.ne) _).other (Ne.symm h.ne) _, (h.sr.set hj y z).congr e, h.wlt, h.rlt, h.ne, h.x0, h.w0, h.r0⟩
end
/-- what lies between the appends to the two outer rows: all but these rows as in W0 -/
structure AP (base : Nat) (W0 W : World) (wv rv : Value) (nw nr : Nat) (wl rl : List Value) : Prop where
  below : Below base W0 W
  keep : ∀ (b : Nat) (cur : Array Value) (t : TypeId) (f : Nat × Nat), W0.heap[b]? = some (.cells cur t f) → t ≠ 24 → t ≠ 46 → W.heap[b]? = W0.heap[b]?
  le : base ≤ W0.heap.size
  wown : W.ownsRow base 24 1 wv nw wl
  rown : W.ownsRow base 46 1 rv nr rl
section
variable {base : Nat} {W0 W W' : World} {wv rv : Value} {nw nr : Nat} {wl rl : List Value}
theorem AP.drew (h : AP base W0 W wv rv nw nr wl rl) : AP base W0 W.drew wv rv nw nr wl rl := ⟨h.below.drew, h.keep, h.le, h.wown, h.rown⟩
theorem AP.alloc (h : AP base W0 W wv rv nw nr wl rl) (o : Obj) : AP base W0 (W.alloc o) wv rv nw nr wl rl :=
  ⟨h.below.alloc (Nat.le_trans h.le h.below.size) o, fun b cur t f hb h1 h2 => (Below.heap_alloc W o b (by have := (Array.getElem?_eq_some_iff.1 hb).1; have := h.below.size; omega)).trans (h.keep b cur t f hb h1 h2), h.le, h.wown.alloc o, h.rown.alloc o⟩
theorem AP.app1 (h : AP base W0 W wv rv nw nr wl rl) {wv' : Value} {nw' : Nat} {wl' : List Value} (hg : W.grownBy W' wv.ownBlock) (ho : W'.ownsRow base 24 1 wv' nw' wl') : AP base W0 W' wv' rv nw' nr wl' rl :=
  ⟨h.below.grown hg (Nat.le_trans h.le h.below.size) (fun k e => (h.wown.lt k e).1), fun b cur t f hb h1 h2 => by
    have e := h.keep b cur t f hb h1 h2
    exact (hg.block b (by have := (Array.getElem?_eq_some_iff.1 hb).1; have := h.below.size; omega) (Ne.symm (own_off h.wown (e.trans hb) (Ne.symm h1)))).trans e, h.le, ho, h.rown.kept hg (own_ne h.rown h.wown (by decide))⟩
theorem AP.app2 (h : AP base W0 W wv rv nw nr wl rl) {rv' : Value} {nr' : Nat} {rl' : List Value} (hg : W.grownBy W' rv.ownBlock) (ho : W'.ownsRow base 46 1 rv' nr' rl') : AP base W0 W' wv rv' nw nr' wl rl' :=
  ⟨h.below.grown hg (Nat.le_trans h.le h.below.size) (fun k e => (h.rown.lt k e).1), fun b cur t f hb h1 h2 => by
    have e := h.keep b cur t f hb h1 h2
    exact (hg.block b (by have := (Array.getElem?_eq_some_iff.1 hb).1; have := h.below.size; omega) (Ne.symm (own_off h.rown (e.trans hb) (Ne.symm h2)))).trans e, h.le, h.wown.kept hg (own_ne h.wown h.rown (by decide)), ho⟩
end
section
variable {a : Option Addr} {n c : Nat} {ba : Option Addr} {m bc : Nat} {ss : Nat → SV} {bs : Nat → BM} {w : World} {wa : Option Addr} {wc : Nat} {ra : Option Addr} {rc : Nat} {i : Nat} {ws rs : List Nat}
  {x : Nat} {ca : Option Addr} {cn cc : Nat} {va : Option Addr} {vn vc : Nat} {lo hi : Int} {wb rb : Nat} {W : World}
theorem getD_snoc {l : List Nat} {y j : Nat} : (l ++ [y]).getD j 0 = if j < l.length then l.getD j 0 else if j = l.length then y else 0 := by
  rw [List.getD_eq_getElem?_getD]
  by_cases h : j < l.length
  · rw [if_pos h, List.getElem?_append_left h, ← List.getD_eq_getElem?_getD]
  · rw [if_neg h, List.getElem?_append_right (by omega)]
    by_cases e : j = l.length
    · rw [if_pos e, e]; simp
    · rw [if_neg e]
      have : ([y] : List Nat)[j - l.length]? = none := by rw [List.getElem?_eq_none_iff]; simp; omega
      rw [this]; rfl
theorem LK.next {W0 : World} {g1 g2 p1 p2 : Nat} (h : LP a n c ba m bc ss bs w wa wc ra rc i ws rs x ca cn cc va vn vc lo hi wb rb (bs i).w (restS n ss (bs i)) W0)
    (hA : AP (w.heap.size + 2) W0 W (.slice (some ⟨g1, 0, none⟩) (i + 1) p1) (.slice (some ⟨g2, 0, none⟩) (i + 1) p2) (i + 1) (i + 1) (ws.map (rowW n) ++ [rowW n wb]) (rs.map (rowW (n + 1)) ++ [rowW (n + 1) rb])) :
    LK a n c ba m bc ss bs w (some ⟨g1, 0, none⟩) p1 (some ⟨g2, 0, none⟩) p2 (i + 1) (ws ++ [wb]) (rs ++ [rb]) ((W.setCell ⟨w.heap.size + 1, 2, none⟩ (.slice (some ⟨g1, 0, none⟩) (i + 1) p1)).setCell ⟨w.heap.size + 1, 3, none⟩ (.slice (some ⟨g2, 0, none⟩) (i + 1) p2)) := by
  have hs0 := h.lk.sbox
  have hs1 : W.heap[w.heap.size + 1]? = _ := (hA.below.block _ (by omega)).trans hs0
  have hs2 := heap_setCell_same W (w.heap.size + 1) 2 _ _ (.slice (some ⟨g1, 0, none⟩) (i + 1) p1) hs1
  have hs3 := heap_setCell_same _ (w.heap.size + 1) 3 _ _ (.slice (some ⟨g2, 0, none⟩) (i + 1) p2) hs2
  obtain ⟨l0, l1, l2, l3⟩ := h.lk.li
  have far : ∀ b, b ≠ w.heap.size + 1 → ((W.setCell ⟨w.heap.size + 1, 2, none⟩ (.slice (some ⟨g1, 0, none⟩) (i + 1) p1)).setCell ⟨w.heap.size + 1, 3, none⟩ (.slice (some ⟨g2, 0, none⟩) (i + 1) p2)).heap[b]? = W.heap[b]? := fun b hb =>
    (heap_setCell_other _ ⟨w.heap.size + 1, 3, none⟩ b _ hb).trans (heap_setCell_other W ⟨w.heap.size + 1, 2, none⟩ b _ hb)
  have hbox : ∀ j, ((W.setCell ⟨w.heap.size + 1, 2, none⟩ (.slice (some ⟨g1, 0, none⟩) (i + 1) p1)).setCell ⟨w.heap.size + 1, 3, none⟩ (.slice (some ⟨g2, 0, none⟩) (i + 1) p2)).cell? ⟨w.heap.size, j, none⟩ = W0.cell? ⟨w.heap.size, j, none⟩ := fun j =>
    World.cell?_of_block ((far _ (by show w.heap.size ≠ w.heap.size + 1; omega)).trans (hA.below.block _ (by show w.heap.size < w.heap.size + 2; omega)))
  have hir : ∀ b f, IR 3 W0 b n f → b ≠ w.heap.size + 1 → IR 3 ((W.setCell ⟨w.heap.size + 1, 2, none⟩ (.slice (some ⟨g1, 0, none⟩) (i + 1) p1)).setCell ⟨w.heap.size + 1, 3, none⟩ (.slice (some ⟨g2, 0, none⟩) (i + 1) p2)) b n f := fun b f hi hb => by
    obtain ⟨cur, hc, _, _⟩ := id hi
    exact hi.block ((far b hb).trans (hA.keep b cur _ _ hc (by decide) (by decide)))
  have hsr : ∀ b g, SR 28 W0 b (n + 1) g → b ≠ w.heap.size + 1 → SR 28 ((W.setCell ⟨w.heap.size + 1, 2, none⟩ (.slice (some ⟨g1, 0, none⟩) (i + 1) p1)).setCell ⟨w.heap.size + 1, 3, none⟩ (.slice (some ⟨g2, 0, none⟩) (i + 1) p2)) b (n + 1) g := fun b g hi hb => by
    obtain ⟨cur, hc, _, _⟩ := id hi
    exact hi.block ((far b hb).trans (hA.keep b cur _ _ hc (by decide) (by decide)))
  have hw0 := h.w0
  have hr0 := h.r0
  refine ⟨⟨(hbox 0).trans l0, (hbox 1).trans l1, ?_, ?_⟩, hs3, ?_, ?_, ?_, ?_, ?_, ?_, ?_, ?_⟩
  · have := hA.below.size
    simp
    omega
  · exact ((l3.trans (hA.below.mono (by omega))).setCell (p := ⟨w.heap.size + 1, 2, none⟩) (by show w.heap.size ≤ w.heap.size + 1; omega) _).setCell (p := ⟨w.heap.size + 1, 3, none⟩) (by show w.heap.size ≤ w.heap.size + 1; omega) _
  · rw [List.length_append, h.lk.wl]; rfl
  · rw [List.length_append, h.lk.rl]; rfl
  · rw [List.map_append]
    have k1 := ownsRow_setCell_other (a := ⟨w.heap.size + 1, 2, none⟩) hA.wown (own_off hA.wown hs1 (by decide)) (.slice (some ⟨g1, 0, none⟩) (i + 1) p1)
    exact ownsRow_setCell_other k1 (own_off k1 hs2 (by decide)) _
  · rw [List.map_append]
    have k1 := ownsRow_setCell_other (a := ⟨w.heap.size + 1, 2, none⟩) hA.rown (own_off hA.rown hs1 (by decide)) (.slice (some ⟨g1, 0, none⟩) (i + 1) p1)
    exact ownsRow_setCell_other k1 (own_off k1 hs2 (by decide)) _
  · intro j hj
    rw [getD_snoc, h.lk.wl]
    by_cases e : j < i
    · rw [if_pos e]
      exact hir _ _ (h.lk.wrow j e) (by have := h.lk.wlt j e; omega)
    · obtain rfl : j = i := by omega
      rw [if_neg e, if_pos rfl]
      exact hir _ _ h.ir (by omega)
  · intro j hj
    rw [getD_snoc, h.lk.rl]
    by_cases e : j < i
    · rw [if_pos e]
      exact hsr _ _ (h.lk.rrow j e) (by have := h.lk.rlt j e; omega)
    · obtain rfl : j = i := by omega
      rw [if_neg e, if_pos rfl]
      exact hsr _ _ h.sr (by omega)
  · intro j hj
    rw [getD_snoc, h.lk.wl]
    by_cases e : j < i
    · rw [if_pos e]; exact h.lk.wlt j e
    · rw [if_neg e, if_pos (by omega)]; exact hw0
  · intro j hj
    rw [getD_snoc, h.lk.rl]
    by_cases e : j < i
    · rw [if_pos e]; exact h.lk.rlt j e
    · rw [if_neg e, if_pos (by omega)]; exact hr0
end
/-- what look hands back -/
def LookRes (a : Option Addr) (n c : Nat) (ba : Option Addr) (m bc : Nat) (ss : Nat → SV) (bs : Nat → BM) (w : World) (e : Ending) (w' : World) : Prop :=
  e = .returned (.pointer (some ⟨w.heap.size + 1, 0, none⟩)) ∧ ∃ wa wc ra rc ws rs, LK a n c ba m bc ss bs w wa wc ra rc m ws rs w'
end Go.Proofs.YtkdopjkdokgipaaGreatDoor
