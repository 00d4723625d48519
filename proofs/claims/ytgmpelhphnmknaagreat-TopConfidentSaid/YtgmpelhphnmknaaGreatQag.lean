/- Texts put together: ImLk, ImLook. -/
import Derived.Test.YtgmpelhphnmknaaGreatQab
import Derived.Test.YtgmpelhphnmknaaGreatQaf
import Derived.Test.YtgmpelhphnmknaaGreatQad
set_option maxRecDepth 100000
set_option maxHeartbeats 8000000
set_option linter.unusedVariables false
set_option linter.unusedSimpArgs false
namespace Go.Proofs.YtgmpelhphnmknaaGreat
open Go.RowKit
def rowW (n : Nat) (b : Nat) : Value := .slice (some ⟨b, 0, none⟩) n n
structure LK (a : Option Addr) (n c : Nat) (ba : Option Addr) (m bc : Nat) (ss : Nat → SV) (bs : Nat → BM) (w : World) (wa : Option Addr) (wc : Nat) (ra : Option Addr) (rc : Nat) (i : Nat) (ws rs : List Nat) (W : World) : Prop where
 li : LI a n c ba m bc w W
 sbox : W.heap[w.heap.size + 1]? = some (.cells #[.slice a n c, .slice ba m bc, .slice wa i wc, .slice ra i rc] 195)
 wl : ws.length = i
 rl : rs.length = i
 wown : W.ownsRow (w.heap.size + 2) 24 1 (.slice wa i wc) i (ws.map (rowW n))
 rown : W.ownsRow (w.heap.size + 2) 25 1 (.slice ra i rc) i (rs.map (rowW (n + 1)))
 wrow : ∀ j, j < i → IR 3 W (ws.getD j 0) n (bs j).w
 rrow : ∀ j, j < i → SR 28 W (rs.getD j 0) (n + 1) (restS n ss (bs j))
 wlt : ∀ j, j < i → w.heap.size + 2 ≤ ws.getD j 0
 rlt : ∀ j, j < i → w.heap.size + 2 ≤ rs.getD j 0
theorem LK.step {a : Option Addr} {n c : Nat} {ba : Option Addr} {m bc : Nat} {ss : Nat → SV} {bs : Nat → BM} {w : World} {wa : Option Addr} {wc : Nat} {ra : Option Addr} {rc i : Nat} {ws rs : List Nat} {W W' : World} (h : LK a n c ba m bc ss bs w wa wc ra rc i ws rs W) (hb : Below W.heap.size W W') : LK a n c ba m bc ss bs w wa wc ra rc i ws rs W' :=
 ⟨LI_step h.li hb, (hb.block _ (blkL h.sbox)).trans h.sbox, h.wl, h.rl, own_below h.wown hb, own_below h.rown hb, fun j hj => (h.wrow j hj).step hb, fun j hj => (h.rrow j hj).step hb, h.wlt, h.rlt⟩
theorem LK.put {a : Option Addr} {n c : Nat} {ba : Option Addr} {m bc : Nat} {ss : Nat → SV} {bs : Nat → BM} {w : World} {wa : Option Addr} {wc : Nat} {ra : Option Addr} {rc i : Nat} {ws rs : List Nat} {W : World} {b o : Nat} {cur : Array Value} {t : TypeId} {f : Nat × Nat} (h : LK a n c ba m bc ss bs w wa wc ra rc i ws rs W) (hb : w.heap.size + 2 ≤ b) (hw : ∀ j, j < i → ws.getD j 0 < b) (hr : ∀ j, j < i → rs.getD j 0 < b)
  (hc : W.heap[b]? = some (.cells cur t f)) (t1 : 24 ≠ t) (t2 : 25 ≠ t) (u : Value) : LK a n c ba m bc ss bs w wa wc ra rc i ws rs (W.setCell ⟨b, o, none⟩ u) := by
 obtain ⟨l0, l1, l2, l3⟩ := h.li
 refine ⟨⟨(World.cell?_of_block (heap_setCell_other W ⟨b, o, none⟩ w.heap.size u (by show w.heap.size ≠ b; omega))).trans l0, (World.cell?_of_block (heap_setCell_other W ⟨b, o, none⟩ w.heap.size u (by show w.heap.size ≠ b; omega))).trans l1, by simpa using l2, l3.setCell (p := ⟨b, o, none⟩) (by show w.heap.size ≤ b; omega) u⟩,
  (heap_setCell_other W ⟨b, o, none⟩ (w.heap.size + 1) u (by show w.heap.size + 1 ≠ b; omega)).trans h.sbox, h.wl, h.rl, ownsRow_setCell_other h.wown (own_off h.wown hc t1) u, ownsRow_setCell_other h.rown (own_off h.rown hc t2) u,
  fun j hj => (h.wrow j hj).other (by have := hw j hj; omega) u, fun j hj => (h.rrow j hj).other (by have := hr j hj; omega) u, h.wlt, h.rlt⟩
def restT (n : Nat) (ss : Nat → SV) (b : BM) (t c : Nat) : SV := if n - t ≤ c then restS n ss b c else ⟨0, 0⟩
theorem restT_zero {n : Nat} {ss : Nat → SV} {b : BM} {c : Nat} (hc : c < n + 1) : (⟨0, 0⟩ : SV) = restT n ss b 0 c := by
 unfold restT
 split
 ·have : n - c = 0 := by omega
  unfold restS; rw [this]; rfl
 ·rfl
theorem restT_step {n t c : Nat} {ss : Nat → SV} {b : BM} (ht : t < n) (hc : c < n + 1) : (if c = n - (t + 1) then (⟨rest n b (sLo ss) (t + 1), rest n b (sHi ss) (t + 1)⟩ : SV) else restT n ss b t c) = restT n ss b (t + 1) c := by
 unfold restT
 by_cases e : c = n - (t + 1)
 ·rw [if_pos e, if_pos (by omega), restS, show n - c = t + 1 by omega]
 ·rw [if_neg e]
  by_cases h : n - t ≤ c
  ·rw [if_pos h, if_pos (by omega)]
  ·rw [if_neg h, if_neg (by omega)]
theorem rest_bound {n : Nat} {b : BM} {f : Nat → Int} (hw : ∀ c, 0 ≤ b.w c ∧ b.w c ≤ 1000000) (hf : ∀ c, c < n → 0 ≤ f c ∧ f c ≤ 1000) : ∀ t, t ≤ n → 0 ≤ rest n b f t ∧ rest n b f t ≤ 1000000000 * (t : Int)
 | 0, _ => by simp [rest]
 | t + 1, ht => by
  have ih := rest_bound hw hf t (by omega)
  have h1 := hw (n - (t + 1))
  have h2 := hf (n - (t + 1)) (by omega)
  have h3 : 0 ≤ b.w (n - (t + 1)) * f (n - (t + 1)) := Int.mul_nonneg h1.1 h2.1
  have h4 : b.w (n - (t + 1)) * f (n - (t + 1)) ≤ 1000000 * 1000 := Int.mul_le_mul h1.2 h2.2 h2.1 (by omega)
  rw [rest]
  push_cast
  omega
theorem wUp_step {n m : Nat} {cs ws : Nat → Int} {j c : Nat} (hs : setB n m cs = true) (hj : j < m) : (if c = (cs j).toNat then ws j else wUp cs ws j c) = wUp cs ws (j + 1) c := by
 have := setB_at hs hj
 rw [wUp]
 by_cases e : c = (cs j).toNat
 ·rw [if_pos e, if_pos (by omega)]
 ·rw [if_neg e, if_neg (by omega)]
structure LP (a : Option Addr) (n c : Nat) (ba : Option Addr) (m bc : Nat) (ss : Nat → SV) (bs : Nat → BM) (w : World) (wa : Option Addr) (wc : Nat) (ra : Option Addr) (rc : Nat) (i : Nat) (ws rs : List Nat)
  (x : Nat) (ca : Option Addr) (cn cc : Nat) (va : Option Addr) (vn vc : Nat) (lo hi : Int) (wb rb : Nat) (f : Nat → Int) (g : Nat → SV) (W : World) : Prop where
 lk : LK a n c ba m bc ss bs w wa wc ra rc i ws rs W
 bx : BX x ca cn cc va vn vc lo hi W
 ir : IR 3 W wb n f
 sr : SR 28 W rb (n + 1) g
 wlt : ∀ j, j < i → ws.getD j 0 < wb ∧ ws.getD j 0 < rb
 rlt : ∀ j, j < i → rs.getD j 0 < wb ∧ rs.getD j 0 < rb
 ne : wb ≠ rb
 x0 : x < wb ∧ x < rb
 w0 : w.heap.size + 2 ≤ wb
 r0 : w.heap.size + 2 ≤ rb
section
variable {a : Option Addr} {n c : Nat} {ba : Option Addr} {m bc : Nat} {ss : Nat → SV} {bs : Nat → BM} {w : World} {wa : Option Addr} {wc : Nat} {ra : Option Addr} {rc : Nat} {i : Nat} {ws rs : List Nat}
 {x : Nat} {ca : Option Addr} {cn cc : Nat} {va : Option Addr} {vn vc : Nat} {lo hi : Int} {wb rb : Nat} {f : Nat → Int} {g : Nat → SV} {W : World}
theorem BX_put {b o : Nat} (h : BX x ca cn cc va vn vc lo hi W) (hb : x ≠ b) (u : Value) : BX x ca cn cc va vn vc lo hi (W.setCell ⟨b, o, none⟩ u) := by
 obtain ⟨h0, h1, h2, h3, h4⟩ := h
 have k : ∀ j, (W.setCell ⟨b, o, none⟩ u).cell? ⟨x, j, none⟩ = W.cell? ⟨x, j, none⟩ := fun j => World.cell?_of_block (heap_setCell_other W ⟨b, o, none⟩ x u hb)
 exact ⟨by simpa using h0, (k 0).trans h1, (k 1).trans h2, (k 2).trans h3, (k 3).trans h4⟩
theorem LP.step {W' : World} (h : LP a n c ba m bc ss bs w wa wc ra rc i ws rs x ca cn cc va vn vc lo hi wb rb f g W) (hb : Below W.heap.size W W') : LP a n c ba m bc ss bs w wa wc ra rc i ws rs x ca cn cc va vn vc lo hi wb rb f g W' :=
 ⟨h.lk.step hb, BX_step h.bx hb, h.ir.step hb, h.sr.step hb, h.wlt, h.rlt, h.ne, h.x0, h.w0, h.r0⟩
theorem LP.gcongr {g' : Nat → SV} (h : LP a n c ba m bc ss bs w wa wc ra rc i ws rs x ca cn cc va vn vc lo hi wb rb f g W) (e : ∀ k, k < n + 1 → g k = g' k) : LP a n c ba m bc ss bs w wa wc ra rc i ws rs x ca cn cc va vn vc lo hi wb rb f g' W :=
 ⟨h.lk, h.bx, h.ir, h.sr.congr e, h.wlt, h.rlt, h.ne, h.x0, h.w0, h.r0⟩
theorem LP.setw (h : LP a n c ba m bc ss bs w wa wc ra rc i ws rs x ca cn cc va vn vc lo hi wb rb f g W) {j : Nat} (hj : j < n) (y : Int) {f' : Nat → Int} (e : ∀ k, k < n → (if k = j then y else f k) = f' k) : LP a n c ba m bc ss bs w wa wc ra rc i ws rs x ca cn cc va vn vc lo hi wb rb f' g (W.setCell ⟨wb, j, none⟩ (.int .i64 y)) := by
 obtain ⟨cur, hc, _, _⟩ := h.ir
 exact ⟨h.lk.put h.w0 (fun j hj => (h.wlt j hj).1) (fun j hj => (h.rlt j hj).1) hc (by decide) (by decide) _, BX_put h.bx (by have := h.x0; omega) _, (h.ir.set hj y).congr e, h.sr.other h.ne _, h.wlt, h.rlt, h.ne, h.x0, h.w0, h.r0⟩
theorem LP.setr (h : LP a n c ba m bc ss bs w wa wc ra rc i ws rs x ca cn cc va vn vc lo hi wb rb f g W) {j : Nat} (hj : j < n + 1) (y z : Int) {g' : Nat → SV} (e : ∀ k, k < n + 1 → (if k = j then (⟨y, z⟩ : SV) else g k) = g' k) :
  LP a n c ba m bc ss bs w wa wc ra rc i ws rs x ca cn cc va vn vc lo hi wb rb f g' ((W.setCell ⟨rb, j * 2, none⟩ (.int .i64 y)).setCell ⟨rb, j * 2 + 1, none⟩ (.int .i64 z)) := by
 obtain ⟨cur, hc, _, _⟩ := h.sr
 have h1 := h.lk.put (o := j * 2) h.r0 (fun j hj => (h.wlt j hj).2) (fun j hj => (h.rlt j hj).2) hc (by decide) (by decide) (.int .i64 y)
 have hc2 := heap_setCell_same W rb (j * 2) _ _ (.int .i64 y) hc
 have h2 := h1.put (o := j * 2 + 1) h.r0 (fun j hj => (h.wlt j hj).2) (fun j hj => (h.rlt j hj).2) hc2 (by decide) (by decide) (.int .i64 z)
 exact ⟨h2, BX_put (BX_put h.bx (by have := h.x0; omega) _) (by have := h.x0; omega) _, (h.ir.other (Ne.symm h.ne) _).other (Ne.symm h.ne) _, (h.sr.set hj y z).congr e, h.wlt, h.rlt, h.ne, h.x0, h.w0, h.r0⟩
end
structure AP (base : Nat) (W0 W : World) (wv rv : Value) (nw nr : Nat) (wl rl : List Value) : Prop where
 below : Below base W0 W
 keep : ∀ (b : Nat) (cur : Array Value) (t : TypeId) (f : Nat × Nat), W0.heap[b]? = some (.cells cur t f) → t ≠ 24 → t ≠ 25 → W.heap[b]? = W0.heap[b]?
 le : base ≤ W0.heap.size
 wown : W.ownsRow base 24 1 wv nw wl
 rown : W.ownsRow base 25 1 rv nr rl
section
variable {base : Nat} {W0 W W' : World} {wv rv : Value} {nw nr : Nat} {wl rl : List Value}
theorem AP.drew (h : AP base W0 W wv rv nw nr wl rl) : AP base W0 W.drew wv rv nw nr wl rl := ⟨h.below.drew, h.keep, h.le, h.wown, h.rown⟩
theorem AP.alloc (h : AP base W0 W wv rv nw nr wl rl) (o : Obj) : AP base W0 (W.alloc o) wv rv nw nr wl rl :=
 ⟨h.below.alloc (Nat.le_trans h.le h.below.size) o, fun b cur t f hb h1 h2 => (Below.heap_alloc W o b (by have := (blkL hb); have := h.below.size; omega)).trans (h.keep b cur t f hb h1 h2), h.le, h.wown.alloc o, h.rown.alloc o⟩
theorem AP.app1 (h : AP base W0 W wv rv nw nr wl rl) {wv' : Value} {nw' : Nat} {wl' : List Value} (hg : W.grownBy W' wv.ownBlock) (ho : W'.ownsRow base 24 1 wv' nw' wl') : AP base W0 W' wv' rv nw' nr wl' rl :=
 ⟨h.below.grown hg (Nat.le_trans h.le h.below.size) (fun k e => (h.wown.lt k e).1), fun b cur t f hb h1 h2 => by
  have e := h.keep b cur t f hb h1 h2
  exact (hg.block b (by have := (blkL hb); have := h.below.size; omega) (Ne.symm (own_off h.wown (e.trans hb) (Ne.symm h1)))).trans e, h.le, ho, h.rown.kept hg (own_ne h.rown h.wown (by decide))⟩
theorem AP.app2 (h : AP base W0 W wv rv nw nr wl rl) {rv' : Value} {nr' : Nat} {rl' : List Value} (hg : W.grownBy W' rv.ownBlock) (ho : W'.ownsRow base 25 1 rv' nr' rl') : AP base W0 W' wv rv' nw nr' wl rl' :=
 ⟨h.below.grown hg (Nat.le_trans h.le h.below.size) (fun k e => (h.rown.lt k e).1), fun b cur t f hb h1 h2 => by
  have e := h.keep b cur t f hb h1 h2
  exact (hg.block b (by have := (blkL hb); have := h.below.size; omega) (Ne.symm (own_off h.rown (e.trans hb) (Ne.symm h2)))).trans e, h.le, h.wown.kept hg (own_ne h.wown h.rown (by decide)), ho⟩
end
section
variable {a : Option Addr} {n c : Nat} {ba : Option Addr} {m bc : Nat} {ss : Nat → SV} {bs : Nat → BM} {w : World} {wa : Option Addr} {wc : Nat} {ra : Option Addr} {rc : Nat} {i : Nat} {ws rs : List Nat}
 {x : Nat} {ca : Option Addr} {cn cc : Nat} {va : Option Addr} {vn vc : Nat} {lo hi : Int} {wb rb : Nat} {W : World}
theorem getD_snoc {l : List Nat} {y j : Nat} : (l ++ [y]).getD j 0 = if j < l.length then l.getD j 0 else if j = l.length then y else 0 := by
 rw [List.getD_eq_getElem?_getD]
 by_cases h : j < l.length
 ·rw [if_pos h, List.getElem?_append_left h, ← List.getD_eq_getElem?_getD]
 ·rw [if_neg h, List.getElem?_append_right (by omega)]
  by_cases e : j = l.length
  ·rw [if_pos e, e]; simp
  ·rw [if_neg e]
   have : ([y] : List Nat)[j - l.length]? = none := by rw [List.getElem?_eq_none_iff]; simp; omega
   rw [this]; rfl
theorem LK.next {W0 : World} {g1 g2 p1 p2 : Nat} (h : LP a n c ba m bc ss bs w wa wc ra rc i ws rs x ca cn cc va vn vc lo hi wb rb (bs i).w (restS n ss (bs i)) W0)
  (hA : AP (w.heap.size + 2) W0 W (.slice (some ⟨g1, 0, none⟩) (i + 1) p1) (.slice (some ⟨g2, 0, none⟩) (i + 1) p2) (i + 1) (i + 1) (ws.map (rowW n) ++ [rowW n wb]) (rs.map (rowW (n + 1)) ++ [rowW (n + 1) rb])) :
  LK a n c ba m bc ss bs w (some ⟨g1, 0, none⟩) p1 (some ⟨g2, 0, none⟩) p2 (i + 1) (ws ++ [wb]) (rs ++ [rb]) ((W.setCell ⟨w.heap.size + 1, 2, none⟩ (.slice (some ⟨g1, 0, none⟩) (i + 1) p1)).setCell ⟨w.heap.size + 1, 3, none⟩ (.slice (some ⟨g2, 0, none⟩) (i + 1) p2)) := by
 have hs0 := h.lk.sbox
 have hs1 : W.heap[w.heap.size + 1]? = _ := (hA.below.block _ (by omega)).trans hs0
 have hs2 := heap_setCell_same W (w.heap.size + 1) 2 _ _ (.slice (some ⟨g1, 0, none⟩) (i + 1) p1) hs1
 have hs3 := heap_setCell_same _ (w.heap.size + 1) 3 _ _ (.slice (some ⟨g2, 0, none⟩) (i + 1) p2) hs2
 obtain ⟨l0, l1, l2, l3⟩ := h.lk.li
 have far : ∀ b, b ≠ w.heap.size + 1 → ((W.setCell ⟨w.heap.size + 1, 2, none⟩ (.slice (some ⟨g1, 0, none⟩) (i + 1) p1)).setCell ⟨w.heap.size + 1, 3, none⟩ (.slice (some ⟨g2, 0, none⟩) (i + 1) p2)).heap[b]? = W.heap[b]? := fun b hb =>
  (heap_setCell_other _ ⟨w.heap.size + 1, 3, none⟩ b _ hb).trans (heap_setCell_other W ⟨w.heap.size + 1, 2, none⟩ b _ hb)
 have hbox : ∀ j, ((W.setCell ⟨w.heap.size + 1, 2, none⟩ (.slice (some ⟨g1, 0, none⟩) (i + 1) p1)).setCell ⟨w.heap.size + 1, 3, none⟩ (.slice (some ⟨g2, 0, none⟩) (i + 1) p2)).cell? ⟨w.heap.size, j, none⟩ = W0.cell? ⟨w.heap.size, j, none⟩ := fun j =>
  World.cell?_of_block ((far _ (by show w.heap.size ≠ w.heap.size + 1; omega)).trans (hA.below.block _ (by show w.heap.size < w.heap.size + 2; omega)))
 have hir : ∀ b f, IR 3 W0 b n f → b ≠ w.heap.size + 1 → IR 3 ((W.setCell ⟨w.heap.size + 1, 2, none⟩ (.slice (some ⟨g1, 0, none⟩) (i + 1) p1)).setCell ⟨w.heap.size + 1, 3, none⟩ (.slice (some ⟨g2, 0, none⟩) (i + 1) p2)) b n f := fun b f hi hb => by
  obtain ⟨cur, hc, _, _⟩ := id hi
  exact hi.block ((far b hb).trans (hA.keep b cur _ _ hc (by decide) (by decide)))
 have hsr : ∀ b g, SR 28 W0 b (n + 1) g → b ≠ w.heap.size + 1 → SR 28 ((W.setCell ⟨w.heap.size + 1, 2, none⟩ (.slice (some ⟨g1, 0, none⟩) (i + 1) p1)).setCell ⟨w.heap.size + 1, 3, none⟩ (.slice (some ⟨g2, 0, none⟩) (i + 1) p2)) b (n + 1) g := fun b g hi hb => by
  obtain ⟨cur, hc, _, _⟩ := id hi
  exact hi.block ((far b hb).trans (hA.keep b cur _ _ hc (by decide) (by decide)))
 have hw0 := h.w0
 have hr0 := h.r0
 refine ⟨⟨(hbox 0).trans l0, (hbox 1).trans l1, ?_, ?_⟩, hs3, ?_, ?_, ?_, ?_, ?_, ?_, ?_, ?_⟩
 ·have := hA.below.size
  simp
  omega
 ·exact ((l3.trans (hA.below.mono (by omega))).setCell (p := ⟨w.heap.size + 1, 2, none⟩) (by show w.heap.size ≤ w.heap.size + 1; omega) _).setCell (p := ⟨w.heap.size + 1, 3, none⟩) (by show w.heap.size ≤ w.heap.size + 1; omega) _
 ·rw [List.length_append, h.lk.wl]; rfl
 ·rw [List.length_append, h.lk.rl]; rfl
 ·rw [List.map_append]
  have k1 := ownsRow_setCell_other (a := ⟨w.heap.size + 1, 2, none⟩) hA.wown (own_off hA.wown hs1 (by decide)) (.slice (some ⟨g1, 0, none⟩) (i + 1) p1)
  exact ownsRow_setCell_other k1 (own_off k1 hs2 (by decide)) _
 ·rw [List.map_append]
  have k1 := ownsRow_setCell_other (a := ⟨w.heap.size + 1, 2, none⟩) hA.rown (own_off hA.rown hs1 (by decide)) (.slice (some ⟨g1, 0, none⟩) (i + 1) p1)
  exact ownsRow_setCell_other k1 (own_off k1 hs2 (by decide)) _
 ·intro j hj
  rw [getD_snoc, h.lk.wl]
  by_cases e : j < i
  ·rw [if_pos e]
   exact hir _ _ (h.lk.wrow j e) (by have := h.lk.wlt j e; omega)
  ·obtain rfl : j = i := by omega
   rw [if_neg e, if_pos rfl]
   exact hir _ _ h.ir (by omega)
 ·intro j hj
  rw [getD_snoc, h.lk.rl]
  by_cases e : j < i
  ·rw [if_pos e]
   exact hsr _ _ (h.lk.rrow j e) (by have := h.lk.rlt j e; omega)
  ·obtain rfl : j = i := by omega
   rw [if_neg e, if_pos rfl]
   exact hsr _ _ h.sr (by omega)
 ·intro j hj
  rw [getD_snoc, h.lk.wl]
  by_cases e : j < i
  ·rw [if_pos e]; exact h.lk.wlt j e
  ·rw [if_neg e, if_pos (by omega)]; exact hw0
 ·intro j hj
  rw [getD_snoc, h.lk.rl]
  by_cases e : j < i
  ·rw [if_pos e]; exact h.lk.rlt j e
  ·rw [if_neg e, if_pos (by omega)]; exact hr0
end
def LookRes (a : Option Addr) (n c : Nat) (ba : Option Addr) (m bc : Nat) (ss : Nat → SV) (bs : Nat → BM) (w : World) (e : Ending) (w' : World) : Prop :=
 e = .returned (.pointer (some ⟨w.heap.size + 1, 0, none⟩)) ∧ ∃ wa wc ra rc ws rs, LK a n c ba m bc ss bs w wa wc ra rc m ws rs w'
end Go.Proofs.YtgmpelhphnmknaaGreat
namespace Go.Proofs.YtgmpelhphnmknaaGreat
open Go.RowKit
theorem htake_ImLook {P : Program} {md : Region.Mode} {Q : Exit → Act → World → Prop} {S : World → Prop} {l : List Oper} {n f : Nat} {listed : Array Bool} {a : Act} {w : World} {v : Value} {oi : Oper} {X : Prop} (i : Nat) (q : X) (hi : l.toArray[i]? = some oi := by rfl) (hB : TkB md l n listed i = true := by kernel_rfl) (hQ : ∀ c a w, Q (.panic c) (a.put oi.dst v) w → Q (.panic c) a w := by exact fun _ _ _ h => h) (hy : YieldsIf P l.toArray S oi v a := by (refine Or.inl ⟨by rfl, ?_⟩; intro w' hSw; (try dsimp only at hSw); (try obtain ⟨hSw1, hSw2⟩ := hSw); go_simp; (try with_reducible rfl))) (hS : S w := by assumption) (hx : X → headH P md l.toArray Q S n (tailL P md l Q n) f (listed.setIfInBounds i true) (a.put oi.dst v) w := by (intro qq; refine hnm ?_; exact qq)) : headH P md l.toArray Q S n (tailL P md l Q n) (f + 1) listed a w := headH_take hi hB hQ hy hS (hx q)
theorem one_slice {a : Option Addr} {n c : Nat} : ∀ u ∈ [Value.slice a n c], u.oneCell' = true := by intro u hu; simp at hu; subst hu; rfl
theorem look_any (a : Option Addr) (n c : Nat) (ba : Option Addr) (m bc : Nat) (ss : Nat → SV) (bs : Nat → BM) (w : World) (B : Nat) (hBw : B ≤ w.heap.size) (hS : Spans B w a n ss) (hM : Beams B w ba m bs) (hSh : Shape n ss m bs) :
  Calls Tryz.prog 52 #[imageV a n c ba m bc] w (LookRes a n c ba m bc ss bs w) := by
 have HS := Lib.hid hS
 have HM := Lib.hid hM
 have HSh := Lib.hid hSh
 have hn := hSh.n40
 have hm := hSh.m20
 have mk1 := make_ints n (by omega)
 have mk2 : ∀ W, (Instr.makeSlice 25 (.int .i64 ((n : Int) + 1)) (.int .i64 ((n : Int) + 1))).run Tryz.prog W = .ok (.slice (some ⟨W.heap.size, 0, none⟩) (n + 1) (n + 1)) (W.alloc (.cells (madeCells #[.int .i64 0, .int .i64 0] ((n + 1) * 2)) 28)) := fun W => by
  have := make_spans (n + 1) (by omega) W
  rwa [show ((n + 1 : Nat) : Int) = (n : Int) + 1 by omega] at this
 have HRES := Hd (fun (e : Ending) (w' : World) (he : e = .returned (.pointer (some ⟨w.heap.size + 1, 0, none⟩))) (wa : Option Addr) (wc : Nat) (ra : Option Addr) (rc : Nat) (ws rs : List Nat) (h : LK a n c ba m bc ss bs w wa wc ra rc m ws rs w') => show LookRes a n c ba m bc ss bs w e w' from ⟨he, wa, wc, ra, rc, ws, rs, h⟩)
 generalize LookRes a n c ba m bc ss bs w = RES at *
 clear hS hM hSh
 go_enter Tryz.func52, Tryz.ntmps52
 go_upto_region 3 with (fail)
 have HL0 := Hd (show LK a n c ba m bc ss bs w none 0 none 0 0 [] [] ((w.alloc (.cells #[.slice a n c, .slice ba m bc] 59)).alloc (.cells #[.slice a n c, .slice ba m bc, .slice none 0 0, .slice none 0 0] 195)) from
  ⟨LI_step LI_start ((Below.refl _ _).alloc (Nat.le_refl _) _), by have := heap_alloc_new (w.alloc (.cells #[.slice a n c, .slice ba m bc] 59)) (.cells #[.slice a n c, .slice ba m bc, .slice none 0 0, .slice none 0 0] 195); rwa [World.size_alloc] at this, rfl, rfl, World.ownsRow_nil _ _ _ _, World.ownsRow_nil _ _ _ _, fun j h => by omega, fun j h => by omega, fun j h => by omega, fun j h => by omega⟩)
 generalize World.alloc _ _ = V0 at *
 obtain ⟨l0, l1, l2, l3⟩ := HL0.out.li
 go_wp2
 go_loopw [21] (fun t wr => ∃ (i : Nat) (wa : Option Addr) (wc : Nat) (ra : Option Addr) (rc : Nat) (ws rs : List Nat), i ≤ m ∧ t = .int .i64 (i : Int) ∧ Hid (LK a n c ba m bc ss bs w wa wc ra rc i ws rs wr)) (fun t _ => m - (intOf t).toNat)
 case atStart => exact ⟨0, none, 0, none, 0, [], [], Nat.zero_le _, rfl, HL0⟩
 case round =>
  clear HL0 l0 l1 l2 l3
  obtain ⟨i, wa, wcp, ra, rcp, ws, rs, hi, rfl, HL⟩ := hrel
  obtain ⟨l0, l1, l2, l3⟩ := HL.out.li
  by_cases hlt : i < m
  ·have hlt' : (i : Int) < (m : Int) := by omega
   obtain ⟨b, off, rfl, hbB, hat, hmem⟩ := HM.out.get hlt
   obtain ⟨c0, c1, c2, c3⟩ := hat.below (l3.mono hBw) hbB
   have hbz : b < wr.heap.size := by omega
   have HW := Hd (HSh.out.wn i hlt)
   have HSet := Hd (HSh.out.set i hlt)
   have HWB := Hd (fun c => HSh.out.w hlt c)
   have hcn := setB_len (HSh.out.set i hlt)
   generalize hbb : bs i = q at *
   have HBB := Lib.hid hbb
   clear hbb
   obtain ⟨qca, qcn, qcc, qwa, qwn, qwc, qlo, qhi, qcs, qws⟩ := q
   obtain ⟨qm1, qm2, qm3, qm4⟩ := hmem
   dsimp only at c0 c1 c2 c3 qm1 qm2 qm3 qm4 hcn
   have HQ3 := Lib.hid qm3
   have HQ4 := Lib.hid qm4
   clear qm3 qm4 qm1 qm2 hat
   go_upto_region 6 with (fail)
   have hxb : Below wr.heap.size wr (wr.alloc (.cells #[.slice qca qcn qcc, .slice qwa qwn qwc, .int .i64 qlo, .int .i64 qhi] 62)) := (Below.refl _ _).alloc (Nat.le_refl _) _
   have hX0 : BX wr.heap.size qca qcn qcc qwa qwn qwc qlo qhi (wr.alloc (.cells #[.slice qca qcn qcc, .slice qwa qwn qwc, .int .i64 qlo, .int .i64 qhi] 62)) := BX_new
   have HL2 := Hd (HL.out.step hxb)
   clear l0 l1 l2 l3 c0 c1 c2 c3 hbz hxb HL
   generalize World.alloc wr _ = V at *
   generalize wr.heap.size = x at *
   have hX1 := Lib.hid hX0
   have hxz := hX0.1
   have hws := Hd (fun j (hj : j < i) => (HL2.out.wrow j hj).lt)
   have hrs := Hd (fun j (hj : j < i) => (HL2.out.rrow j hj).lt)
   have hwV : w.heap.size + 2 ≤ V.heap.size := by have := (blkL HL2.out.sbox); omega
   clear hX0
   go_cut [7, 8, 21] from 21 to 113 (fun s7 s8 s21 wx => ∃ wb rb, s7 = .slice (some ⟨wb, 0, none⟩) n n ∧ s8 = .slice (some ⟨rb, 0, none⟩) (n + 1) (n + 1) ∧ s21 = .int .i64 (i : Int) ∧ Hid (LP a n c (some ⟨b, off, none⟩) m bc ss bs w wa wcp ra rcp i ws rs x qca qcn qcc qwa qwn qwc qlo qhi wb rb (fun _ => 0) (fun _ => ⟨0, 0⟩) wx))
   case first =>
    go_region
    ·go_wp2_with fail
     go_meet
     have hB : Below V.heap.size V (((V.alloc (.cells (madeCells #[.int .i64 0] n) 3)).alloc (.cells (madeCells #[.int .i64 0, .int .i64 0] ((n + 1) * 2)) 28)).drew) := (((Below.refl _ _).alloc (Nat.le_refl _) _).alloc (by simp) _).drew
     exact ⟨_, _, rfl, rfl, rfl, Lib.hid ⟨HL2.out.step hB, BX_step hX1.out hB, (IR.made V 3 n).alloc _, by have := SR.made (V.alloc (.cells (madeCells #[.int .i64 0] n) 3)) 28 (n + 1); rw [World.size_alloc] at this; exact this,
      fun j hj => by have := hws.out j hj; omega, fun j hj => by have := hrs.out j hj; omega, by omega, by omega, by omega, by omega⟩⟩
    ·go_wp2_with fail
     go_meet
     have hB : Below V.heap.size V (((V.alloc (.cells (madeCells #[.int .i64 0, .int .i64 0] ((n + 1) * 2)) 28)).alloc (.cells (madeCells #[.int .i64 0] n) 3)).drew) := (((Below.refl _ _).alloc (Nat.le_refl _) _).alloc (by simp) _).drew
     exact ⟨_, _, rfl, rfl, rfl, Lib.hid ⟨HL2.out.step hB, BX_step hX1.out hB, by have := IR.made (V.alloc (.cells (madeCells #[.int .i64 0, .int .i64 0] ((n + 1) * 2)) 28)) 3 n; rw [World.size_alloc] at this; exact this, (SR.made V 28 (n + 1)).alloc _,
      fun j hj => by have := hws.out j hj; omega, fun j hj => by have := hrs.out j hj; omega, by omega, by omega, by omega, by omega⟩⟩
   case rest =>
   clear HL2 hX1 hxz hws hrs hwV
   obtain ⟨wb, rb, rfl, rfl, rfl, HLP⟩ := hcut
   obtain rfl : qwn = qcn := HW.out
   obtain ⟨x0, x1, x2, x3, x4⟩ := HLP.out.bx
   go_wp2
   go_loopw [33] (fun t wr => ∃ j : Nat, j ≤ qwn ∧ t = .int .i64 (j : Int) ∧ Hid (LP a n c (some ⟨b, off, none⟩) m bc ss bs w wa wcp ra rcp i ws rs x qca qwn qcc qwa qwn qwc qlo qhi wb rb (wUp qcs qws j) (fun _ => ⟨0, 0⟩) wr)) (fun t _ => qwn - (intOf t).toNat)
   case atStart => exact ⟨0, Nat.zero_le _, rfl, HLP⟩
   case round =>
    clear HLP x0 x1 x2 x3 x4
    obtain ⟨j, hj, rfl, HLP⟩ := hrel
    obtain ⟨x0, x1, x2, x3, x4⟩ := HLP.out.bx
    obtain ⟨l0, l1, l2, l3⟩ := HLP.out.lk.li
    by_cases hlt2 : j < qwn
    ·have hlt2' : (j : Int) < (qwn : Int) := by omega
     obtain ⟨cb, coff, rfl, hcB, d0⟩ := (HQ3.out.below (l3.mono hBw)).get hlt2
     obtain ⟨vb, voff, rfl, hvB, d1⟩ := (HQ4.out.below (l3.mono hBw)).get hlt2
     obtain ⟨cj, hcj, hce⟩ : ∃ cj : Nat, cj < n ∧ qcs j = (cj : Int) := by
      have := setB_at HSet.out hlt2
      exact ⟨(qcs j).toNat, by omega, by omega⟩
     have HE := Hd (fun k (hk : k < n) => (show (if k = cj then qws j else wUp qcs qws j k) = wUp qcs qws (j + 1) k from by
      have := wUp_step (c := k) (ws := qws) HSet.out hlt2
      rw [← this, hce]
      simp))
     rw [hce] at d0
     have hcj' : (cj : Int) < (n : Int) := by omega
     have e0 := HLP.out.ir.cell hcj
     have e1 := HLP.out.ir.frozen cj
     have hcz : cb < wr.heap.size := by omega
     have hvz : vb < wr.heap.size := by omega
     clear hce
     go_wp2
     go_roundw
     case rel => exact ⟨j + 1, by omega, by go_num, Hd (HLP.out.setw hcj _ HE.out)⟩
     case measure => simp [intOf]; omega
    ·obtain rfl : j = qwn := by omega
     have hlt2' : ¬ (j : Int) < (j : Int) := by omega
     go_wp2
     go_loopw [11] (fun t wr => ∃ (j2 : Nat) (y : Int), j2 ≤ n ∧ t = .int .i64 y ∧ Hid (y = (j2 : Int) - 1) ∧ Hid (LP a n c (some ⟨b, off, none⟩) m bc ss bs w wa wcp ra rcp i ws rs x qca j qcc qwa j qwc qlo qhi wb rb (wUp qcs qws j) (restT n ss (bs i) (n - j2)) wr)) (fun t _ => (intOf t + 1).toNat)
     case atStart => exact ⟨n, _, Nat.le_refl _, rfl, Hd (by omega), Hd (HLP.out.gcongr (fun k hk => by rw [Nat.sub_self]; exact restT_zero hk))⟩
     case round =>
      clear HLP x0 x1 x2 x3 x4 l0 l1 l2 l3
      obtain ⟨j2, y, hj2, rfl, HY, HLP⟩ := hrel
      obtain ⟨l0, l1, l2, l3⟩ := HLP.out.lk.li
      by_cases h0 : j2 = 0
      ·subst h0
       obtain rfl : y = -1 := by have := HY.out; omega
       clear HY
       go_upto_region 16 with (fail)
       have hwf : ∀ k, k < n → wUp qcs qws j k = (bs i).w k := fun k _ => by rw [HBB.out]; rfl
       have hgf : ∀ k, k < n + 1 → restT n ss (bs i) (n - 0) k = restS n ss (bs i) k := fun k hk => by unfold restT; rw [if_pos (by omega)]
       have HLQ := Hd (show LP a n c (some ⟨b, off, none⟩) m bc ss bs w wa wcp ra rcp i ws rs x qca j qcc qwa j qwc qlo qhi wb rb (bs i).w (restS n ss (bs i)) wr from ⟨HLP.out.lk, HLP.out.bx, HLP.out.ir.congr hwf, HLP.out.sr.congr hgf, HLP.out.wlt, HLP.out.rlt, HLP.out.ne, HLP.out.x0, HLP.out.w0, HLP.out.r0⟩)
       have c2 : wr.cell? ⟨w.heap.size + 1, 2, none⟩ = some (.slice wa i wcp) := cell_of_row _ _ _ _ _ _ HLP.out.lk.sbox
       have c3 : wr.cell? ⟨w.heap.size + 1, 3, none⟩ = some (.slice ra i rcp) := cell_of_row _ _ _ _ _ _ HLP.out.lk.sbox
       have f2 : wr.frozen? ⟨w.heap.size + 1, 2, none⟩ = false := frozen_of_row _ _ _ _ _ HLP.out.lk.sbox
       have f3 : wr.frozen? ⟨w.heap.size + 1, 3, none⟩ = false := frozen_of_row _ _ _ _ _ HLP.out.lk.sbox
       have hspz : w.heap.size + 1 < wr.heap.size := (blkL HLP.out.lk.sbox)
       have HAP := Hd (show AP (w.heap.size + 2) wr wr.drew (.slice wa i wcp) (.slice ra i rcp) i i (ws.map (rowW n)) (rs.map (rowW (n + 1))) from ⟨(Below.refl _ _).drew, fun _ _ _ _ _ _ _ => rfl, by omega, HLP.out.lk.wown, HLP.out.lk.rown⟩)
       obtain ⟨i1, hi1, hz10, hz11, hz12⟩ := info_parts info_ints
       obtain ⟨i2, hi2, hz20, hz21, hz22⟩ := info_parts info_spans
       have hb63 : i + 1 ≤ maxLen := by unfold maxLen; omega
       have hb47 : (i + 1) * 24 ≤ 140737488355328 := by omega
       clear HLP hwf hgf l0 l1 l2 l3
       refine wp_region_any (by kernel_rfl) ?_
       change wpAny _ _ _ _ _ _ _ (World.drew wr)
       have d2 : wr.drew.cell? ⟨w.heap.size + 1, 2, none⟩ = some (.slice wa i wcp) := c2
       have d3 : wr.drew.cell? ⟨w.heap.size + 1, 3, none⟩ = some (.slice ra i rcp) := c3
       have hwz : wr.heap.size ≤ wr.drew.heap.size := Nat.le_refl _
       generalize World.drew wr = wd at *
       refine wpAny_take (i := 1) (v := ?_) rfl (by kernel_rfl) (by kernel_rfl) (by kernel_rfl) (fun _ _ _ h => h) (Or.inl ⟨by rfl, ?_⟩) ?_
       rotate_left
       ·intro w'; go_simp
        try with_reducible rfl
       (try dsimp only [Act.put]); (try simp only [hns])
       refine any_of_tail 16 15 (fun w' => w'.cell? ⟨w.heap.size + 1, 2, none⟩ = some (.slice wa i wcp) ∧ w'.cell? ⟨w.heap.size + 1, 3, none⟩ = some (.slice ra i rcp)) (by kernel_rfl) ⟨d2, d3⟩ (fun hS => ?_)
       refine htake_ImLook 0 ?_
       refine htake_ImLook 2 ?_
       refine htake_ImLook 3 ?_
       refine htake_ImLook 4 ?_
       refine htake_ImLook 5 ?_
       refine htake_ImLook 6 ?_
       refine htake_ImLook 9 ?_
       refine htake_ImLook 10 ?_
       refine htake_ImLook 11 ?_
       refine htake_ImLook 12 ?_
       refine htake_ImLook 13 ?_
       refine headH_two 7 14 ?_ ?_
       ·refine headH_op rfl (fun K hK => ?_); go_simp; have HAP2 := Hd (HAP.out.alloc (.cells #[.slice (some ⟨wb, 0, none⟩) n n] 24)); have HX1 := Hd (show ((wd).alloc (.cells #[.slice (some ⟨wb, 0, none⟩) n n] 24)).heap[(wd).heap.size]? = some (.cells #[.slice (some ⟨wb, 0, none⟩) n n] 24) from heap_alloc_new _ _); clear HAP; have HAP := HAP2; clear HAP2; refine hK.out _ _ ⟨((bcell HAP.out.below).1 _ _ (by omega)).trans c2, ((bcell HAP.out.below).1 _ _ (by omega)).trans c3⟩ (fun hS => ?_); clear hK K; (try dsimp only [Act.put]); (try simp only [hns])
        generalize World.alloc wd _ = W1 at *
        refine headH_two 8 14 ?_ ?_
        ·refine headH_op rfl (fun K hK => ?_); refine step_append_lies _ rfl _ _ 192 rfl (w.heap.size + 2) 24 i1 (.slice none 0 0) 1 24 Tryz.underlying192 hi1 hz10 hz11 hz12 rfl (by decide) _ i _ rfl HAP.out.wown _ 1 1 [.slice (some ⟨wb, 0, none⟩) n n] rfl rfl (World.news_of_block HX1.out) one_slice (by decide) hb63 hb47 (by have := HAP.out.below.size; omega) _ rfl ?_; intro g1 p1 W2 hown hgrow _ _; have HAP2 := Hd (HAP.out.app1 hgrow hown)
         clear HAP hown hgrow; have HAP := HAP2; clear HAP2; refine hK.out _ _ ⟨((bcell HAP.out.below).1 _ _ (by omega)).trans c2, ((bcell HAP.out.below).1 _ _ (by omega)).trans c3⟩ (fun hS => ?_); clear hK K; (try dsimp only [Act.put]); (try simp only [hns])
         refine headH_one 14 ?_
         refine headH_op rfl (fun K hK => ?_); go_simp; have HAP2 := Hd (HAP.out.alloc (.cells #[.slice (some ⟨rb, 0, none⟩) (n + 1) (n + 1)] 25)); have HX2 := Hd (show ((W2).alloc (.cells #[.slice (some ⟨rb, 0, none⟩) (n + 1) (n + 1)] 25)).heap[(W2).heap.size]? = some (.cells #[.slice (some ⟨rb, 0, none⟩) (n + 1) (n + 1)] 25) from heap_alloc_new _ _); clear HAP; have HAP := HAP2; clear HAP2; refine hK.out _ _ ⟨((bcell HAP.out.below).1 _ _ (by omega)).trans c2, ((bcell HAP.out.below).1 _ _ (by omega)).trans c3⟩ (fun hS => ?_); clear hK K; (try dsimp only [Act.put]); (try simp only [hns])
         generalize World.alloc W2 _ = W3 at *
         refine headH_one 15 ?_
         refine headH_op rfl (fun K hK => ?_); refine step_append_lies _ rfl _ _ 193 rfl (w.heap.size + 2) 25 i2 (.slice none 0 0) 1 24 Tryz.underlying193 hi2 hz20 hz21 hz22 rfl (by decide) _ i _ rfl HAP.out.rown _ 1 1 [.slice (some ⟨rb, 0, none⟩) (n + 1) (n + 1)] rfl rfl (World.news_of_block HX2.out) one_slice (by decide) hb63 hb47 (by have := HAP.out.below.size; omega) _ rfl ?_; intro g2 p2 W4 hown hgrow _ _; have HAP2 := Hd (HAP.out.app2 hgrow hown)
         clear HAP hown hgrow; have HAP := HAP2; clear HAP2; refine hK.out _ _ ⟨((bcell HAP.out.below).1 _ _ (by omega)).trans c2, ((bcell HAP.out.below).1 _ _ (by omega)).trans c3⟩ (fun hS => ?_); clear hK K; (try dsimp only [Act.put]); (try simp only [hns])
         change tailL _ _ _ _ _ _ _ _; refine ⟨by kernel_rfl, ?_⟩; simp only [List.drop_succ_cons, List.drop_zero]; have k2 := ((bcell HAP.out.below).1 (w.heap.size + 1) 2 (by omega)).trans c2; have k3 := ((bcell HAP.out.below).1 (w.heap.size + 1) 3 (by omega)).trans c3; have m2 := ((bcell HAP.out.below).2 (w.heap.size + 1) 2 (by omega)).trans f2; have m3 := ((bcell HAP.out.below).2 (w.heap.size + 1) 3 (by omega)).trans f3; have HLK := Hd (LK.next HLQ.out HAP.out); clear HAP HLQ c2 c3 f2 f3 hS; go_wp2; go_roundw; (· exact ⟨i + 1, _, _, _, _, _, _, by omega, by go_num, HLK⟩); (· simp [intOf]; omega)
        ·refine headH_op rfl (fun K hK => ?_); go_simp; have HAP2 := Hd (HAP.out.alloc (.cells #[.slice (some ⟨rb, 0, none⟩) (n + 1) (n + 1)] 25)); have HX2 := Hd (show ((W1).alloc (.cells #[.slice (some ⟨rb, 0, none⟩) (n + 1) (n + 1)] 25)).heap[(W1).heap.size]? = some (.cells #[.slice (some ⟨rb, 0, none⟩) (n + 1) (n + 1)] 25) from heap_alloc_new _ _); clear HAP; have HAP := HAP2; clear HAP2; refine hK.out _ _ ⟨((bcell HAP.out.below).1 _ _ (by omega)).trans c2, ((bcell HAP.out.below).1 _ _ (by omega)).trans c3⟩ (fun hS => ?_); clear hK K; (try dsimp only [Act.put]); (try simp only [hns])
         have HX1' := Hd ((Below.heap_alloc W1 (.cells #[.slice (some ⟨rb, 0, none⟩) (n + 1) (n + 1)] 25) _ (blkL HX1.out)).trans HX1.out); clear HX1; have HX1 := HX1'; clear HX1'
         generalize World.alloc W1 _ = W2 at *
         refine headH_one 8 ?_
         refine headH_op rfl (fun K hK => ?_); refine step_append_lies _ rfl _ _ 192 rfl (w.heap.size + 2) 24 i1 (.slice none 0 0) 1 24 Tryz.underlying192 hi1 hz10 hz11 hz12 rfl (by decide) _ i _ rfl HAP.out.wown _ 1 1 [.slice (some ⟨wb, 0, none⟩) n n] rfl rfl (World.news_of_block HX1.out) one_slice (by decide) hb63 hb47 (by have := HAP.out.below.size; omega) _ rfl ?_; intro g1 p1 W3 hown hgrow _ _; have HAP2 := Hd (HAP.out.app1 hgrow hown)
         have HX2' := Hd ((hgrow.block _ (blkL HX2.out) (Ne.symm (own_off HAP.out.wown HX2.out (by decide)))).trans HX2.out); clear HX2; have HX2 := HX2'; clear HX2'
         clear HAP hown hgrow; have HAP := HAP2; clear HAP2; refine hK.out _ _ ⟨((bcell HAP.out.below).1 _ _ (by omega)).trans c2, ((bcell HAP.out.below).1 _ _ (by omega)).trans c3⟩ (fun hS => ?_); clear hK K; (try dsimp only [Act.put]); (try simp only [hns])
         refine headH_one 15 ?_
         refine headH_op rfl (fun K hK => ?_); refine step_append_lies _ rfl _ _ 193 rfl (w.heap.size + 2) 25 i2 (.slice none 0 0) 1 24 Tryz.underlying193 hi2 hz20 hz21 hz22 rfl (by decide) _ i _ rfl HAP.out.rown _ 1 1 [.slice (some ⟨rb, 0, none⟩) (n + 1) (n + 1)] rfl rfl (World.news_of_block HX2.out) one_slice (by decide) hb63 hb47 (by have := HAP.out.below.size; omega) _ rfl ?_; intro g2 p2 W4 hown hgrow _ _; have HAP2 := Hd (HAP.out.app2 hgrow hown)
         clear HAP hown hgrow; have HAP := HAP2; clear HAP2; refine hK.out _ _ ⟨((bcell HAP.out.below).1 _ _ (by omega)).trans c2, ((bcell HAP.out.below).1 _ _ (by omega)).trans c3⟩ (fun hS => ?_); clear hK K; (try dsimp only [Act.put]); (try simp only [hns])
         change tailL _ _ _ _ _ _ _ _; refine ⟨by kernel_rfl, ?_⟩; simp only [List.drop_succ_cons, List.drop_zero]; have k2 := ((bcell HAP.out.below).1 (w.heap.size + 1) 2 (by omega)).trans c2; have k3 := ((bcell HAP.out.below).1 (w.heap.size + 1) 3 (by omega)).trans c3; have m2 := ((bcell HAP.out.below).2 (w.heap.size + 1) 2 (by omega)).trans f2; have m3 := ((bcell HAP.out.below).2 (w.heap.size + 1) 3 (by omega)).trans f3; have HLK := Hd (LK.next HLQ.out HAP.out); clear HAP HLQ c2 c3 f2 f3 hS; go_wp2; go_roundw; (· exact ⟨i + 1, _, _, _, _, _, _, by omega, by go_num, HLK⟩); (· simp [intOf]; omega)
       ·refine headH_op rfl (fun K hK => ?_); go_simp; have HAP2 := Hd (HAP.out.alloc (.cells #[.slice (some ⟨rb, 0, none⟩) (n + 1) (n + 1)] 25)); have HX2 := Hd (show ((wd).alloc (.cells #[.slice (some ⟨rb, 0, none⟩) (n + 1) (n + 1)] 25)).heap[(wd).heap.size]? = some (.cells #[.slice (some ⟨rb, 0, none⟩) (n + 1) (n + 1)] 25) from heap_alloc_new _ _); clear HAP; have HAP := HAP2; clear HAP2; refine hK.out _ _ ⟨((bcell HAP.out.below).1 _ _ (by omega)).trans c2, ((bcell HAP.out.below).1 _ _ (by omega)).trans c3⟩ (fun hS => ?_); clear hK K; (try dsimp only [Act.put]); (try simp only [hns])
        generalize World.alloc wd _ = W1 at *
        refine headH_one 7 ?_
        refine headH_op rfl (fun K hK => ?_); go_simp; have HAP2 := Hd (HAP.out.alloc (.cells #[.slice (some ⟨wb, 0, none⟩) n n] 24)); have HX1 := Hd (show ((W1).alloc (.cells #[.slice (some ⟨wb, 0, none⟩) n n] 24)).heap[(W1).heap.size]? = some (.cells #[.slice (some ⟨wb, 0, none⟩) n n] 24) from heap_alloc_new _ _); clear HAP; have HAP := HAP2; clear HAP2; refine hK.out _ _ ⟨((bcell HAP.out.below).1 _ _ (by omega)).trans c2, ((bcell HAP.out.below).1 _ _ (by omega)).trans c3⟩ (fun hS => ?_); clear hK K; (try dsimp only [Act.put]); (try simp only [hns])
        have HX2' := Hd ((Below.heap_alloc W1 (.cells #[.slice (some ⟨wb, 0, none⟩) n n] 24) _ (blkL HX2.out)).trans HX2.out); clear HX2; have HX2 := HX2'; clear HX2'
        generalize World.alloc W1 _ = W2 at *
        refine headH_one 8 ?_
        refine headH_op rfl (fun K hK => ?_); refine step_append_lies _ rfl _ _ 192 rfl (w.heap.size + 2) 24 i1 (.slice none 0 0) 1 24 Tryz.underlying192 hi1 hz10 hz11 hz12 rfl (by decide) _ i _ rfl HAP.out.wown _ 1 1 [.slice (some ⟨wb, 0, none⟩) n n] rfl rfl (World.news_of_block HX1.out) one_slice (by decide) hb63 hb47 (by have := HAP.out.below.size; omega) _ rfl ?_; intro g1 p1 W3 hown hgrow _ _; have HAP2 := Hd (HAP.out.app1 hgrow hown)
        have HX2' := Hd ((hgrow.block _ (blkL HX2.out) (Ne.symm (own_off HAP.out.wown HX2.out (by decide)))).trans HX2.out); clear HX2; have HX2 := HX2'; clear HX2'
        clear HAP hown hgrow; have HAP := HAP2; clear HAP2; refine hK.out _ _ ⟨((bcell HAP.out.below).1 _ _ (by omega)).trans c2, ((bcell HAP.out.below).1 _ _ (by omega)).trans c3⟩ (fun hS => ?_); clear hK K; (try dsimp only [Act.put]); (try simp only [hns])
        refine headH_one 15 ?_
        refine headH_op rfl (fun K hK => ?_); refine step_append_lies _ rfl _ _ 193 rfl (w.heap.size + 2) 25 i2 (.slice none 0 0) 1 24 Tryz.underlying193 hi2 hz20 hz21 hz22 rfl (by decide) _ i _ rfl HAP.out.rown _ 1 1 [.slice (some ⟨rb, 0, none⟩) (n + 1) (n + 1)] rfl rfl (World.news_of_block HX2.out) one_slice (by decide) hb63 hb47 (by have := HAP.out.below.size; omega) _ rfl ?_; intro g2 p2 W4 hown hgrow _ _; have HAP2 := Hd (HAP.out.app2 hgrow hown)
        clear HAP hown hgrow; have HAP := HAP2; clear HAP2; refine hK.out _ _ ⟨((bcell HAP.out.below).1 _ _ (by omega)).trans c2, ((bcell HAP.out.below).1 _ _ (by omega)).trans c3⟩ (fun hS => ?_); clear hK K; (try dsimp only [Act.put]); (try simp only [hns])
        change tailL _ _ _ _ _ _ _ _; refine ⟨by kernel_rfl, ?_⟩; simp only [List.drop_succ_cons, List.drop_zero]; have k2 := ((bcell HAP.out.below).1 (w.heap.size + 1) 2 (by omega)).trans c2; have k3 := ((bcell HAP.out.below).1 (w.heap.size + 1) 3 (by omega)).trans c3; have m2 := ((bcell HAP.out.below).2 (w.heap.size + 1) 2 (by omega)).trans f2; have m3 := ((bcell HAP.out.below).2 (w.heap.size + 1) 3 (by omega)).trans f3; have HLK := Hd (LK.next HLQ.out HAP.out); clear HAP HLQ c2 c3 f2 f3 hS; go_wp2; go_roundw; (· exact ⟨i + 1, _, _, _, _, _, _, by omega, by go_num, HLK⟩); (· simp [intOf]; omega)
      ·obtain ⟨k, rfl⟩ : ∃ k, j2 = k + 1 := ⟨j2 - 1, by omega⟩
       obtain rfl : y = (k : Int) := by have := HY.out; omega
       have hk : k < n := by omega
       have hk' : (k : Int) < (n : Int) := by omega
       clear HY h0 hj2
       obtain ⟨sb, soff, rfl, hsB, s0, s1⟩ := (HS.out.below (l3.mono hBw)).get hk
       have hsz : sb < wr.heap.size := by omega
       obtain ⟨r0, r1⟩ := HLP.out.sr.cell (j := k + 1) (by omega)
       obtain ⟨q0, q1⟩ := HLP.out.sr.cell (j := k) (by omega)
       have f0 := HLP.out.sr.frozen (k * 2)
       have f1 := HLP.out.sr.frozen (k * 2 + 1)
       have w0 := HLP.out.ir.cell hk
       have hrz := HLP.out.sr.lt
       have hwz := HLP.out.ir.lt
       have hwk := HWB.out k
       obtain ⟨sp1, sp2, sp3⟩ := HSh.out.span k hk
       have hsw : ∀ c, 0 ≤ (bs i).w c ∧ (bs i).w c ≤ 1000000 := fun c => HSh.out.w hlt c
       have hbl := rest_bound (n := n) (b := bs i) (f := sLo ss) hsw (fun c hc => by obtain ⟨h1, h2, h3⟩ := HSh.out.span c hc; unfold sLo; omega) (n - (k + 1)) (by omega)
       have hbh := rest_bound (n := n) (b := bs i) (f := sHi ss) hsw (fun c hc => by obtain ⟨h1, h2, h3⟩ := HSh.out.span c hc; unfold sHi; omega) (n - (k + 1)) (by omega)
       have hst : restT n ss (bs i) (n - (k + 1)) (k + 1) = ⟨rest n (bs i) (sLo ss) (n - (k + 1)), rest n (bs i) (sHi ss) (n - (k + 1))⟩ := by
        unfold restT restS
        rw [if_pos (by omega)]
       rw [hst] at r0 r1
       have hwe : wUp qcs qws j k = (bs i).w k := by rw [HBB.out]; rfl
       rw [hwe] at w0
       have hwk2 := hsw k
       have hn1 : n - (k + 1) + 1 = n - k := by omega
       have hn2 : n - (n - (k + 1) + 1) = k := by omega
       have e1 : rest n (bs i) (sLo ss) (n - k) = rest n (bs i) (sLo ss) (n - (k + 1)) + (bs i).w k * (ss k).lo := by
        rw [← hn1, rest, hn2]; rfl
       have e2 : rest n (bs i) (sHi ss) (n - k) = rest n (bs i) (sHi ss) (n - (k + 1)) + (bs i).w k * (ss k).hi := by
        rw [← hn1, rest, hn2]; rfl
       have HE := Hd (fun cc (hc : cc < n + 1) => show (if cc = k then (⟨rest n (bs i) (sLo ss) (n - (k + 1)) + (bs i).w k * (ss k).lo, rest n (bs i) (sHi ss) (n - (k + 1)) + (bs i).w k * (ss k).hi⟩ : SV) else restT n ss (bs i) (n - (k + 1)) cc) = restT n ss (bs i) (n - k) cc from by
        have := restT_step (n := n) (t := n - (k + 1)) (c := cc) (ss := ss) (b := bs i) (by omega) hc
        rw [hn2, hn1, e1, e2] at this
        exact this)
       have p1 : 0 ≤ (bs i).w k * (ss k).lo := Int.mul_nonneg hwk2.1 sp1
       have p2 : (bs i).w k * (ss k).lo ≤ 1000000 * 1000 := Int.mul_le_mul hwk2.2 (by omega) sp1 (by omega)
       have p3 : 0 ≤ (bs i).w k * (ss k).hi := Int.mul_nonneg hwk2.1 (by omega)
       have p4 : (bs i).w k * (ss k).hi ≤ 1000000 * 1000 := Int.mul_le_mul hwk2.2 (by omega) (by omega) (by omega)
       have b1 : rest n (bs i) (sLo ss) (n - (k + 1)) ≤ 40000000000 := by omega
       have b2 : rest n (bs i) (sHi ss) (n - (k + 1)) ≤ 40000000000 := by omega
       have b3 := hbl.1
       have b4 := hbh.1
       clear hst hwe e1 e2 hn1 hn2 hbl hbh hsw hwk hwk2
       generalize rest n (bs i) (sLo ss) (n - (k + 1)) = RL at *
       generalize rest n (bs i) (sHi ss) (n - (k + 1)) = RH at *
       generalize hX1 : (bs i).w k * (ss k).lo = X1 at *
       generalize hX2 : (bs i).w k * (ss k).hi = X2 at *
       generalize (bs i).w k = wk at *
       generalize (ss k).lo = slo at *
       generalize (ss k).hi = shi at *
       have u1 : IntKind.i64.wrap ((k : Int) + 1) = (k : Int) + 1 := IntWalk.i64_in _ (by omega)
       have u2 : (0 : Int) ≤ (k : Int) + 1 := by omega
       have u3 : ((k : Int) + 1).toNat = k + 1 := by omega
       have u4 : (k : Int) + 1 < (n : Int) + 1 := by omega
       have u5 : IntKind.i64.wrap X1 = X1 := IntWalk.i64_in _ (by omega)
       have u6 : IntKind.i64.wrap X2 = X2 := IntWalk.i64_in _ (by omega)
       have u7 : IntKind.i64.wrap (RL + X1) = RL + X1 := IntWalk.i64_in _ (by omega)
       have u8 : IntKind.i64.wrap (RH + X2) = RH + X2 := IntWalk.i64_in _ (by omega)
       go_upto_region 15 with (fail)
       (refine wp_region_calm_tail (wr.heap.size) 40 (by kernel_rfl) (by kernel_rfl) ?_; simp only [List.take_succ_cons, List.take_zero, List.drop_succ_cons, List.drop_zero]; (repeat (first | go_big_quiet_step (fail) | quiet_step (fail))); refine wpQuiet_nil (wqn ?_); intro xq)
       go_wp2
       go_roundw
       case rel => exact ⟨k, _, by omega, rfl, Lib.hid rfl, Hd ((HLP.out.step xq.below).setr (by omega) _ _ HE.out)⟩
       case measure => simp [intOf]
  ·obtain rfl : i = m := by omega
   have hlt' : ¬ (i : Int) < (i : Int) := by omega
   go_wp2
   exact HRES.out _ _ rfl _ _ _ _ _ _ HL.out
end Go.Proofs.YtgmpelhphnmknaaGreat
