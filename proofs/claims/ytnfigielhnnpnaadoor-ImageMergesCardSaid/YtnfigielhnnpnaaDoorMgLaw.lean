/- The image of several stations: what it is; how it lies in memory while it is put together; the clone of spans. -/
import Derived.Test.YtnfigielhnnpnaaDoorMgMem
import Derived.Test.YtnfigielhnnpnaaDoorGhA
namespace Go.Proofs.YtnfigielhnnpnaaDoor
open Go.RowKit
set_option linter.unusedVariables false
set_option linter.unusedSimpArgs false
set_option maxRecDepth 100000 in
set_option maxHeartbeats 1000000 in
theorem cloneS_any (a : Option Addr) (n c : Nat) (f : Nat → SV) (w : World) (hX : Spans w.heap.size w a n f) (hn : n ≤ 1000) (h0 : 0 < n) :
    Calls Tryd.prog 31 #[.slice a n c] w (CloneRes w 44 2 n (sC f n)) := by
  have HE := fun (W : World) => Lib.run_eql_slice_nil (P := Tryd.prog) (w := W)
  obtain ⟨b, off, rfl, hbz, _⟩ := hX.get h0
  have hcell : ∀ i, i < n → w.cell? ⟨b, off + i * 2, none⟩ = some (.int .i64 (f i).lo) ∧ w.cell? ⟨b, off + i * 2 + 1, none⟩ = some (.int .i64 (f i).hi) := by
    rcases hX.2 with h | ⟨b2, off2, h1, _, h3⟩
    · omega
    · injection h1 with h1
      injection h1 with e1 e2
      subst e1 e2
      exact h3
  have hnews := spans_cells hcell
  have hlt : ∀ j u, (sC f n)[j]? = some u → (w.alloc (.cells #[] 44)).cell? ((⟨b, off, none⟩ : Addr).add j) = some u := by
    intro j u h
    exact (World.cell?_of_block (Below.heap_alloc w _ _ (World.block_lt_of_cell? w _ (hnews j u h)))).trans (hnews j u h)
  have HN := Lib.hid hlt
  clear hnews hlt hX hcell
  obtain ⟨i0, hi, hz0, hz1, hz2⟩ := info_parts info_span
  go_enter Tryd.func31, Tryd.ntmps31
  go_wp2_with (at_builtin; refine wpList_append_own _ rfl _ _ 25 rfl w.heap.size 44 i0 _ 2 16 Tryd.underlying25 hi hz0 hz1 hz2 rfl (by decide) _ 0 [] rfl (World.ownsRow_made _ #[] 0 (Nat.le_refl _) (by decide) rfl) ⟨b, off, none⟩ n c (sC f n) rfl sC_len HN.out sC_one (by unfold maxLen; omega) (by omega) (by simp) ?_; intro v' w3 hown hgrow hnil)
  have hb : Below w.heap.size w w3 := ((Below.refl _ _).alloc (Nat.le_refl _) _).grown hgrow (by simp) (fun k hk => by have hk' : some w.heap.size = some k := hk; injection hk' with hk'; omega)
  rw [Nat.zero_add, List.nil_append] at hown
  obtain ⟨a', c', rfl⟩ := own_len hown
  clear hgrow hnil
  go_wp2
  go_ret
  exact clone_done hown hb
/-- the cells after the first k images -/
def mgC (im : Nat → IM) : Nat → Nat → SV
  | 0 => (im 0).ss
  | k + 1 => fun c => ⟨max (mgC im k c).lo ((im k).ss c).lo, min (mgC im k c).hi ((im k).ss c).hi⟩
/-- whether these have something in common in each cell -/
def mgOk (n : Nat) (im : Nat → IM) : Nat → Bool
  | 0 => true
  | k + 1 => mgOk n im k && allUpto n (fun c => decide ((mgC im (k + 1) c).lo ≤ (mgC im (k + 1) c).hi))
theorem mgOk_up {n : Nat} {im : Nat → IM} {k : Nat} (h : mgOk n im k = false) : ∀ j, k ≤ j → mgOk n im j = false := fun j hj => by
  induction j with
  | zero => rw [show k = 0 by omega] at h; exact h
  | succ j ih =>
    by_cases e : k = j + 1
    · subst e; exact h
    · rw [mgOk, ih (by omega), Bool.false_and]
/-- the cells while an image is merged: those ahead of c are done -/
def mgP (im : Nat → IM) (k c x : Nat) : SV := if x < c then mgC im (k + 1) x else mgC im k x
/-- the beams of the first k images -/
def mgB (im : Nat → IM) : Nat → List BM
  | 0 => []
  | k + 1 => mgB im k ++ (List.range (im k).bn).map (im k).bs
theorem sC_put {f : Nat → SV} {n c : Nat} {lo hi : Int} (hc : c < n) : ((sC f n).set (c * 2) (.int .i64 lo)).set (c * 2 + 1) (.int .i64 hi) = sC (fun i => if i = c then ⟨lo, hi⟩ else f i) n := by
  apply List.ext_getElem?
  intro j
  by_cases hj : j < n * 2
  · by_cases e1 : j = c * 2 + 1
    · subst e1
      rw [List.getElem?_set_self (by rw [List.length_set, sC_len]; omega), sC_get hj, if_neg (by omega), if_pos (by omega)]
    · rw [List.getElem?_set_ne (by omega)]
      by_cases e2 : j = c * 2
      · subst e2
        rw [List.getElem?_set_self (by rw [sC_len]; omega), sC_get hj, if_pos (by omega), if_pos (by omega)]
      · have hjc : ¬ j / 2 = c := by omega
        rw [List.getElem?_set_ne (by omega), sC_get hj, sC_get hj]
        simp only [if_neg hjc]
  · rw [List.getElem?_eq_none_iff.2 (by rw [List.length_set, List.length_set, sC_len]; omega), List.getElem?_eq_none_iff.2 (by rw [sC_len]; omega)]
/-- what is kept where a row and its lists lie -/
theorem BO.low {base : Nat} {v : Value} {W W' : World} {L : List BM} (h : BO base v W L) (hz : W.heap.size ≤ W'.heap.size) (hk : ∀ b, base ≤ b → b < W.heap.size → W'.heap[b]? = W.heap[b]?) : BO base v W' L := by
  refine ⟨own_keep h.own (fun g hg => hk g (h.ownlt g hg).1 (h.ownlt g hg).2), fun p hp => ?_⟩
  have k : ∀ (a : Option Addr) (n : Nat) (f : Nat → Int), NL base v W a n f → NL base v W' a n f := fun a n f hh => by
    refine ⟨hh.1, ?_⟩
    rcases hh.2 with e | ⟨b, h1, h2, h3, h4, h5⟩
    · exact .inl e
    · exact .inr ⟨b, h1, h2, by omega, h4, fun i hi => (World.cell?_of_block (hk b h2 h3)).trans (h5 i hi)⟩
  exact ⟨k _ _ _ (h.lists p hp).1, k _ _ _ (h.lists p hp).2⟩
/-- an image that is put together: the result's box, the cells, the image's box, the beams -/
structure MgI (w : World) (cb ob n cap : Nat) (f : Nat → SV) (v : Value) (L : List BM) (W : World) : Prop where
  below : Below w.heap.size w W
  res : W.heap[w.heap.size]? = some (.cells #[.slice none 0 0, .slice none 0 0] 28)
  out : W.heap[ob]? = some (.cells #[.slice (some ⟨cb, 0, none⟩) n cap, v] 28)
  cells : W.ownsRow (w.heap.size + 1) 44 2 (.slice (some ⟨cb, 0, none⟩) n cap) n (sC f n)
  beams : BO (ob + 1) v W L
  ord : w.heap.size < cb ∧ cb < ob
section
variable {w W W' W3 W5 : World} {cb ob n cap : Nat} {f g : Nat → SV} {v : Value} {L : List BM}
theorem MgI.lt (h : MgI w cb ob n cap f v L W) : ob < W.heap.size := (Array.getElem?_eq_some_iff.1 h.out).1
theorem MgI.step (h : MgI w cb ob n cap f v L W) (hb : Below W.heap.size W W') : MgI w cb ob n cap f v L W' := by
  have hz := h.lt
  have ho := h.ord
  exact ⟨h.below.trans (hb.mono h.below.size), (hb.block _ (by omega)).trans h.res, (hb.block _ hz).trans h.out, own_below h.cells hb, h.beams.step hb, h.ord⟩
theorem MgI.congr (h : MgI w cb ob n cap f v L W) (e : ∀ c, c < n → f c = g c) : MgI w cb ob n cap g v L W := ⟨h.below, h.res, h.out, by rw [← sC_congr e]; exact h.cells, h.beams, h.ord⟩
theorem MgI.cell (h : MgI w cb ob n cap f v L W) {c : Nat} (hc : c < n) : W.cell? ⟨cb, c * 2, none⟩ = some (.int .i64 (f c).lo) ∧ W.cell? ⟨cb, c * 2 + 1, none⟩ = some (.int .i64 (f c).hi) := by
  constructor
  · rw [h.cells.cellAt (c * 2) (by omega), sC_get (by omega), if_pos (by omega), show c * 2 / 2 = c by omega]
  · rw [h.cells.cellAt (c * 2 + 1) (by omega), sC_get (by omega), if_neg (by omega), show (c * 2 + 1) / 2 = c by omega]
theorem MgI.frozen (h : MgI w cb ob n cap f v L W) (j : Nat) : W.frozen? ⟨cb, j, none⟩ = false := h.cells.frozenAt _
theorem MgI.box (h : MgI w cb ob n cap f v L W) : W.cell? ⟨ob, 0, none⟩ = some (.slice (some ⟨cb, 0, none⟩) n cap) ∧ W.cell? ⟨ob, 1, none⟩ = some v := ⟨cell_of_row _ _ _ _ _ _ h.out, cell_of_row _ _ _ _ _ _ h.out⟩
/-- a cell's span stored -/
theorem MgI.set (h : MgI w cb ob n cap f v L W) {c : Nat} (hc : c < n) (lo hi : Int) : MgI w cb ob n cap (fun i => if i = c then ⟨lo, hi⟩ else f i) v L ((W.setCell ⟨cb, c * 2, none⟩ (.int .i64 lo)).setCell ⟨cb, c * 2 + 1, none⟩ (.int .i64 hi)) := by
  have ho := h.ord
  have keep : ∀ b, b ≠ cb → ((W.setCell ⟨cb, c * 2, none⟩ (.int .i64 lo)).setCell ⟨cb, c * 2 + 1, none⟩ (.int .i64 hi)).heap[b]? = W.heap[b]? := fun b hb => (heap_setCell_other _ ⟨cb, c * 2 + 1, none⟩ b _ hb).trans (heap_setCell_other W ⟨cb, c * 2, none⟩ b _ hb)
  refine ⟨(h.below.setCell (p := ⟨cb, c * 2, none⟩) (show w.heap.size ≤ cb by omega) _).setCell (p := ⟨cb, c * 2 + 1, none⟩) (show w.heap.size ≤ cb by omega) _, (keep _ (by omega)).trans h.res, (keep _ (by omega)).trans h.out, ?_, h.beams.low (by simp) (fun b h1 _ => keep b (by omega)), h.ord⟩
  rw [← sC_put hc]
  exact own_set (own_set h.cells (by omega) _) (by omega) _
/-- a beam more -/
theorem MgI.push {x : BM} {g1 cp : Nat} {o : Obj} (h : MgI w cb ob n cap f v L W) (h3 : Below W.heap.size W W3)
    (hx1 : x.cn ≤ maxLen ∧ (x.cn = 0 ∨ ∃ b, x.ca = some ⟨b, 0, none⟩ ∧ W.heap.size ≤ b ∧ b < W3.heap.size ∧ ∀ i, i < x.cn → W3.cell? ⟨b, i, none⟩ = some (.int .i64 (x.cs i))))
    (hx2 : x.wn ≤ maxLen ∧ (x.wn = 0 ∨ ∃ b, x.wa = some ⟨b, 0, none⟩ ∧ W.heap.size ≤ b ∧ b < W3.heap.size ∧ ∀ i, i < x.wn → W3.cell? ⟨b, i, none⟩ = some (.int .i64 (x.ws i))))
    (ho : W5.ownsRow (ob + 1) 57 4 (.slice (some ⟨g1, 0, none⟩) (L.length + 1) cp) (L.length + 1) (bmC L ++ x.cells)) (hg : (W3.alloc o).grownBy W5 v.ownBlock) (hat : v.ownBlock = some g1 ∨ g1 = (W3.alloc o).heap.size) :
    MgI w cb ob n cap f (.slice (some ⟨g1, 0, none⟩) (L.length + 1) cp) (L ++ [x]) (W5.setCell ⟨ob, 1, none⟩ (.slice (some ⟨g1, 0, none⟩) (L.length + 1) cp)) := by
  have hz := h.lt
  have hor := h.ord
  obtain ⟨k1, k2, _⟩ := h.beams.push (by omega) h3 hx1 hx2 ho hg hat
  have hol := h.beams.ownlt
  have hz5 := k2.size
  have keep5 : ∀ b, b ≤ ob → W5.heap[b]? = W.heap[b]? := fun b hb => k2.block b (by omega) (fun e => by have := (hol b e.symm).1; omega)
  have keep : ∀ b, b ≠ ob → (W5.setCell ⟨ob, 1, none⟩ (.slice (some ⟨g1, 0, none⟩) (L.length + 1) cp)).heap[b]? = W5.heap[b]? := fun b hb => heap_setCell_other W5 ⟨ob, 1, none⟩ b _ hb
  have hbw : Below w.heap.size w W5 := h.below.grown k2 h.below.size (fun b hb => by have := (hol b hb).1; omega)
  refine ⟨hbw.setCell (p := ⟨ob, 1, none⟩) (show w.heap.size ≤ ob by omega) _, (keep _ (by omega)).trans ((keep5 _ (by omega)).trans h.res), ?_, ?_, k1.low (by simp) (fun b h1 _ => keep b (by omega)), h.ord⟩
  · have := heap_setCell_same W5 ob 1 _ _ (.slice (some ⟨g1, 0, none⟩) (L.length + 1) cp) ((keep5 ob (Nat.le_refl _)).trans h.out)
    simpa using this
  · refine own_keep h.cells (fun g hg => ?_)
    have e : cb = g := by simpa [Value.ownBlock] using hg
    subst e
    exact (keep _ (by omega)).trans (keep5 _ (by omega))
end
end Go.Proofs.YtnfigielhnnpnaaDoor
