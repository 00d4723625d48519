/- Texts put together: MgMem, MgLaw, MgOwn. -/
import Derived.Test.YtnfigielhnnpnaaDoorRefAl0
import Derived.Test.YtnfigielhnnpnaaDoorGhA
import Derived.Test.YtnfigielhnnpnaaDoorGkA
import Derived.Test.YtnfigielhnnpnaaDoorGfA
import Derived.Test.YtnfigielhnnpnaaDoorGcA
namespace Go.Proofs.YtnfigielhnnpnaaDoor
open Go.RowKit
set_option linter.unusedVariables false
set_option linter.unusedSimpArgs false
theorem mg_info_beam : (Tryd.prog.info? 57).map (fun i => (i.zero, i.size, i.bytes)) = some (some (.agg #[.slice none 0 0, .slice none 0 0, .int .i64 0, .int .i64 0]), 4, 64) := by kernel_rfl
theorem mg_beam_one {ca : Option Addr} {cn cc : Nat} {wa : Option Addr} {wn wc : Nat} {lo hi : Int} : ∀ u ∈ [Value.slice ca cn cc, .slice wa wn wc, .int .i64 lo, .int .i64 hi], u.oneCell' = true := by
  intro u hu
  simp at hu
  rcases hu with rfl | rfl | rfl | rfl <;> rfl
/-- a beam without the places of its lists -/
def BM.strip (p : BM) : BM := ⟨none, p.cn, 0, none, p.wn, 0, p.lo, p.hi, p.cs, p.ws⟩
def bm0 : BM := ⟨none, 0, 0, none, 0, 0, 0, 0, fun _ => 0, fun _ => 0⟩
def BM.cells (p : BM) : List Value := [.slice p.ca p.cn p.cc, .slice p.wa p.wn p.wc, .int .i64 p.lo, .int .i64 p.hi]
def bmC : List BM → List Value
  | [] => []
  | x :: t => x.cells ++ bmC t
theorem bmC_append : ∀ (a b : List BM), bmC (a ++ b) = bmC a ++ bmC b
  | [], b => rfl
  | h :: t, b => by rw [List.cons_append, bmC, bmC, bmC_append t b, List.append_assoc]
theorem bmC_one (x : BM) : bmC [x] = x.cells := by simp [bmC]
theorem bmC_len : ∀ (l : List BM), (bmC l).length = l.length * 4
  | [] => rfl
  | h :: t => by rw [bmC, List.length_append, bmC_len t]; simp [BM.cells]; omega
theorem bmC_get : ∀ (l : List BM) (i r : Nat) (z : BM), i < l.length → r < 4 → (bmC l)[i * 4 + r]? = (l.getD i z).cells[r]?
  | [], i, r, z, h, _ => by simp at h
  | h :: t, 0, r, z, _, hr => by
    rw [bmC, List.getElem?_append_left (by simp [BM.cells]; omega)]
    simp
  | h :: t, i + 1, r, z, hi, hr => by
    have e : (i + 1) * 4 + r - 4 = i * 4 + r := by omega
    rw [bmC, List.getElem?_append_right (by simp [BM.cells]; omega)]
    have : h.cells.length = 4 := rfl
    rw [this, e, bmC_get t i r z (by simpa using hi) hr]
    simp
/-- numbers that lie in a block of their own -/
def NL (base : Nat) (v : Value) (W : World) (a : Option Addr) (n : Nat) (f : Nat → Int) : Prop := n ≤ maxLen ∧ (n = 0 ∨ ∃ b, a = some ⟨b, 0, none⟩ ∧ base ≤ b ∧ b < W.heap.size ∧ v.ownBlock ≠ some b ∧ ∀ i, i < n → W.cell? ⟨b, i, none⟩ = some (.int .i64 (f i)))
structure BO (base : Nat) (v : Value) (W : World) (L : List BM) : Prop where
  own : W.ownsRow base 57 4 v L.length (bmC L)
  lists : ∀ p ∈ L, NL base v W p.ca p.cn p.cs ∧ NL base v W p.wa p.wn p.ws
section
variable {base : Nat} {v v' : Value} {W W' : World} {L : List BM} {a : Option Addr} {n : Nat} {f : Nat → Int}
theorem NL.keep (h : NL base v W a n f) (hz : W.heap.size ≤ W'.heap.size) (hk : ∀ b, b < W.heap.size → v.ownBlock ≠ some b → W'.heap[b]? = W.heap[b]?) (hv : ∀ b, b < W.heap.size → v.ownBlock ≠ some b → v'.ownBlock ≠ some b) : NL base v' W' a n f := by
  refine ⟨h.1, ?_⟩
  rcases h.2 with h | ⟨b, h1, h2, h3, h4, h5⟩
  · exact .inl h
  · exact .inr ⟨b, h1, h2, by omega, hv b h3 h4, fun i hi => (World.cell?_of_block (hk b h3 h4)).trans (h5 i hi)⟩
theorem NL.ints (h : NL base v W a n f) : Ints W.heap.size W a n f := by
  rcases h.2 with h | ⟨b, h1, h2, h3, h4, h5⟩
  · exact .inl h
  · exact .inr ⟨b, 0, h1, h3, fun i hi => by rw [Nat.zero_add]; exact h5 i hi⟩
theorem BO.step (h : BO base v W L) (hb : Below W.heap.size W W') : BO base v W' L :=
  ⟨own_below h.own hb, fun x hx => ⟨(h.lists x hx).1.keep hb.size (fun b h1 _ => hb.block b h1) (fun _ _ h => h), (h.lists x hx).2.keep hb.size (fun b h1 _ => hb.block b h1) (fun _ _ h => h)⟩⟩
theorem BO.ownlt (h : BO base v W L) : ∀ b, v.ownBlock = some b → base ≤ b ∧ b < W.heap.size := fun b hb => h.own.lt b hb
theorem BO.nil (base : Nat) (W : World) : BO base (.slice none 0 0) W [] := ⟨World.ownsRow_nil _ _ _ _, fun x hx => by cases hx⟩
/-- a beam more -/
theorem BO.push {W3 W5 : World} {x : BM} {g cap : Nat} {o : Obj} (h : BO base v W L) (hbase : base ≤ W.heap.size) (h3 : Below W.heap.size W W3)
    (hx1 : x.cn ≤ maxLen ∧ (x.cn = 0 ∨ ∃ b, x.ca = some ⟨b, 0, none⟩ ∧ W.heap.size ≤ b ∧ b < W3.heap.size ∧ ∀ i, i < x.cn → W3.cell? ⟨b, i, none⟩ = some (.int .i64 (x.cs i))))
    (hx2 : x.wn ≤ maxLen ∧ (x.wn = 0 ∨ ∃ b, x.wa = some ⟨b, 0, none⟩ ∧ W.heap.size ≤ b ∧ b < W3.heap.size ∧ ∀ i, i < x.wn → W3.cell? ⟨b, i, none⟩ = some (.int .i64 (x.ws i))))
    (ho : W5.ownsRow base 57 4 (.slice (some ⟨g, 0, none⟩) (L.length + 1) cap) (L.length + 1) (bmC L ++ x.cells)) (hg : (W3.alloc o).grownBy W5 v.ownBlock) (hat : v.ownBlock = some g ∨ g = (W3.alloc o).heap.size) :
    BO base (.slice (some ⟨g, 0, none⟩) (L.length + 1) cap) W5 (L ++ [x]) ∧ W.grownBy W5 v.ownBlock ∧ ((Value.slice (some ⟨g, 0, none⟩) (L.length + 1) cap).ownBlock = v.ownBlock ∨ ∃ b, (Value.slice (some ⟨g, 0, none⟩) (L.length + 1) cap).ownBlock = some b ∧ W.heap.size ≤ b) := by
  have hz3 := h3.size
  have hz4 : (W3.alloc o).heap.size = W3.heap.size + 1 := by simp
  have hz5 := hg.size
  have hol := h.ownlt
  have keep3 : ∀ b, b < W3.heap.size → v.ownBlock ≠ some b → W5.heap[b]? = W3.heap[b]? := fun b h1 h2 => (hg.block b (by omega) (Ne.symm h2)).trans (Below.heap_alloc W3 o b h1)
  have keep : ∀ b, b < W.heap.size → v.ownBlock ≠ some b → W5.heap[b]? = W.heap[b]? := fun b h1 h2 => (keep3 b (by omega) h2).trans (h3.block b h1)
  have hnv : ∀ b, b < W.heap.size → v.ownBlock ≠ some b → (Value.slice (some ⟨g, 0, none⟩) (L.length + 1) cap).ownBlock ≠ some b := fun b h1 h2 e => by
    have e' : g = b := by simpa [Value.ownBlock] using e
    rcases hat with q | q
    · exact h2 (by rw [q, e'])
    · omega
  have hnew : ∀ (a : Option Addr) (n : Nat) (f : Nat → Int), (n ≤ maxLen ∧ (n = 0 ∨ ∃ b, a = some ⟨b, 0, none⟩ ∧ W.heap.size ≤ b ∧ b < W3.heap.size ∧ ∀ i, i < n → W3.cell? ⟨b, i, none⟩ = some (.int .i64 (f i)))) → NL base (.slice (some ⟨g, 0, none⟩) (L.length + 1) cap) W5 a n f := fun a n f hh => by
    refine ⟨hh.1, ?_⟩
    rcases hh.2 with e | ⟨b, h1, h2, h4, h5⟩
    · exact .inl e
    · have hne : v.ownBlock ≠ some b := fun e => by have := (hol b e).2; omega
      refine .inr ⟨b, h1, by omega, by omega, fun e => ?_, fun i hi => (World.cell?_of_block (keep3 b h4 hne)).trans (h5 i hi)⟩
      have e' : g = b := by simpa [Value.ownBlock] using e
      rcases hat with q | q
      · exact hne (by rw [q, e'])
      · omega
  refine ⟨⟨?_, fun y hy => ?_⟩, ⟨hg.os.trans h3.os, hg.tape.trans h3.tape, hg.output.trans h3.output, by omega, fun b h1 h2 => keep b h1 (Ne.symm h2)⟩, ?_⟩
  · rw [bmC_append, bmC_one, List.length_append, List.length_singleton]
    exact ho
  · rw [List.mem_append, List.mem_singleton] at hy
    rcases hy with hy | rfl
    · exact ⟨(h.lists y hy).1.keep (by omega) keep hnv, (h.lists y hy).2.keep (by omega) keep hnv⟩
    · exact ⟨hnew _ _ _ hx1, hnew _ _ _ hx2⟩
  · rcases hat with q | q
    · exact .inl (by rw [q]; rfl)
    · exact .inr ⟨g, rfl, by omega⟩
def beamL (L : List BM) (i : Nat) : BM := L.getD i bm0
theorem beamL_mem {i : Nat} (hi : i < L.length) : beamL L i ∈ L := by
  unfold beamL
  rw [List.getD_eq_getElem?_getD, List.getElem?_eq_getElem hi]
  exact List.getElem_mem hi
/-- the beams as they lie in memory -/
theorem BO.beams {oa : Option Addr} {oc : Nat} (h : BO base (.slice oa L.length oc) W L) (hm : L.length ≤ maxLen) : Beams W.heap.size W oa L.length (beamL L) := by
  refine ⟨hm, ?_⟩
  by_cases hl : L.length = 0
  · exact .inl hl
  obtain ⟨g, rfl, h1, h2⟩ := own_at h.own (by omega)
  refine .inr ⟨g, 0, rfl, h2, fun i hi => ?_⟩
  have hc : ∀ r, r < 4 → W.cell? ⟨g, 0 + i * 4 + r, none⟩ = (beamL L i).cells[r]? := fun r hr => by
    rw [Nat.zero_add, h.own.cellAt (i * 4 + r) (by omega)]
    exact bmC_get L i r bm0 hi hr
  obtain ⟨q1, q2⟩ := h.lists _ (beamL_mem hi)
  exact ⟨⟨hc 0 (by omega), hc 1 (by omega), hc 2 (by omega), hc 3 (by omega)⟩, q1.1, q2.1, q1.ints, q2.ints⟩
end
end Go.Proofs.YtnfigielhnnpnaaDoor
namespace Go.Proofs.YtnfigielhnnpnaaDoor
open Go.RowKit
set_option linter.unusedVariables false
set_option linter.unusedSimpArgs false
set_option maxRecDepth 100000 in
set_option maxHeartbeats 1000000 in
theorem cloneS_any (a : Option Addr) (n c : Nat) (f : Nat → SV) (w : World) (hX : Spans w.heap.size w a n f) (hn : n ≤ 1000) (h0 : 0 < n) :
    Calls Tryd.prog 31 #[.slice a n c] w (CloneRes w 44 2 n (sC f n)) := by
  have HE := fun (W : World) => Lib.run_eql_slice_nil (P := Tryd.prog) (w := W)
  obtain ⟨b, off, rfl, hbz, _⟩ := hX.get h0
  have hcell : ∀ i, i < n → w.cell? ⟨b, off + i * 2, none⟩ = some (.int .i64 (f i).lo) ∧ w.cell? ⟨b, off + i * 2 + 1, none⟩ = some (.int .i64 (f i).hi) := by
    rcases hX.2 with h | ⟨b2, off2, h1, _, h3⟩
    · omega
    · injection h1 with h1
      injection h1 with e1 e2
      subst e1 e2
      exact h3
  have hnews := spans_cells hcell
  have hlt : ∀ j u, (sC f n)[j]? = some u → (w.alloc (.cells #[] 44)).cell? ((⟨b, off, none⟩ : Addr).add j) = some u := by
    intro j u h
    exact (World.cell?_of_block (Below.heap_alloc w _ _ (World.block_lt_of_cell? w _ (hnews j u h)))).trans (hnews j u h)
  have HN := Lib.hid hlt
  clear hnews hlt hX hcell
  obtain ⟨i0, hi, hz0, hz1, hz2⟩ := info_parts info_span
  go_enter Tryd.func31, Tryd.ntmps31
  go_wp2_with (at_builtin; refine wpList_append_own _ rfl _ _ 25 rfl w.heap.size 44 i0 _ 2 16 Tryd.underlying25 hi hz0 hz1 hz2 rfl (by decide) _ 0 [] rfl (World.ownsRow_made _ #[] 0 (Nat.le_refl _) (by decide) rfl) ⟨b, off, none⟩ n c (sC f n) rfl sC_len HN.out sC_one (by unfold maxLen; omega) (by omega) (by simp) ?_; intro v' w3 hown hgrow hnil)
  have hb : Below w.heap.size w w3 := ((Below.refl _ _).alloc (Nat.le_refl _) _).grown hgrow (by simp) (fun k hk => by have hk' : some w.heap.size = some k := hk; injection hk' with hk'; omega)
  rw [Nat.zero_add, List.nil_append] at hown
  obtain ⟨a', c', rfl⟩ := own_len hown
  clear hgrow hnil
  go_wp2
  go_ret
  exact clone_done hown hb
/-- the cells after the first k images -/
def mgC (im : Nat → IM) : Nat → Nat → SV
  | 0 => (im 0).ss
  | k + 1 => fun c => ⟨max (mgC im k c).lo ((im k).ss c).lo, min (mgC im k c).hi ((im k).ss c).hi⟩
/-- whether these have something in common in each cell -/
def mgOk (n : Nat) (im : Nat → IM) : Nat → Bool
  | 0 => true
  | k + 1 => mgOk n im k && allUpto n (fun c => decide ((mgC im (k + 1) c).lo ≤ (mgC im (k + 1) c).hi))
theorem mgOk_up {n : Nat} {im : Nat → IM} {k : Nat} (h : mgOk n im k = false) : ∀ j, k ≤ j → mgOk n im j = false := fun j hj => by
  induction j with
  | zero => rw [show k = 0 by omega] at h; exact h
  | succ j ih =>
    by_cases e : k = j + 1
    · subst e; exact h
    · rw [mgOk, ih (by omega), Bool.false_and]
/-- the cells while an image is merged: those ahead of c are done -/
def mgP (im : Nat → IM) (k c x : Nat) : SV := if x < c then mgC im (k + 1) x else mgC im k x
/-- the beams of the first k images -/
def mgB (im : Nat → IM) : Nat → List BM
  | 0 => []
  | k + 1 => mgB im k ++ (List.range (im k).bn).map (im k).bs
theorem sC_put {f : Nat → SV} {n c : Nat} {lo hi : Int} (hc : c < n) : ((sC f n).set (c * 2) (.int .i64 lo)).set (c * 2 + 1) (.int .i64 hi) = sC (fun i => if i = c then ⟨lo, hi⟩ else f i) n := by
  apply List.ext_getElem?
  intro j
  by_cases hj : j < n * 2
  · by_cases e1 : j = c * 2 + 1
    · subst e1
      rw [List.getElem?_set_self (by rw [List.length_set, sC_len]; omega), sC_get hj, if_neg (by omega), if_pos (by omega)]
    · rw [List.getElem?_set_ne (by omega)]
      by_cases e2 : j = c * 2
      · subst e2
        rw [List.getElem?_set_self (by rw [sC_len]; omega), sC_get hj, if_pos (by omega), if_pos (by omega)]
      · have hjc : ¬ j / 2 = c := by omega
        rw [List.getElem?_set_ne (by omega), sC_get hj, sC_get hj]
        simp only [if_neg hjc]
  · rw [List.getElem?_eq_none_iff.2 (by rw [List.length_set, List.length_set, sC_len]; omega), List.getElem?_eq_none_iff.2 (by rw [sC_len]; omega)]
/-- what is kept where a row and its lists lie -/
theorem BO.low {base : Nat} {v : Value} {W W' : World} {L : List BM} (h : BO base v W L) (hz : W.heap.size ≤ W'.heap.size) (hk : ∀ b, base ≤ b → b < W.heap.size → W'.heap[b]? = W.heap[b]?) : BO base v W' L := by
  refine ⟨own_keep h.own (fun g hg => hk g (h.ownlt g hg).1 (h.ownlt g hg).2), fun p hp => ?_⟩
  have k : ∀ (a : Option Addr) (n : Nat) (f : Nat → Int), NL base v W a n f → NL base v W' a n f := fun a n f hh => by
    refine ⟨hh.1, ?_⟩
    rcases hh.2 with e | ⟨b, h1, h2, h3, h4, h5⟩
    · exact .inl e
    · exact .inr ⟨b, h1, h2, by omega, h4, fun i hi => (World.cell?_of_block (hk b h2 h3)).trans (h5 i hi)⟩
  exact ⟨k _ _ _ (h.lists p hp).1, k _ _ _ (h.lists p hp).2⟩
/-- an image that is put together: the result's box, the cells, the image's box, the beams -/
structure MgI (w : World) (cb ob n cap : Nat) (f : Nat → SV) (v : Value) (L : List BM) (W : World) : Prop where
  below : Below w.heap.size w W
  res : W.heap[w.heap.size]? = some (.cells #[.slice none 0 0, .slice none 0 0] 28)
  out : W.heap[ob]? = some (.cells #[.slice (some ⟨cb, 0, none⟩) n cap, v] 28)
  cells : W.ownsRow (w.heap.size + 1) 44 2 (.slice (some ⟨cb, 0, none⟩) n cap) n (sC f n)
  beams : BO (ob + 1) v W L
  ord : w.heap.size < cb ∧ cb < ob
section
variable {w W W' W3 W5 : World} {cb ob n cap : Nat} {f g : Nat → SV} {v : Value} {L : List BM}
theorem MgI.lt (h : MgI w cb ob n cap f v L W) : ob < W.heap.size := (Array.getElem?_eq_some_iff.1 h.out).1
theorem MgI.step (h : MgI w cb ob n cap f v L W) (hb : Below W.heap.size W W') : MgI w cb ob n cap f v L W' := by
  have hz := h.lt
  have ho := h.ord
  exact ⟨h.below.trans (hb.mono h.below.size), (hb.block _ (by omega)).trans h.res, (hb.block _ hz).trans h.out, own_below h.cells hb, h.beams.step hb, h.ord⟩
theorem MgI.congr (h : MgI w cb ob n cap f v L W) (e : ∀ c, c < n → f c = g c) : MgI w cb ob n cap g v L W := ⟨h.below, h.res, h.out, by rw [← sC_congr e]; exact h.cells, h.beams, h.ord⟩
theorem MgI.cell (h : MgI w cb ob n cap f v L W) {c : Nat} (hc : c < n) : W.cell? ⟨cb, c * 2, none⟩ = some (.int .i64 (f c).lo) ∧ W.cell? ⟨cb, c * 2 + 1, none⟩ = some (.int .i64 (f c).hi) := by
  constructor
  · rw [h.cells.cellAt (c * 2) (by omega), sC_get (by omega), if_pos (by omega), show c * 2 / 2 = c by omega]
  · rw [h.cells.cellAt (c * 2 + 1) (by omega), sC_get (by omega), if_neg (by omega), show (c * 2 + 1) / 2 = c by omega]
theorem MgI.frozen (h : MgI w cb ob n cap f v L W) (j : Nat) : W.frozen? ⟨cb, j, none⟩ = false := h.cells.frozenAt _
theorem MgI.box (h : MgI w cb ob n cap f v L W) : W.cell? ⟨ob, 0, none⟩ = some (.slice (some ⟨cb, 0, none⟩) n cap) ∧ W.cell? ⟨ob, 1, none⟩ = some v := ⟨cell_of_row _ _ _ _ _ _ h.out, cell_of_row _ _ _ _ _ _ h.out⟩
/-- a cell's span stored -/
theorem MgI.set (h : MgI w cb ob n cap f v L W) {c : Nat} (hc : c < n) (lo hi : Int) : MgI w cb ob n cap (fun i => if i = c then ⟨lo, hi⟩ else f i) v L ((W.setCell ⟨cb, c * 2, none⟩ (.int .i64 lo)).setCell ⟨cb, c * 2 + 1, none⟩ (.int .i64 hi)) := by
  have ho := h.ord
  have keep : ∀ b, b ≠ cb → ((W.setCell ⟨cb, c * 2, none⟩ (.int .i64 lo)).setCell ⟨cb, c * 2 + 1, none⟩ (.int .i64 hi)).heap[b]? = W.heap[b]? := fun b hb => (heap_setCell_other _ ⟨cb, c * 2 + 1, none⟩ b _ hb).trans (heap_setCell_other W ⟨cb, c * 2, none⟩ b _ hb)
  refine ⟨(h.below.setCell (p := ⟨cb, c * 2, none⟩) (show w.heap.size ≤ cb by omega) _).setCell (p := ⟨cb, c * 2 + 1, none⟩) (show w.heap.size ≤ cb by omega) _, (keep _ (by omega)).trans h.res, (keep _ (by omega)).trans h.out, ?_, h.beams.low (by simp) (fun b h1 _ => keep b (by omega)), h.ord⟩
  rw [← sC_put hc]
  exact own_set (own_set h.cells (by omega) _) (by omega) _
/-- a beam more -/
theorem MgI.push {x : BM} {g1 cp : Nat} {o : Obj} (h : MgI w cb ob n cap f v L W) (h3 : Below W.heap.size W W3)
    (hx1 : x.cn ≤ maxLen ∧ (x.cn = 0 ∨ ∃ b, x.ca = some ⟨b, 0, none⟩ ∧ W.heap.size ≤ b ∧ b < W3.heap.size ∧ ∀ i, i < x.cn → W3.cell? ⟨b, i, none⟩ = some (.int .i64 (x.cs i))))
    (hx2 : x.wn ≤ maxLen ∧ (x.wn = 0 ∨ ∃ b, x.wa = some ⟨b, 0, none⟩ ∧ W.heap.size ≤ b ∧ b < W3.heap.size ∧ ∀ i, i < x.wn → W3.cell? ⟨b, i, none⟩ = some (.int .i64 (x.ws i))))
    (ho : W5.ownsRow (ob + 1) 57 4 (.slice (some ⟨g1, 0, none⟩) (L.length + 1) cp) (L.length + 1) (bmC L ++ x.cells)) (hg : (W3.alloc o).grownBy W5 v.ownBlock) (hat : v.ownBlock = some g1 ∨ g1 = (W3.alloc o).heap.size) :
    MgI w cb ob n cap f (.slice (some ⟨g1, 0, none⟩) (L.length + 1) cp) (L ++ [x]) (W5.setCell ⟨ob, 1, none⟩ (.slice (some ⟨g1, 0, none⟩) (L.length + 1) cp)) := by
  have hz := h.lt
  have hor := h.ord
  obtain ⟨k1, k2, _⟩ := h.beams.push (by omega) h3 hx1 hx2 ho hg hat
  have hol := h.beams.ownlt
  have hz5 := k2.size
  have keep5 : ∀ b, b ≤ ob → W5.heap[b]? = W.heap[b]? := fun b hb => k2.block b (by omega) (fun e => by have := (hol b e.symm).1; omega)
  have keep : ∀ b, b ≠ ob → (W5.setCell ⟨ob, 1, none⟩ (.slice (some ⟨g1, 0, none⟩) (L.length + 1) cp)).heap[b]? = W5.heap[b]? := fun b hb => heap_setCell_other W5 ⟨ob, 1, none⟩ b _ hb
  have hbw : Below w.heap.size w W5 := h.below.grown k2 h.below.size (fun b hb => by have := (hol b hb).1; omega)
  refine ⟨hbw.setCell (p := ⟨ob, 1, none⟩) (show w.heap.size ≤ ob by omega) _, (keep _ (by omega)).trans ((keep5 _ (by omega)).trans h.res), ?_, ?_, k1.low (by simp) (fun b h1 _ => keep b (by omega)), h.ord⟩
  · have := heap_setCell_same W5 ob 1 _ _ (.slice (some ⟨g1, 0, none⟩) (L.length + 1) cp) ((keep5 ob (Nat.le_refl _)).trans h.out)
    simpa using this
  · refine own_keep h.cells (fun g hg => ?_)
    have e : cb = g := by simpa [Value.ownBlock] using hg
    subst e
    exact (keep _ (by omega)).trans (keep5 _ (by omega))
end
end Go.Proofs.YtnfigielhnnpnaaDoor
namespace Go.Proofs.YtnfigielhnnpnaaDoor
open Go.RowKit
set_option linter.unusedVariables false
set_option linter.unusedSimpArgs false
/-- the image's box is there -/
theorem MgI.start {w wc W2 : World} {cb n cap : Nat} {f : Nat → SV} (hbw : Below w.heap.size w wc) (hres : wc.heap[w.heap.size]? = some (.cells #[.slice none 0 0, .slice none 0 0] 28)) (hb : Below wc.heap.size wc W2) (ho : W2.ownsRow wc.heap.size 44 2 (.slice (some ⟨cb, 0, none⟩) n cap) n (sC f n)) (h1 : wc.heap.size ≤ cb) (h2 : cb < W2.heap.size) :
    MgI w cb W2.heap.size n cap f (.slice none 0 0) [] (W2.alloc (.cells #[.slice (some ⟨cb, 0, none⟩) n cap, .slice none 0 0] 28)) := by
  have hz : w.heap.size < wc.heap.size := (Array.getElem?_eq_some_iff.1 hres).1
  have hz2 := hb.size
  have ha := alloc_below W2 (.cells #[.slice (some ⟨cb, 0, none⟩) n cap, .slice none 0 0] 28)
  exact ⟨(hbw.trans (hb.mono (by omega))).trans (ha.mono (by omega)), (ha.block _ (by omega)).trans ((hb.block _ hz).trans hres), heap_alloc_new W2 _, own_base (own_below ho ha) (by omega), BO.nil _ _, by omega, h2⟩
/-- a list of numbers in a block of its own -/
def LX (base : Nat) (W : World) (a : Option Addr) (n : Nat) (f : Nat → Int) : Prop := n = 0 ∨ ∃ b, a = some ⟨b, 0, none⟩ ∧ base ≤ b ∧ b < W.heap.size ∧ ∀ i, i < n → W.cell? ⟨b, i, none⟩ = some (.int .i64 (f i))
theorem LX.clone {q : Nat} {W W' : World} {a : Option Addr} {n c : Nat} {f : Nat → Int} (h : W'.ownsRow W.heap.size 3 1 (.slice a n c) n (iC f n)) (hq : q < W.heap.size) : LX (q + 1) W' a n f := by
  by_cases hn : n = 0
  · exact .inl hn
  · obtain ⟨g, rfl, h1, h2⟩ := own_at h (by omega)
    exact .inr ⟨g, rfl, by omega, h2, fun i hi => by rw [h.cellAt i (by omega), iC_get hi]⟩
theorem LX.step {base : Nat} {W W' : World} {a : Option Addr} {n : Nat} {f : Nat → Int} (h : LX base W a n f) (hb : Below W.heap.size W W') : LX base W' a n f := by
  rcases h with h | ⟨b, h1, h2, h3, h4⟩
  · exact .inl h
  · exact .inr ⟨b, h1, h2, Nat.lt_of_lt_of_le h3 hb.size, fun i hi => (World.cell?_of_block (hb.block b h3)).trans (h4 i hi)⟩
theorem LX.set {q o : Nat} {W : World} {a : Option Addr} {n : Nat} {f : Nat → Int} (h : LX (q + 1) W a n f) (v : Value) : LX (q + 1) (W.setCell ⟨q, o, none⟩ v) a n f := by
  rcases h with h | ⟨b, h1, h2, h3, h4⟩
  · exact .inl h
  · exact .inr ⟨b, h1, h2, by simpa using h3, fun i hi => (World.cell?_of_block (heap_setCell_other W ⟨q, o, none⟩ b v (by show b ≠ q; omega))).trans (h4 i hi)⟩
theorem ints_up {B B' : Nat} {w : World} {a : Option Addr} {n : Nat} {f : Nat → Int} (h : Ints B w a n f) (hB : B ≤ B') : Ints B' w a n f := by
  rcases h with h | ⟨b, off, h1, h2, h3⟩
  · exact .inl h
  · exact .inr ⟨b, off, h1, by omega, h3⟩
theorem ints_none {B : Nat} {w : World} {a : Option Addr} {n : Nat} {f : Nat → Int} (h : Ints B w a n f) : a = none → n = 0 := fun e => by
  rcases h with h | ⟨b, off, h1, h2, h3⟩
  · exact h
  · rw [e] at h1; cases h1
theorem mg_setB {n : Nat} {p : BM} (hs : setB n p.cn p.cs = true) (hn : n ≤ 40) : p.cn ≤ 40 := by
  false_or_by_contra
  have h1 := setB_at hs (i := 0) (by omega)
  have h2 : ∀ k, k < p.cn → (k : Int) ≤ p.cs k := fun k hk => by
    induction k with
    | zero => exact h1.1
    | succ k ih => have := ih (by omega); have := setB_step hs hk; omega
  have h3 := h2 40 (by omega)
  have h4 := setB_at hs (i := 40) (by omega)
  omega
theorem mgB_len (im : Nat → IM) : ∀ i, (∀ k, k < i → (im k).bn ≤ 20) → (mgB im i).length ≤ 20 * i
  | 0, _ => Nat.le_refl _
  | i + 1, h => by
    have h1 := mgB_len im i (fun k hk => h k (by omega))
    have h2 := h i (by omega)
    rw [mgB, List.length_append, List.length_map, List.length_range]
    omega
theorem mgC_range {n : Nat} {im : Nat → IM} (h0 : ∀ c, c < n → 0 ≤ ((im 0).ss c).lo ∧ ((im 0).ss c).hi ≤ 1000) : ∀ k, ∀ c, c < n → 0 ≤ (mgC im k c).lo ∧ (mgC im k c).hi ≤ 1000
  | 0, c, hc => h0 c hc
  | k + 1, c, hc => by
    have h1 := mgC_range h0 k c hc
    show 0 ≤ max (mgC im k c).lo ((im k).ss c).lo ∧ min (mgC im k c).hi ((im k).ss c).hi ≤ 1000
    omega
theorem mgOk_le {n : Nat} {im : Nat → IM} {k : Nat} (h : mgOk n im (k + 1) = true) : ∀ c, c < n → (mgC im (k + 1) c).lo ≤ (mgC im (k + 1) c).hi := fun c hc => by
  rw [mgOk, Bool.and_eq_true, allUpto_iff] at h
  exact of_decide_eq_true (h.2 c hc)
theorem MgI.spans {w W : World} {cb ob n cap : Nat} {f : Nat → SV} {v : Value} {L : List BM} (h : MgI w cb ob n cap f v L W) (hn : n ≤ 40) : Spans W.heap.size W (some ⟨cb, 0, none⟩) n f :=
  ⟨Nat.le_trans hn (by decide), .inr ⟨cb, 0, rfl, by have := h.lt; have := h.ord; omega, fun i hi => by rw [Nat.zero_add]; exact h.cell hi⟩⟩
/-- what holds of all worlds that keep the blocks from q on -/
def Fresh (q : Nat) (W : World) (P : World → Prop) : Prop := ∀ W' : World, W.heap.size ≤ W'.heap.size → (∀ b, q ≤ b → b < W.heap.size → W'.heap[b]? = W.heap[b]?) → P W'
theorem Fresh.here {q : Nat} {W : World} {P : World → Prop} (h : Fresh q W P) : P W := h W (Nat.le_refl _) (fun _ _ _ => rfl)
theorem Fresh.below {q : Nat} {W W' : World} {P : World → Prop} (h : Fresh q W P) (hb : Below W.heap.size W W') : P W' := h W' hb.size (fun b _ h2 => hb.block b h2)
theorem MgI.fin {w W : World} {cb ob n cap : Nat} {f : Nat → SV} {oa : Option Addr} {oc : Nat} {L : List BM} (h : MgI w cb ob n cap f (.slice oa L.length oc) L W) (hn : n ≤ 40) (hL : L.length ≤ maxLen) (x y : Value) :
    Fresh w.heap.size ((W.setCell ⟨w.heap.size, 0, none⟩ x).setCell ⟨w.heap.size, 1, none⟩ y) (fun W' => Spans W'.heap.size W' (some ⟨cb, 0, none⟩) n f ∧ Beams W'.heap.size W' oa L.length (beamL L)) := by
  intro W' hz hk
  have ho := h.ord
  have hlt := h.lt
  have hz' : W.heap.size ≤ W'.heap.size := by simpa using hz
  have keep : ∀ b, w.heap.size < b → b < W.heap.size → W'.heap[b]? = W.heap[b]? := fun b hb hb2 => (hk b (by omega) (by simpa using hb2)).trans ((heap_setCell_other _ ⟨w.heap.size, 1, none⟩ b _ (by show b ≠ w.heap.size; omega)).trans (heap_setCell_other W ⟨w.heap.size, 0, none⟩ b _ (by show b ≠ w.heap.size; omega)))
  obtain ⟨h1, _⟩ := h.spans hn
  refine ⟨⟨h1, .inr ⟨cb, 0, rfl, by omega, fun i hi => by rw [Nat.zero_add]; exact ⟨(World.cell?_of_block (keep cb (by omega) (by omega))).trans (h.cell hi).1, (World.cell?_of_block (keep cb (by omega) (by omega))).trans (h.cell hi).2⟩⟩⟩, ?_⟩
  exact (h.beams.low (W' := W') hz' (fun b hb h2 => keep b (by omega) h2)).beams hL
end Go.Proofs.YtnfigielhnnpnaaDoor
