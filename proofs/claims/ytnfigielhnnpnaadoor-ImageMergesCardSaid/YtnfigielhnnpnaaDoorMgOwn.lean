/- What both Merges need: the image's box, lists in blocks of their own, the image when it is put together. -/
import Derived.Test.YtnfigielhnnpnaaDoorMgLaw
import Derived.Test.YtnfigielhnnpnaaDoorGkA
import Derived.Test.YtnfigielhnnpnaaDoorGfA
import Derived.Test.YtnfigielhnnpnaaDoorGcA
namespace Go.Proofs.YtnfigielhnnpnaaDoor
open Go.RowKit
set_option linter.unusedVariables false
set_option linter.unusedSimpArgs false
/-- the image's box is there -/
theorem MgI.start {w wc W2 : World} {cb n cap : Nat} {f : Nat → SV} (hbw : Below w.heap.size w wc) (hres : wc.heap[w.heap.size]? = some (.cells #[.slice none 0 0, .slice none 0 0] 28)) (hb : Below wc.heap.size wc W2) (ho : W2.ownsRow wc.heap.size 44 2 (.slice (some ⟨cb, 0, none⟩) n cap) n (sC f n)) (h1 : wc.heap.size ≤ cb) (h2 : cb < W2.heap.size) :
    MgI w cb W2.heap.size n cap f (.slice none 0 0) [] (W2.alloc (.cells #[.slice (some ⟨cb, 0, none⟩) n cap, .slice none 0 0] 28)) := by
  have hz : w.heap.size < wc.heap.size := (Array.getElem?_eq_some_iff.1 hres).1
  have hz2 := hb.size
  have ha := alloc_below W2 (.cells #[.slice (some ⟨cb, 0, none⟩) n cap, .slice none 0 0] 28)
  exact ⟨(hbw.trans (hb.mono (by omega))).trans (ha.mono (by omega)), (ha.block _ (by omega)).trans ((hb.block _ hz).trans hres), heap_alloc_new W2 _, own_base (own_below ho ha) (by omega), BO.nil _ _, by omega, h2⟩
/-- a list of numbers in a block of its own -/
def LX (base : Nat) (W : World) (a : Option Addr) (n : Nat) (f : Nat → Int) : Prop := n = 0 ∨ ∃ b, a = some ⟨b, 0, none⟩ ∧ base ≤ b ∧ b < W.heap.size ∧ ∀ i, i < n → W.cell? ⟨b, i, none⟩ = some (.int .i64 (f i))
theorem LX.clone {q : Nat} {W W' : World} {a : Option Addr} {n c : Nat} {f : Nat → Int} (h : W'.ownsRow W.heap.size 3 1 (.slice a n c) n (iC f n)) (hq : q < W.heap.size) : LX (q + 1) W' a n f := by
  by_cases hn : n = 0
  · exact .inl hn
  · obtain ⟨g, rfl, h1, h2⟩ := own_at h (by omega)
    exact .inr ⟨g, rfl, by omega, h2, fun i hi => by rw [h.cellAt i (by omega), iC_get hi]⟩
theorem LX.step {base : Nat} {W W' : World} {a : Option Addr} {n : Nat} {f : Nat → Int} (h : LX base W a n f) (hb : Below W.heap.size W W') : LX base W' a n f := by
  rcases h with h | ⟨b, h1, h2, h3, h4⟩
  · exact .inl h
  · exact .inr ⟨b, h1, h2, Nat.lt_of_lt_of_le h3 hb.size, fun i hi => (World.cell?_of_block (hb.block b h3)).trans (h4 i hi)⟩
theorem LX.set {q o : Nat} {W : World} {a : Option Addr} {n : Nat} {f : Nat → Int} (h : LX (q + 1) W a n f) (v : Value) : LX (q + 1) (W.setCell ⟨q, o, none⟩ v) a n f := by
  rcases h with h | ⟨b, h1, h2, h3, h4⟩
  · exact .inl h
  · exact .inr ⟨b, h1, h2, by simpa using h3, fun i hi => (World.cell?_of_block (heap_setCell_other W ⟨q, o, none⟩ b v (by show b ≠ q; omega))).trans (h4 i hi)⟩
theorem ints_up {B B' : Nat} {w : World} {a : Option Addr} {n : Nat} {f : Nat → Int} (h : Ints B w a n f) (hB : B ≤ B') : Ints B' w a n f := by
  rcases h with h | ⟨b, off, h1, h2, h3⟩
  · exact .inl h
  · exact .inr ⟨b, off, h1, by omega, h3⟩
theorem ints_none {B : Nat} {w : World} {a : Option Addr} {n : Nat} {f : Nat → Int} (h : Ints B w a n f) : a = none → n = 0 := fun e => by
  rcases h with h | ⟨b, off, h1, h2, h3⟩
  · exact h
  · rw [e] at h1; cases h1
theorem mg_setB {n : Nat} {p : BM} (hs : setB n p.cn p.cs = true) (hn : n ≤ 40) : p.cn ≤ 40 := by
  false_or_by_contra
  have h1 := setB_at hs (i := 0) (by omega)
  have h2 : ∀ k, k < p.cn → (k : Int) ≤ p.cs k := fun k hk => by
    induction k with
    | zero => exact h1.1
    | succ k ih => have := ih (by omega); have := setB_step hs hk; omega
  have h3 := h2 40 (by omega)
  have h4 := setB_at hs (i := 40) (by omega)
  omega
theorem mgB_len (im : Nat → IM) : ∀ i, (∀ k, k < i → (im k).bn ≤ 20) → (mgB im i).length ≤ 20 * i
  | 0, _ => Nat.le_refl _
  | i + 1, h => by
    have h1 := mgB_len im i (fun k hk => h k (by omega))
    have h2 := h i (by omega)
    rw [mgB, List.length_append, List.length_map, List.length_range]
    omega
theorem mgC_range {n : Nat} {im : Nat → IM} (h0 : ∀ c, c < n → 0 ≤ ((im 0).ss c).lo ∧ ((im 0).ss c).hi ≤ 1000) : ∀ k, ∀ c, c < n → 0 ≤ (mgC im k c).lo ∧ (mgC im k c).hi ≤ 1000
  | 0, c, hc => h0 c hc
  | k + 1, c, hc => by
    have h1 := mgC_range h0 k c hc
    show 0 ≤ max (mgC im k c).lo ((im k).ss c).lo ∧ min (mgC im k c).hi ((im k).ss c).hi ≤ 1000
    omega
theorem mgOk_le {n : Nat} {im : Nat → IM} {k : Nat} (h : mgOk n im (k + 1) = true) : ∀ c, c < n → (mgC im (k + 1) c).lo ≤ (mgC im (k + 1) c).hi := fun c hc => by
  rw [mgOk, Bool.and_eq_true, allUpto_iff] at h
  exact of_decide_eq_true (h.2 c hc)
theorem MgI.spans {w W : World} {cb ob n cap : Nat} {f : Nat → SV} {v : Value} {L : List BM} (h : MgI w cb ob n cap f v L W) (hn : n ≤ 40) : Spans W.heap.size W (some ⟨cb, 0, none⟩) n f :=
  ⟨Nat.le_trans hn (by decide), .inr ⟨cb, 0, rfl, by have := h.lt; have := h.ord; omega, fun i hi => by rw [Nat.zero_add]; exact h.cell hi⟩⟩
/-- what holds of all worlds that keep the blocks from q on -/
def Fresh (q : Nat) (W : World) (P : World → Prop) : Prop := ∀ W' : World, W.heap.size ≤ W'.heap.size → (∀ b, q ≤ b → b < W.heap.size → W'.heap[b]? = W.heap[b]?) → P W'
theorem Fresh.here {q : Nat} {W : World} {P : World → Prop} (h : Fresh q W P) : P W := h W (Nat.le_refl _) (fun _ _ _ => rfl)
theorem Fresh.below {q : Nat} {W W' : World} {P : World → Prop} (h : Fresh q W P) (hb : Below W.heap.size W W') : P W' := h W' hb.size (fun b _ h2 => hb.block b h2)
theorem MgI.fin {w W : World} {cb ob n cap : Nat} {f : Nat → SV} {oa : Option Addr} {oc : Nat} {L : List BM} (h : MgI w cb ob n cap f (.slice oa L.length oc) L W) (hn : n ≤ 40) (hL : L.length ≤ maxLen) (x y : Value) :
    Fresh w.heap.size ((W.setCell ⟨w.heap.size, 0, none⟩ x).setCell ⟨w.heap.size, 1, none⟩ y) (fun W' => Spans W'.heap.size W' (some ⟨cb, 0, none⟩) n f ∧ Beams W'.heap.size W' oa L.length (beamL L)) := by
  intro W' hz hk
  have ho := h.ord
  have hlt := h.lt
  have hz' : W.heap.size ≤ W'.heap.size := by simpa using hz
  have keep : ∀ b, w.heap.size < b → b < W.heap.size → W'.heap[b]? = W.heap[b]? := fun b hb hb2 => (hk b (by omega) (by simpa using hb2)).trans ((heap_setCell_other _ ⟨w.heap.size, 1, none⟩ b _ (by show b ≠ w.heap.size; omega)).trans (heap_setCell_other W ⟨w.heap.size, 0, none⟩ b _ (by show b ≠ w.heap.size; omega)))
  obtain ⟨h1, _⟩ := h.spans hn
  refine ⟨⟨h1, .inr ⟨cb, 0, rfl, by omega, fun i hi => by rw [Nat.zero_add]; exact ⟨(World.cell?_of_block (keep cb (by omega) (by omega))).trans (h.cell hi).1, (World.cell?_of_block (keep cb (by omega) (by omega))).trans (h.cell hi).2⟩⟩⟩, ?_⟩
  exact (h.beams.low (W' := W') hz' (fun b hb h2 => keep b (by omega) h2)).beams hL
end Go.Proofs.YtnfigielhnnpnaaDoor
