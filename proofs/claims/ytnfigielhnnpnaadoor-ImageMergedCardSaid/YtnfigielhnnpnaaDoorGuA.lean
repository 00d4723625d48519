/- Texts put together: OpenIm, OpenIs. -/
import Derived.Test.YtnfigielhnnpnaaDoorImData
import Derived.Test.YtnfigielhnnpnaaDoorRows
import Derived.WalkKit
import Derived.ProofKit
import Derived.OpenShut
import Derived.ChangeOld
import Derived.Below
import Derived.Deep.Slices
import Derived.Deep.Fields
import Derived.ChangeSame
import Derived.Lib.SmallJoins
import Derived.Test.YtnfigielhnnpnaaDoorGjA
namespace Go.Proofs.YtnfigielhnnpnaaDoor
open Go.ChangeShapes Go.WideShapes Go.ChangeAt Go.RowKit Go.Deep Go.Joins
set_option linter.unusedVariables false
set_option linter.unusedSimpArgs false
theorem choose_upto {α : Type} [Nonempty α] {n : Nat} {Q : Nat → α → Prop} (h : ∀ i, i < n → ∃ x, Q i x) : ∃ f : Nat → α, ∀ i, i < n → Q i (f i) :=
  ⟨fun i => Classical.epsilon (Q i), fun i hi => Classical.epsilon_spec (h i hi)⟩
theorem cell_lt {w : World} {a : Addr} {v : Value} (h : w.cell? a = some v) : a.block < w.heap.size := by
  cases hh : w.heap[a.block]? with
  | none => simp [World.cell?, hh] at h
  | some o => exact (Array.getElem?_eq_some_iff.1 hh).1
theorem one_of_take {cs : List Value} {o c : Nat} {v : Value} (h : (cs.drop o).take c = [v]) : cs[o]? = some v := by
  have h0 : ((cs.drop o).take c)[0]? = some v := by rw [h]; rfl
  rw [List.getElem?_take] at h0
  split at h0
  · simpa using h0
  · simp at h0
section
variable {H : Type} {enc : TypeId × Value → H} {P : Program} {w : World} {base : Nat} {spare : Nat → Bool} {held : Bool}
theorem field_int {t : TypeId} {k : IntKind} {n o c : Nat} {cs : List Value} {y : Option (DataW H × List MemPlace)} {z : DataW H × List MemPlace} (ht : P.underlying t = some (.int k)) (h : DataW.trod enc P w base spare held n t ((cs.drop o).take c) = y) (hy : y = some z) : ∃ m, cs[o]? = some (.int k m) := by
  subst hy
  obtain ⟨m, hm, _⟩ := DataW.trod_int ht h
  exact ⟨m, one_of_take hm⟩
theorem add_at (b off k : Nat) : (⟨b, off, none⟩ : Addr).add k = ⟨b, off + k, none⟩ := by
  unfold Addr.add
  split
  · rename_i h; subst h; rfl
  · rfl
theorem take_one {cs : List Value} {o : Nat} {v : Value} (h : cs[o]? = some v) : (cs.drop o).take 1 = [v] := by
  obtain ⟨hl, rfl⟩ := List.getElem?_eq_some_iff.1 h
  rw [List.drop_eq_getElem_cons hl]; rfl
/-- a slice of structs that came in: nil, or cells at an address -/
theorem rows_of {t e : TypeId} {fuel k : Nat} {cs : List Value} {o c : Nat} {y : Option (DataW H × List MemPlace)} {z : DataW H × List MemPlace} (ht : P.underlying t = some (.slice e)) (hk : P.cellsOf e = k) (hk0 : 0 < k) (h : DataW.trod enc P w base (fun _ => true) held fuel t ((cs.drop o).take c) = y) (hy : y = some z) :
    ∃ (a : Option Addr) (len cap : Nat), cs[o]? = some (.slice a len cap) ∧ len ≤ maxLen ∧ len ≤ cap ∧ cap ≤ maxLen ∧ (len = 0 ∨ ∃ b off, a = some ⟨b, off, none⟩ ∧ b < w.heap.size ∧ ∀ i, i < len → ∃ cs' n x, cs'.length = k ∧ (∀ j, j < k → w.cell? ⟨b, off + i * k + j, none⟩ = cs'[j]?) ∧ DataW.trod enc P w base (fun _ => true) held n e cs' = some x) := by
  subst hy
  rcases open_slice ht h with ⟨hcs, _⟩ | ⟨a, len, cap, m, n, D, Pl, hcs, hb, hl, hm, hmm, hx, hi⟩
  · exact ⟨none, 0, 0, one_of_take hcs, by decide, by decide, by decide, .inl rfl⟩
  · refine ⟨some a, len, cap, one_of_take hcs, by omega, hl, hm, ?_⟩
    by_cases h0 : len = 0
    · exact .inl h0
    right
    simp only [if_true] at hmm
    obtain ⟨cs0, hc0, _⟩ := hi 0 (by omega)
    rw [hk] at hc0
    have hblk := World.cells?_block hc0 hk0
    obtain ⟨_, hl0, hat0⟩ := World.cells?_some hc0
    have hz := hat0 0 hk0
    rw [List.getElem?_eq_getElem (by omega)] at hz
    have hsp := World.cell?_spot hz
    obtain ⟨b, off, spot⟩ := a
    have hspot : spot = none := by simpa [Addr.add] using hsp
    subst hspot
    refine ⟨b, off, rfl, by simpa [Addr.add] using hblk, fun i hil => ?_⟩
    obtain ⟨cs', hc, ht'⟩ := hi i (by omega)
    rw [hk] at hc
    obtain ⟨_, hl', hat⟩ := World.cells?_some hc
    refine ⟨cs', n, _, hl', fun j hj => ?_, ht'⟩
    have := hat j hj
    rw [add_at, add_at] at this
    exact this
end
theorem get_take {cs : List Value} {o c i : Nat} {v : Value} (h : ((cs.drop o).take c)[i]? = some v) : cs[o + i]? = some v := by
  rw [List.getElem?_take] at h
  split at h
  · simpa using h
  · simp at h
instance : Nonempty SV := ⟨⟨0, 0⟩⟩
instance : Nonempty BM := ⟨⟨none, 0, 0, none, 0, 0, 0, 0, fun _ => 0, fun _ => 0⟩⟩
section
variable {H : Type} {enc : TypeId × Value → H} {w : World} {base : Nat} {held : Bool}
set_option maxRecDepth 100000 in
theorem ints_of {n o c : Nat} {cs : List Value} {y : Option (DataW H × List MemPlace)} {z : DataW H × List MemPlace} (h : DataW.trod enc Tryd.prog w base (fun _ => true) held n 37 ((cs.drop o).take c) = y) (hy : y = some z) :
    ∃ (a : Option Addr) (len cap : Nat) (es : Nat → Int), cs[o]? = some (.slice a len cap) ∧ len ≤ maxLen ∧ Ints w.heap.size w a len es := by
  obtain ⟨a, len, cap, hcs, hl, _, _, hr⟩ := rows_of (k := 1) Tryd.underlying37 (by kernel_rfl) (by decide) h hy
  rcases hr with h0 | ⟨b, off, ha, hb, hi⟩
  · exact ⟨a, len, cap, fun _ => 0, hcs, hl, .inl h0⟩
  · obtain ⟨es, hes⟩ := choose_upto (α := Int) (n := len) (Q := fun i e => w.cell? ⟨b, off + i, none⟩ = some (.int .i64 e)) (fun i hil => by
      obtain ⟨cs', m, x, hl', hat, ht⟩ := hi i hil
      obtain ⟨e, he, _⟩ := DataW.trod_int Tryd.underlying3 ht
      have := hat 0 (by decide)
      rw [he] at this
      exact ⟨e, by simpa using this⟩)
    exact ⟨a, len, cap, es, hcs, hl, .inr ⟨b, off, ha, hb, hes⟩⟩
set_option maxRecDepth 100000 in
theorem spans_of {n o c : Nat} {cs : List Value} {y : Option (DataW H × List MemPlace)} {z : DataW H × List MemPlace} (h : DataW.trod enc Tryd.prog w base (fun _ => true) held n 25 ((cs.drop o).take c) = y) (hy : y = some z) :
    ∃ (a : Option Addr) (len cap : Nat) (ss : Nat → SV), cs[o]? = some (.slice a len cap) ∧ Spans w.heap.size w a len ss ∧ len ≤ cap ∧ cap ≤ maxLen := by
  obtain ⟨a, len, cap, hcs, hl, hlc, hcm, hr⟩ := rows_of (k := 2) Tryd.underlying25 (by kernel_rfl) (by decide) h hy
  rcases hr with h0 | ⟨b, off, ha, hb, hi⟩
  · exact ⟨a, len, cap, fun _ => ⟨0, 0⟩, hcs, ⟨hl, .inl h0⟩, hlc, hcm⟩
  · obtain ⟨ss, hss⟩ := choose_upto (α := SV) (n := len) (Q := fun i q => w.cell? ⟨b, off + i * 2, none⟩ = some (.int .i64 q.lo) ∧ w.cell? ⟨b, off + i * 2 + 1, none⟩ = some (.int .i64 q.hi)) (fun i hil => by
      obtain ⟨cs', m, x, hl', hat, ht⟩ := hi i hil
      obtain ⟨y0, y1, m', _, _, h0, h1⟩ := trod_struct2 Tryd.underlying44 ht
      obtain ⟨u, hu⟩ := field_int Tryd.underlying3 h0 rfl
      obtain ⟨v, hv⟩ := field_int Tryd.underlying3 h1 rfl
      exact ⟨⟨u, v⟩, (hat 0 (by decide)).trans hu, (hat 1 (by decide)).trans hv⟩)
    exact ⟨a, len, cap, ss, hcs, ⟨hl, .inr ⟨b, off, ha, hb, hss⟩⟩, hlc, hcm⟩
theorem beam_of {n : Nat} {cs : List Value} {x : DataW H × List MemPlace} (h : DataW.trod enc Tryd.prog w base (fun _ => true) held n 57 cs = some x) :
    ∃ p : BM, (cs[0]? = some (.slice p.ca p.cn p.cc) ∧ cs[1]? = some (.slice p.wa p.wn p.wc) ∧ cs[2]? = some (.int .i64 p.lo) ∧ cs[3]? = some (.int .i64 p.hi)) ∧ p.mem w.heap.size w := by
  obtain ⟨xs, m, _, _, _, hxl, hf⟩ := DataW.trod_struct Tryd.underlying57 h
  have hx : ∀ i, i < 4 → ∃ z, xs[i]? = some z := fun i hi => ⟨_, List.getElem?_eq_getElem (by rw [hxl]; exact hi)⟩
  obtain ⟨z0, e0⟩ := hx 0 (by decide)
  obtain ⟨z1, e1⟩ := hx 1 (by decide)
  obtain ⟨z2, e2⟩ := hx 2 (by decide)
  obtain ⟨z3, e3⟩ := hx 3 (by decide)
  obtain ⟨ca, cn, cc, cs', k0, hcn, hC⟩ := ints_of (hf 0 _ rfl) e0
  obtain ⟨wa, wn, wc, ws, k1, hwn, hW⟩ := ints_of (hf 1 _ rfl) e1
  obtain ⟨lo, k2⟩ := field_int Tryd.underlying3 (hf 2 _ rfl) e2
  obtain ⟨hi, k3⟩ := field_int Tryd.underlying3 (hf 3 _ rfl) e3
  exact ⟨⟨ca, cn, cc, wa, wn, wc, lo, hi, cs', ws⟩, ⟨k0, k1, k2, k3⟩, hcn, hwn, hC, hW⟩
set_option maxRecDepth 100000 in
theorem beams_of {n o c : Nat} {cs : List Value} {y : Option (DataW H × List MemPlace)} {z : DataW H × List MemPlace} (h : DataW.trod enc Tryd.prog w base (fun _ => true) held n 26 ((cs.drop o).take c) = y) (hy : y = some z) :
    ∃ (a : Option Addr) (len cap : Nat) (bs : Nat → BM), cs[o]? = some (.slice a len cap) ∧ Beams w.heap.size w a len bs := by
  obtain ⟨a, len, cap, hcs, hl, hlc, hcm, hr⟩ := rows_of (k := 4) Tryd.underlying26 (by kernel_rfl) (by decide) h hy
  rcases hr with h0 | ⟨b, off, ha, hb, hi⟩
  · exact ⟨a, len, cap, fun _ => Classical.choice inferInstance, hcs, ⟨hl, .inl h0⟩⟩
  · obtain ⟨bs, hbs⟩ := choose_upto (α := BM) (n := len) (Q := fun i p => p.at w b (off + i * 4) ∧ p.mem w.heap.size w) (fun i hil => by
      obtain ⟨cs', m, x, hl', hat, ht⟩ := hi i hil
      obtain ⟨q, ⟨k0, k1, k2, k3⟩, hm⟩ := beam_of ht
      exact ⟨q, ⟨(hat 0 (by decide)).trans k0, (hat 1 (by decide)).trans k1, (hat 2 (by decide)).trans k2, (hat 3 (by decide)).trans k3⟩, hm⟩)
    exact ⟨a, len, cap, bs, hcs, hl, .inr ⟨b, off, ha, hb, hbs⟩⟩
set_option maxRecDepth 100000 in
theorem open_image {r : Reach} {b0 : Nat} {v : Value} {d : DataW H} {p : List MemPlace} (hv : Value.okWide Tryd.prog w r b0 28 v) (h : DataW.Trod enc Tryd.prog w base (fun _ => true) held 28 v d p) :
    ∃ (a : Option Addr) (n c : Nat) (ba : Option Addr) (m bc : Nat) (ss : Nat → SV) (bs : Nat → BM), v = imageV a n c ba m bc ∧ Spans w.heap.size w a n ss ∧ Beams w.heap.size w ba m bs ∧ n ≤ c ∧ c ≤ maxLen := by
  obtain ⟨cs, rfl, hsz⟩ := okWide_struct Tryd.underlying28 hv
  have hsz1 : cs.size = 2 := hsz.trans (by kernel_rfl)
  obtain ⟨fuel, hf⟩ := h
  obtain ⟨y0, y1, m, _, _, h0, h1⟩ := trod_struct2 Tryd.underlying28 hf
  obtain ⟨a, n, c, ss, hc0, hS, hnc, hcm⟩ := spans_of h0 rfl
  obtain ⟨ba, mm, bc, bs, hc1, hM⟩ := beams_of h1 rfl
  obtain ⟨l⟩ := cs
  match l, hsz1 with
  | [c0, c1], _ =>
    have e0 : c0 = .slice a n c := by simpa [Value.cells] using hc0
    have e1 : c1 = .slice ba mm bc := by simpa [Value.cells] using hc1
    subst e0 e1
    exact ⟨a, n, c, ba, mm, bc, ss, bs, rfl, hS, hM, hnc, hcm⟩
end
end Go.Proofs.YtnfigielhnnpnaaDoor
namespace Go.Proofs.YtnfigielhnnpnaaDoor
open Go.ChangeShapes Go.WideShapes Go.ChangeAt Go.RowKit Go.Deep Go.Joins
set_option linter.unusedVariables false
set_option linter.unusedSimpArgs false
instance : Nonempty IM := ⟨⟨none, 0, 0, none, 0, 0, fun _ => ⟨0, 0⟩, fun _ => Classical.choice inferInstance⟩⟩
/-- lists of numbers: where they lie, how many, what they hold -/
structure FM where
  a : Option Addr
  n : Nat
  c : Nat
  f : Nat → Int
instance : Nonempty FM := ⟨⟨none, 0, 0, fun _ => 0⟩⟩
def FmAt (B : Nat) (w : World) (a : Option Addr) (t : Nat) (fm : Nat → FM) : Prop :=
  t ≤ maxLen ∧ (t = 0 ∨ ∃ b off, a = some ⟨b, off, none⟩ ∧ b < B ∧ ∀ i, i < t → w.cell? ⟨b, off + i, none⟩ = some (.slice (fm i).a (fm i).n (fm i).c) ∧ (fm i).n ≤ maxLen ∧ Ints B w (fm i).a (fm i).n (fm i).f)
theorem FmAt.below {B : Nat} {w w' : World} {a : Option Addr} {t : Nat} {fm : Nat → FM} (h : FmAt B w a t fm) (hb : Below B w w') : FmAt B w' a t fm := by
  refine ⟨h.1, ?_⟩
  rcases h.2 with h | ⟨b, off, ha, hB, hc⟩
  · exact .inl h
  · refine .inr ⟨b, off, ha, hB, fun i hi => ?_⟩
    obtain ⟨h1, h2, h3⟩ := hc i hi
    exact ⟨((bcell hb).1 _ _ hB).trans h1, h2, h3.below hb⟩
theorem FmAt.get {B : Nat} {w : World} {a : Option Addr} {t : Nat} {fm : Nat → FM} (h : FmAt B w a t fm) {i : Nat} (hi : i < t) : ∃ b off, a = some ⟨b, off, none⟩ ∧ b < B ∧ w.cell? ⟨b, off + i, none⟩ = some (.slice (fm i).a (fm i).n (fm i).c) ∧ (fm i).n ≤ maxLen ∧ Ints B w (fm i).a (fm i).n (fm i).f := by
  rcases h.2 with h | ⟨b, off, ha, hB, hc⟩
  · omega
  · exact ⟨b, off, ha, hB, hc i hi⟩
section
variable {H : Type} {enc : TypeId × Value → H} {w : World} {base : Nat} {held : Bool}
theorem image_of {n : Nat} {cs : List Value} {x : DataW H × List MemPlace} (h : DataW.trod enc Tryd.prog w base (fun _ => true) held n 28 cs = some x) :
    ∃ q : IM, (cs[0]? = some (.slice q.ca q.cn q.cc) ∧ cs[1]? = some (.slice q.ba q.bn q.bc)) ∧ Spans w.heap.size w q.ca q.cn q.ss ∧ Beams w.heap.size w q.ba q.bn q.bs := by
  obtain ⟨y0, y1, m, _, _, h0, h1⟩ := trod_struct2 Tryd.underlying28 h
  obtain ⟨a, n, c, ss, hc0, hS, hnc, hcm⟩ := spans_of h0 rfl
  obtain ⟨ba, mm, bc, bs, hc1, hM⟩ := beams_of h1 rfl
  exact ⟨⟨a, n, c, ba, mm, bc, ss, bs⟩, ⟨hc0, hc1⟩, hS, hM⟩
set_option maxRecDepth 100000 in
theorem open_images {r : Reach} {b0 : Nat} {v : Value} {d : DataW H} {p : List MemPlace} (hv : Value.okWide Tryd.prog w r b0 22 v) (h : DataW.Trod enc Tryd.prog w base (fun _ => true) held 22 v d p) :
    ∃ (a : Option Addr) (t c : Nat) (im : Nat → IM), v = .slice a t c ∧ Imgs w.heap.size w a t im := by
  obtain ⟨a0, len0, cap0, rfl⟩ := okWide_slice Tryd.underlying22 hv
  obtain ⟨fuel, hf⟩ := h
  have hf' : DataW.trod enc Tryd.prog w base (fun _ => true) held fuel 22 ((([Value.slice a0 len0 cap0] : List Value).drop 0).take 1) = some (d, p) := hf
  obtain ⟨a, len, cap, hcs, hl, hlc, hcm, hr⟩ := rows_of (k := 2) Tryd.underlying22 (by kernel_rfl) (by decide) hf' rfl
  have e : Value.slice a0 len0 cap0 = .slice a len cap := by simpa using hcs
  rw [e]
  rcases hr with h0 | ⟨b, off, ha, hb, hi⟩
  · exact ⟨a, len, cap, fun _ => Classical.choice inferInstance, rfl, hl, .inl h0⟩
  · obtain ⟨im, him⟩ := choose_upto (α := IM) (n := len) (Q := fun i q => (w.cell? ⟨b, off + i * 2, none⟩ = some (.slice q.ca q.cn q.cc) ∧ w.cell? ⟨b, off + i * 2 + 1, none⟩ = some (.slice q.ba q.bn q.bc)) ∧ Spans w.heap.size w q.ca q.cn q.ss ∧ Beams w.heap.size w q.ba q.bn q.bs) (fun i hil => by
      obtain ⟨cs', m, x, hl', hat, ht⟩ := hi i hil
      obtain ⟨q, ⟨k0, k1⟩, hS, hM⟩ := image_of ht
      exact ⟨q, ⟨(hat 0 (by decide)).trans k0, (hat 1 (by decide)).trans k1⟩, hS, hM⟩)
    exact ⟨a, len, cap, im, rfl, hl, .inr ⟨b, off, ha, hb, fun i hi => ⟨(him i hi).1.1, (him i hi).1.2, (him i hi).2.1, (him i hi).2.2⟩⟩⟩
set_option maxRecDepth 100000 in
theorem open_fields {r : Reach} {b0 : Nat} {v : Value} {d : DataW H} {p : List MemPlace} (hv : Value.okWide Tryd.prog w r b0 109 v) (h : DataW.Trod enc Tryd.prog w base (fun _ => true) held 109 v d p) :
    ∃ (a : Option Addr) (t c : Nat) (fm : Nat → FM), v = .slice a t c ∧ FmAt w.heap.size w a t fm := by
  obtain ⟨a0, len0, cap0, rfl⟩ := okWide_slice Tryd.underlying109 hv
  obtain ⟨fuel, hf⟩ := h
  have hf' : DataW.trod enc Tryd.prog w base (fun _ => true) held fuel 109 ((([Value.slice a0 len0 cap0] : List Value).drop 0).take 1) = some (d, p) := hf
  obtain ⟨a, len, cap, hcs, hl, hlc, hcm, hr⟩ := rows_of (k := 1) Tryd.underlying109 (by kernel_rfl) (by decide) hf' rfl
  have e : Value.slice a0 len0 cap0 = .slice a len cap := by simpa using hcs
  rw [e]
  rcases hr with h0 | ⟨b, off, ha, hb, hi⟩
  · exact ⟨a, len, cap, fun _ => Classical.choice inferInstance, rfl, hl, .inl h0⟩
  · obtain ⟨fm, hfm⟩ := choose_upto (α := FM) (n := len) (Q := fun i q => w.cell? ⟨b, off + i, none⟩ = some (.slice q.a q.n q.c) ∧ q.n ≤ maxLen ∧ Ints w.heap.size w q.a q.n q.f) (fun i hil => by
      obtain ⟨cs', m, x, hl', hat, ht⟩ := hi i hil
      have h1 := hat 0 (by decide)
      obtain ⟨cs1, hcs1⟩ : ∃ cs1, cs' = ((cs1 : List Value).drop 0).take 1 := ⟨cs', by rw [List.drop_zero, List.take_of_length_le (by omega)]⟩
      rw [hcs1] at ht
      obtain ⟨ia, il, ic, es, k0, k1, k2⟩ := ints_of ht rfl
      refine ⟨⟨ia, il, ic, es⟩, ?_, k1, k2⟩
      have h2 : cs'[0]? = some (.slice ia il ic) := by rw [hcs1, List.drop_zero, List.getElem?_take]; simpa using k0
      simpa using h1.trans h2)
    exact ⟨a, len, cap, fm, rfl, hl, .inr ⟨b, off, ha, hb, hfm⟩⟩
end
end Go.Proofs.YtnfigielhnnpnaaDoor
