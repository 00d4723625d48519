/- Texts put together: OpenMo, OpenIs. -/
import Derived.Test.YtlfegmjdheddjaaDoorGuA
import Derived.Test.YtlfegmjdheddjaaDoorGjA
namespace Go.Proofs.YtlfegmjdheddjaaDoor
open Go.ChangeShapes Go.WideShapes Go.ChangeAt Go.RowKit Go.Deep Go.Joins
set_option linter.unusedVariables false
set_option linter.unusedSimpArgs false
section
variable {H : Type} {enc : TypeId × Value → H} {w : World} {base : Nat} {held : Bool}
set_option maxRecDepth 100000 in
theorem int_of_wide {r : Reach} {b0 : Nat} {v : Value} {d : DataW H} {p : List MemPlace} (hv : Value.okWide Tryd.prog w r b0 3 v) (h : DataW.Trod enc Tryd.prog w base (fun _ => true) held 3 v d p) : ∃ i : Int, v = .int .i64 i ∧ (Lit.int .i64 i).wf = true := by
  obtain ⟨i, rfl, _, _, hw⟩ := open_int Tryd.underlying3 hv h
  exact ⟨i, rfl, hw⟩
set_option maxRecDepth 100000 in
theorem open_beam {r : Reach} {b0 : Nat} {v : Value} {d : DataW H} {p : List MemPlace} (hv : Value.okWide Tryd.prog w r b0 46 v) (h : DataW.Trod enc Tryd.prog w base (fun _ => true) held 46 v d p) :
    ∃ q : BM, v = q.val ∧ q.mem w.heap.size w := by
  obtain ⟨cs, rfl, hsz⟩ := okWide_struct Tryd.underlying46 hv
  have hsz1 : cs.size = 4 := hsz.trans (by kernel_rfl)
  obtain ⟨fuel, hf⟩ := h
  obtain ⟨q, ⟨k0, k1, k2, k3⟩, hm⟩ := beam_of hf
  obtain ⟨l⟩ := cs
  match l, hsz1 with
  | [c0, c1, c2, c3], _ =>
    have e0 : c0 = .slice q.ca q.cn q.cc := by simpa [Value.cells] using k0
    have e1 : c1 = .slice q.wa q.wn q.wc := by simpa [Value.cells] using k1
    have e2 : c2 = .int .i64 q.lo := by simpa [Value.cells] using k2
    have e3 : c3 = .int .i64 q.hi := by simpa [Value.cells] using k3
    subst e0 e1 e2 e3
    exact ⟨q, rfl, hm⟩
end
end Go.Proofs.YtlfegmjdheddjaaDoor
namespace Go.Proofs.YtlfegmjdheddjaaDoor
open Go.ChangeShapes Go.WideShapes Go.ChangeAt Go.RowKit Go.Deep Go.Joins
set_option linter.unusedVariables false
set_option linter.unusedSimpArgs false
instance : Nonempty IM := ⟨⟨none, 0, 0, none, 0, 0, fun _ => ⟨0, 0⟩, fun _ => Classical.choice inferInstance⟩⟩
/-- lists of numbers: where they lie, how many, what they hold -/
structure FM where
  a : Option Addr
  n : Nat
  c : Nat
  f : Nat → Int
instance : Nonempty FM := ⟨⟨none, 0, 0, fun _ => 0⟩⟩
def FmAt (B : Nat) (w : World) (a : Option Addr) (t : Nat) (fm : Nat → FM) : Prop :=
  t ≤ maxLen ∧ (t = 0 ∨ ∃ b off, a = some ⟨b, off, none⟩ ∧ b < B ∧ ∀ i, i < t → w.cell? ⟨b, off + i, none⟩ = some (.slice (fm i).a (fm i).n (fm i).c) ∧ (fm i).n ≤ maxLen ∧ Ints B w (fm i).a (fm i).n (fm i).f)
theorem FmAt.below {B : Nat} {w w' : World} {a : Option Addr} {t : Nat} {fm : Nat → FM} (h : FmAt B w a t fm) (hb : Below B w w') : FmAt B w' a t fm := by
  refine ⟨h.1, ?_⟩
  rcases h.2 with h | ⟨b, off, ha, hB, hc⟩
  · exact .inl h
  · refine .inr ⟨b, off, ha, hB, fun i hi => ?_⟩
    obtain ⟨h1, h2, h3⟩ := hc i hi
    exact ⟨((bcell hb).1 _ _ hB).trans h1, h2, h3.below hb⟩
theorem FmAt.get {B : Nat} {w : World} {a : Option Addr} {t : Nat} {fm : Nat → FM} (h : FmAt B w a t fm) {i : Nat} (hi : i < t) : ∃ b off, a = some ⟨b, off, none⟩ ∧ b < B ∧ w.cell? ⟨b, off + i, none⟩ = some (.slice (fm i).a (fm i).n (fm i).c) ∧ (fm i).n ≤ maxLen ∧ Ints B w (fm i).a (fm i).n (fm i).f := by
  rcases h.2 with h | ⟨b, off, ha, hB, hc⟩
  · omega
  · exact ⟨b, off, ha, hB, hc i hi⟩
section
variable {H : Type} {enc : TypeId × Value → H} {w : World} {base : Nat} {held : Bool}
theorem image_of {n : Nat} {cs : List Value} {x : DataW H × List MemPlace} (h : DataW.trod enc Tryd.prog w base (fun _ => true) held n 25 cs = some x) :
    ∃ q : IM, (cs[0]? = some (.slice q.ca q.cn q.cc) ∧ cs[1]? = some (.slice q.ba q.bn q.bc)) ∧ Spans w.heap.size w q.ca q.cn q.ss ∧ Beams w.heap.size w q.ba q.bn q.bs := by
  obtain ⟨y0, y1, m, _, _, h0, h1⟩ := trod_struct2 Tryd.underlying25 h
  obtain ⟨a, n, c, ss, hc0, hS, hnc, hcm⟩ := spans_of h0 rfl
  obtain ⟨ba, mm, bc, bs, hc1, hM⟩ := beams_of h1 rfl
  exact ⟨⟨a, n, c, ba, mm, bc, ss, bs⟩, ⟨hc0, hc1⟩, hS, hM⟩
set_option maxRecDepth 100000 in
theorem open_images {r : Reach} {b0 : Nat} {v : Value} {d : DataW H} {p : List MemPlace} (hv : Value.okWide Tryd.prog w r b0 57 v) (h : DataW.Trod enc Tryd.prog w base (fun _ => true) held 57 v d p) :
    ∃ (a : Option Addr) (t c : Nat) (im : Nat → IM), v = .slice a t c ∧ Imgs w.heap.size w a t im := by
  obtain ⟨a0, len0, cap0, rfl⟩ := okWide_slice Tryd.underlying57 hv
  obtain ⟨fuel, hf⟩ := h
  have hf' : DataW.trod enc Tryd.prog w base (fun _ => true) held fuel 57 ((([Value.slice a0 len0 cap0] : List Value).drop 0).take 1) = some (d, p) := hf
  obtain ⟨a, len, cap, hcs, hl, hlc, hcm, hr⟩ := rows_of (k := 2) Tryd.underlying57 (by kernel_rfl) (by decide) hf' rfl
  have e : Value.slice a0 len0 cap0 = .slice a len cap := by simpa using hcs
  rw [e]
  rcases hr with h0 | ⟨b, off, ha, hb, hi⟩
  · exact ⟨a, len, cap, fun _ => Classical.choice inferInstance, rfl, hl, .inl h0⟩
  · obtain ⟨im, him⟩ := choose_upto (α := IM) (n := len) (Q := fun i q => (w.cell? ⟨b, off + i * 2, none⟩ = some (.slice q.ca q.cn q.cc) ∧ w.cell? ⟨b, off + i * 2 + 1, none⟩ = some (.slice q.ba q.bn q.bc)) ∧ Spans w.heap.size w q.ca q.cn q.ss ∧ Beams w.heap.size w q.ba q.bn q.bs) (fun i hil => by
      obtain ⟨cs', m, x, hl', hat, ht⟩ := hi i hil
      obtain ⟨q, ⟨k0, k1⟩, hS, hM⟩ := image_of ht
      exact ⟨q, ⟨(hat 0 (by decide)).trans k0, (hat 1 (by decide)).trans k1⟩, hS, hM⟩)
    exact ⟨a, len, cap, im, rfl, hl, .inr ⟨b, off, ha, hb, fun i hi => ⟨(him i hi).1.1, (him i hi).1.2, (him i hi).2.1, (him i hi).2.2⟩⟩⟩
set_option maxRecDepth 100000 in
theorem open_fields {r : Reach} {b0 : Nat} {v : Value} {d : DataW H} {p : List MemPlace} (hv : Value.okWide Tryd.prog w r b0 33 v) (h : DataW.Trod enc Tryd.prog w base (fun _ => true) held 33 v d p) :
    ∃ (a : Option Addr) (t c : Nat) (fm : Nat → FM), v = .slice a t c ∧ FmAt w.heap.size w a t fm := by
  obtain ⟨a0, len0, cap0, rfl⟩ := okWide_slice Tryd.underlying33 hv
  obtain ⟨fuel, hf⟩ := h
  have hf' : DataW.trod enc Tryd.prog w base (fun _ => true) held fuel 33 ((([Value.slice a0 len0 cap0] : List Value).drop 0).take 1) = some (d, p) := hf
  obtain ⟨a, len, cap, hcs, hl, hlc, hcm, hr⟩ := rows_of (k := 1) Tryd.underlying33 (by kernel_rfl) (by decide) hf' rfl
  have e : Value.slice a0 len0 cap0 = .slice a len cap := by simpa using hcs
  rw [e]
  rcases hr with h0 | ⟨b, off, ha, hb, hi⟩
  · exact ⟨a, len, cap, fun _ => Classical.choice inferInstance, rfl, hl, .inl h0⟩
  · obtain ⟨fm, hfm⟩ := choose_upto (α := FM) (n := len) (Q := fun i q => w.cell? ⟨b, off + i, none⟩ = some (.slice q.a q.n q.c) ∧ q.n ≤ maxLen ∧ Ints w.heap.size w q.a q.n q.f) (fun i hil => by
      obtain ⟨cs', m, x, hl', hat, ht⟩ := hi i hil
      have h1 := hat 0 (by decide)
      obtain ⟨cs1, hcs1⟩ : ∃ cs1, cs' = ((cs1 : List Value).drop 0).take 1 := ⟨cs', by rw [List.drop_zero, List.take_of_length_le (by omega)]⟩
      rw [hcs1] at ht
      obtain ⟨ia, il, ic, es, k0, k1, k2⟩ := ints_of ht rfl
      refine ⟨⟨ia, il, ic, es⟩, ?_, k1, k2⟩
      have h2 : cs'[0]? = some (.slice ia il ic) := by rw [hcs1, List.drop_zero, List.getElem?_take]; simpa using k0
      simpa using h1.trans h2)
    exact ⟨a, len, cap, fm, rfl, hl, .inr ⟨b, off, ha, hb, hfm⟩⟩
end
end Go.Proofs.YtlfegmjdheddjaaDoor
