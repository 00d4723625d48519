/- Proofs and fields that come in, opened. -/
import Derived.Test.YtnfigielhnnpnaaDoorGuA
import Derived.Test.YtnfigielhnnpnaaDoorGiA
namespace Go.Proofs.YtnfigielhnnpnaaDoor
open Go.ChangeShapes Go.WideShapes Go.ChangeAt Go.RowKit Go.Deep Go.Joins
set_option linter.unusedVariables false
set_option linter.unusedSimpArgs false
instance : Nonempty NM := ⟨⟨0, 0, 0, none, 0, 0, fun _ => 0⟩⟩
section
variable {H : Type} {enc : TypeId × Value → H} {w : World} {base : Nat} {held : Bool}
theorem node_of {n : Nat} {cs : List Value} {x : DataW H × List MemPlace} (h : DataW.trod enc Tryd.prog w base (fun _ => true) held n 65 cs = some x) :
    ∃ p : NM, (cs[0]? = some (.int .i64 p.cell) ∧ cs[1]? = some (.int .i64 p.at_) ∧ cs[2]? = some (.int .i64 p.right) ∧ cs[3]? = some (.slice p.ta p.tn p.tc)) ∧ p.tn ≤ maxLen ∧ Ints w.heap.size w p.ta p.tn p.ts := by
  obtain ⟨xs, m, _, _, _, hxl, hf⟩ := DataW.trod_struct Tryd.underlying65 h
  have hx : ∀ i, i < 4 → ∃ z, xs[i]? = some z := fun i hi => ⟨_, List.getElem?_eq_getElem (by rw [hxl]; exact hi)⟩
  obtain ⟨z0, e0⟩ := hx 0 (by decide)
  obtain ⟨z1, e1⟩ := hx 1 (by decide)
  obtain ⟨z2, e2⟩ := hx 2 (by decide)
  obtain ⟨z3, e3⟩ := hx 3 (by decide)
  obtain ⟨u0, k0⟩ := field_int Tryd.underlying3 (hf 0 _ rfl) e0
  obtain ⟨u1, k1⟩ := field_int Tryd.underlying3 (hf 1 _ rfl) e1
  obtain ⟨u2, k2⟩ := field_int Tryd.underlying3 (hf 2 _ rfl) e2
  obtain ⟨ta, tn, tc, ts, k3, htn, hT⟩ := ints_of (hf 3 _ rfl) e3
  exact ⟨⟨u0, u1, u2, ta, tn, tc, ts⟩, ⟨k0, k1, k2, k3⟩, htn, hT⟩
set_option maxRecDepth 100000 in
theorem open_nodes {r : Reach} {b0 : Nat} {v : Value} {d : DataW H} {p : List MemPlace} (hv : Value.okWide Tryd.prog w r b0 53 v) (h : DataW.Trod enc Tryd.prog w base (fun _ => true) held 53 v d p) :
    ∃ (a : Option Addr) (n c : Nat) (ns : Nat → NM), v = .slice a n c ∧ Nodes w.heap.size w a n ns ∧ n ≤ maxLen := by
  obtain ⟨a0, len0, cap0, rfl⟩ := okWide_slice Tryd.underlying53 hv
  obtain ⟨fuel, hf⟩ := h
  have hf' : DataW.trod enc Tryd.prog w base (fun _ => true) held fuel 53 ((([Value.slice a0 len0 cap0] : List Value).drop 0).take 1) = some (d, p) := hf
  obtain ⟨a, len, cap, hcs, hl, hlc, hcm, hr⟩ := rows_of (k := 4) Tryd.underlying53 (by kernel_rfl) (by decide) hf' rfl
  have e : Value.slice a0 len0 cap0 = .slice a len cap := by simpa using hcs
  rw [e]
  rcases hr with h0 | ⟨b, off, ha, hb, hi⟩
  · exact ⟨a, len, cap, fun _ => Classical.choice inferInstance, rfl, .inl h0, hl⟩
  · obtain ⟨ns, hns⟩ := choose_upto (α := NM) (n := len) (Q := fun i q => (w.cell? ⟨b, off + i * 4, none⟩ = some (.int .i64 q.cell) ∧ w.cell? ⟨b, off + i * 4 + 1, none⟩ = some (.int .i64 q.at_) ∧ w.cell? ⟨b, off + i * 4 + 2, none⟩ = some (.int .i64 q.right) ∧ w.cell? ⟨b, off + i * 4 + 3, none⟩ = some (.slice q.ta q.tn q.tc)) ∧ q.tn ≤ maxLen ∧ Ints w.heap.size w q.ta q.tn q.ts) (fun i hil => by
      obtain ⟨cs', m, x, hl', hat, ht⟩ := hi i hil
      obtain ⟨q, ⟨k0, k1, k2, k3⟩, hm⟩ := node_of ht
      exact ⟨q, ⟨(hat 0 (by decide)).trans k0, (hat 1 (by decide)).trans k1, (hat 2 (by decide)).trans k2, (hat 3 (by decide)).trans k3⟩, hm⟩)
    exact ⟨a, len, cap, ns, rfl, .inr ⟨b, off, ha, hb, hns⟩, hl⟩
set_option maxRecDepth 100000 in
theorem open_ints {r : Reach} {b0 : Nat} {v : Value} {d : DataW H} {p : List MemPlace} (hv : Value.okWide Tryd.prog w r b0 37 v) (h : DataW.Trod enc Tryd.prog w base (fun _ => true) held 37 v d p) :
    ∃ (a : Option Addr) (n c : Nat) (es : Nat → Int), v = .slice a n c ∧ n ≤ maxLen ∧ Ints w.heap.size w a n es := by
  obtain ⟨a0, len0, cap0, rfl⟩ := okWide_slice Tryd.underlying37 hv
  obtain ⟨fuel, hf⟩ := h
  have hf' : DataW.trod enc Tryd.prog w base (fun _ => true) held fuel 37 ((([Value.slice a0 len0 cap0] : List Value).drop 0).take 1) = some (d, p) := hf
  obtain ⟨a, len, cap, es, hcs, hl, hE⟩ := ints_of hf' rfl
  have e : Value.slice a0 len0 cap0 = .slice a len cap := by simpa using hcs
  exact ⟨a, len, cap, es, e, hl, hE⟩
end
end Go.Proofs.YtnfigielhnnpnaaDoor
