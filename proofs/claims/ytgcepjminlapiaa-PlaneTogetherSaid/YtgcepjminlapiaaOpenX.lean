/- Texts put together: OpenH, OpenP, OpenR. -/
import Derived.Test.YtgcepjminlapiaaOpenS
import Derived.Test.YtgcepjminlapiaaHitRows
namespace Go.Proofs.Ytgcepjminlapiaa
open Go.ChangeShapes Go.WideShapes Go.ChangeAt Go.RowKit Go.Deep Go.Joins
set_option linter.unusedVariables false
set_option linter.unusedSimpArgs false
instance : Nonempty HV := ⟨⟨0, 0, 0, 0, 0, 0⟩⟩
section
variable {H : Type} {enc : TypeId × Value → H} {w : World} {base : Nat} {held : Bool}
set_option maxRecDepth 100000 in
theorem open_hits {r : Reach} {b0 : Nat} {v : Value} {d : DataW H} {p : List MemPlace} (hv : Value.okWide Try.prog w r b0 65 v) (h : DataW.Trod enc Try.prog w base (fun _ => true) held 65 v d p) :
    ∃ (a : Option Addr) (n c : Nat) (hs : Nat → HV), v = .slice a n c ∧ Hits w.heap.size w a n hs ∧ n ≤ c ∧ c ≤ maxLen := by
  obtain ⟨a0, len0, cap0, rfl⟩ := okWide_slice Try.underlying65 hv
  obtain ⟨fuel, hf⟩ := h
  have hf' : DataW.trod enc Try.prog w base (fun _ => true) held fuel 65 ((([Value.slice a0 len0 cap0] : List Value).drop 0).take 1) = some (d, p) := hf
  obtain ⟨a, len, cap, hcs, hl, hlc, hcm, hr⟩ := rows_of (k := 6) Try.underlying65 (by kernel_rfl) (by decide) hf' rfl
  have e : Value.slice a0 len0 cap0 = .slice a len cap := by simpa using hcs
  rw [e]
  rcases hr with h0 | ⟨b, off, ha, hb, hi⟩
  · exact ⟨a, len, cap, fun _ => ⟨0, 0, 0, 0, 0, 0⟩, rfl, ⟨hl, .inl h0⟩, hlc, hcm⟩
  · obtain ⟨hs, hhs⟩ := choose_upto (α := HV) (n := len) (Q := fun i q => q.at w b (off + i * 6)) (fun i hil => by
      obtain ⟨cs', m, x, hl', hat, ht⟩ := hi i hil
      obtain ⟨q, k0, k1, k2, k3, k4, k5⟩ := hit_of ht
      exact ⟨q, (hat 0 (by decide)).trans k0, (hat 1 (by decide)).trans k1, (hat 2 (by decide)).trans k2, (hat 3 (by decide)).trans k3, (hat 4 (by decide)).trans k4, (hat 5 (by decide)).trans k5⟩)
    exact ⟨a, len, cap, hs, rfl, ⟨hl, .inr ⟨b, off, ha, hb, hhs⟩⟩, hlc, hcm⟩
end
end Go.Proofs.Ytgcepjminlapiaa
namespace Go.Proofs.Ytgcepjminlapiaa
open Go.ChangeShapes Go.WideShapes Go.ChangeAt Go.RowKit Go.Deep Go.Joins
set_option linter.unusedVariables false
set_option linter.unusedSimpArgs false
structure SV where
  lo : Int
  hi : Int
instance : Nonempty SV := ⟨⟨0, 0⟩⟩
/-- a slice of spans -/
def Spans (B : Nat) (w : World) (a : Option Addr) (n : Nat) (ss : Nat → SV) : Prop :=
  n ≤ maxLen ∧ (n = 0 ∨ ∃ b off, a = some ⟨b, off, none⟩ ∧ b < B ∧ ∀ i, i < n → w.cell? ⟨b, off + i * 2, none⟩ = some (.int .i64 (ss i).lo) ∧ w.cell? ⟨b, off + i * 2 + 1, none⟩ = some (.int .i64 (ss i).hi))
theorem Spans.below {B : Nat} {w w' : World} {a : Option Addr} {n : Nat} {ss : Nat → SV} (h : Spans B w a n ss) (hb : Below B w w') : Spans B w' a n ss := by
  refine ⟨h.1, ?_⟩
  rcases h.2 with h | ⟨b, off, ha, hB, hc⟩
  · exact .inl h
  · exact .inr ⟨b, off, ha, hB, fun i hi => ⟨((bcell hb).1 _ _ hB).trans (hc i hi).1, ((bcell hb).1 _ _ hB).trans (hc i hi).2⟩⟩
section
variable {H : Type} {enc : TypeId × Value → H} {w : World} {base : Nat} {held : Bool}
set_option maxRecDepth 100000 in
theorem open_spans {r : Reach} {b0 : Nat} {v : Value} {d : DataW H} {p : List MemPlace} (hv : Value.okWide Try.prog w r b0 60 v) (h : DataW.Trod enc Try.prog w base (fun _ => true) held 60 v d p) :
    ∃ (a : Option Addr) (n c : Nat) (ss : Nat → SV), v = .slice a n c ∧ Spans w.heap.size w a n ss ∧ n ≤ c ∧ c ≤ maxLen := by
  obtain ⟨a0, len0, cap0, rfl⟩ := okWide_slice Try.underlying60 hv
  obtain ⟨fuel, hf⟩ := h
  have hf' : DataW.trod enc Try.prog w base (fun _ => true) held fuel 60 ((([Value.slice a0 len0 cap0] : List Value).drop 0).take 1) = some (d, p) := hf
  obtain ⟨a, len, cap, hcs, hl, hlc, hcm, hr⟩ := rows_of (k := 2) Try.underlying60 (by kernel_rfl) (by decide) hf' rfl
  have e : Value.slice a0 len0 cap0 = .slice a len cap := by simpa using hcs
  rw [e]
  rcases hr with h0 | ⟨b, off, ha, hb, hi⟩
  · exact ⟨a, len, cap, fun _ => ⟨0, 0⟩, rfl, ⟨hl, .inl h0⟩, hlc, hcm⟩
  · obtain ⟨ss, hss⟩ := choose_upto (α := SV) (n := len) (Q := fun i q => w.cell? ⟨b, off + i * 2, none⟩ = some (.int .i64 q.lo) ∧ w.cell? ⟨b, off + i * 2 + 1, none⟩ = some (.int .i64 q.hi)) (fun i hil => by
      obtain ⟨cs', m, x, hl', hat, ht⟩ := hi i hil
      obtain ⟨y0, y1, m', _, _, h0, h1⟩ := trod_struct2 Try.underlying34 ht
      obtain ⟨u, hu⟩ := field_int Try.underlying3 h0 rfl
      obtain ⟨v, hv⟩ := field_int Try.underlying3 h1 rfl
      exact ⟨⟨u, v⟩, (hat 0 (by decide)).trans hu, (hat 1 (by decide)).trans hv⟩)
    exact ⟨a, len, cap, ss, rfl, ⟨hl, .inr ⟨b, off, ha, hb, hss⟩⟩, hlc, hcm⟩
end
end Go.Proofs.Ytgcepjminlapiaa
namespace Go.Proofs.Ytgcepjminlapiaa
open Go.ChangeShapes Go.WideShapes Go.ChangeAt Go.RowKit Go.Deep Go.Joins
set_option linter.unusedVariables false
set_option linter.unusedSimpArgs false
section
variable {H : Type} {enc : TypeId × Value → H} {w : World} {base : Nat} {held : Bool}
set_option maxRecDepth 100000 in
theorem open_reads {r : Reach} {b0 : Nat} {v : Value} {d : DataW H} {p : List MemPlace} (hv : Value.okWide Try.prog w r b0 86 v) (h : DataW.Trod enc Try.prog w base (fun _ => true) held 86 v d p) :
    ∃ (a : Option Addr) (n c : Nat) (ss : Nat → SV), v = .slice a n c ∧ Spans w.heap.size w a n ss ∧ n ≤ c ∧ c ≤ maxLen := by
  obtain ⟨a0, len0, cap0, rfl⟩ := okWide_slice Try.underlying86 hv
  obtain ⟨fuel, hf⟩ := h
  have hf' : DataW.trod enc Try.prog w base (fun _ => true) held fuel 86 ((([Value.slice a0 len0 cap0] : List Value).drop 0).take 1) = some (d, p) := hf
  obtain ⟨a, len, cap, hcs, hl, hlc, hcm, hr⟩ := rows_of (k := 2) Try.underlying86 (by kernel_rfl) (by decide) hf' rfl
  have e : Value.slice a0 len0 cap0 = .slice a len cap := by simpa using hcs
  rw [e]
  rcases hr with h0 | ⟨b, off, ha, hb, hi⟩
  · exact ⟨a, len, cap, fun _ => ⟨0, 0⟩, rfl, ⟨hl, .inl h0⟩, hlc, hcm⟩
  · obtain ⟨ss, hss⟩ := choose_upto (α := SV) (n := len) (Q := fun i q => w.cell? ⟨b, off + i * 2, none⟩ = some (.int .i64 q.lo) ∧ w.cell? ⟨b, off + i * 2 + 1, none⟩ = some (.int .i64 q.hi)) (fun i hil => by
      obtain ⟨cs', m, x, hl', hat, ht⟩ := hi i hil
      obtain ⟨y0, y1, m', _, _, h0, h1⟩ := trod_struct2 Try.underlying88 ht
      obtain ⟨u, hu⟩ := field_int Try.underlying3 h0 rfl
      obtain ⟨v, hv⟩ := field_int Try.underlying3 h1 rfl
      exact ⟨⟨u, v⟩, (hat 0 (by decide)).trans hu, (hat 1 (by decide)).trans hv⟩)
    exact ⟨a, len, cap, ss, rfl, ⟨hl, .inr ⟨b, off, ha, hb, hss⟩⟩, hlc, hcm⟩
end
end Go.Proofs.Ytgcepjminlapiaa
