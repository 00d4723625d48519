/- Setups, hits and spans that come in, opened. -/
import Derived.Test.YtegimepmccilfaaGreatDoorOpenIn
import Derived.Test.YtegimepmccilfaaGreatDoorRows
namespace Go.Proofs.YtegimepmccilfaaGreatDoor
open Go.ChangeShapes Go.WideShapes Go.ChangeAt Go.RowKit Go.Deep Go.Joins
set_option linter.unusedVariables false
set_option linter.unusedSimpArgs false
instance : Nonempty DV := ⟨⟨0, 0, 0⟩⟩
theorem get_take {cs : List Value} {o c i : Nat} {v : Value} (h : ((cs.drop o).take c)[i]? = some v) : cs[o + i]? = some v := by
  rw [List.getElem?_take] at h
  split at h
  · simpa using h
  · simp at h
section
variable {H : Type} {enc : TypeId × Value → H} {w : World} {base : Nat} {held : Bool}
theorem span_of {n o c : Nat} {cs : List Value} {y : Option (DataW H × List MemPlace)} {z : DataW H × List MemPlace} (h : DataW.trod enc Tryz.prog w base (fun _ => true) held n 38 ((cs.drop o).take c) = y) (hy : y = some z) :
    ∃ u v, cs[o]? = some (.int .i64 u) ∧ cs[o + 1]? = some (.int .i64 v) := by
  subst hy
  obtain ⟨y0, y1, m, _, _, h0, h1⟩ := trod_struct2 Tryz.underlying38 h
  obtain ⟨u, hu⟩ := field_int Tryz.underlying3 h0 rfl
  obtain ⟨v, hv⟩ := field_int Tryz.underlying3 h1 rfl
  exact ⟨u, v, get_take hu, get_take hv⟩
theorem drift_of {n : Nat} {cs : List Value} {x : DataW H × List MemPlace} (h : DataW.trod enc Tryz.prog w base (fun _ => true) held n 71 cs = some x) :
    ∃ d : DV, cs[0]? = some (.int .i64 d.time) ∧ cs[1]? = some (.int .i64 d.lo) ∧ cs[2]? = some (.int .i64 d.hi) := by
  obtain ⟨y0, y1, m, _, _, h0, h1⟩ := trod_struct2 Tryz.underlying71 h
  obtain ⟨t, ht⟩ := field_int Tryz.underlying3 h0 rfl
  obtain ⟨u, v, hu, hv⟩ := span_of h1 rfl
  exact ⟨⟨t, u, v⟩, ht, hu, hv⟩
set_option maxRecDepth 100000 in
theorem drifts_of {n o c : Nat} {cs : List Value} {y : Option (DataW H × List MemPlace)} {z : DataW H × List MemPlace} (h : DataW.trod enc Tryz.prog w base (fun _ => true) held n 39 ((cs.drop o).take c) = y) (hy : y = some z) :
    ∃ (a : Option Addr) (len cap : Nat) (ds : Nat → DV), cs[o]? = some (.slice a len cap) ∧ len ≤ maxLen ∧ Drifts w.heap.size w a len ds := by
  obtain ⟨a, len, cap, hcs, hl, _, _, hr⟩ := rows_of (k := 3) Tryz.underlying39 (by kernel_rfl) (by decide) h hy
  rcases hr with h0 | ⟨b, off, ha, hb, hi⟩
  · exact ⟨a, len, cap, fun _ => ⟨0, 0, 0⟩, hcs, hl, .inl h0⟩
  · obtain ⟨ds, hds⟩ := choose_upto (α := DV) (n := len) (Q := fun i d => w.cell? ⟨b, off + i * 3, none⟩ = some (.int .i64 d.time) ∧ w.cell? ⟨b, off + i * 3 + 1, none⟩ = some (.int .i64 d.lo) ∧ w.cell? ⟨b, off + i * 3 + 2, none⟩ = some (.int .i64 d.hi)) (fun i hil => by
      obtain ⟨cs', m, x, hl', hat, ht⟩ := hi i hil
      obtain ⟨d, h0, h1, h2⟩ := drift_of ht
      exact ⟨d, (hat 0 (by decide)).trans h0, (hat 1 (by decide)).trans h1, (hat 2 (by decide)).trans h2⟩)
    exact ⟨a, len, cap, ds, hcs, hl, .inr ⟨b, off, ha, hb, hds⟩⟩
set_option maxRecDepth 100000 in
theorem ints_of {n o c : Nat} {cs : List Value} {y : Option (DataW H × List MemPlace)} {z : DataW H × List MemPlace} (h : DataW.trod enc Tryz.prog w base (fun _ => true) held n 40 ((cs.drop o).take c) = y) (hy : y = some z) :
    ∃ (a : Option Addr) (len cap : Nat) (es : Nat → Int), cs[o]? = some (.slice a len cap) ∧ len ≤ maxLen ∧ Ints w.heap.size w a len es := by
  obtain ⟨a, len, cap, hcs, hl, _, _, hr⟩ := rows_of (k := 1) Tryz.underlying40 (by kernel_rfl) (by decide) h hy
  rcases hr with h0 | ⟨b, off, ha, hb, hi⟩
  · exact ⟨a, len, cap, fun _ => 0, hcs, hl, .inl h0⟩
  · obtain ⟨es, hes⟩ := choose_upto (α := Int) (n := len) (Q := fun i e => w.cell? ⟨b, off + i, none⟩ = some (.int .i64 e)) (fun i hil => by
      obtain ⟨cs', m, x, hl', hat, ht⟩ := hi i hil
      obtain ⟨e, he, _⟩ := DataW.trod_int Tryz.underlying3 ht
      have := hat 0 (by decide)
      rw [he] at this
      exact ⟨e, by simpa using this⟩)
    exact ⟨a, len, cap, es, hcs, hl, .inr ⟨b, off, ha, hb, hes⟩⟩
theorem plane_of {n : Nat} {cs : List Value} {x : DataW H × List MemPlace} (h : DataW.trod enc Tryz.prog w base (fun _ => true) held n 42 cs = some x) :
    ∃ p : PR, (cs[0]? = some (.int .i64 p.kind) ∧ cs[1]? = some (.int .i64 p.view) ∧ cs[2]? = some (.int .i64 p.z) ∧ cs[3]? = some (.int .i64 p.first) ∧ cs[4]? = some (.int .i64 p.pitch) ∧ cs[5]? = some (.int .i64 p.strips) ∧ cs[6]? = some (.int .i64 p.spill) ∧ cs[7]? = some (.int .i64 p.olo) ∧ cs[8]? = some (.int .i64 p.ohi) ∧ cs[9]? = some (.int .i64 p.clo) ∧ cs[10]? = some (.int .i64 p.chi) ∧ cs[11]? = some (.int .i64 p.jitter) ∧ cs[12]? = some (.int .i64 p.least) ∧ cs[13]? = some (.slice p.da p.dn p.dc) ∧ cs[14]? = some (.slice p.ea p.en p.ec)) ∧ p.mem w.heap.size w := by
  obtain ⟨xs, m, _, _, _, hxl, hf⟩ := DataW.trod_struct Tryz.underlying42 h
  have hx : ∀ i, i < 13 → ∃ z, xs[i]? = some z := fun i hi => ⟨_, List.getElem?_eq_getElem (by rw [hxl]; exact hi)⟩
  obtain ⟨z0, e0⟩ := hx 0 (by decide)
  obtain ⟨z1, e1⟩ := hx 1 (by decide)
  obtain ⟨z2, e2⟩ := hx 2 (by decide)
  obtain ⟨z3, e3⟩ := hx 3 (by decide)
  obtain ⟨z4, e4⟩ := hx 4 (by decide)
  obtain ⟨z5, e5⟩ := hx 5 (by decide)
  obtain ⟨z6, e6⟩ := hx 6 (by decide)
  obtain ⟨z7, e7⟩ := hx 7 (by decide)
  obtain ⟨z8, e8⟩ := hx 8 (by decide)
  obtain ⟨z9, e9⟩ := hx 9 (by decide)
  obtain ⟨z10, e10⟩ := hx 10 (by decide)
  obtain ⟨z11, e11⟩ := hx 11 (by decide)
  obtain ⟨z12, e12⟩ := hx 12 (by decide)
  obtain ⟨kind, k0⟩ := field_int Tryz.underlying35 (hf 0 _ rfl) e0
  obtain ⟨view, k1⟩ := field_int Tryz.underlying36 (hf 1 _ rfl) e1
  obtain ⟨z, k2⟩ := field_int Tryz.underlying3 (hf 2 _ rfl) e2
  obtain ⟨first, k3⟩ := field_int Tryz.underlying3 (hf 3 _ rfl) e3
  obtain ⟨pitch, k4⟩ := field_int Tryz.underlying3 (hf 4 _ rfl) e4
  obtain ⟨strips, k5⟩ := field_int Tryz.underlying3 (hf 5 _ rfl) e5
  obtain ⟨spill, k6⟩ := field_int Tryz.underlying3 (hf 6 _ rfl) e6
  obtain ⟨olo, ohi, k7, k8⟩ := span_of (hf 7 _ rfl) e7
  obtain ⟨clo, chi, k9, k10⟩ := span_of (hf 8 _ rfl) e8
  obtain ⟨jitter, k11⟩ := field_int Tryz.underlying3 (hf 9 _ rfl) e9
  obtain ⟨least, k12⟩ := field_int Tryz.underlying3 (hf 10 _ rfl) e10
  obtain ⟨da, dn, dc, ds, k13, hdn, hD⟩ := drifts_of (hf 11 _ rfl) e11
  obtain ⟨ea, en, ec, es, k14, hen, hI⟩ := ints_of (hf 12 _ rfl) e12
  exact ⟨⟨kind, view, z, first, pitch, strips, spill, olo, ohi, clo, chi, jitter, least, da, dn, dc, ea, en, ec, ds, es⟩, ⟨k0, k1, k2, k3, k4, k5, k6, k7, k8, k9, k10, k11, k12, k13, k14⟩, hdn, hen, hD, hI⟩
instance : Nonempty PR := ⟨⟨0, 0, 0, 0, 0, 0, 0, 0, 0, 0, 0, 0, 0, none, 0, 0, none, 0, 0, fun _ => ⟨0, 0, 0⟩, fun _ => 0⟩⟩
set_option maxRecDepth 100000 in
theorem open_setup {r : Reach} {b0 : Nat} {v : Value} {d : DataW H} {p : List MemPlace} (hv : Value.okWide Tryz.prog w r b0 24 v) (h : DataW.Trod enc Tryz.prog w base (fun _ => true) held 24 v d p) :
    ∃ (a : Option Addr) (n c : Nat) (ps : Nat → PR), v = setupV a n c ∧ Planes w.heap.size w a n ps := by
  obtain ⟨cs, rfl, hsz⟩ := okWide_struct Tryz.underlying24 hv
  have hsz1 : cs.size = 1 := hsz.trans (by kernel_rfl)
  obtain ⟨fuel, hf⟩ := h
  obtain ⟨y0, m, _, _, h0⟩ := trod_struct1 Tryz.underlying24 hf
  obtain ⟨a, len, cap, hcs, hl, _, _, hr⟩ := rows_of (k := 15) Tryz.underlying22 (by kernel_rfl) (by decide) h0 rfl
  obtain ⟨l⟩ := cs
  match l, hsz1 with
  | [c0], _ =>
    have hc0 : c0 = .slice a len cap := by simpa [Value.cells] using hcs
    subst hc0
    rcases hr with hz | ⟨b, off, ha, hb, hi⟩
    · exact ⟨a, len, cap, fun _ => Classical.choice inferInstance, rfl, hl, .inl hz⟩
    · obtain ⟨ps, hps⟩ := choose_upto (α := PR) (n := len) (Q := fun i p => p.at w b (off + i * 15) ∧ p.mem w.heap.size w) (fun i hil => by
        obtain ⟨cs', m, x, hl', hat, ht⟩ := hi i hil
        obtain ⟨q, ⟨k0, k1, k2, k3, k4, k5, k6, k7, k8, k9, k10, k11, k12, k13, k14⟩, hm⟩ := plane_of ht
        exact ⟨q, ⟨(hat 0 (by decide)).trans k0, (hat 1 (by decide)).trans k1, (hat 2 (by decide)).trans k2, (hat 3 (by decide)).trans k3, (hat 4 (by decide)).trans k4, (hat 5 (by decide)).trans k5, (hat 6 (by decide)).trans k6, (hat 7 (by decide)).trans k7, (hat 8 (by decide)).trans k8, (hat 9 (by decide)).trans k9, (hat 10 (by decide)).trans k10, (hat 11 (by decide)).trans k11, (hat 12 (by decide)).trans k12, (hat 13 (by decide)).trans k13, (hat 14 (by decide)).trans k14⟩, hm⟩)
      exact ⟨a, len, cap, ps, rfl, hl, .inr ⟨b, off, ha, hb, hps⟩⟩
theorem hit_of {n : Nat} {cs : List Value} {x : DataW H × List MemPlace} (h : DataW.trod enc Tryz.prog w base (fun _ => true) held n 48 cs = some x) :
    ∃ h : HV, cs[0]? = some (.int .i64 h.plane) ∧ cs[1]? = some (.int .i64 h.channel) ∧ cs[2]? = some (.int .i64 h.many) ∧ cs[3]? = some (.int .i64 h.drift) ∧ cs[4]? = some (.int .i64 h.charge) ∧ cs[5]? = some (.int .i64 h.time) := by
  obtain ⟨xs, m, _, _, _, hxl, hf⟩ := DataW.trod_struct Tryz.underlying48 h
  have hx : ∀ i, i < 6 → ∃ z, xs[i]? = some z := fun i hi => ⟨_, List.getElem?_eq_getElem (by rw [hxl]; exact hi)⟩
  obtain ⟨z0, e0⟩ := hx 0 (by decide)
  obtain ⟨z1, e1⟩ := hx 1 (by decide)
  obtain ⟨z2, e2⟩ := hx 2 (by decide)
  obtain ⟨z3, e3⟩ := hx 3 (by decide)
  obtain ⟨z4, e4⟩ := hx 4 (by decide)
  obtain ⟨z5, e5⟩ := hx 5 (by decide)
  obtain ⟨f0, k0⟩ := field_int Tryz.underlying3 (hf 0 _ rfl) e0
  obtain ⟨f1, k1⟩ := field_int Tryz.underlying3 (hf 1 _ rfl) e1
  obtain ⟨f2, k2⟩ := field_int Tryz.underlying3 (hf 2 _ rfl) e2
  obtain ⟨f3, k3⟩ := field_int Tryz.underlying3 (hf 3 _ rfl) e3
  obtain ⟨f4, k4⟩ := field_int Tryz.underlying3 (hf 4 _ rfl) e4
  obtain ⟨f5, k5⟩ := field_int Tryz.underlying3 (hf 5 _ rfl) e5
  exact ⟨⟨f0, f1, f2, f3, f4, f5⟩, k0, k1, k2, k3, k4, k5⟩
set_option maxRecDepth 100000 in
theorem open_hit {r : Reach} {b0 : Nat} {v : Value} {d : DataW H} {p : List MemPlace} (hv : Value.okWide Tryz.prog w r b0 48 v) (h : DataW.Trod enc Tryz.prog w base (fun _ => true) held 48 v d p) : ∃ h : HV, v = h.val := by
  obtain ⟨cs, rfl, hsz⟩ := okWide_struct Tryz.underlying48 hv
  have hsz1 : cs.size = 6 := hsz.trans (by kernel_rfl)
  obtain ⟨fuel, hf⟩ := h
  obtain ⟨q, k0, k1, k2, k3, k4, k5⟩ := hit_of hf
  obtain ⟨l⟩ := cs
  match l, hsz1 with
  | [c0, c1, c2, c3, c4, c5], _ =>
    simp [Value.cells] at k0 k1 k2 k3 k4 k5
    subst k0; subst k1; subst k2; subst k3; subst k4; subst k5
    exact ⟨q, rfl⟩
set_option maxRecDepth 100000 in
theorem open_span {r : Reach} {b0 : Nat} {v : Value} {d : DataW H} {p : List MemPlace} (hv : Value.okWide Tryz.prog w r b0 38 v) (h : DataW.Trod enc Tryz.prog w base (fun _ => true) held 38 v d p) : ∃ x y : Int, v = .agg #[.int .i64 x, .int .i64 y] := by
  obtain ⟨cs, rfl, hsz⟩ := okWide_struct Tryz.underlying38 hv
  have hsz1 : cs.size = 2 := hsz.trans (by kernel_rfl)
  obtain ⟨fuel, hf⟩ := h
  obtain ⟨y0, y1, m, _, _, h0, h1⟩ := trod_struct2 Tryz.underlying38 hf
  obtain ⟨u, hu⟩ := field_int Tryz.underlying3 h0 rfl
  obtain ⟨v, hv⟩ := field_int Tryz.underlying3 h1 rfl
  obtain ⟨l⟩ := cs
  match l, hsz1 with
  | [c0, c1], _ =>
    simp [Value.cells] at hu hv
    subst hu; subst hv
    exact ⟨u, v, rfl⟩
set_option maxRecDepth 100000 in
theorem int_of_wide {r : Reach} {b0 : Nat} {v : Value} {d : DataW H} {p : List MemPlace} (hv : Value.okWide Tryz.prog w r b0 3 v) (h : DataW.Trod enc Tryz.prog w base (fun _ => true) held 3 v d p) : ∃ i : Int, v = .int .i64 i ∧ (Lit.int .i64 i).wf = true := by
  obtain ⟨i, rfl, _, _, hw⟩ := open_int Tryz.underlying3 hv h
  exact ⟨i, rfl, hw⟩
end
theorem own : ownKnob Tryz.prog.godebug = none := by kernel_rfl
theorem laidOut : laidOutB Tryz.prog = true := by kernel_rfl
end Go.Proofs.YtegimepmccilfaaGreatDoor
