/- Volumes, lists of rays and lists of spans that come in, opened. -/
import Derived.Test.YtkdopjkdokgipaaGreatDoorOpenIm
import Derived.Test.YtkdopjkdokgipaaGreatDoorGxC
namespace Go.Proofs.YtkdopjkdokgipaaGreatDoor
open Go.ChangeShapes Go.WideShapes Go.ChangeAt Go.RowKit Go.Deep Go.Joins
set_option linter.unusedVariables false
set_option linter.unusedSimpArgs false
instance : Nonempty RY := ⟨⟨0, 0, 0, 0, 0, 0⟩⟩
section
variable {H : Type} {enc : TypeId × Value → H} {w : World} {base : Nat} {held : Bool}
theorem volume_of {n : Nat} {cs : List Value} {x : DataW H × List MemPlace} (h : DataW.trod enc Tryz.prog w base (fun _ => true) held n 23 cs = some x) :
    ∃ p : VO, cs[0]? = some (.int .i64 p.nx) ∧ cs[1]? = some (.int .i64 p.ny) ∧ cs[2]? = some (.int .i64 p.nz) ∧ cs[3]? = some (.int .i64 p.size) := by
  obtain ⟨xs, m, _, _, _, hxl, hf⟩ := DataW.trod_struct Tryz.underlying23 h
  have hx : ∀ i, i < 4 → ∃ z, xs[i]? = some z := fun i hi => ⟨_, List.getElem?_eq_getElem (by rw [hxl]; exact hi)⟩
  obtain ⟨z0, e0⟩ := hx 0 (by decide)
  obtain ⟨z1, e1⟩ := hx 1 (by decide)
  obtain ⟨z2, e2⟩ := hx 2 (by decide)
  obtain ⟨z3, e3⟩ := hx 3 (by decide)
  obtain ⟨a0, k0⟩ := field_int Tryz.underlying3 (hf 0 _ rfl) e0
  obtain ⟨a1, k1⟩ := field_int Tryz.underlying3 (hf 1 _ rfl) e1
  obtain ⟨a2, k2⟩ := field_int Tryz.underlying3 (hf 2 _ rfl) e2
  obtain ⟨a3, k3⟩ := field_int Tryz.underlying3 (hf 3 _ rfl) e3
  exact ⟨⟨a0, a1, a2, a3⟩, k0, k1, k2, k3⟩
theorem ray_of {n : Nat} {cs : List Value} {x : DataW H × List MemPlace} (h : DataW.trod enc Tryz.prog w base (fun _ => true) held n 26 cs = some x) :
    ∃ p : RY, cs[0]? = some (.int .i64 p.x) ∧ cs[1]? = some (.int .i64 p.y) ∧ cs[2]? = some (.int .i64 p.z) ∧ cs[3]? = some (.int .i64 p.dx) ∧ cs[4]? = some (.int .i64 p.dy) ∧ cs[5]? = some (.int .i64 p.dz) := by
  obtain ⟨xs, m, _, _, _, hxl, hf⟩ := DataW.trod_struct Tryz.underlying26 h
  have hx : ∀ i, i < 6 → ∃ z, xs[i]? = some z := fun i hi => ⟨_, List.getElem?_eq_getElem (by rw [hxl]; exact hi)⟩
  obtain ⟨z0, e0⟩ := hx 0 (by decide)
  obtain ⟨z1, e1⟩ := hx 1 (by decide)
  obtain ⟨z2, e2⟩ := hx 2 (by decide)
  obtain ⟨z3, e3⟩ := hx 3 (by decide)
  obtain ⟨z4, e4⟩ := hx 4 (by decide)
  obtain ⟨z5, e5⟩ := hx 5 (by decide)
  obtain ⟨a0, k0⟩ := field_int Tryz.underlying3 (hf 0 _ rfl) e0
  obtain ⟨a1, k1⟩ := field_int Tryz.underlying3 (hf 1 _ rfl) e1
  obtain ⟨a2, k2⟩ := field_int Tryz.underlying3 (hf 2 _ rfl) e2
  obtain ⟨a3, k3⟩ := field_int Tryz.underlying3 (hf 3 _ rfl) e3
  obtain ⟨a4, k4⟩ := field_int Tryz.underlying3 (hf 4 _ rfl) e4
  obtain ⟨a5, k5⟩ := field_int Tryz.underlying3 (hf 5 _ rfl) e5
  exact ⟨⟨a0, a1, a2, a3, a4, a5⟩, k0, k1, k2, k3, k4, k5⟩
set_option maxRecDepth 100000 in
theorem open_volume {r : Reach} {b0 : Nat} {v : Value} {d : DataW H} {p : List MemPlace} (hv : Value.okWide Tryz.prog w r b0 23 v) (h : DataW.Trod enc Tryz.prog w base (fun _ => true) held 23 v d p) :
    ∃ q : VO, v = q.val := by
  obtain ⟨cs, rfl, hsz⟩ := okWide_struct Tryz.underlying23 hv
  have hsz1 : cs.size = 4 := hsz.trans (by kernel_rfl)
  obtain ⟨fuel, hf⟩ := h
  obtain ⟨q, k0, k1, k2, k3⟩ := volume_of hf
  obtain ⟨l⟩ := cs
  match l, hsz1 with
  | [c0, c1, c2, c3], _ =>
    have e0 : c0 = .int .i64 q.nx := by simpa [Value.cells] using k0
    have e1 : c1 = .int .i64 q.ny := by simpa [Value.cells] using k1
    have e2 : c2 = .int .i64 q.nz := by simpa [Value.cells] using k2
    have e3 : c3 = .int .i64 q.size := by simpa [Value.cells] using k3
    subst e0 e1 e2 e3
    exact ⟨q, rfl⟩
set_option maxRecDepth 100000 in
theorem open_ray {r : Reach} {b0 : Nat} {v : Value} {d : DataW H} {p : List MemPlace} (hv : Value.okWide Tryz.prog w r b0 26 v) (h : DataW.Trod enc Tryz.prog w base (fun _ => true) held 26 v d p) :
    ∃ q : RY, v = q.val := by
  obtain ⟨cs, rfl, hsz⟩ := okWide_struct Tryz.underlying26 hv
  have hsz1 : cs.size = 6 := hsz.trans (by kernel_rfl)
  obtain ⟨fuel, hf⟩ := h
  obtain ⟨q, k0, k1, k2, k3, k4, k5⟩ := ray_of hf
  obtain ⟨l⟩ := cs
  match l, hsz1 with
  | [c0, c1, c2, c3, c4, c5], _ =>
    have e0 : c0 = .int .i64 q.x := by simpa [Value.cells] using k0
    have e1 : c1 = .int .i64 q.y := by simpa [Value.cells] using k1
    have e2 : c2 = .int .i64 q.z := by simpa [Value.cells] using k2
    have e3 : c3 = .int .i64 q.dx := by simpa [Value.cells] using k3
    have e4 : c4 = .int .i64 q.dy := by simpa [Value.cells] using k4
    have e5 : c5 = .int .i64 q.dz := by simpa [Value.cells] using k5
    subst e0 e1 e2 e3 e4 e5
    exact ⟨q, rfl⟩
set_option maxRecDepth 100000 in
theorem open_span {r : Reach} {b0 : Nat} {v : Value} {d : DataW H} {p : List MemPlace} (hv : Value.okWide Tryz.prog w r b0 28 v) (h : DataW.Trod enc Tryz.prog w base (fun _ => true) held 28 v d p) :
    ∃ q : SV, v = .agg #[.int .i64 q.lo, .int .i64 q.hi] := by
  obtain ⟨cs, rfl, hsz⟩ := okWide_struct Tryz.underlying28 hv
  have hsz1 : cs.size = 2 := hsz.trans (by kernel_rfl)
  obtain ⟨fuel, hf⟩ := h
  obtain ⟨y0, y1, m', _, _, h0, h1⟩ := trod_struct2 Tryz.underlying28 hf
  obtain ⟨u, hu⟩ := field_int Tryz.underlying3 h0 rfl
  obtain ⟨z, hz⟩ := field_int Tryz.underlying3 h1 rfl
  obtain ⟨l⟩ := cs
  match l, hsz1 with
  | [c0, c1], _ =>
    have e0 : c0 = .int .i64 u := by simpa [Value.cells] using hu
    have e1 : c1 = .int .i64 z := by simpa [Value.cells] using hz
    subst e0 e1
    exact ⟨⟨u, z⟩, rfl⟩
set_option maxRecDepth 100000 in
theorem open_spans {r : Reach} {b0 : Nat} {v : Value} {d : DataW H} {p : List MemPlace} (hv : Value.okWide Tryz.prog w r b0 46 v) (h : DataW.Trod enc Tryz.prog w base (fun _ => true) held 46 v d p) :
    ∃ (a : Option Addr) (n c : Nat) (ss : Nat → SV), v = .slice a n c ∧ Spans w.heap.size w a n ss := by
  obtain ⟨a0, len0, cap0, rfl⟩ := okWide_slice Tryz.underlying46 hv
  obtain ⟨fuel, hf⟩ := h
  have hf' : DataW.trod enc Tryz.prog w base (fun _ => true) held fuel 46 ((([Value.slice a0 len0 cap0] : List Value).drop 0).take 1) = some (d, p) := hf
  obtain ⟨a, len, cap, ss, hcs, hS, _, _⟩ := spans_of hf' rfl
  have e : Value.slice a0 len0 cap0 = .slice a len cap := by simpa using hcs
  rw [e]
  exact ⟨a, len, cap, ss, rfl, hS⟩
set_option maxRecDepth 100000 in
theorem open_rays {r : Reach} {b0 : Nat} {v : Value} {d : DataW H} {p : List MemPlace} (hv : Value.okWide Tryz.prog w r b0 45 v) (h : DataW.Trod enc Tryz.prog w base (fun _ => true) held 45 v d p) :
    ∃ (a : Option Addr) (n c : Nat) (rs : Nat → RY), v = .slice a n c ∧ Rays w.heap.size w a n rs := by
  obtain ⟨a0, len0, cap0, rfl⟩ := okWide_slice Tryz.underlying45 hv
  obtain ⟨fuel, hf⟩ := h
  have hf' : DataW.trod enc Tryz.prog w base (fun _ => true) held fuel 45 ((([Value.slice a0 len0 cap0] : List Value).drop 0).take 1) = some (d, p) := hf
  obtain ⟨a, len, cap, hcs, hl, hlc, hcm, hr⟩ := rows_of (k := 6) Tryz.underlying45 (by kernel_rfl) (by decide) hf' rfl
  have e : Value.slice a0 len0 cap0 = .slice a len cap := by simpa using hcs
  rw [e]
  rcases hr with h0 | ⟨b, off, ha, hb, hi⟩
  · exact ⟨a, len, cap, fun _ => ⟨0, 0, 0, 0, 0, 0⟩, rfl, hl, .inl h0⟩
  · obtain ⟨rs, hrs⟩ := choose_upto (α := RY) (n := len) (Q := fun i q => w.cell? ⟨b, off + i * 6, none⟩ = some (.int .i64 q.x) ∧ w.cell? ⟨b, off + i * 6 + 1, none⟩ = some (.int .i64 q.y) ∧ w.cell? ⟨b, off + i * 6 + 2, none⟩ = some (.int .i64 q.z) ∧ w.cell? ⟨b, off + i * 6 + 3, none⟩ = some (.int .i64 q.dx) ∧ w.cell? ⟨b, off + i * 6 + 4, none⟩ = some (.int .i64 q.dy) ∧ w.cell? ⟨b, off + i * 6 + 5, none⟩ = some (.int .i64 q.dz)) (fun i hil => by
      obtain ⟨cs', m, x, hl', hat, ht⟩ := hi i hil
      obtain ⟨q, k0, k1, k2, k3, k4, k5⟩ := ray_of ht
      exact ⟨q, (hat 0 (by decide)).trans k0, (hat 1 (by decide)).trans k1, (hat 2 (by decide)).trans k2, (hat 3 (by decide)).trans k3, (hat 4 (by decide)).trans k4, (hat 5 (by decide)).trans k5⟩)
    exact ⟨a, len, cap, rs, rfl, hl, .inr ⟨b, off, ha, hb, hrs⟩⟩
set_option maxRecDepth 100000 in
theorem open_ints6 {r : Reach} {b0 : Nat} {v : Value} {d : DataW H} {p : List MemPlace} (hv : Value.okWide Tryz.prog w r b0 24 v) (h : DataW.Trod enc Tryz.prog w base (fun _ => true) held 24 v d p) :
    ∃ (a : Option Addr) (n c : Nat) (es : Nat → Int), v = .slice a n c ∧ n ≤ maxLen ∧ Ints w.heap.size w a n es := by
  obtain ⟨a0, len0, cap0, rfl⟩ := okWide_slice Tryz.underlying24 hv
  obtain ⟨fuel, hf⟩ := h
  have hf' : DataW.trod enc Tryz.prog w base (fun _ => true) held fuel 24 ((([Value.slice a0 len0 cap0] : List Value).drop 0).take 1) = some (d, p) := hf
  obtain ⟨a, len, cap, es, hcs, hl, hE⟩ := ints_of hf' rfl
  have e : Value.slice a0 len0 cap0 = .slice a len cap := by simpa using hcs
  exact ⟨a, len, cap, es, e, hl, hE⟩
end
end Go.Proofs.YtkdopjkdokgipaaGreatDoor
