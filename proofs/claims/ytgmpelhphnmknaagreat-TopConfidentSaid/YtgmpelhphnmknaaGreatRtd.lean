/- Texts put together: OpenTo. -/
import Derived.Test.YtgmpelhphnmknaaGreatQbi
set_option maxRecDepth 100000
set_option maxHeartbeats 8000000
set_option linter.unusedVariables false
set_option linter.unusedSimpArgs false
namespace Go.Proofs.YtgmpelhphnmknaaGreat
open Go.ChangeShapes Go.WideShapes Go.ChangeAt Go.RowKit Go.Deep Go.Joins
theorem nest {cs : List Value} {o k j : Nat} {v : Value} (h : ((cs.drop o).take k)[j]? = some v) : cs[o + j]? = some v := by
 rw [List.getElem?_take] at h
 split at h
 ·rw [List.getElem?_drop] at h; exact h
 ·cases h
structure RL where
 a : Option Addr
 n : Nat
 c : Nat
 l : Nat → RW
instance : Nonempty RW := ⟨⟨0, 0, 0⟩⟩
instance : Nonempty RL := ⟨⟨none, 0, 0, fun _ => ⟨0, 0, 0⟩⟩⟩
instance : Nonempty LQ := ⟨⟨⟨0, 0, 0, 0, 0, 0⟩, 0, 0, 0, 0, 0⟩⟩
section
variable {H : Type} {enc : TypeId × Value → H} {w : World} {base : Nat} {held : Bool}
theorem span_at {n o c : Nat} {cs : List Value} {y : Option (DataW H × List MemPlace)} {z : DataW H × List MemPlace} (h : DataW.trod enc Tryz.prog w base (fun _ => true) held n 28 ((cs.drop o).take c) = y) (hy : y = some z) : ∃ u x, cs[o]? = some (.int .i64 u) ∧ cs[o + 1]? = some (.int .i64 x) := by
 subst hy
 obtain ⟨y0, y1, m, _, _, h0, h1⟩ := trod_struct2 Tryz.underlying28 h
 obtain ⟨u, hu⟩ := field_int Tryz.underlying3 h0 rfl
 obtain ⟨x, hx⟩ := field_int Tryz.underlying3 h1 rfl
 exact ⟨u, x, nest hu, nest hx⟩
theorem rrow_of {n : Nat} {cs : List Value} {x : DataW H × List MemPlace} (h : DataW.trod enc Tryz.prog w base (fun _ => true) held n 89 cs = some x) :
  ∃ q : RW, cs[0]? = some (.int .i64 q.key) ∧ cs[1]? = some (.int .i64 q.lo) ∧ cs[2]? = some (.int .i64 q.hi) := by
 obtain ⟨y0, y1, m, _, _, h0, h1⟩ := trod_struct2 Tryz.underlying89 h
 obtain ⟨a, ha⟩ := field_int Tryz.underlying3 h0 rfl
 obtain ⟨u, z, hu, hz⟩ := span_at h1 rfl
 exact ⟨⟨a, u, z⟩, ha, hu, hz⟩
theorem frow_of {n : Nat} {cs : List Value} {x : DataW H × List MemPlace} (h : DataW.trod enc Tryz.prog w base (fun _ => true) held n 134 cs = some x) :
  ∃ q : RW, cs[0]? = some (.int .i64 q.key) ∧ cs[1]? = some (.int .i64 q.lo) ∧ cs[2]? = some (.int .i64 q.hi) := by
 obtain ⟨y0, y1, m, _, _, h0, h1⟩ := trod_struct2 Tryz.underlying134 h
 obtain ⟨a, ha⟩ := field_int Tryz.underlying3 h0 rfl
 obtain ⟨u, z, hu, hz⟩ := span_at h1 rfl
 exact ⟨⟨a, u, z⟩, ha, hu, hz⟩
theorem rows3 {t : TypeId} (hk : (Tryz.prog).cellsOf t = 3) (hr : ∀ {n : Nat} {cs : List Value} {x : DataW H × List MemPlace}, DataW.trod enc Tryz.prog w base (fun _ => true) held n t cs = some x → ∃ q : RW, cs[0]? = some (.int .i64 q.key) ∧ cs[1]? = some (.int .i64 q.lo) ∧ cs[2]? = some (.int .i64 q.hi)) {l : TypeId} (hl : (Tryz.prog).underlying l = some (.slice t)) {n o c : Nat} {cs : List Value} {y : Option (DataW H × List MemPlace)} {z : DataW H × List MemPlace} (h : DataW.trod enc Tryz.prog w base (fun _ => true) held n l ((cs.drop o).take c) = y) (hy : y = some z) :
  ∃ q : RL, cs[o]? = some (.slice q.a q.n q.c) ∧ q.n ≤ maxLen ∧ RWs w.heap.size w q.a q.n q.l := by
 obtain ⟨a, len, cap, hcs, hl, _, _, hr'⟩ := rows_of (k := 3) hl hk (by decide) h hy
 rcases hr' with h0 | ⟨b, off, ha, hb, hi⟩
 ·exact ⟨⟨a, len, cap, fun _ => ⟨0, 0, 0⟩⟩, hcs, hl, .inl h0⟩
 ·obtain ⟨f, hf⟩ := choose_upto (α := RW) (n := len) (Q := fun i q => w.cell? ⟨b, off + i * 3, none⟩ = some (.int .i64 q.key) ∧ w.cell? ⟨b, off + i * 3 + 1, none⟩ = some (.int .i64 q.lo) ∧ w.cell? ⟨b, off + i * 3 + 2, none⟩ = some (.int .i64 q.hi)) (fun i hil => by
   obtain ⟨cs', m, x, _, hat, ht⟩ := hi i hil
   obtain ⟨q, k0, k1, k2⟩ := hr ht
   exact ⟨q, (hat 0 (by decide)).trans k0, (hat 1 (by decide)).trans k1, (hat 2 (by decide)).trans k2⟩)
  exact ⟨⟨a, len, cap, f⟩, hcs, hl, .inr ⟨b, off, ha, hb, hf⟩⟩
theorem open_table {r : Reach} {b0 : Nat} {v : Value} {d : DataW H} {p : List MemPlace} (hv : Value.okWide Tryz.prog w r b0 31 v) (h : DataW.Trod enc Tryz.prog w base (fun _ => true) held 31 v d p) :
  ∃ (a : Option Addr) (n c : Nat) (t : Nat → RW), v = .slice a n c ∧ n ≤ maxLen ∧ RWs w.heap.size w a n t := by
 obtain ⟨a0, len0, cap0, rfl⟩ := okWide_slice Tryz.underlying31 hv
 obtain ⟨fuel, hf⟩ := h
 have hf' : DataW.trod enc Tryz.prog w base (fun _ => true) held fuel 31 ((([Value.slice a0 len0 cap0] : List Value).drop 0).take 1) = some (d, p) := hf
 obtain ⟨q, hcs, hl, hR⟩ := rows3 (by kernel_rfl) rrow_of Tryz.underlying31 hf' rfl
 have e : Value.slice a0 len0 cap0 = .slice q.a q.n q.c := by simpa using hcs
 exact ⟨q.a, q.n, q.c, q.l, e, hl, hR⟩
theorem open_sky {r : Reach} {b0 : Nat} {v : Value} {d : DataW H} {p : List MemPlace} (hv : Value.okWide Tryz.prog w r b0 30 v) (h : DataW.Trod enc Tryz.prog w base (fun _ => true) held 30 v d p) :
  ∃ s : SK, v = .agg s.cells ∧ s.mem w.heap.size w ∧ s.bn ≤ maxLen ∧ ∀ i, i < s.bn → s.ln i ≤ maxLen := by
 obtain ⟨cs, rfl, hsz⟩ := okWide_struct Tryz.underlying30 hv
 have hsz1 : cs.size = 6 := hsz.trans (by kernel_rfl)
 obtain ⟨fuel, hf⟩ := h
 obtain ⟨xs, m, _, _, _, hxl, hf⟩ := DataW.trod_struct Tryz.underlying30 hf
 have hx : ∀ i, i < 4 → ∃ z, xs[i]? = some z := fun i hi => ⟨_, List.getElem?_eq_getElem (by rw [hxl]; exact hi)⟩
 obtain ⟨z0, e0⟩ := hx 0 (by decide)
 obtain ⟨z1, e1⟩ := hx 1 (by decide)
 obtain ⟨z2, e2⟩ := hx 2 (by decide)
 obtain ⟨z3, e3⟩ := hx 3 (by decide)
 obtain ⟨a0, k0⟩ := field_int Tryz.underlying3 (hf 0 _ rfl) e0
 obtain ⟨ba, bn, bc, k1, hl, _, _, hr⟩ := rows_of (k := 1) Tryz.underlying26 (by kernel_rfl) (by decide) (hf 1 _ rfl) e1
 obtain ⟨u0, u1, k2, k3⟩ := span_at (hf 2 _ rfl) e2
 obtain ⟨t0, t1, k4, k5⟩ := span_at (hf 3 _ rfl) e3
 have hrows : ∃ f : Nat → RL, (bn = 0 ∨ ∃ b off, ba = some ⟨b, off, none⟩ ∧ b < w.heap.size ∧ ∀ i, i < bn → w.cell? ⟨b, off + i, none⟩ = some (.slice (f i).a (f i).n (f i).c)) ∧ ∀ i, i < bn → (f i).n ≤ maxLen ∧ RWs w.heap.size w (f i).a (f i).n (f i).l := by
  rcases hr with h0 | ⟨b, off, ha, hb, hi⟩
  ·exact ⟨fun _ => ⟨none, 0, 0, fun _ => ⟨0, 0, 0⟩⟩, .inl h0, fun i hi => by omega⟩
  ·obtain ⟨f, hf⟩ := choose_upto (α := RL) (n := bn) (Q := fun i q => w.cell? ⟨b, off + i, none⟩ = some (.slice q.a q.n q.c) ∧ q.n ≤ maxLen ∧ RWs w.heap.size w q.a q.n q.l) (fun i hil => by
    obtain ⟨cs', m, x, hl', hat, ht⟩ := hi i hil
    have h1 := hat 0 (by decide)
    obtain ⟨cs1, hcs1⟩ : ∃ cs1, cs' = ((cs1 : List Value).drop 0).take 1 := ⟨cs', by rw [List.drop_zero, List.take_of_length_le (by omega)]⟩
    rw [hcs1] at ht
    obtain ⟨q, k0, k1, k2⟩ := rows3 (by kernel_rfl) frow_of Tryz.underlying87 ht rfl
    refine ⟨q, ?_, k1, k2⟩
    have h2 : cs'[0]? = some (.slice q.a q.n q.c) := by rw [hcs1, List.drop_zero, List.getElem?_take]; simpa using k0
    simpa using h1.trans h2)
   exact ⟨f, .inr ⟨b, off, ha, hb, fun i hi => (hf i hi).1⟩, fun i hi => (hf i hi).2⟩
 obtain ⟨f, hb, hrw⟩ := hrows
 obtain ⟨l⟩ := cs
 match l, hsz1 with
 | [c0, c1, c2, c3, c4, c5], _ =>
  have e0 : c0 = .int .i64 a0 := by simpa [Value.cells] using k0
  have e1 : c1 = .slice ba bn bc := by simpa [Value.cells] using k1
  have e2 : c2 = .int .i64 u0 := by simpa [Value.cells] using k2
  have e3 : c3 = .int .i64 u1 := by simpa [Value.cells] using k3
  have e4 : c4 = .int .i64 t0 := by simpa [Value.cells] using k4
  have e5 : c5 = .int .i64 t1 := by simpa [Value.cells] using k5
  subst e0 e1 e2 e3 e4 e5
  exact ⟨⟨a0, ba, bn, bc, u0, u1, t0, t1, fun i => (f i).a, fun i => (f i).n, fun i => (f i).c, fun i => (f i).l⟩, rfl, ⟨hb, fun i hi => (hrw i hi).2⟩, hl, fun i hi => (hrw i hi).1⟩
theorem look_of {n : Nat} {cs : List Value} {x : DataW H × List MemPlace} (h : DataW.trod enc Tryz.prog w base (fun _ => true) held n 35 cs = some x) :
  ∃ q : LQ, cs[0]? = some (.int .i64 q.r.x) ∧ cs[1]? = some (.int .i64 q.r.y) ∧ cs[2]? = some (.int .i64 q.r.z) ∧ cs[3]? = some (.int .i64 q.r.dx) ∧ cs[4]? = some (.int .i64 q.r.dy) ∧ cs[5]? = some (.int .i64 q.r.dz) ∧ cs[6]? = some (.int .i64 q.bin) ∧ cs[7]? = some (.int .i64 q.unit) ∧ cs[8]? = some (.int .i64 q.rate) ∧ cs[9]? = some (.int .i64 q.less) ∧ cs[10]? = some (.int .i64 q.more) := by
 obtain ⟨xs, m, _, _, _, hxl, hf⟩ := DataW.trod_struct Tryz.underlying35 h
 have hx : ∀ i, i < 6 → ∃ z, xs[i]? = some z := fun i hi => ⟨_, List.getElem?_eq_getElem (by rw [hxl]; exact hi)⟩
 obtain ⟨z0, e0⟩ := hx 0 (by decide)
 obtain ⟨z1, e1⟩ := hx 1 (by decide)
 obtain ⟨z2, e2⟩ := hx 2 (by decide)
 obtain ⟨z3, e3⟩ := hx 3 (by decide)
 obtain ⟨z4, e4⟩ := hx 4 (by decide)
 obtain ⟨z5, e5⟩ := hx 5 (by decide)
 obtain ⟨r, r0, r1, r2, r3, r4, r5⟩ := ray_of ((hf 0 _ rfl).trans e0)
 obtain ⟨a1, k1⟩ := field_int Tryz.underlying3 (hf 1 _ rfl) e1
 obtain ⟨a2, k2⟩ := field_int Tryz.underlying3 (hf 2 _ rfl) e2
 obtain ⟨a3, k3⟩ := field_int Tryz.underlying3 (hf 3 _ rfl) e3
 obtain ⟨a4, k4⟩ := field_int Tryz.underlying3 (hf 4 _ rfl) e4
 obtain ⟨a5, k5⟩ := field_int Tryz.underlying3 (hf 5 _ rfl) e5
 exact ⟨⟨r, a1, a2, a3, a4, a5⟩, nest (o := 0) r0, nest (o := 0) (j := 1) r1, nest (o := 0) (j := 2) r2, nest (o := 0) (j := 3) r3, nest (o := 0) (j := 4) r4, nest (o := 0) (j := 5) r5, k1, k2, k3, k4, k5⟩
theorem open_look {r : Reach} {b0 : Nat} {v : Value} {d : DataW H} {p : List MemPlace} (hv : Value.okWide Tryz.prog w r b0 35 v) (h : DataW.Trod enc Tryz.prog w base (fun _ => true) held 35 v d p) :
  ∃ k : LQ, v = k.val := by
 obtain ⟨cs, rfl, hsz⟩ := okWide_struct Tryz.underlying35 hv
 have hsz1 : cs.size = 11 := hsz.trans (by kernel_rfl)
 obtain ⟨fuel, hf⟩ := h
 obtain ⟨q, k0, k1, k2, k3, k4, k5, k6, k7, k8, k9, k10⟩ := look_of hf
 obtain ⟨l⟩ := cs
 match l, hsz1 with
 | [c0, c1, c2, c3, c4, c5, c6, c7, c8, c9, c10], _ =>
  have e0 : c0 = .int .i64 q.r.x := by simpa [Value.cells] using k0
  have e1 : c1 = .int .i64 q.r.y := by simpa [Value.cells] using k1
  have e2 : c2 = .int .i64 q.r.z := by simpa [Value.cells] using k2
  have e3 : c3 = .int .i64 q.r.dx := by simpa [Value.cells] using k3
  have e4 : c4 = .int .i64 q.r.dy := by simpa [Value.cells] using k4
  have e5 : c5 = .int .i64 q.r.dz := by simpa [Value.cells] using k5
  have e6 : c6 = .int .i64 q.bin := by simpa [Value.cells] using k6
  have e7 : c7 = .int .i64 q.unit := by simpa [Value.cells] using k7
  have e8 : c8 = .int .i64 q.rate := by simpa [Value.cells] using k8
  have e9 : c9 = .int .i64 q.less := by simpa [Value.cells] using k9
  have e10 : c10 = .int .i64 q.more := by simpa [Value.cells] using k10
  subst e0 e1 e2 e3 e4 e5 e6 e7 e8 e9 e10
  exact ⟨q, rfl⟩
theorem int_wide {r : Reach} {b0 : Nat} {v : Value} {d : DataW H} {p : List MemPlace} (hv : Value.okWide Tryz.prog w r b0 3 v) (h : DataW.Trod enc Tryz.prog w base (fun _ => true) held 3 v d p) : ∃ i : Int, v = .int .i64 i ∧ (Lit.int .i64 i).wf = true := by
 obtain ⟨i, rfl, _, _, hw⟩ := open_int Tryz.underlying3 hv h
 exact ⟨i, rfl, hw⟩
end
end Go.Proofs.YtgmpelhphnmknaaGreat
