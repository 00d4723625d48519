/- Images that come in, opened. -/
import Derived.Test.YtkdopjkdokgipaaGreatDoorImData
import Derived.Test.YtkdopjkdokgipaaGreatDoorRows
import Derived.WalkKit
import Derived.ProofKit
import Derived.OpenShut
import Derived.ChangeOld
import Derived.Below
import Derived.Deep.Slices
import Derived.Deep.Fields
import Derived.ChangeSame
import Derived.Lib.SmallJoins
namespace Go.Proofs.YtkdopjkdokgipaaGreatDoor
open Go.ChangeShapes Go.WideShapes Go.ChangeAt Go.RowKit Go.Deep Go.Joins
set_option linter.unusedVariables false
set_option linter.unusedSimpArgs false
theorem choose_upto {α : Type} [Nonempty α] {n : Nat} {Q : Nat → α → Prop} (h : ∀ i, i < n → ∃ x, Q i x) : ∃ f : Nat → α, ∀ i, i < n → Q i (f i) :=
  ⟨fun i => Classical.epsilon (Q i), fun i hi => Classical.epsilon_spec (h i hi)⟩
theorem cell_lt {w : World} {a : Addr} {v : Value} (h : w.cell? a = some v) : a.block < w.heap.size := by
  cases hh : w.heap[a.block]? with
  | none => simp [World.cell?, hh] at h
  | some o => exact (Array.getElem?_eq_some_iff.1 hh).1
theorem one_of_take {cs : List Value} {o c : Nat} {v : Value} (h : (cs.drop o).take c = [v]) : cs[o]? = some v := by
  have h0 : ((cs.drop o).take c)[0]? = some v := by rw [h]; rfl
  rw [List.getElem?_take] at h0
  split at h0
  · simpa using h0
  · simp at h0
section
variable {H : Type} {enc : TypeId × Value → H} {P : Program} {w : World} {base : Nat} {spare : Nat → Bool} {held : Bool}
theorem field_int {t : TypeId} {k : IntKind} {n o c : Nat} {cs : List Value} {y : Option (DataW H × List MemPlace)} {z : DataW H × List MemPlace} (ht : P.underlying t = some (.int k)) (h : DataW.trod enc P w base spare held n t ((cs.drop o).take c) = y) (hy : y = some z) : ∃ m, cs[o]? = some (.int k m) := by
  subst hy
  obtain ⟨m, hm, _⟩ := DataW.trod_int ht h
  exact ⟨m, one_of_take hm⟩
theorem add_at (b off k : Nat) : (⟨b, off, none⟩ : Addr).add k = ⟨b, off + k, none⟩ := by
  unfold Addr.add
  split
  · rename_i h; subst h; rfl
  · rfl
theorem take_one {cs : List Value} {o : Nat} {v : Value} (h : cs[o]? = some v) : (cs.drop o).take 1 = [v] := by
  obtain ⟨hl, rfl⟩ := List.getElem?_eq_some_iff.1 h
  rw [List.drop_eq_getElem_cons hl]; rfl
/-- a slice of structs that came in: nil, or cells at an address -/
theorem rows_of {t e : TypeId} {fuel k : Nat} {cs : List Value} {o c : Nat} {y : Option (DataW H × List MemPlace)} {z : DataW H × List MemPlace} (ht : P.underlying t = some (.slice e)) (hk : P.cellsOf e = k) (hk0 : 0 < k) (h : DataW.trod enc P w base (fun _ => true) held fuel t ((cs.drop o).take c) = y) (hy : y = some z) :
    ∃ (a : Option Addr) (len cap : Nat), cs[o]? = some (.slice a len cap) ∧ len ≤ maxLen ∧ len ≤ cap ∧ cap ≤ maxLen ∧ (len = 0 ∨ ∃ b off, a = some ⟨b, off, none⟩ ∧ b < w.heap.size ∧ ∀ i, i < len → ∃ cs' n x, cs'.length = k ∧ (∀ j, j < k → w.cell? ⟨b, off + i * k + j, none⟩ = cs'[j]?) ∧ DataW.trod enc P w base (fun _ => true) held n e cs' = some x) := by
  subst hy
  rcases open_slice ht h with ⟨hcs, _⟩ | ⟨a, len, cap, m, n, D, Pl, hcs, hb, hl, hm, hmm, hx, hi⟩
  · exact ⟨none, 0, 0, one_of_take hcs, by decide, by decide, by decide, .inl rfl⟩
  · refine ⟨some a, len, cap, one_of_take hcs, by omega, hl, hm, ?_⟩
    by_cases h0 : len = 0
    · exact .inl h0
    right
    simp only [if_true] at hmm
    obtain ⟨cs0, hc0, _⟩ := hi 0 (by omega)
    rw [hk] at hc0
    have hblk := World.cells?_block hc0 hk0
    obtain ⟨_, hl0, hat0⟩ := World.cells?_some hc0
    have hz := hat0 0 hk0
    rw [List.getElem?_eq_getElem (by omega)] at hz
    have hsp := World.cell?_spot hz
    obtain ⟨b, off, spot⟩ := a
    have hspot : spot = none := by simpa [Addr.add] using hsp
    subst hspot
    refine ⟨b, off, rfl, by simpa [Addr.add] using hblk, fun i hil => ?_⟩
    obtain ⟨cs', hc, ht'⟩ := hi i (by omega)
    rw [hk] at hc
    obtain ⟨_, hl', hat⟩ := World.cells?_some hc
    refine ⟨cs', n, _, hl', fun j hj => ?_, ht'⟩
    have := hat j hj
    rw [add_at, add_at] at this
    exact this
end
theorem get_take {cs : List Value} {o c i : Nat} {v : Value} (h : ((cs.drop o).take c)[i]? = some v) : cs[o + i]? = some v := by
  rw [List.getElem?_take] at h
  split at h
  · simpa using h
  · simp at h
instance : Nonempty SV := ⟨⟨0, 0⟩⟩
instance : Nonempty BM := ⟨⟨none, 0, 0, none, 0, 0, 0, 0, fun _ => 0, fun _ => 0⟩⟩
section
variable {H : Type} {enc : TypeId × Value → H} {w : World} {base : Nat} {held : Bool}
set_option maxRecDepth 100000 in
theorem ints_of {n o c : Nat} {cs : List Value} {y : Option (DataW H × List MemPlace)} {z : DataW H × List MemPlace} (h : DataW.trod enc Tryz.prog w base (fun _ => true) held n 24 ((cs.drop o).take c) = y) (hy : y = some z) :
    ∃ (a : Option Addr) (len cap : Nat) (es : Nat → Int), cs[o]? = some (.slice a len cap) ∧ len ≤ maxLen ∧ Ints w.heap.size w a len es := by
  obtain ⟨a, len, cap, hcs, hl, _, _, hr⟩ := rows_of (k := 1) Tryz.underlying24 (by kernel_rfl) (by decide) h hy
  rcases hr with h0 | ⟨b, off, ha, hb, hi⟩
  · exact ⟨a, len, cap, fun _ => 0, hcs, hl, .inl h0⟩
  · obtain ⟨es, hes⟩ := choose_upto (α := Int) (n := len) (Q := fun i e => w.cell? ⟨b, off + i, none⟩ = some (.int .i64 e)) (fun i hil => by
      obtain ⟨cs', m, x, hl', hat, ht⟩ := hi i hil
      obtain ⟨e, he, _⟩ := DataW.trod_int Tryz.underlying3 ht
      have := hat 0 (by decide)
      rw [he] at this
      exact ⟨e, by simpa using this⟩)
    exact ⟨a, len, cap, es, hcs, hl, .inr ⟨b, off, ha, hb, hes⟩⟩
set_option maxRecDepth 100000 in
theorem spans_of {n o c : Nat} {cs : List Value} {y : Option (DataW H × List MemPlace)} {z : DataW H × List MemPlace} (h : DataW.trod enc Tryz.prog w base (fun _ => true) held n 46 ((cs.drop o).take c) = y) (hy : y = some z) :
    ∃ (a : Option Addr) (len cap : Nat) (ss : Nat → SV), cs[o]? = some (.slice a len cap) ∧ Spans w.heap.size w a len ss ∧ len ≤ cap ∧ cap ≤ maxLen := by
  obtain ⟨a, len, cap, hcs, hl, hlc, hcm, hr⟩ := rows_of (k := 2) Tryz.underlying46 (by kernel_rfl) (by decide) h hy
  rcases hr with h0 | ⟨b, off, ha, hb, hi⟩
  · exact ⟨a, len, cap, fun _ => ⟨0, 0⟩, hcs, ⟨hl, .inl h0⟩, hlc, hcm⟩
  · obtain ⟨ss, hss⟩ := choose_upto (α := SV) (n := len) (Q := fun i q => w.cell? ⟨b, off + i * 2, none⟩ = some (.int .i64 q.lo) ∧ w.cell? ⟨b, off + i * 2 + 1, none⟩ = some (.int .i64 q.hi)) (fun i hil => by
      obtain ⟨cs', m, x, hl', hat, ht⟩ := hi i hil
      obtain ⟨y0, y1, m', _, _, h0, h1⟩ := trod_struct2 Tryz.underlying28 ht
      obtain ⟨u, hu⟩ := field_int Tryz.underlying3 h0 rfl
      obtain ⟨v, hv⟩ := field_int Tryz.underlying3 h1 rfl
      exact ⟨⟨u, v⟩, (hat 0 (by decide)).trans hu, (hat 1 (by decide)).trans hv⟩)
    exact ⟨a, len, cap, ss, hcs, ⟨hl, .inr ⟨b, off, ha, hb, hss⟩⟩, hlc, hcm⟩
theorem beam_of {n : Nat} {cs : List Value} {x : DataW H × List MemPlace} (h : DataW.trod enc Tryz.prog w base (fun _ => true) held n 31 cs = some x) :
    ∃ p : BM, (cs[0]? = some (.slice p.ca p.cn p.cc) ∧ cs[1]? = some (.slice p.wa p.wn p.wc) ∧ cs[2]? = some (.int .i64 p.lo) ∧ cs[3]? = some (.int .i64 p.hi)) ∧ p.mem w.heap.size w := by
  obtain ⟨xs, m, _, _, _, hxl, hf⟩ := DataW.trod_struct Tryz.underlying31 h
  have hx : ∀ i, i < 4 → ∃ z, xs[i]? = some z := fun i hi => ⟨_, List.getElem?_eq_getElem (by rw [hxl]; exact hi)⟩
  obtain ⟨z0, e0⟩ := hx 0 (by decide)
  obtain ⟨z1, e1⟩ := hx 1 (by decide)
  obtain ⟨z2, e2⟩ := hx 2 (by decide)
  obtain ⟨z3, e3⟩ := hx 3 (by decide)
  obtain ⟨ca, cn, cc, cs', k0, hcn, hC⟩ := ints_of (hf 0 _ rfl) e0
  obtain ⟨wa, wn, wc, ws, k1, hwn, hW⟩ := ints_of (hf 1 _ rfl) e1
  obtain ⟨lo, k2⟩ := field_int Tryz.underlying3 (hf 2 _ rfl) e2
  obtain ⟨hi, k3⟩ := field_int Tryz.underlying3 (hf 3 _ rfl) e3
  exact ⟨⟨ca, cn, cc, wa, wn, wc, lo, hi, cs', ws⟩, ⟨k0, k1, k2, k3⟩, hcn, hwn, hC, hW⟩
set_option maxRecDepth 100000 in
theorem beams_of {n o c : Nat} {cs : List Value} {y : Option (DataW H × List MemPlace)} {z : DataW H × List MemPlace} (h : DataW.trod enc Tryz.prog w base (fun _ => true) held n 48 ((cs.drop o).take c) = y) (hy : y = some z) :
    ∃ (a : Option Addr) (len cap : Nat) (bs : Nat → BM), cs[o]? = some (.slice a len cap) ∧ Beams w.heap.size w a len bs := by
  obtain ⟨a, len, cap, hcs, hl, hlc, hcm, hr⟩ := rows_of (k := 4) Tryz.underlying48 (by kernel_rfl) (by decide) h hy
  rcases hr with h0 | ⟨b, off, ha, hb, hi⟩
  · exact ⟨a, len, cap, fun _ => Classical.choice inferInstance, hcs, ⟨hl, .inl h0⟩⟩
  · obtain ⟨bs, hbs⟩ := choose_upto (α := BM) (n := len) (Q := fun i p => p.at w b (off + i * 4) ∧ p.mem w.heap.size w) (fun i hil => by
      obtain ⟨cs', m, x, hl', hat, ht⟩ := hi i hil
      obtain ⟨q, ⟨k0, k1, k2, k3⟩, hm⟩ := beam_of ht
      exact ⟨q, ⟨(hat 0 (by decide)).trans k0, (hat 1 (by decide)).trans k1, (hat 2 (by decide)).trans k2, (hat 3 (by decide)).trans k3⟩, hm⟩)
    exact ⟨a, len, cap, bs, hcs, hl, .inr ⟨b, off, ha, hb, hbs⟩⟩
set_option maxRecDepth 100000 in
theorem open_image {r : Reach} {b0 : Nat} {v : Value} {d : DataW H} {p : List MemPlace} (hv : Value.okWide Tryz.prog w r b0 50 v) (h : DataW.Trod enc Tryz.prog w base (fun _ => true) held 50 v d p) :
    ∃ (a : Option Addr) (n c : Nat) (ba : Option Addr) (m bc : Nat) (ss : Nat → SV) (bs : Nat → BM), v = imageV a n c ba m bc ∧ Spans w.heap.size w a n ss ∧ Beams w.heap.size w ba m bs ∧ n ≤ c ∧ c ≤ maxLen := by
  obtain ⟨cs, rfl, hsz⟩ := okWide_struct Tryz.underlying50 hv
  have hsz1 : cs.size = 2 := hsz.trans (by kernel_rfl)
  obtain ⟨fuel, hf⟩ := h
  obtain ⟨y0, y1, m, _, _, h0, h1⟩ := trod_struct2 Tryz.underlying50 hf
  obtain ⟨a, n, c, ss, hc0, hS, hnc, hcm⟩ := spans_of h0 rfl
  obtain ⟨ba, mm, bc, bs, hc1, hM⟩ := beams_of h1 rfl
  obtain ⟨l⟩ := cs
  match l, hsz1 with
  | [c0, c1], _ =>
    have e0 : c0 = .slice a n c := by simpa [Value.cells] using hc0
    have e1 : c1 = .slice ba mm bc := by simpa [Value.cells] using hc1
    subst e0 e1
    exact ⟨a, n, c, ba, mm, bc, ss, bs, rfl, hS, hM, hnc, hcm⟩
end
end Go.Proofs.YtkdopjkdokgipaaGreatDoor
