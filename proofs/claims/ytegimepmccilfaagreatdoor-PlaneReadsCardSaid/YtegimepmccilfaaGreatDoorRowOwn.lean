/- Rows that a call owns: cells of slices of structs; appends. No program here. -/
import Derived.Test.YtegimepmccilfaaGreatDoorPlaneData
import Derived.Deep.OwnRows
namespace Go.Proofs.YtegimepmccilfaaGreatDoor
open Go.RowKit
set_option linter.unusedVariables false
set_option linter.unusedSimpArgs false
/-- the cells of n elements, one behind the other -/
def flatN (f : Nat → List Value) : Nat → List Value
  | 0 => []
  | n + 1 => flatN f n ++ f n
theorem flatN_length {k : Nat} {f : Nat → List Value} (hf : ∀ i, (f i).length = k) : ∀ n, (flatN f n).length = n * k
  | 0 => by simp [flatN]
  | n + 1 => by rw [flatN, List.length_append, flatN_length hf n, hf, Nat.add_mul, Nat.one_mul]
theorem flatN_get {k : Nat} {f : Nat → List Value} (hf : ∀ i, (f i).length = k) : ∀ n i r, i < n → r < k → (flatN f n)[i * k + r]? = (f i)[r]?
  | 0, i, r, hi, _ => by omega
  | n + 1, i, r, hi, hr => by
    rw [flatN]
    by_cases e : i = n
    · subst e
      rw [List.getElem?_append_right (by rw [flatN_length hf]; omega), flatN_length hf]
      congr 1; omega
    · have h1 : i * k + r < n * k := by
        have : (i + 1) * k ≤ n * k := Nat.mul_le_mul_right k (by omega)
        rw [Nat.add_mul] at this; omega
      rw [List.getElem?_append_left (by rw [flatN_length hf]; exact h1)]
      exact flatN_get hf n i r (by omega) hr
theorem flatN_at {k : Nat} {f : Nat → List Value} (hk : 0 < k) (hf : ∀ i, (f i).length = k) {n j : Nat} {u : Value} (h : (flatN f n)[j]? = some u) : j / k < n ∧ (f (j / k))[j % k]? = some u := by
  have hl : j < n * k := by
    have := (List.getElem?_eq_some_iff.1 h).1
    rwa [flatN_length hf] at this
  have h1 : j / k < n := (Nat.div_lt_iff_lt_mul hk).2 hl
  have h2 : j / k * k + j % k = j := by rw [Nat.mul_comm]; exact Nat.div_add_mod j k
  refine ⟨h1, ?_⟩
  have := flatN_get hf n (j / k) (j % k) h1 (Nat.mod_lt _ hk)
  rw [h2] at this
  rw [← this]; exact h
theorem flatN_congr {f g : Nat → List Value} : ∀ n, (∀ i, i < n → f i = g i) → flatN f n = flatN g n
  | 0, _ => rfl
  | n + 1, h => by rw [flatN, flatN, flatN_congr n (fun i hi => h i (by omega)), h n (by omega)]
theorem flatN_mem {f : Nat → List Value} {u : Value} : ∀ n, u ∈ flatN f n → ∃ i, i < n ∧ u ∈ f i
  | 0, h => by simp [flatN] at h
  | n + 1, h => by
    rw [flatN, List.mem_append] at h
    rcases h with h | h
    · obtain ⟨i, hi, hu⟩ := flatN_mem n h; exact ⟨i, by omega, hu⟩
    · exact ⟨n, by omega, h⟩
/-- what a row that the call owns shows, cell by cell -/
theorem own_cells {w : World} {base : Nat} {e : TypeId} {k : Nat} {a : Option Addr} {n m c : Nat} {f : Nat → List Value} (hf : ∀ i, (f i).length = k) (h : w.ownsRow base e k (.slice a m c) n (flatN f n)) :
    m = n ∧ (n = 0 ∨ ∃ b, a = some ⟨b, 0, none⟩ ∧ base ≤ b ∧ b < w.heap.size ∧ ∀ i, i < n → ∀ r, r < k → w.cell? ⟨b, 0 + i * k + r, none⟩ = (f i)[r]?) := by
  rcases h.2 with ⟨hv, hn⟩ | ⟨g, cap, cur, hv, hb, hg, hnc, hcm, hcs, htake⟩
  · injection hv with h1 h2 h3
    exact ⟨by omega, .inl hn⟩
  · injection hv with h1 h2 h3
    refine ⟨h2, .inr ⟨g, h1, hb, (Array.getElem?_eq_some_iff.1 hg).1, fun i hi r hr => ?_⟩⟩
    rw [Nat.zero_add, cell_of_row w g _ cur e (0, 0) hg, ← flatN_get hf n i r hi hr, ← htake]
    have h1 : i * k + r < n * k := by
      have : (i + 1) * k ≤ n * k := Nat.mul_le_mul_right k (by omega)
      rw [Nat.add_mul] at this; omega
    rw [List.getElem?_take_of_lt h1]
    simp
theorem own_below {w w' : World} {base : Nat} {e : TypeId} {k : Nat} {v : Value} {n : Nat} {xs : List Value} (h : w.ownsRow base e k v n xs) (hb : Below w.heap.size w w') : w'.ownsRow base e k v n xs := by
  refine h.kept (row := none) ⟨hb.os, hb.tape, hb.output, hb.size, fun i hi _ => hb.block i hi⟩ ?_
  cases v.ownBlock <;> simp
theorem own_ne {w : World} {b1 b2 : Nat} {e1 e2 : TypeId} {k1 k2 : Nat} {v1 v2 : Value} {n1 n2 : Nat} {x1 x2 : List Value} (h1 : w.ownsRow b1 e1 k1 v1 n1 x1) (h2 : w.ownsRow b2 e2 k2 v2 n2 x2) (he : e1 ≠ e2) : v1.ownBlock = none ∨ v1.ownBlock ≠ v2.ownBlock := by
  rcases h1.2 with ⟨rfl, _⟩ | ⟨g, cap, cur, rfl, _, hg, _⟩
  · exact .inl rfl
  · right
    rcases h2.2 with ⟨rfl, _⟩ | ⟨g', cap', cur', rfl, _, hg', _⟩
    · simp [Value.ownBlock]
    · simp only [Value.ownBlock, ne_eq, Option.some.injEq]
      intro e
      subst e
      rw [hg] at hg'
      injection hg' with hg'
      injection hg' with _ h _
      exact he h
theorem own_base {w : World} {b1 b2 : Nat} {e : TypeId} {k : Nat} {v : Value} {n : Nat} {xs : List Value} (h : w.ownsRow b1 e k v n xs) (hb : b2 ≤ b1) : w.ownsRow b2 e k v n xs := by
  refine ⟨h.1, ?_⟩
  rcases h.2 with h | ⟨g, cap, cur, hv, hg, hr⟩
  · exact .inl h
  · exact .inr ⟨g, cap, cur, hv, by omega, hr⟩
theorem own_len {w : World} {base : Nat} {e : TypeId} {k : Nat} {v : Value} {n : Nat} {xs : List Value} (h : w.ownsRow base e k v n xs) : ∃ a c, v = .slice a n c := by
  rcases h.2 with ⟨rfl, rfl⟩ | ⟨g, cap, cur, rfl, _⟩
  · exact ⟨none, 0, rfl⟩
  · exact ⟨_, _, rfl⟩
/-! the cells of planes, drift steps and numbers -/
def PR.cells (p : PR) : List Value := [.int .i64 p.kind, .int .i64 p.view, .int .i64 p.z, .int .i64 p.first, .int .i64 p.pitch, .int .i64 p.strips, .int .i64 p.spill, .int .i64 p.olo, .int .i64 p.ohi, .int .i64 p.clo, .int .i64 p.chi, .int .i64 p.jitter, .int .i64 p.least, .slice p.da p.dn p.dc, .slice p.ea p.en p.ec]
def DV.cells (d : DV) : List Value := [.int .i64 d.time, .int .i64 d.lo, .int .i64 d.hi]
def dCells (ds : Nat → DV) : Nat → List Value := flatN fun i => (ds i).cells
def iCells (es : Nat → Int) : Nat → List Value := flatN fun i => [.int .i64 (es i)]
def pCells (qs : Nat → PR) : Nat → List Value := flatN fun i => (qs i).cells
theorem dCells_len (ds : Nat → DV) : ∀ i, (((fun i => (ds i).cells) : Nat → List Value) i).length = 3 := fun _ => rfl
theorem iCells_len (es : Nat → Int) : ∀ i, (((fun i => [.int .i64 (es i)]) : Nat → List Value) i).length = 1 := fun _ => rfl
theorem pCells_len (qs : Nat → PR) : ∀ i, (((fun i => (qs i).cells) : Nat → List Value) i).length = 15 := fun _ => rfl
theorem own_drifts {w : World} {base : Nat} {e : TypeId} {a : Option Addr} {n m c : Nat} {ds : Nat → DV} (h : w.ownsRow base e 3 (.slice a m c) n (dCells ds n)) : m = n ∧ Drifts w.heap.size w a n ds := by
  obtain ⟨hm, hc⟩ := own_cells (dCells_len ds) h
  refine ⟨hm, ?_⟩
  rcases hc with h0 | ⟨b, ha, _, hb, hc⟩
  · exact .inl h0
  · exact .inr ⟨b, 0, ha, hb, fun i hi => ⟨hc i hi 0 (by omega), hc i hi 1 (by omega), hc i hi 2 (by omega)⟩⟩
theorem own_ints {w : World} {base : Nat} {e : TypeId} {a : Option Addr} {n m c : Nat} {es : Nat → Int} (h : w.ownsRow base e 1 (.slice a m c) n (iCells es n)) : m = n ∧ Ints w.heap.size w a n es := by
  obtain ⟨hm, hc⟩ := own_cells (iCells_len es) h
  refine ⟨hm, ?_⟩
  rcases hc with h0 | ⟨b, ha, _, hb, hc⟩
  · exact .inl h0
  · exact .inr ⟨b, 0, ha, hb, fun i hi => by have := hc i hi 0 (by omega); rw [Nat.mul_one] at this; exact this⟩
theorem own_planes {w : World} {base : Nat} {e : TypeId} {a : Option Addr} {n m c : Nat} {qs : Nat → PR} (h : w.ownsRow base e 15 (.slice a m c) n (pCells qs n)) (hn : n ≤ maxLen) (hm : ∀ i, i < n → (qs i).mem w.heap.size w) : m = n ∧ Planes w.heap.size w a n qs := by
  obtain ⟨hmn, hc⟩ := own_cells (pCells_len qs) h
  refine ⟨hmn, hn, ?_⟩
  rcases hc with h0 | ⟨b, ha, _, hb, hc⟩
  · exact .inl h0
  · exact .inr ⟨b, 0, ha, hb, fun i hi => ⟨⟨hc i hi 0 (by omega), hc i hi 1 (by omega), hc i hi 2 (by omega), hc i hi 3 (by omega), hc i hi 4 (by omega), hc i hi 5 (by omega), hc i hi 6 (by omega), hc i hi 7 (by omega), hc i hi 8 (by omega), hc i hi 9 (by omega), hc i hi 10 (by omega), hc i hi 11 (by omega), hc i hi 12 (by omega), hc i hi 13 (by omega), hc i hi 14 (by omega)⟩, hm i hi⟩⟩
theorem addr_add (b o j : Nat) : (⟨b, o, none⟩ : Addr).add j = ⟨b, o + j, none⟩ := by unfold Addr.add; split <;> simp_all
theorem drifts_cells {B : Nat} {w : World} {b off n : Nat} {ds : Nat → DV} (hc : ∀ i, i < n → w.cell? ⟨b, off + i * 3, none⟩ = some (.int .i64 (ds i).time) ∧ w.cell? ⟨b, off + i * 3 + 1, none⟩ = some (.int .i64 (ds i).lo) ∧ w.cell? ⟨b, off + i * 3 + 2, none⟩ = some (.int .i64 (ds i).hi)) :
    ∀ j u, (dCells ds n)[j]? = some u → w.cell? ((⟨b, off, none⟩ : Addr).add j) = some u := by
  intro j u h
  obtain ⟨h1, h2⟩ := flatN_at (k := 3) (by omega) (dCells_len ds) h
  obtain ⟨c0, c1, c2⟩ := hc (j / 3) h1
  rw [addr_add]
  have hj : off + j = off + j / 3 * 3 + j % 3 := by omega
  have hr : j % 3 = 0 ∨ j % 3 = 1 ∨ j % 3 = 2 := by omega
  rw [hj]
  rcases hr with e | e | e <;> rw [e] at h2 ⊢ <;> simp [DV.cells] at h2 <;> subst h2
  · exact c0
  · exact c1
  · exact c2
theorem ints_cells {w : World} {b off n : Nat} {es : Nat → Int} (hc : ∀ i, i < n → w.cell? ⟨b, off + i, none⟩ = some (.int .i64 (es i))) :
    ∀ j u, (iCells es n)[j]? = some u → w.cell? ((⟨b, off, none⟩ : Addr).add j) = some u := by
  intro j u h
  obtain ⟨h1, h2⟩ := flatN_at (k := 1) (by omega) (iCells_len es) h
  rw [Nat.div_one] at h1 h2
  rw [Nat.mod_one] at h2
  simp at h2
  subst h2
  rw [addr_add]
  exact hc j h1
theorem cells_new {w : World} {t : TypeId} {xs : List Value} : ∀ j u, xs[j]? = some u → (w.alloc (.cells xs.toArray t)).cell? ((⟨w.heap.size, 0, none⟩ : Addr).add j) = some u := by
  intro j u h
  rw [addr_add, Nat.zero_add]
  exact (cell_of_row _ _ _ _ _ _ (heap_alloc_new _ _)).trans (by simpa using h)
theorem dCells_one {ds : Nat → DV} {n : Nat} : ∀ u ∈ dCells ds n, u.oneCell' = true := by
  intro u hu
  obtain ⟨i, _, h⟩ := flatN_mem n hu
  simp [DV.cells] at h
  rcases h with rfl | rfl | rfl <;> rfl
theorem iCells_one {es : Nat → Int} {n : Nat} : ∀ u ∈ iCells es n, u.oneCell' = true := by
  intro u hu
  obtain ⟨i, _, h⟩ := flatN_mem n hu
  simp at h
  subst h; rfl
end Go.Proofs.YtegimepmccilfaaGreatDoor
