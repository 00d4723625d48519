/- Texts put together: ToFlux, PlaneData, ToFlxA, ToFlxB. -/
import Derived.KernelRfl
import Derived.Test.YtgmpelhphnmknaaGreatQaa
import Derived.Test.YtgmpelhphnmknaaGreatProg
import Derived.BigRegion
import Derived.BigQuiet
set_option maxRecDepth 100000
set_option maxHeartbeats 8000000
set_option linter.unusedVariables false
set_option linter.unusedSimpArgs false
namespace Go.Proofs.YtgmpelhphnmknaaGreat
def fstN : Nat → (Nat → Bool) → Nat
  | 0, _ => 0
  | n + 1, p => if p 0 = true then 0 else fstN n (fun i => p (i + 1)) + 1
theorem fst_le : ∀ (n : Nat) (p : Nat → Bool), fstN n p ≤ n
  | 0, _ => Nat.le_refl _
  | n + 1, p => by
    unfold fstN
    split
    · omega
    · have := fst_le n (fun i => p (i + 1))
      omega
theorem fst_not : ∀ {n : Nat} {p : Nat → Bool} {j : Nat}, j < fstN n p → p j = false
  | 0, _, _, h => by simp [fstN] at h
  | n + 1, p, j, h => by
    unfold fstN at h
    split at h
    · omega
    · rename_i h0
      cases j with
      | zero => simpa using h0
      | succ j => exact fst_not (n := n) (p := fun i => p (i + 1)) (by omega)
theorem fst_is : ∀ {n : Nat} {p : Nat → Bool}, fstN n p < n → p (fstN n p) = true
  | 0, _, h => by simp [fstN] at h
  | n + 1, p, h => by
    unfold fstN at h ⊢
    split
    · assumption
    · rename_i h0
      rw [if_neg h0] at h
      exact fst_is (n := n) (p := fun i => p (i + 1)) (by omega)
theorem fst_mono {n : Nat} {p q : Nat → Bool} (h : ∀ i, i < n → p i = true → q i = true) : fstN n q ≤ fstN n p := by
  rcases Nat.lt_or_ge (fstN n p) (fstN n q) with h1 | h1
  · have h2 := fst_not h1
    have h3 := fst_le n q
    have h4 := h _ (by omega) (fst_is (by omega : fstN n p < n))
    rw [h2] at h4
    cases h4
  · exact h1
theorem fst_same {n : Nat} {p q : Nat → Bool} (h : ∀ i, i < n → p i = q i) : fstN n p = fstN n q := Nat.le_antisymm (fst_mono fun i hi k => by rw [h i hi]; exact k) (fst_mono fun i hi k => by rw [← h i hi]; exact k)
structure RW where
  key : Int
  lo : Int
  hi : Int
structure TabOk (n : Nat) (t : Nat → RW) : Prop where
  pos : 1 ≤ n
  key : ∀ i, i < n → 1 ≤ (t i).key ∧ (t i).key ≤ 1000000
  span : ∀ i, i < n → 0 ≤ (t i).lo ∧ (t i).lo ≤ (t i).hi ∧ (t i).hi ≤ 1000000
  up : ∀ i, i + 1 < n → (t i).key < (t (i + 1)).key ∧ (t i).lo ≤ (t (i + 1)).lo ∧ (t i).hi ≤ (t (i + 1)).hi
structure BinOk (P : Int) (m : Nat) (l : Nat → RW) : Prop where
  pos : 1 ≤ m
  one : (l 0).key = 1
  span : ∀ i, i < m → 0 ≤ (l i).lo ∧ (l i).lo ≤ (l i).hi ∧ (l i).hi ≤ P
  down : ∀ i, i + 1 < m → (l i).key < (l (i + 1)).key ∧ (l (i + 1)).lo ≤ (l i).lo ∧ (l (i + 1)).hi ≤ (l i).hi
theorem BinOk.keys {P : Int} {m : Nat} {l : Nat → RW} (h : BinOk P m l) {i : Nat} : ∀ {d : Nat}, i + d < m → (l i).key + d ≤ (l (i + d)).key
  | 0, _ => by simp
  | d + 1, hd => by
    have h1 := h.keys (i := i) (d := d) (by omega)
    have h2 := (h.down (i + d) (by omega)).1
    have e : i + (d + 1) = i + d + 1 := by omega
    rw [e]
    omega
theorem BinOk.falls {P : Int} {m : Nat} {l : Nat → RW} (h : BinOk P m l) {i : Nat} : ∀ {d : Nat}, i + d < m → (l (i + d)).lo ≤ (l i).lo ∧ (l (i + d)).hi ≤ (l i).hi
  | 0, _ => by simp
  | d + 1, hd => by
    have h1 := h.falls (i := i) (d := d) (by omega)
    have h2 := (h.down (i + d) (by omega)).2
    have e : i + (d + 1) = i + d + 1 := by omega
    rw [e]
    omega
theorem TabOk.keys {n : Nat} {t : Nat → RW} (h : TabOk n t) {i : Nat} : ∀ {d : Nat}, i + d < n → (t i).key + d ≤ (t (i + d)).key
  | 0, _ => by simp
  | d + 1, hd => by
    have h1 := h.keys (i := i) (d := d) (by omega)
    have h2 := (h.up (i + d) (by omega)).1
    have e : i + (d + 1) = i + d + 1 := by omega
    rw [e]
    omega
def thrLo (n : Nat) (t : Nat → RW) (x : Int) : Int := if x = 0 then 1 else if 0 < fstN n (fun i => decide (x ≤ (t i).hi)) then (t (fstN n (fun i => decide (x ≤ (t i).hi)) - 1)).key + 1 else 1
def thrHi (n : Nat) (t : Nat → RW) (x : Int) : Int := if x = 0 then 1 else if fstN n (fun i => decide (x ≤ (t i).lo)) < n then (t (fstN n (fun i => decide (x ≤ (t i).lo)))).key else -1
def abvHi (m : Nat) (l : Nat → RW) (T : Int) : Int := if 0 < fstN m (fun i => decide (T < (l i).key)) then (l (fstN m (fun i => decide (T < (l i).key)) - 1)).hi else (l 0).hi
def abvLo (m : Nat) (l : Nat → RW) (T : Int) : Int := if T = -1 then 0 else if fstN m (fun i => decide (T ≤ (l i).key)) < m then (l (fstN m (fun i => decide (T ≤ (l i).key)))).lo else 0
def exHi (n : Nat) (t : Nat → RW) (m : Nat) (l : Nat → RW) (x : Int) : Int := abvHi m l (thrLo n t x)
def exLo (n : Nat) (t : Nat → RW) (m : Nat) (l : Nat → RW) (x : Int) : Int := abvLo m l (thrHi n t x)
section
variable {n m : Nat} {t l : Nat → RW} {P : Int}
theorem thrLo_pos (h : TabOk n t) {x : Int} : 1 ≤ thrLo n t x := by
  unfold thrLo
  split
  · omega
  · split
    · rename_i h1
      have h2 := fst_le n (fun i => decide (x ≤ (t i).hi))
      have := (h.key (fstN n (fun i => decide (x ≤ (t i).hi)) - 1) (by omega)).1
      omega
    · omega
theorem thrHi_pos (h : TabOk n t) {x : Int} : thrHi n t x = -1 ∨ 1 ≤ thrHi n t x := by
  unfold thrHi
  split
  · right; omega
  · split
    · rename_i h1
      exact .inr (h.key _ h1).1
    · exact .inl rfl
theorem thr_le (h : TabOk n t) {x : Int} (hH : thrHi n t x ≠ -1) : thrLo n t x ≤ thrHi n t x := by
  unfold thrLo thrHi at *
  by_cases h0 : x = 0
  · rw [if_pos h0, if_pos h0]
    omega
  · rw [if_neg h0] at hH ⊢
    rw [if_neg h0]
    have hij : fstN n (fun i => decide (x ≤ (t i).hi)) ≤ fstN n (fun i => decide (x ≤ (t i).lo)) := fst_mono fun i hi k => by
      rw [decide_eq_true_eq] at k ⊢
      have := (h.span i hi).2.1
      omega
    generalize fstN n (fun i => decide (x ≤ (t i).hi)) = i at *
    generalize fstN n (fun i => decide (x ≤ (t i).lo)) = j at *
    by_cases hj : j < n
    · rw [if_pos hj]
      have hk := (h.key j hj).1
      split
      · have := h.keys (i := i - 1) (d := j - (i - 1)) (by omega)
        rw [show i - 1 + (j - (i - 1)) = j by omega] at this
        omega
      · omega
    · rw [if_neg hj] at hH
      exact absurd rfl hH
theorem thrLo_mono (h : TabOk n t) {x y : Int} (h0 : 0 ≤ x) (hxy : x ≤ y) : thrLo n t x ≤ thrLo n t y := by
  have hp := thrLo_pos h (x := y)
  unfold thrLo at *
  by_cases hx : x = 0
  · rw [if_pos hx]
    exact hp
  · rw [if_neg hx]
    rw [if_neg (show ¬ y = 0 by omega)] at hp ⊢
    have hij : fstN n (fun i => decide (x ≤ (t i).hi)) ≤ fstN n (fun i => decide (y ≤ (t i).hi)) := fst_mono fun i hi k => by
      rw [decide_eq_true_eq] at k ⊢
      omega
    have hl := fst_le n (fun i => decide (y ≤ (t i).hi))
    generalize fstN n (fun i => decide (x ≤ (t i).hi)) = i at *
    generalize fstN n (fun i => decide (y ≤ (t i).hi)) = j at *
    by_cases hi : 0 < i
    · rw [if_pos hi, if_pos (by omega)]
      have := h.keys (i := i - 1) (d := j - i) (by omega)
      rw [show i - 1 + (j - i) = j - 1 by omega] at this
      omega
    · rw [if_neg hi]
      exact hp
def NotMore (a b : Int) : Prop := b = -1 ∨ (a ≠ -1 ∧ a ≤ b)
theorem thrHi_mono (h : TabOk n t) {x y : Int} (h0 : 0 ≤ x) (hxy : x ≤ y) : NotMore (thrHi n t x) (thrHi n t y) := by
  unfold NotMore
  rcases thrHi_pos h (x := y) with hy | hy
  · exact .inl hy
  · right
    unfold thrHi at *
    by_cases hx : x = 0
    · rw [if_pos hx]
      exact ⟨by decide, hy⟩
    · rw [if_neg hx]
      rw [if_neg (show ¬ y = 0 by omega)] at hy ⊢
      have hij : fstN n (fun i => decide (x ≤ (t i).lo)) ≤ fstN n (fun i => decide (y ≤ (t i).lo)) := fst_mono fun i hi k => by
        rw [decide_eq_true_eq] at k ⊢
        omega
      generalize fstN n (fun i => decide (x ≤ (t i).lo)) = i at *
      generalize fstN n (fun i => decide (y ≤ (t i).lo)) = j at *
      by_cases hj : j < n
      · rw [if_pos hj] at hy ⊢
        rw [if_pos (show i < n by omega)]
        have hk := (h.key i (by omega)).1
        have := h.keys (i := i) (d := j - i) (by omega)
        rw [show i + (j - i) = j by omega] at this
        omega
      · rw [if_neg hj] at hy
        omega
theorem abvHi_anti (h : BinOk P m l) {a b : Int} (ha : 1 ≤ a) (hab : a ≤ b) : abvHi m l b ≤ abvHi m l a := by
  unfold abvHi
  have hij : fstN m (fun i => decide (a < (l i).key)) ≤ fstN m (fun i => decide (b < (l i).key)) := fst_mono fun i hi k => by
    rw [decide_eq_true_eq] at k ⊢
    omega
  have hl := fst_le m (fun i => decide (b < (l i).key))
  generalize fstN m (fun i => decide (a < (l i).key)) = i at *
  generalize fstN m (fun i => decide (b < (l i).key)) = j at *
  by_cases hi : 0 < i
  · rw [if_pos hi, if_pos (by omega)]
    have := (h.falls (i := i - 1) (d := j - i) (by omega)).2
    rw [show i - 1 + (j - i) = j - 1 by omega] at this
    exact this
  · rw [if_neg hi]
    split
    · have := (h.falls (i := 0) (d := j - 1) (by omega)).2
      rw [Nat.zero_add] at this
      exact this
    · omega
theorem abvLo_pos (h : BinOk P m l) {a : Int} : 0 ≤ abvLo m l a := by
  unfold abvLo
  split
  · omega
  · split
    · rename_i h1
      exact (h.span _ h1).1
    · omega
theorem abvLo_anti (h : BinOk P m l) {a b : Int} (hab : NotMore a b) : abvLo m l b ≤ abvLo m l a := by
  rcases hab with hb | ⟨ha, hab⟩
  · subst hb
    exact abvLo_pos h
  · have hp := abvLo_pos h (a := a)
    unfold abvLo at *
    rw [if_neg ha] at hp ⊢
    split
    · exact hp
    · have hij : fstN m (fun i => decide (a ≤ (l i).key)) ≤ fstN m (fun i => decide (b ≤ (l i).key)) := fst_mono fun i hi k => by
        rw [decide_eq_true_eq] at k ⊢
        omega
      generalize fstN m (fun i => decide (a ≤ (l i).key)) = i at *
      generalize fstN m (fun i => decide (b ≤ (l i).key)) = j at *
      split
      · rename_i hj
        rw [if_pos (show i < m by omega)]
        have := (h.falls (i := i) (d := j - i) (by omega)).1
        rw [show i + (j - i) = j by omega] at this
        exact this
      · exact hp
theorem abvHi_most (h : BinOk P m l) {a : Int} : abvHi m l a ≤ P := by
  unfold abvHi
  have hl := fst_le m (fun i => decide (a < (l i).key))
  have hp := h.pos
  split
  · exact (h.span _ (by omega)).2.2
  · exact (h.span 0 (by omega)).2.2
theorem abv_le (h : BinOk P m l) {a b : Int} (ha : 1 ≤ a) (hab : b ≠ -1 → a ≤ b) : abvLo m l b ≤ abvHi m l a := by
  have hp := h.pos
  have h0 : 0 ≤ abvHi m l a := by
    unfold abvHi
    have hl := fst_le m (fun i => decide (a < (l i).key))
    split
    · have := h.span (fstN m (fun i => decide (a < (l i).key)) - 1) (by omega)
      omega
    · have := h.span 0 (by omega)
      omega
  by_cases hb : b = -1
  · unfold abvLo
    rw [if_pos hb]
    exact h0
  · have hab := hab hb
    unfold abvLo abvHi at *
    rw [if_neg hb]
    split
    · rename_i hj
      have hjk := fst_is hj
      rw [decide_eq_true_eq] at hjk
      have hnot : ∀ k, k < fstN m (fun i => decide (a < (l i).key)) → (l k).key ≤ a := fun k hk => by
        have := fst_not hk
        rw [decide_eq_false_iff_not] at this
        omega
      have hl := fst_le m (fun i => decide (a < (l i).key))
      have h1 : 0 < fstN m (fun i => decide (a < (l i).key)) := by
        rcases Nat.eq_zero_or_pos (fstN m (fun i => decide (a < (l i).key))) with h2 | h2
        · have h3 := fst_is (n := m) (p := fun i => decide (a < (l i).key)) (by omega)
          rw [h2, decide_eq_true_eq, h.one] at h3
          omega
        · exact h2
      rw [if_pos h1] at h0 ⊢
      generalize fstN m (fun i => decide (a < (l i).key)) = i at *
      generalize fstN m (fun i => decide (b ≤ (l i).key)) = j at *
      rcases Nat.lt_or_ge j (i - 1) with h4 | h4
      · have h5 := h.keys (i := j) (d := i - 1 - j) (by omega)
        rw [show j + (i - 1 - j) = i - 1 by omega] at h5
        have h6 := hnot (i - 1) (by omega)
        omega
      · have h5 := (h.falls (i := i - 1) (d := j - (i - 1)) (by omega)).2
        rw [show i - 1 + (j - (i - 1)) = j by omega] at h5
        have h6 := (h.span j hj).2.1
        omega
    · exact h0
theorem ex_ok (ht : TabOk n t) (hl : BinOk P m l) (x : Int) : 0 ≤ exLo n t m l x ∧ exLo n t m l x ≤ exHi n t m l x ∧ exHi n t m l x ≤ P := ⟨abvLo_pos hl, abv_le hl (thrLo_pos ht) (fun h => thr_le ht h), abvHi_most hl⟩
theorem ex_anti (ht : TabOk n t) (hl : BinOk P m l) {x y : Int} (h0 : 0 ≤ x) (hxy : x ≤ y) : exLo n t m l y ≤ exLo n t m l x ∧ exHi n t m l y ≤ exHi n t m l x := ⟨abvLo_anti hl (thrHi_mono ht h0 hxy), abvHi_anti hl (thrLo_pos ht) (thrLo_mono ht h0 hxy)⟩
theorem ex_same {x y : Int} (hx : 1 ≤ x) (hxy : x ≤ y) (h : ∀ i, i < n → ¬ (x < (t i).lo + 1 ∧ (t i).lo + 1 ≤ y) ∧ ¬ (x < (t i).hi + 1 ∧ (t i).hi + 1 ≤ y)) : exLo n t m l y = exLo n t m l x ∧ exHi n t m l y = exHi n t m l x := by
  have e1 : fstN n (fun i => decide (y ≤ (t i).hi)) = fstN n (fun i => decide (x ≤ (t i).hi)) := fst_same fun i hi => by
    have := (h i hi).2
    by_cases h1 : y ≤ (t i).hi
    · rw [decide_eq_true h1, decide_eq_true (by omega)]
    · rw [decide_eq_false h1, decide_eq_false (by omega)]
  have e2 : fstN n (fun i => decide (y ≤ (t i).lo)) = fstN n (fun i => decide (x ≤ (t i).lo)) := fst_same fun i hi => by
    have := (h i hi).1
    by_cases h1 : y ≤ (t i).lo
    · rw [decide_eq_true h1, decide_eq_true (by omega)]
    · rw [decide_eq_false h1, decide_eq_false (by omega)]
  unfold exLo exHi thrLo thrHi
  rw [e1, e2, if_neg (show ¬ x = 0 by omega), if_neg (show ¬ y = 0 by omega), if_neg (show ¬ x = 0 by omega), if_neg (show ¬ y = 0 by omega)]
  exact ⟨rfl, rfl⟩
end
end Go.Proofs.YtgmpelhphnmknaaGreat
namespace Go.Proofs.YtgmpelhphnmknaaGreat
open Go.RowKit
structure DV where
 time : Int
 lo : Int
 hi : Int
structure PR where
 kind : Int
 view : Int
 z : Int
 first : Int
 pitch : Int
 strips : Int
 spill : Int
 olo : Int
 ohi : Int
 clo : Int
 chi : Int
 jitter : Int
 least : Int
 da : Option Addr
 dn : Nat
 dc : Nat
 ea : Option Addr
 en : Nat
 ec : Nat
 ds : Nat → DV
 es : Nat → Int
def PR.at (p : PR) (w : World) (b o : Nat) : Prop :=
 w.cell? ⟨b, o, none⟩ = some (.int .i64 p.kind) ∧ w.cell? ⟨b, o + 1, none⟩ = some (.int .i64 p.view) ∧ w.cell? ⟨b, o + 2, none⟩ = some (.int .i64 p.z) ∧ w.cell? ⟨b, o + 3, none⟩ = some (.int .i64 p.first) ∧
 w.cell? ⟨b, o + 4, none⟩ = some (.int .i64 p.pitch) ∧ w.cell? ⟨b, o + 5, none⟩ = some (.int .i64 p.strips) ∧ w.cell? ⟨b, o + 6, none⟩ = some (.int .i64 p.spill) ∧ w.cell? ⟨b, o + 7, none⟩ = some (.int .i64 p.olo) ∧
 w.cell? ⟨b, o + 8, none⟩ = some (.int .i64 p.ohi) ∧ w.cell? ⟨b, o + 9, none⟩ = some (.int .i64 p.clo) ∧ w.cell? ⟨b, o + 10, none⟩ = some (.int .i64 p.chi) ∧ w.cell? ⟨b, o + 11, none⟩ = some (.int .i64 p.jitter) ∧
 w.cell? ⟨b, o + 12, none⟩ = some (.int .i64 p.least) ∧ w.cell? ⟨b, o + 13, none⟩ = some (.slice p.da p.dn p.dc) ∧ w.cell? ⟨b, o + 14, none⟩ = some (.slice p.ea p.en p.ec)
theorem PR.at.below {p : PR} {w w' : World} {B b o : Nat} (h : p.at w b o) (hb : Below B w w') (hB : b < B) : p.at w' b o := by
 obtain ⟨h0, h1, h2, h3, h4, h5, h6, h7, h8, h9, h10, h11, h12, h13, h14⟩ := h
 have c := (bcell hb).1
 exact ⟨(c _ _ hB).trans h0, (c _ _ hB).trans h1, (c _ _ hB).trans h2, (c _ _ hB).trans h3, (c _ _ hB).trans h4, (c _ _ hB).trans h5, (c _ _ hB).trans h6, (c _ _ hB).trans h7, (c _ _ hB).trans h8, (c _ _ hB).trans h9, (c _ _ hB).trans h10, (c _ _ hB).trans h11, (c _ _ hB).trans h12, (c _ _ hB).trans h13, (c _ _ hB).trans h14⟩

def Drifts (B : Nat) (w : World) (a : Option Addr) (n : Nat) (ds : Nat → DV) : Prop :=
 n = 0 ∨ ∃ b off, a = some ⟨b, off, none⟩ ∧ b < B ∧ ∀ i, i < n → w.cell? ⟨b, off + i * 3, none⟩ = some (.int .i64 (ds i).time) ∧ w.cell? ⟨b, off + i * 3 + 1, none⟩ = some (.int .i64 (ds i).lo) ∧ w.cell? ⟨b, off + i * 3 + 2, none⟩ = some (.int .i64 (ds i).hi)
theorem Drifts.below {B : Nat} {w w' : World} {a : Option Addr} {n : Nat} {ds : Nat → DV} (h : Drifts B w a n ds) (hb : Below B w w') : Drifts B w' a n ds := by
 rcases h with h | ⟨b, off, ha, hB, hc⟩
 ·exact .inl h
 ·have c := (bcell hb).1
  exact .inr ⟨b, off, ha, hB, fun i hi => ⟨(c _ _ hB).trans (hc i hi).1, (c _ _ hB).trans (hc i hi).2.1, (c _ _ hB).trans (hc i hi).2.2⟩⟩
def PR.mem (p : PR) (B : Nat) (w : World) : Prop := p.dn ≤ maxLen ∧ p.en ≤ maxLen ∧ Drifts B w p.da p.dn p.ds ∧ Ints B w p.ea p.en p.es
theorem PR.mem.below {p : PR} {B : Nat} {w w' : World} (h : p.mem B w) (hb : Below B w w') : p.mem B w' := ⟨h.1, h.2.1, h.2.2.1.below hb, h.2.2.2.below hb⟩
def Planes (B : Nat) (w : World) (a : Option Addr) (n : Nat) (ps : Nat → PR) : Prop :=
 n ≤ maxLen ∧ (n = 0 ∨ ∃ b off, a = some ⟨b, off, none⟩ ∧ b < B ∧ ∀ i, i < n → (ps i).at w b (off + i * 15) ∧ (ps i).mem B w)
theorem Planes.below {B : Nat} {w w' : World} {a : Option Addr} {n : Nat} {ps : Nat → PR} (h : Planes B w a n ps) (hb : Below B w w') : Planes B w' a n ps := by
 refine ⟨h.1, ?_⟩
 rcases h.2 with h | ⟨b, off, ha, hB, hc⟩
 ·exact .inl h
 ·exact .inr ⟨b, off, ha, hB, fun i hi => ⟨(hc i hi).1.below hb hB, (hc i hi).2.below hb⟩⟩
def withinB (a b c : Int) : Bool := decide (b ≤ a) && decide (a ≤ c)
theorem withinB_iff {a b c : Int} : withinB a b c = true ↔ b ≤ a ∧ a ≤ c := by simp [withinB]
theorem withinB_no {a b c : Int} (h : ¬ (b ≤ a ∧ a ≤ c)) : withinB a b c = false := by cases hh : withinB a b c; rfl; exact absurd (withinB_iff.1 hh) h
end Go.Proofs.YtgmpelhphnmknaaGreat
namespace Go.Proofs.YtgmpelhphnmknaaGreat
open Go.RowKit
def RWs (B : Nat) (w : World) (a : Option Addr) (n : Nat) (t : Nat → RW) : Prop :=
 n = 0 ∨ ∃ b off, a = some ⟨b, off, none⟩ ∧ b < B ∧ ∀ i, i < n → w.cell? ⟨b, off + i * 3, none⟩ = some (.int .i64 (t i).key) ∧ w.cell? ⟨b, off + i * 3 + 1, none⟩ = some (.int .i64 (t i).lo) ∧ w.cell? ⟨b, off + i * 3 + 2, none⟩ = some (.int .i64 (t i).hi)
theorem RWs.below {B : Nat} {w w' : World} {a : Option Addr} {n : Nat} {t : Nat → RW} (h : RWs B w a n t) (hb : Below B w w') : RWs B w' a n t := by
 rcases h with h | ⟨b, off, ha, hB, hc⟩
 ·exact .inl h
 ·have c := (bcell hb).1
  exact .inr ⟨b, off, ha, hB, fun i hi => ⟨(c _ _ hB).trans (hc i hi).1, (c _ _ hB).trans (hc i hi).2.1, (c _ _ hB).trans (hc i hi).2.2⟩⟩
theorem RWs.up {B B' : Nat} {w : World} {a : Option Addr} {n : Nat} {t : Nat → RW} (h : RWs B w a n t) (hb : B ≤ B') : RWs B' w a n t := by
 rcases h with h | ⟨b, off, ha, hB, hc⟩
 ·exact .inl h
 ·exact .inr ⟨b, off, ha, by omega, hc⟩
theorem RWs.get {B : Nat} {w : World} {a : Option Addr} {n : Nat} {t : Nat → RW} (h : RWs B w a n t) {i : Nat} (hi : i < n) : ∃ b off, a = some ⟨b, off, none⟩ ∧ b < B ∧ w.cell? ⟨b, off + i * 3, none⟩ = some (.int .i64 (t i).key) ∧ w.cell? ⟨b, off + i * 3 + 1, none⟩ = some (.int .i64 (t i).lo) ∧ w.cell? ⟨b, off + i * 3 + 2, none⟩ = some (.int .i64 (t i).hi) := by
 rcases h with h | ⟨b, off, ha, hB, hc⟩
 ·omega
 ·exact ⟨b, off, ha, hB, hc i hi⟩
def RW.agg (r : RW) : Value := .agg #[.int .i64 r.key, .int .i64 r.lo, .int .i64 r.hi]
def spV (lo hi : Int) : Value := .agg #[.int .i64 lo, .int .i64 hi]
theorem fwithin_any (a b c : Int) (w : World) :
  Calls Tryz.prog 81 #[.int .i64 a, .int .i64 b, .int .i64 c] w fun e w' => e = .returned (.bool (withinB a b c)) ∧ w = w' := by
 by_cases h : b ≤ a
 ·go_enter Tryz.func81, Tryz.ntmps81
  go_wp2
  go_ret
  exact ⟨ret_bool (by unfold withinB; rw [decide_eq_true h, Bool.true_and]), rfl⟩
 ·go_enter Tryz.func81, Tryz.ntmps81
  go_wp2
  go_ret
  exact ⟨ret_bool (by unfold withinB; rw [decide_eq_false (by omega), Bool.false_and]), rfl⟩
def fspanB (lo hi a b : Int) : Bool := decide (a ≤ lo) && (decide (lo ≤ hi) && decide (hi ≤ b))
theorem fspanB_true {lo hi a b : Int} (h : a ≤ lo ∧ lo ≤ hi ∧ hi ≤ b) : fspanB lo hi a b = true := by unfold fspanB; rw [decide_eq_true h.1, decide_eq_true h.2.1, decide_eq_true h.2.2]; rfl
theorem fspanB_is {lo hi a b : Int} (h : fspanB lo hi a b = true) : a ≤ lo ∧ lo ≤ hi ∧ hi ≤ b := by
 unfold fspanB at h
 simp only [Bool.and_eq_true, decide_eq_true_eq] at h
 exact ⟨h.1, h.2.1, h.2.2⟩
theorem spanned_any (lo hi a b : Int) (w : World) :
  Calls Tryz.prog 40 #[.agg #[.int .i64 lo, .int .i64 hi], .int .i64 a, .int .i64 b] w fun e w' => e = .returned (.bool (fspanB lo hi a b)) ∧ Below w.heap.size w w' := by
 have HB := Hd (Below.refl w.heap.size w)
 cases h : withinB lo a hi with
 | true =>
  have hh := Lib.hid h
  have hs : fspanB lo hi a b = decide (hi ≤ b) := by
   unfold withinB at h
   unfold fspanB
   rw [← Bool.and_assoc, h, Bool.true_and]
  clear h
  go_enter Tryz.func40, Tryz.ntmps40
  go_wp2_with (go_at_call 81; refine (fwithin_any _ _ _ _).mono ?_; rintro e w' ⟨rfl, rfl⟩; rw [hh.out])
  go_ret
  exact ⟨by rw [hs]; rfl, HB.out.alloc (Nat.le_refl _) _⟩
 | false =>
  have hh := Lib.hid h
  have hs : fspanB lo hi a b = false := by
   unfold withinB at h
   unfold fspanB
   rw [← Bool.and_assoc, h, Bool.false_and]
  clear h
  go_enter Tryz.func40, Tryz.ntmps40
  go_wp2_with (go_at_call 81; refine (fwithin_any _ _ _ _).mono ?_; rintro e w' ⟨rfl, rfl⟩; rw [hh.out])
  go_ret
  exact ⟨by rw [hs]; rfl, HB.out.alloc (Nat.le_refl _) _⟩
theorem up_true (a b c d : Int) (w : World) (h : a ≤ c ∧ b ≤ d) :
  Calls Tryz.prog 125 #[.agg #[.int .i64 a, .int .i64 b], .agg #[.int .i64 c, .int .i64 d]] w fun e w' => e = .returned (.bool true) ∧ Below w.heap.size w w' := by
 obtain ⟨h1, h2⟩ := h
 have HB := Hd (Below.refl w.heap.size w)
 go_enter Tryz.func125, Tryz.ntmps125
 go_wp2
 go_ret
 exact ⟨rfl, (HB.out.alloc (Nat.le_refl _) _).alloc (by simp) _⟩
theorem down_true (a b c d : Int) (w : World) (h : c ≤ a ∧ d ≤ b) :
  Calls Tryz.prog 121 #[.agg #[.int .i64 a, .int .i64 b], .agg #[.int .i64 c, .int .i64 d]] w fun e w' => e = .returned (.bool true) ∧ Below w.heap.size w w' := by
 have HU := Hd (fun W => up_true c d a b W h)
 have HB := Hd (Below.refl w.heap.size w)
 go_enter Tryz.func121, Tryz.ntmps121
 go_wp2_with (go_at_call 125; refine (HU.out _).mono ?_; rintro e w' ⟨rfl, hb⟩; have HB2 := Hd (((HB.out.alloc (Nat.le_refl _) _).alloc (by simp) _).trans (hb.mono (by simp; omega))); clear hb)
 go_ret
 exact ⟨rfl, HB2.out⟩
end Go.Proofs.YtgmpelhphnmknaaGreat
namespace Go.Proofs.YtgmpelhphnmknaaGreat
open Go.RowKit
theorem keyR_any (r : RW) (w : World) :
  Calls Tryz.prog 123 #[r.agg] w fun e w' => e = .returned (.int .i64 r.key) ∧ Below w.heap.size w w' := by
 have HB := Hd (Below.refl w.heap.size w)
 obtain ⟨k, lo, hi⟩ := r
 show Calls Tryz.prog 123 #[.agg #[.int .i64 k, .int .i64 lo, .int .i64 hi]] w fun e w' => e = .returned (.int .i64 k) ∧ Below w.heap.size w w'
 go_enter Tryz.func123, Tryz.ntmps123
 go_wp2
 go_ret
 exact ⟨rfl, HB.out.alloc (Nat.le_refl _) _⟩
theorem spanR_any (r : RW) (w : World) :
  Calls Tryz.prog 124 #[r.agg] w fun e w' => e = .returned (spV r.lo r.hi) ∧ Below w.heap.size w w' := by
 have HB := Hd (Below.refl w.heap.size w)
 obtain ⟨k, lo, hi⟩ := r
 show Calls Tryz.prog 124 #[.agg #[.int .i64 k, .int .i64 lo, .int .i64 hi]] w fun e w' => e = .returned (.agg #[.int .i64 lo, .int .i64 hi]) ∧ Below w.heap.size w w'
 go_enter Tryz.func124, Tryz.ntmps124
 go_wp2
 refine bodyPost_ret (v := .agg #[.int .i64 lo, .int .i64 hi]) (by simp [results, Tryz.results124, go_sem]) rfl ⟨rfl, ?_⟩
 exact (HB.out.alloc (Nat.le_refl _) _).alloc (by simp) _
theorem monotoneR_any (a : Option Addr) (n c : Nat) (t : Nat → RW) (P : Int) (B : Nat) (w : World) (hBw : B ≤ w.heap.size) (hT : RWs B w a n t) (hn : 1 ≤ n ∧ n ≤ 40)
  (hk : ∀ i, i < n → 1 ≤ (t i).key ∧ (t i).key ≤ 1000000) (hs : ∀ i, i < n → 0 ≤ (t i).lo ∧ (t i).lo ≤ (t i).hi ∧ (t i).hi ≤ P) (hu : ∀ i, i + 1 < n → (t i).key < (t (i + 1)).key ∧ (t i).lo ≤ (t (i + 1)).lo ∧ (t i).hi ≤ (t (i + 1)).hi) :
  Calls Tryz.prog 122 #[.slice a n c, .int .i64 1, .int .i64 1000000, .func (Fn.func 123) #[] #[], .func (Fn.func 124) #[] #[], .int .i64 P, .func (Fn.func 125) #[] #[]] w fun e w' => e = .returned (.bool true) ∧ Below w.heap.size w w' := by
 have HK := Lib.hid keyR_any
 have HS := Lib.hid spanR_any
 have HT := Lib.hid hT
 have HW1 := Hd (fun i (h : i < n) => show withinB (t i).key 1 1000000 = true from by have := hk i h; unfold withinB; rw [decide_eq_true this.1, decide_eq_true this.2]; rfl)
 have HS1 := Hd (fun i (h : i < n) => fspanB_true (hs i h))
 have HU := Lib.hid hu
 have hnn : withinB (n : Int) 1 40 = true := by unfold withinB; rw [decide_eq_true (by omega), decide_eq_true (by omega)]; rfl
 have HNN := Lib.hid hnn
 have HB0 := Hd (Below.refl w.heap.size w)
 clear hT hk hs hu hnn
 go_enter Tryz.func122, Tryz.ntmps122
 go_wp2
 go_loopw [19] (fun x wr => ∃ i : Nat, i ≤ n ∧ x = .int .i64 (i : Int) ∧ Hid (Below w.heap.size w wr)) (fun x _ => n - (intOf x).toNat)
 case atStart => exact ⟨0, Nat.zero_le _, rfl, HB0⟩
 case round =>
  clear HB0
  obtain ⟨i, hi, rfl, HB0⟩ := hrel
  by_cases hlt : i < n
  ·have hlt' : (i : Int) < (n : Int) := by omega
   obtain ⟨b, off, rfl, hbB, c0, c1, c2⟩ := (HT.out.below (HB0.out.mono hBw)).get hlt
   have hbw : b < w.heap.size := by omega
   have hsz := HB0.out.size
   have hbz : b < wr.heap.size := by omega
   have HWi := Hd (HW1.out i hlt)
   have HSi := Hd (HS1.out i hlt)
   have HKi := Hd (HK.out (t i))
   have HPi := Hd (HS.out (t i))
   obtain ⟨r, hr⟩ : ∃ r, t i = r := ⟨_, rfl⟩
   rw [hr] at HWi HSi HKi HPi c0 c1 c2
   obtain ⟨k, lo, hi'⟩ := r
   dsimp only at HWi HSi c0 c1 c2
   unfold RW.agg at HKi HPi
   unfold spV at HPi
   dsimp only at HKi HPi
   have HR := Lib.hid hr
   have HSP := Hd (fun W => spanned_any lo hi' 0 P W)
   rw [HSi.out] at HSP
   clear hr
   go_upto_region 4 with (fail)
   have HB1 := Hd (show Below w.heap.size w (wr.alloc (.cells #[.int .i64 k, .int .i64 lo, .int .i64 hi'] 89)) from HB0.out.alloc hsz _)
   have hz1 : (wr.alloc (.cells #[.int .i64 k, .int .i64 lo, .int .i64 hi'] 89)).heap.size = wr.heap.size + 1 := by simp
   have hx1 : (wr.alloc (.cells #[.int .i64 k, .int .i64 lo, .int .i64 hi'] 89)).heap[wr.heap.size]? = some (.cells #[.int .i64 k, .int .i64 lo, .int .i64 hi'] 89) := by exact heap_alloc_new wr _
   generalize World.alloc wr _ = V at *
   have HX1 := Lib.hid hx1
   have HL1 := Hd (show wr.heap.size < V.heap.size by omega)
   have e0 : V.cell? ⟨wr.heap.size, 0, none⟩ = some (.int .i64 k) := cell_of_row _ _ 0 _ _ _ hx1
   have e1 : V.cell? ⟨wr.heap.size, 1, none⟩ = some (.int .i64 lo) := cell_of_row _ _ 1 _ _ _ hx1
   have e2 : V.cell? ⟨wr.heap.size, 2, none⟩ = some (.int .i64 hi') := cell_of_row _ _ 2 _ _ _ hx1
   clear hx1 c0 c1 c2
   go_upto_region 6 with (first
    | (go_at_call 123; refine (HKi.out _).mono ?_; rintro e W1 ⟨rfl, hb1⟩; have HV1 := Lib.hid hb1; have hx2 := (hb1.block _ HL1.out).trans HX1.out; obtain ⟨g0, g1, g2⟩ := cr3 hx2; clear hb1 hx2 e0 e1 e2)
    | (go_at_call 124; refine (HPi.out _).mono ?_; rintro e W2 ⟨rfl, hb2⟩; have HV2 := Hd (HV1.out.trans (hb2.mono HV1.out.size)); clear hb2 g0 g1 g2)
    | (go_at_call 40; refine (HSP.out _).mono ?_; rintro e W3 ⟨rfl, hb3⟩; have HV3 := Hd (HV2.out.trans (hb3.mono HV2.out.size)); clear hb3)
    | (go_at_call 81; refine (fwithin_any _ _ _ _).mono ?_; rintro e w' ⟨rfl, rfl⟩; rw [HWi.out]))
   have hx3 := (HV3.out.block _ HL1.out).trans HX1.out
   have HB3 := Hd (HB1.out.trans (HV3.out.mono (by omega)))
   have hl3 := (blkL hx3)
   have e0 : W3.cell? ⟨wr.heap.size, 0, none⟩ = some (.int .i64 k) := cell_of_row _ _ 0 _ _ _ hx3
   have e1 : W3.cell? ⟨wr.heap.size, 1, none⟩ = some (.int .i64 lo) := cell_of_row _ _ 1 _ _ _ hx3
   have e2 : W3.cell? ⟨wr.heap.size, 2, none⟩ = some (.int .i64 hi') := cell_of_row _ _ 2 _ _ _ hx3
   clear hx3 HV1 HV2 HV3 HX1 HL1 HSP HWi HSi
   by_cases h0 : i = 0
   ·subst h0
    (refine wp_region_calm (W3.heap.size) (by kernel_rfl) (by kernel_rfl) ?_; (repeat (first | go_big_quiet_step ((fail)) | quiet_step ((fail)))); refine wpQuiet_nil (wqn ?_); intro xq)
    go_wp2
    go_roundw
    case rel => exact ⟨0 + 1, by omega, by go_num, Hd (HB3.out.trans (xq.below.mono HB3.out.size))⟩
    case measure => simp [intOf]; omega
   ·obtain ⟨j, rfl⟩ : ∃ j, i = j + 1 := ⟨i - 1, by omega⟩
    obtain ⟨b2, off2, hb2, hb2B, c0, c1, c2⟩ := (HT.out.below (HB3.out.mono hBw)).get (i := j) (by omega)
    injection hb2 with hb2
    injection hb2 with hb2 hb3
    subst hb2
    subst hb3
    have HUj := HU.out j (by omega)
    rw [HR.out] at HUj
    dsimp only at HUj
    have HKj := Hd (HK.out (t j))
    have HPj := Hd (HS.out (t j))
    generalize t j = r at HUj HKj HPj c0 c1 c2
    obtain ⟨k2, lo2, hi2⟩ := r
    dsimp only at HUj c0 c1 c2
    unfold RW.agg at HKj HPj
    unfold spV at HPj
    dsimp only at HKj HPj
    obtain ⟨u1, u2, u3⟩ := HUj
    have HD := Hd (fun W => up_true lo2 hi2 lo hi' W ⟨u2, u3⟩)
    have hb3 : b < W3.heap.size := by have := HB3.out.size; omega
    have hcast : ((j + 1 : Nat) : Int) = (j : Int) + 1 := by omega
    have hjn : (j : Int) < (n : Int) := by omega
    have hle : ¬ k ≤ k2 := by omega
    clear u2 u3
    (refine wp_region_calm (W3.heap.size) (by kernel_rfl) (by kernel_rfl) ?_; (repeat (first | go_big_quiet_step ((first | (go_at_call 123; first | (with_reducible exact Calls.calm_of (Nat.le_refl _) (HKi.out _)) | (with_reducible exact Calls.calm_of (Nat.le_refl _) (HKj.out _))) | (go_at_call 124; first | (with_reducible exact Calls.calm_of (Nat.le_refl _) (HPi.out _)) | (with_reducible exact Calls.calm_of (Nat.le_refl _) (HPj.out _))) | (go_at_call 125; exact Calls.calm_of (Nat.le_refl _) (HD.out _)))) | quiet_step ((first | (go_at_call 123; first | (with_reducible exact Calls.calm_of (Nat.le_refl _) (HKi.out _)) | (with_reducible exact Calls.calm_of (Nat.le_refl _) (HKj.out _))) | (go_at_call 124; first | (with_reducible exact Calls.calm_of (Nat.le_refl _) (HPi.out _)) | (with_reducible exact Calls.calm_of (Nat.le_refl _) (HPj.out _))) | (go_at_call 125; exact Calls.calm_of (Nat.le_refl _) (HD.out _)))))); refine wpQuiet_nil (wqn ?_); intro xq)
    go_wp2
    go_roundw
    case rel => exact ⟨j + 1 + 1, by omega, by go_num, Hd (HB3.out.trans (xq.below.mono HB3.out.size))⟩
    case measure => simp [intOf]; omega
  ·obtain rfl : i = n := by omega
   go_wp2_with (go_at_call 81; refine (fwithin_any _ _ _ _).mono ?_; rintro e w' ⟨rfl, rfl⟩; rw [HNN.out])
   go_ret
   exact ⟨rfl, HB0.out⟩
theorem keyF_any (r : RW) (w : World) :
  Calls Tryz.prog 119 #[r.agg] w fun e w' => e = .returned (.int .i64 r.key) ∧ Below w.heap.size w w' := by
 have HB := Hd (Below.refl w.heap.size w)
 obtain ⟨k, lo, hi⟩ := r
 show Calls Tryz.prog 119 #[.agg #[.int .i64 k, .int .i64 lo, .int .i64 hi]] w fun e w' => e = .returned (.int .i64 k) ∧ Below w.heap.size w w'
 go_enter Tryz.func119, Tryz.ntmps119
 go_wp2
 go_ret
 exact ⟨rfl, HB.out.alloc (Nat.le_refl _) _⟩
theorem spanF_any (r : RW) (w : World) :
  Calls Tryz.prog 120 #[r.agg] w fun e w' => e = .returned (spV r.lo r.hi) ∧ Below w.heap.size w w' := by
 have HB := Hd (Below.refl w.heap.size w)
 obtain ⟨k, lo, hi⟩ := r
 show Calls Tryz.prog 120 #[.agg #[.int .i64 k, .int .i64 lo, .int .i64 hi]] w fun e w' => e = .returned (.agg #[.int .i64 lo, .int .i64 hi]) ∧ Below w.heap.size w w'
 go_enter Tryz.func120, Tryz.ntmps120
 go_wp2
 refine bodyPost_ret (v := .agg #[.int .i64 lo, .int .i64 hi]) (by simp [results, Tryz.results120, go_sem]) rfl ⟨rfl, ?_⟩
 exact (HB.out.alloc (Nat.le_refl _) _).alloc (by simp) _
theorem monotoneF_any (a : Option Addr) (n c : Nat) (t : Nat → RW) (P : Int) (B : Nat) (w : World) (hBw : B ≤ w.heap.size) (hT : RWs B w a n t) (hn : 1 ≤ n ∧ n ≤ 40)
  (hk : ∀ i, i < n → 1 ≤ (t i).key ∧ (t i).key ≤ 1000000) (hs : ∀ i, i < n → 0 ≤ (t i).lo ∧ (t i).lo ≤ (t i).hi ∧ (t i).hi ≤ P) (hu : ∀ i, i + 1 < n → (t i).key < (t (i + 1)).key ∧ (t (i + 1)).lo ≤ (t i).lo ∧ (t (i + 1)).hi ≤ (t i).hi) :
  Calls Tryz.prog 118 #[.slice a n c, .int .i64 1, .int .i64 1000000, .func (Fn.func 119) #[] #[], .func (Fn.func 120) #[] #[], .int .i64 P, .func (Fn.func 121) #[] #[]] w fun e w' => e = .returned (.bool true) ∧ Below w.heap.size w w' := by
 have HK := Lib.hid keyF_any
 have HS := Lib.hid spanF_any
 have HT := Lib.hid hT
 have HW1 := Hd (fun i (h : i < n) => show withinB (t i).key 1 1000000 = true from by have := hk i h; unfold withinB; rw [decide_eq_true this.1, decide_eq_true this.2]; rfl)
 have HS1 := Hd (fun i (h : i < n) => fspanB_true (hs i h))
 have HU := Lib.hid hu
 have hnn : withinB (n : Int) 1 40 = true := by unfold withinB; rw [decide_eq_true (by omega), decide_eq_true (by omega)]; rfl
 have HNN := Lib.hid hnn
 have HB0 := Hd (Below.refl w.heap.size w)
 clear hT hk hs hu hnn
 go_enter Tryz.func118, Tryz.ntmps118
 go_wp2
 go_loopw [19] (fun x wr => ∃ i : Nat, i ≤ n ∧ x = .int .i64 (i : Int) ∧ Hid (Below w.heap.size w wr)) (fun x _ => n - (intOf x).toNat)
 case atStart => exact ⟨0, Nat.zero_le _, rfl, HB0⟩
 case round =>
  clear HB0
  obtain ⟨i, hi, rfl, HB0⟩ := hrel
  by_cases hlt : i < n
  ·have hlt' : (i : Int) < (n : Int) := by omega
   obtain ⟨b, off, rfl, hbB, c0, c1, c2⟩ := (HT.out.below (HB0.out.mono hBw)).get hlt
   have hbw : b < w.heap.size := by omega
   have hsz := HB0.out.size
   have hbz : b < wr.heap.size := by omega
   have HWi := Hd (HW1.out i hlt)
   have HSi := Hd (HS1.out i hlt)
   have HKi := Hd (HK.out (t i))
   have HPi := Hd (HS.out (t i))
   obtain ⟨r, hr⟩ : ∃ r, t i = r := ⟨_, rfl⟩
   rw [hr] at HWi HSi HKi HPi c0 c1 c2
   obtain ⟨k, lo, hi'⟩ := r
   dsimp only at HWi HSi c0 c1 c2
   unfold RW.agg at HKi HPi
   unfold spV at HPi
   dsimp only at HKi HPi
   have HR := Lib.hid hr
   have HSP := Hd (fun W => spanned_any lo hi' 0 P W)
   rw [HSi.out] at HSP
   clear hr
   go_upto_region 4 with (fail)
   have HB1 := Hd (show Below w.heap.size w (wr.alloc (.cells #[.int .i64 k, .int .i64 lo, .int .i64 hi'] 134)) from HB0.out.alloc hsz _)
   have hz1 : (wr.alloc (.cells #[.int .i64 k, .int .i64 lo, .int .i64 hi'] 134)).heap.size = wr.heap.size + 1 := by simp
   have hx1 : (wr.alloc (.cells #[.int .i64 k, .int .i64 lo, .int .i64 hi'] 134)).heap[wr.heap.size]? = some (.cells #[.int .i64 k, .int .i64 lo, .int .i64 hi'] 134) := by exact heap_alloc_new wr _
   generalize World.alloc wr _ = V at *
   have HX1 := Lib.hid hx1
   have HL1 := Hd (show wr.heap.size < V.heap.size by omega)
   have e0 : V.cell? ⟨wr.heap.size, 0, none⟩ = some (.int .i64 k) := cell_of_row _ _ 0 _ _ _ hx1
   have e1 : V.cell? ⟨wr.heap.size, 1, none⟩ = some (.int .i64 lo) := cell_of_row _ _ 1 _ _ _ hx1
   have e2 : V.cell? ⟨wr.heap.size, 2, none⟩ = some (.int .i64 hi') := cell_of_row _ _ 2 _ _ _ hx1
   clear hx1 c0 c1 c2
   go_upto_region 6 with (first
    | (go_at_call 119; refine (HKi.out _).mono ?_; rintro e W1 ⟨rfl, hb1⟩; have HV1 := Lib.hid hb1; have hx2 := (hb1.block _ HL1.out).trans HX1.out; obtain ⟨g0, g1, g2⟩ := cr3 hx2; clear hb1 hx2 e0 e1 e2)
    | (go_at_call 120; refine (HPi.out _).mono ?_; rintro e W2 ⟨rfl, hb2⟩; have HV2 := Hd (HV1.out.trans (hb2.mono HV1.out.size)); clear hb2 g0 g1 g2)
    | (go_at_call 40; refine (HSP.out _).mono ?_; rintro e W3 ⟨rfl, hb3⟩; have HV3 := Hd (HV2.out.trans (hb3.mono HV2.out.size)); clear hb3)
    | (go_at_call 81; refine (fwithin_any _ _ _ _).mono ?_; rintro e w' ⟨rfl, rfl⟩; rw [HWi.out]))
   have hx3 := (HV3.out.block _ HL1.out).trans HX1.out
   have HB3 := Hd (HB1.out.trans (HV3.out.mono (by omega)))
   have hl3 := (blkL hx3)
   have e0 : W3.cell? ⟨wr.heap.size, 0, none⟩ = some (.int .i64 k) := cell_of_row _ _ 0 _ _ _ hx3
   have e1 : W3.cell? ⟨wr.heap.size, 1, none⟩ = some (.int .i64 lo) := cell_of_row _ _ 1 _ _ _ hx3
   have e2 : W3.cell? ⟨wr.heap.size, 2, none⟩ = some (.int .i64 hi') := cell_of_row _ _ 2 _ _ _ hx3
   clear hx3 HV1 HV2 HV3 HX1 HL1 HSP HWi HSi
   by_cases h0 : i = 0
   ·subst h0
    (refine wp_region_calm (W3.heap.size) (by kernel_rfl) (by kernel_rfl) ?_; (repeat (first | go_big_quiet_step ((fail)) | quiet_step ((fail)))); refine wpQuiet_nil (wqn ?_); intro xq)
    go_wp2
    go_roundw
    case rel => exact ⟨0 + 1, by omega, by go_num, Hd (HB3.out.trans (xq.below.mono HB3.out.size))⟩
    case measure => simp [intOf]; omega
   ·obtain ⟨j, rfl⟩ : ∃ j, i = j + 1 := ⟨i - 1, by omega⟩
    obtain ⟨b2, off2, hb2, hb2B, c0, c1, c2⟩ := (HT.out.below (HB3.out.mono hBw)).get (i := j) (by omega)
    injection hb2 with hb2
    injection hb2 with hb2 hb3
    subst hb2
    subst hb3
    have HUj := HU.out j (by omega)
    rw [HR.out] at HUj
    dsimp only at HUj
    have HKj := Hd (HK.out (t j))
    have HPj := Hd (HS.out (t j))
    generalize t j = r at HUj HKj HPj c0 c1 c2
    obtain ⟨k2, lo2, hi2⟩ := r
    dsimp only at HUj c0 c1 c2
    unfold RW.agg at HKj HPj
    unfold spV at HPj
    dsimp only at HKj HPj
    obtain ⟨u1, u2, u3⟩ := HUj
    have HD := Hd (fun W => down_true lo2 hi2 lo hi' W ⟨u2, u3⟩)
    have hb3 : b < W3.heap.size := by have := HB3.out.size; omega
    have hcast : ((j + 1 : Nat) : Int) = (j : Int) + 1 := by omega
    have hjn : (j : Int) < (n : Int) := by omega
    have hle : ¬ k ≤ k2 := by omega
    clear u2 u3
    (refine wp_region_calm (W3.heap.size) (by kernel_rfl) (by kernel_rfl) ?_; (repeat (first | go_big_quiet_step ((first | (go_at_call 119; first | (with_reducible exact Calls.calm_of (Nat.le_refl _) (HKi.out _)) | (with_reducible exact Calls.calm_of (Nat.le_refl _) (HKj.out _))) | (go_at_call 120; first | (with_reducible exact Calls.calm_of (Nat.le_refl _) (HPi.out _)) | (with_reducible exact Calls.calm_of (Nat.le_refl _) (HPj.out _))) | (go_at_call 121; exact Calls.calm_of (Nat.le_refl _) (HD.out _)))) | quiet_step ((first | (go_at_call 119; first | (with_reducible exact Calls.calm_of (Nat.le_refl _) (HKi.out _)) | (with_reducible exact Calls.calm_of (Nat.le_refl _) (HKj.out _))) | (go_at_call 120; first | (with_reducible exact Calls.calm_of (Nat.le_refl _) (HPi.out _)) | (with_reducible exact Calls.calm_of (Nat.le_refl _) (HPj.out _))) | (go_at_call 121; exact Calls.calm_of (Nat.le_refl _) (HD.out _)))))); refine wpQuiet_nil (wqn ?_); intro xq)
    go_wp2
    go_roundw
    case rel => exact ⟨j + 1 + 1, by omega, by go_num, Hd (HB3.out.trans (xq.below.mono HB3.out.size))⟩
    case measure => simp [intOf]; omega
  ·obtain rfl : i = n := by omega
   go_wp2_with (go_at_call 81; refine (fwithin_any _ _ _ _).mono ?_; rintro e w' ⟨rfl, rfl⟩; rw [HNN.out])
   go_ret
   exact ⟨rfl, HB0.out⟩
end Go.Proofs.YtgmpelhphnmknaaGreat
