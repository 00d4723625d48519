/- Images as data, and how they lie in memory; what is as defined. No program here. -/
import Derived.Test.YtkdopjkdokgipaaGreatDoorBase
namespace Go.Proofs.YtkdopjkdokgipaaGreatDoor
open Go.RowKit
set_option linter.unusedVariables false
set_option linter.unusedSimpArgs false
structure SV where
  lo : Int
  hi : Int
/-- a beam: where its lists lie, its bounds, what its lists hold -/
structure BM where
  ca : Option Addr
  cn : Nat
  cc : Nat
  wa : Option Addr
  wn : Nat
  wc : Nat
  lo : Int
  hi : Int
  cs : Nat → Int
  ws : Nat → Int
abbrev SV.val (s : SV) : Value := .agg #[.int .i64 s.lo, .int .i64 s.hi]
abbrev BM.val (b : BM) : Value := .agg #[.slice b.ca b.cn b.cc, .slice b.wa b.wn b.wc, .int .i64 b.lo, .int .i64 b.hi]
abbrev imageV (ca : Option Addr) (cn cc : Nat) (ba : Option Addr) (bn bc : Nat) : Value := .agg #[.slice ca cn cc, .slice ba bn bc]
/-- a slice of spans -/
def Spans (B : Nat) (w : World) (a : Option Addr) (n : Nat) (ss : Nat → SV) : Prop :=
  n ≤ maxLen ∧ (n = 0 ∨ ∃ b off, a = some ⟨b, off, none⟩ ∧ b < B ∧ ∀ i, i < n → w.cell? ⟨b, off + i * 2, none⟩ = some (.int .i64 (ss i).lo) ∧ w.cell? ⟨b, off + i * 2 + 1, none⟩ = some (.int .i64 (ss i).hi))
theorem Spans.below {B : Nat} {w w' : World} {a : Option Addr} {n : Nat} {ss : Nat → SV} (h : Spans B w a n ss) (hb : Below B w w') : Spans B w' a n ss := by
  refine ⟨h.1, ?_⟩
  rcases h.2 with h | ⟨b, off, ha, hB, hc⟩
  · exact .inl h
  · have c := (bcell hb).1
    exact .inr ⟨b, off, ha, hB, fun i hi => ⟨(c _ _ hB).trans (hc i hi).1, (c _ _ hB).trans (hc i hi).2⟩⟩
theorem Spans.up {B B' : Nat} {w : World} {a : Option Addr} {n : Nat} {ss : Nat → SV} (h : Spans B w a n ss) (hb : B ≤ B') : Spans B' w a n ss := by
  refine ⟨h.1, ?_⟩
  rcases h.2 with h | ⟨b, off, ha, hB, hc⟩
  · exact .inl h
  · exact .inr ⟨b, off, ha, by omega, hc⟩
theorem Spans.get {B : Nat} {w : World} {a : Option Addr} {n : Nat} {ss : Nat → SV} (h : Spans B w a n ss) {i : Nat} (hi : i < n) : ∃ b off, a = some ⟨b, off, none⟩ ∧ b < B ∧ w.cell? ⟨b, off + i * 2, none⟩ = some (.int .i64 (ss i).lo) ∧ w.cell? ⟨b, off + i * 2 + 1, none⟩ = some (.int .i64 (ss i).hi) := by
  rcases h.2 with h | ⟨b, off, ha, hB, hc⟩
  · omega
  · exact ⟨b, off, ha, hB, (hc i hi).1, (hc i hi).2⟩
theorem Ints.get {B : Nat} {w : World} {a : Option Addr} {n : Nat} {xs : Nat → Int} (h : Ints B w a n xs) {i : Nat} (hi : i < n) : ∃ b off, a = some ⟨b, off, none⟩ ∧ b < B ∧ w.cell? ⟨b, off + i, none⟩ = some (.int .i64 (xs i)) := by
  rcases h with h | ⟨b, off, ha, hB, hc⟩
  · omega
  · exact ⟨b, off, ha, hB, hc i hi⟩
def BM.at (p : BM) (w : World) (b o : Nat) : Prop :=
  w.cell? ⟨b, o, none⟩ = some (.slice p.ca p.cn p.cc) ∧ w.cell? ⟨b, o + 1, none⟩ = some (.slice p.wa p.wn p.wc) ∧ w.cell? ⟨b, o + 2, none⟩ = some (.int .i64 p.lo) ∧ w.cell? ⟨b, o + 3, none⟩ = some (.int .i64 p.hi)
theorem BM.at.below {p : BM} {w w' : World} {B b o : Nat} (h : p.at w b o) (hb : Below B w w') (hB : b < B) : p.at w' b o := by
  obtain ⟨h0, h1, h2, h3⟩ := h
  have c := (bcell hb).1
  exact ⟨(c _ _ hB).trans h0, (c _ _ hB).trans h1, (c _ _ hB).trans h2, (c _ _ hB).trans h3⟩
/-- what a beam's lists hold -/
def BM.mem (p : BM) (B : Nat) (w : World) : Prop := p.cn ≤ maxLen ∧ p.wn ≤ maxLen ∧ Ints B w p.ca p.cn p.cs ∧ Ints B w p.wa p.wn p.ws
theorem BM.mem.below {p : BM} {B : Nat} {w w' : World} (h : p.mem B w) (hb : Below B w w') : p.mem B w' := ⟨h.1, h.2.1, h.2.2.1.below hb, h.2.2.2.below hb⟩
theorem BM.mem.up {p : BM} {B B' : Nat} {w : World} (h : p.mem B w) (hb : B ≤ B') : p.mem B' w := ⟨h.1, h.2.1, h.2.2.1.up hb, h.2.2.2.up hb⟩
/-- a slice of beams -/
def Beams (B : Nat) (w : World) (a : Option Addr) (n : Nat) (bs : Nat → BM) : Prop :=
  n ≤ maxLen ∧ (n = 0 ∨ ∃ b off, a = some ⟨b, off, none⟩ ∧ b < B ∧ ∀ i, i < n → (bs i).at w b (off + i * 4) ∧ (bs i).mem B w)
theorem Beams.below {B : Nat} {w w' : World} {a : Option Addr} {n : Nat} {bs : Nat → BM} (h : Beams B w a n bs) (hb : Below B w w') : Beams B w' a n bs := by
  refine ⟨h.1, ?_⟩
  rcases h.2 with h | ⟨b, off, ha, hB, hc⟩
  · exact .inl h
  · exact .inr ⟨b, off, ha, hB, fun i hi => ⟨(hc i hi).1.below hb hB, (hc i hi).2.below hb⟩⟩
theorem Beams.up {B B' : Nat} {w : World} {a : Option Addr} {n : Nat} {bs : Nat → BM} (h : Beams B w a n bs) (hb : B ≤ B') : Beams B' w a n bs := by
  refine ⟨h.1, ?_⟩
  rcases h.2 with h | ⟨b, off, ha, hB, hc⟩
  · exact .inl h
  · exact .inr ⟨b, off, ha, by omega, fun i hi => ⟨(hc i hi).1, (hc i hi).2.up hb⟩⟩
theorem Beams.get {B : Nat} {w : World} {a : Option Addr} {n : Nat} {bs : Nat → BM} (h : Beams B w a n bs) {i : Nat} (hi : i < n) : ∃ b off, a = some ⟨b, off, none⟩ ∧ b < B ∧ (bs i).at w b (off + i * 4) ∧ (bs i).mem B w := by
  rcases h.2 with h | ⟨b, off, ha, hB, hc⟩
  · omega
  · exact ⟨b, off, ha, hB, (hc i hi).1, (hc i hi).2⟩
/-! ### what is as defined -/
def inB (a b c : Int) : Bool := decide (b ≤ a) && decide (a ≤ c)
theorem inB_iff {a b c : Int} : inB a b c = true ↔ b ≤ a ∧ a ≤ c := by simp [inB]
def spanB (s : SV) (most : Int) : Bool := inB s.lo 0 s.hi && decide (s.hi ≤ most)
def setAt (n : Nat) (cs : Nat → Int) (i : Nat) : Bool := inB (cs i) 0 ((n : Int) - 1) && (i == 0 || decide (cs (i - 1) < cs i))
def setB (n k : Nat) (cs : Nat → Int) : Bool := allUpto k (setAt n cs)
def beamB (n : Nat) (b : BM) : Bool := allUpto b.wn (fun i => inB (b.ws i) 1 1000000) && (setB n b.cn b.cs && ((b.wn == b.cn) && spanB ⟨b.lo, b.hi⟩ 1000000000000))
def shapeB (n : Nat) (ss : Nat → SV) (m : Nat) (bs : Nat → BM) : Bool := allUpto n (fun i => spanB (ss i) 1000) && (allUpto m (fun i => beamB n (bs i)) && (inB n 1 40 && decide (m ≤ 20)))
/-- how many fields there are -/
def prodN (ss : Nat → SV) : Nat → Int
  | 0 => 1
  | n + 1 => prodN ss n * ((ss n).hi - (ss n).lo + 1)
def longB (n : Nat) (ss : Nat → SV) (most : Int) : Bool := decide (most < prodN ss n)
/-- an image's error -/
def checkN (n : Nat) (ss : Nat → SV) (m : Nat) (bs : Nat → BM) : Int := if shapeB n ss m bs = false then 2 else if longB n ss 200000 = true then 3 else 0
theorem setB_at {n k : Nat} {cs : Nat → Int} (h : setB n k cs = true) {i : Nat} (hi : i < k) : 0 ≤ cs i ∧ cs i < (n : Int) := by
  have := allUpto_iff.1 h i hi
  simp only [setAt, Bool.and_eq_true, inB_iff] at this
  omega
theorem setB_step {n k : Nat} {cs : Nat → Int} (h : setB n k cs = true) {i : Nat} (hi : i + 1 < k) : cs i < cs (i + 1) := by
  have := allUpto_iff.1 h (i + 1) hi
  simp only [setAt, Bool.and_eq_true, Bool.or_eq_true, beq_iff_eq, decide_eq_true_eq] at this
  rcases this.2 with h | h
  · omega
  · exact h
theorem setB_lt {n k : Nat} {cs : Nat → Int} (h : setB n k cs = true) {i j : Nat} (hij : i < j) (hj : j < k) : cs i < cs j := by
  induction j with
  | zero => omega
  | succ j ih =>
    have hs := setB_step h hj
    by_cases e : i = j
    · subst e; exact hs
    · have := ih (by omega) (by omega); omega
theorem setB_ne {n k : Nat} {cs : Nat → Int} (h : setB n k cs = true) {i j : Nat} (hi : i < k) (hj : j < k) (e : cs i = cs j) : i = j := by
  by_cases h1 : i < j
  · have := setB_lt h h1 hj; omega
  · by_cases h2 : j < i
    · have := setB_lt h h2 hi; omega
    · omega
structure Shape (n : Nat) (ss : Nat → SV) (m : Nat) (bs : Nat → BM) : Prop where
  n1 : 1 ≤ n
  n40 : n ≤ 40
  m20 : m ≤ 20
  span : ∀ i, i < n → 0 ≤ (ss i).lo ∧ (ss i).lo ≤ (ss i).hi ∧ (ss i).hi ≤ 1000
  wn : ∀ i, i < m → (bs i).wn = (bs i).cn
  set : ∀ i, i < m → setB n (bs i).cn (bs i).cs = true
  weight : ∀ i, i < m → ∀ k, k < (bs i).cn → 1 ≤ (bs i).ws k ∧ (bs i).ws k ≤ 1000000
  bound : ∀ i, i < m → 0 ≤ (bs i).lo ∧ (bs i).lo ≤ (bs i).hi ∧ (bs i).hi ≤ 1000000000000
theorem shapeB_iff {n : Nat} {ss : Nat → SV} {m : Nat} {bs : Nat → BM} : shapeB n ss m bs = true ↔ Shape n ss m bs := by
  simp only [shapeB, beamB, spanB, Bool.and_eq_true, allUpto_iff, inB_iff, decide_eq_true_eq, beq_iff_eq]
  constructor
  · rintro ⟨h1, h2, h3, h4⟩
    exact ⟨by omega, by omega, h4, fun i hi => ⟨(h1 i hi).1.1, (h1 i hi).1.2, (h1 i hi).2⟩, fun i hi => (h2 i hi).2.2.1, fun i hi => (h2 i hi).2.1, fun i hi k hk => (h2 i hi).1 k (by rw [(h2 i hi).2.2.1]; exact hk), fun i hi => ⟨(h2 i hi).2.2.2.1.1, (h2 i hi).2.2.2.1.2, (h2 i hi).2.2.2.2⟩⟩
  · intro h
    exact ⟨fun i hi => ⟨⟨(h.span i hi).1, (h.span i hi).2.1⟩, (h.span i hi).2.2⟩, fun i hi => ⟨fun k hk => h.weight i hi k (by rw [← h.wn i hi]; exact hk), h.set i hi, h.wn i hi, ⟨(h.bound i hi).1, (h.bound i hi).2.1⟩, (h.bound i hi).2.2⟩, ⟨by have := h.n1; omega, by have := h.n40; omega⟩, h.m20⟩
/-- a set of cells has no more of them than there are -/
theorem setB_len {n k : Nat} {cs : Nat → Int} (h : setB n k cs = true) : k ≤ n := by
  have key : ∀ j, j < k → (j : Int) ≤ cs j := by
    intro j
    induction j with
    | zero => intro hj; exact (setB_at h hj).1
    | succ j ih =>
      intro hj
      have := ih (by omega)
      have := setB_step h hj
      omega
  by_cases e : k = 0
  · omega
  · have := key (k - 1) (by omega)
    have := (setB_at h (i := k - 1) (by omega)).2
    omega
theorem prodN_pos {ss : Nat → SV} : ∀ n, (∀ i, i < n → (ss i).lo ≤ (ss i).hi) → 1 ≤ prodN ss n
  | 0, _ => by simp [prodN]
  | n + 1, h => by
    have h1 := prodN_pos n (fun i hi => h i (by omega))
    have h2 := h n (by omega)
    rw [prodN]
    have : 1 * 1 ≤ prodN ss n * ((ss n).hi - (ss n).lo + 1) := Int.mul_le_mul h1 (by omega) (by omega) (by omega)
    omega
theorem prodN_step {ss : Nat → SV} {n : Nat} (h : ∀ i, i < n + 1 → (ss i).lo ≤ (ss i).hi) : prodN ss n ≤ prodN ss (n + 1) := by
  have h1 := prodN_pos n (fun i hi => h i (by omega))
  have h2 := h n (by omega)
  rw [prodN]
  have : prodN ss n * 1 ≤ prodN ss n * ((ss n).hi - (ss n).lo + 1) := Int.mul_le_mul_of_nonneg_left (by omega) (by omega)
  omega
theorem prodN_le {ss : Nat → SV} {k n : Nat} (h : ∀ i, i < n → (ss i).lo ≤ (ss i).hi) (hk : k ≤ n) : prodN ss k ≤ prodN ss n := by
  induction n with
  | zero =>
    obtain rfl : k = 0 := by omega
    exact Int.le_refl _
  | succ n ih =>
    by_cases e : k = n + 1
    · rw [e]; exact Int.le_refl _
    · exact Int.le_trans (ih (fun i hi => h i (by omega)) (by omega)) (prodN_step h)
end Go.Proofs.YtkdopjkdokgipaaGreatDoor
