/- Planes and setups as data, and how they lie in memory; what is as defined. No program here. -/
import Derived.Test.YtegimepmccilfaaGreatDoorBase
namespace Go.Proofs.YtegimepmccilfaaGreatDoor
open Go.RowKit
set_option linter.unusedVariables false
set_option linter.unusedSimpArgs false
structure DV where
  time : Int
  lo : Int
  hi : Int
structure PR where
  kind : Int
  view : Int
  z : Int
  first : Int
  pitch : Int
  strips : Int
  spill : Int
  olo : Int
  ohi : Int
  clo : Int
  chi : Int
  jitter : Int
  least : Int
  da : Option Addr
  dn : Nat
  dc : Nat
  ea : Option Addr
  en : Nat
  ec : Nat
  ds : Nat → DV
  es : Nat → Int
abbrev PR.plane (p : PR) : Value := .agg #[.int .i64 p.kind, .int .i64 p.view, .int .i64 p.z, .int .i64 p.first, .int .i64 p.pitch, .int .i64 p.strips, .int .i64 p.spill, .int .i64 p.olo, .int .i64 p.ohi, .int .i64 p.clo, .int .i64 p.chi, .int .i64 p.jitter, .int .i64 p.least, .slice p.da p.dn p.dc, .slice p.ea p.en p.ec]
abbrev PR.placed (p : PR) (i : Int) : Value := .agg #[.int .i64 p.kind, .int .i64 p.view, .int .i64 p.z, .int .i64 p.first, .int .i64 p.pitch, .int .i64 p.strips, .int .i64 p.spill, .int .i64 p.olo, .int .i64 p.ohi, .int .i64 p.clo, .int .i64 p.chi, .int .i64 p.jitter, .int .i64 p.least, .slice p.da p.dn p.dc, .slice p.ea p.en p.ec, .int .i64 i]
/-- the cells of a plane -/
def PR.at (p : PR) (w : World) (b o : Nat) : Prop :=
  w.cell? ⟨b, o, none⟩ = some (.int .i64 p.kind) ∧ w.cell? ⟨b, o + 1, none⟩ = some (.int .i64 p.view) ∧ w.cell? ⟨b, o + 2, none⟩ = some (.int .i64 p.z) ∧ w.cell? ⟨b, o + 3, none⟩ = some (.int .i64 p.first) ∧
  w.cell? ⟨b, o + 4, none⟩ = some (.int .i64 p.pitch) ∧ w.cell? ⟨b, o + 5, none⟩ = some (.int .i64 p.strips) ∧ w.cell? ⟨b, o + 6, none⟩ = some (.int .i64 p.spill) ∧ w.cell? ⟨b, o + 7, none⟩ = some (.int .i64 p.olo) ∧
  w.cell? ⟨b, o + 8, none⟩ = some (.int .i64 p.ohi) ∧ w.cell? ⟨b, o + 9, none⟩ = some (.int .i64 p.clo) ∧ w.cell? ⟨b, o + 10, none⟩ = some (.int .i64 p.chi) ∧ w.cell? ⟨b, o + 11, none⟩ = some (.int .i64 p.jitter) ∧
  w.cell? ⟨b, o + 12, none⟩ = some (.int .i64 p.least) ∧ w.cell? ⟨b, o + 13, none⟩ = some (.slice p.da p.dn p.dc) ∧ w.cell? ⟨b, o + 14, none⟩ = some (.slice p.ea p.en p.ec)
theorem PR.at.below {p : PR} {w w' : World} {B b o : Nat} (h : p.at w b o) (hb : Below B w w') (hB : b < B) : p.at w' b o := by
  obtain ⟨h0, h1, h2, h3, h4, h5, h6, h7, h8, h9, h10, h11, h12, h13, h14⟩ := h
  have c := (bcell hb).1
  exact ⟨(c _ _ hB).trans h0, (c _ _ hB).trans h1, (c _ _ hB).trans h2, (c _ _ hB).trans h3, (c _ _ hB).trans h4, (c _ _ hB).trans h5, (c _ _ hB).trans h6, (c _ _ hB).trans h7, (c _ _ hB).trans h8, (c _ _ hB).trans h9, (c _ _ hB).trans h10, (c _ _ hB).trans h11, (c _ _ hB).trans h12, (c _ _ hB).trans h13, (c _ _ hB).trans h14⟩

/-- a slice of drift steps -/
def Drifts (B : Nat) (w : World) (a : Option Addr) (n : Nat) (ds : Nat → DV) : Prop :=
  n = 0 ∨ ∃ b off, a = some ⟨b, off, none⟩ ∧ b < B ∧ ∀ i, i < n → w.cell? ⟨b, off + i * 3, none⟩ = some (.int .i64 (ds i).time) ∧ w.cell? ⟨b, off + i * 3 + 1, none⟩ = some (.int .i64 (ds i).lo) ∧ w.cell? ⟨b, off + i * 3 + 2, none⟩ = some (.int .i64 (ds i).hi)
theorem Drifts.below {B : Nat} {w w' : World} {a : Option Addr} {n : Nat} {ds : Nat → DV} (h : Drifts B w a n ds) (hb : Below B w w') : Drifts B w' a n ds := by
  rcases h with h | ⟨b, off, ha, hB, hc⟩
  · exact .inl h
  · have c := (bcell hb).1
    exact .inr ⟨b, off, ha, hB, fun i hi => ⟨(c _ _ hB).trans (hc i hi).1, (c _ _ hB).trans (hc i hi).2.1, (c _ _ hB).trans (hc i hi).2.2⟩⟩
theorem Drifts.up {B B' : Nat} {w : World} {a : Option Addr} {n : Nat} {ds : Nat → DV} (h : Drifts B w a n ds) (hb : B ≤ B') : Drifts B' w a n ds := by
  rcases h with h | ⟨b, off, ha, hB, hc⟩
  · exact .inl h
  · exact .inr ⟨b, off, ha, by omega, hc⟩
/-- what a plane's slices hold -/
def PR.mem (p : PR) (B : Nat) (w : World) : Prop := p.dn ≤ maxLen ∧ p.en ≤ maxLen ∧ Drifts B w p.da p.dn p.ds ∧ Ints B w p.ea p.en p.es
theorem PR.mem.below {p : PR} {B : Nat} {w w' : World} (h : p.mem B w) (hb : Below B w w') : p.mem B w' := ⟨h.1, h.2.1, h.2.2.1.below hb, h.2.2.2.below hb⟩
theorem PR.mem.up {p : PR} {B B' : Nat} {w : World} (h : p.mem B w) (hb : B ≤ B') : p.mem B' w := ⟨h.1, h.2.1, h.2.2.1.up hb, h.2.2.2.up hb⟩
/-- a slice of planes -/
def Planes (B : Nat) (w : World) (a : Option Addr) (n : Nat) (ps : Nat → PR) : Prop :=
  n ≤ maxLen ∧ (n = 0 ∨ ∃ b off, a = some ⟨b, off, none⟩ ∧ b < B ∧ ∀ i, i < n → (ps i).at w b (off + i * 15) ∧ (ps i).mem B w)
theorem Planes.below {B : Nat} {w w' : World} {a : Option Addr} {n : Nat} {ps : Nat → PR} (h : Planes B w a n ps) (hb : Below B w w') : Planes B w' a n ps := by
  refine ⟨h.1, ?_⟩
  rcases h.2 with h | ⟨b, off, ha, hB, hc⟩
  · exact .inl h
  · exact .inr ⟨b, off, ha, hB, fun i hi => ⟨(hc i hi).1.below hb hB, (hc i hi).2.below hb⟩⟩
theorem Planes.up {B B' : Nat} {w : World} {a : Option Addr} {n : Nat} {ps : Nat → PR} (h : Planes B w a n ps) (hb : B ≤ B') : Planes B' w a n ps := by
  refine ⟨h.1, ?_⟩
  rcases h.2 with h | ⟨b, off, ha, hB, hc⟩
  · exact .inl h
  · exact .inr ⟨b, off, ha, by omega, fun i hi => ⟨(hc i hi).1, (hc i hi).2.up hb⟩⟩
/-- the setup as a value -/
abbrev setupV (a : Option Addr) (n c : Nat) : Value := .agg #[.slice a n c]

theorem Calls.quiet_same {P : Program} {f : FuncId} {args : Array Value} {w : World} {n : Nat} {v : Value} (h : Calls P f args (w.drewN n) fun e w' => e = .returned v ∧ w.drewN n = w') : Calls P f args (w.drewN n) fun e w'' => e = .returned v ∧ ∃ m, w'' = w.drewN m :=
  h.mono fun _ _ ⟨he, hm⟩ => ⟨he, n, hm.symm⟩
/-! ### what is as defined -/
def withinB (a b c : Int) : Bool := decide (b ≤ a) && decide (a ≤ c)
theorem withinB_iff {a b c : Int} : withinB a b c = true ↔ b ≤ a ∧ a ≤ c := by simp [withinB]
theorem withinB_yes {a b c : Int} (h : b ≤ a) (h' : a ≤ c) : withinB a b c = true := withinB_iff.2 ⟨h, h'⟩
theorem withinB_no {a b c : Int} (h : ¬ (b ≤ a ∧ a ≤ c)) : withinB a b c = false := by cases hh : withinB a b c; rfl; exact absurd (withinB_iff.1 hh) h
def orderedB (lo hi most : Int) : Bool := withinB lo (-most) hi && decide (hi ≤ most)
theorem orderedB_iff {a b c : Int} : orderedB a b c = true ↔ -c ≤ a ∧ a ≤ b ∧ b ≤ c := by simp [orderedB, withinB_iff, and_assoc]
def stepOk (pitch : Int) (d : DV) : Bool := withinB d.time 0 1000000 && (withinB d.lo 0 d.hi && decide (d.hi ≤ pitch / 2))
def stepUp (c d : DV) : Bool := decide (c.time < d.time) && (decide (c.lo ≤ d.lo) && decide (c.hi ≤ d.hi))
def stepAt (pitch : Int) (ds : Nat → DV) (j : Nat) : Bool := stepOk pitch (ds j) && (j == 0 || stepUp (ds (j - 1)) (ds j))
def tubesB (pitch : Int) (n : Nat) (ds : Nat → DV) : Bool := allUpto n (stepAt pitch ds) && withinB n 1 50
theorem stepAt_zero {pitch : Int} {ds : Nat → DV} (h1 : withinB (ds 0).time 0 1000000 = true) (h2 : withinB (ds 0).lo 0 (ds 0).hi = true) (h3 : (ds 0).hi ≤ pitch / 2) : stepAt pitch ds 0 = true := by
  simp [stepAt, stepOk, h1, h2, h3]
theorem stepAt_iff {pitch : Int} {ds : Nat → DV} {k : Nat} : stepAt pitch ds k = true ↔ (0 ≤ (ds k).time ∧ (ds k).time ≤ 1000000) ∧ (0 ≤ (ds k).lo ∧ (ds k).lo ≤ (ds k).hi) ∧ (ds k).hi ≤ pitch / 2 ∧ (k = 0 ∨ ((ds (k - 1)).time < (ds k).time ∧ (ds (k - 1)).lo ≤ (ds k).lo ∧ (ds (k - 1)).hi ≤ (ds k).hi)) := by
  simp [stepAt, stepOk, stepUp, withinB_iff, and_assoc]
theorem tubesB_false {pitch : Int} {ds : Nat → DV} {n k : Nat} (hk : k < n) (h : ¬ stepAt pitch ds k = true) : tubesB pitch n ds = false := by
  rw [tubesB, allUpto_false hk (by simpa using h), Bool.false_and]
theorem tubesB_end {pitch : Int} {ds : Nat → DV} {n k : Nat} (hk : k = n) (h : ∀ j, j < k → stepAt pitch ds j = true) : tubesB pitch n ds = withinB n 1 50 := by
  subst hk; rw [tubesB, allUpto_true h, Bool.true_and]
def shapedPre (p : PR) : Bool := withinB p.view 1 2 && (withinB p.z 0 100000 && (withinB p.first (-1000000) 1000000 && (withinB p.pitch 2 100000 && (withinB p.strips 1 2000 && (withinB p.spill 0 100000 && (orderedB p.olo p.ohi 1000000 && (orderedB p.clo p.chi 1000000000 && (withinB p.jitter 0 1000000 && withinB p.least 0 1000000))))))))
def shapedB (p : PR) : Bool := shapedPre p && (decide (-1000000 ≤ p.first - p.pitch - p.spill + p.olo) && decide (p.first + (p.strips + 1) * p.pitch + p.spill + p.ohi ≤ 1000000))
structure Shaped (p : PR) : Prop where
  view : 1 ≤ p.view ∧ p.view ≤ 2
  z : 0 ≤ p.z ∧ p.z ≤ 100000
  first : -1000000 ≤ p.first ∧ p.first ≤ 1000000
  pitch : 2 ≤ p.pitch ∧ p.pitch ≤ 100000
  strips : 1 ≤ p.strips ∧ p.strips ≤ 2000
  spill : 0 ≤ p.spill ∧ p.spill ≤ 100000
  off : -1000000 ≤ p.olo ∧ p.olo ≤ p.ohi ∧ p.ohi ≤ 1000000
  clock : -1000000000 ≤ p.clo ∧ p.clo ≤ p.chi ∧ p.chi ≤ 1000000000
  jitter : 0 ≤ p.jitter ∧ p.jitter ≤ 1000000
  least : 0 ≤ p.least ∧ p.least ≤ 1000000
  low : -1000000 ≤ p.first - p.pitch - p.spill + p.olo
  high : p.first + (p.strips + 1) * p.pitch + p.spill + p.ohi ≤ 1000000
theorem shapedPre_iff {p : PR} : shapedPre p = true ↔ (1 ≤ p.view ∧ p.view ≤ 2) ∧ (0 ≤ p.z ∧ p.z ≤ 100000) ∧ (-1000000 ≤ p.first ∧ p.first ≤ 1000000) ∧ (2 ≤ p.pitch ∧ p.pitch ≤ 100000) ∧ (1 ≤ p.strips ∧ p.strips ≤ 2000) ∧ (0 ≤ p.spill ∧ p.spill ≤ 100000) ∧
    (-1000000 ≤ p.olo ∧ p.olo ≤ p.ohi ∧ p.ohi ≤ 1000000) ∧ (-1000000000 ≤ p.clo ∧ p.clo ≤ p.chi ∧ p.chi ≤ 1000000000) ∧ (0 ≤ p.jitter ∧ p.jitter ≤ 1000000) ∧ (0 ≤ p.least ∧ p.least ≤ 1000000) := by
  simp only [shapedPre, Bool.and_eq_true, withinB_iff, orderedB_iff]
theorem shapedB_iff {p : PR} : shapedB p = true ↔ Shaped p := by
  simp only [shapedB, Bool.and_eq_true, shapedPre_iff, decide_eq_true_eq]
  constructor
  · rintro ⟨⟨a, b, c, d, e, f, g, h, i, j⟩, k, l⟩; exact ⟨a, b, c, d, e, f, g, h, i, j, k, l⟩
  · rintro ⟨a, b, c, d, e, f, g, h, i, j, k, l⟩; exact ⟨⟨a, b, c, d, e, f, g, h, i, j⟩, k, l⟩
theorem prod_bounds {s q : Int} (h1 : 1 ≤ s) (h2 : s ≤ 2000) (h3 : 2 ≤ q) (h4 : q ≤ 100000) : 0 ≤ (s + 1) * q ∧ (s + 1) * q ≤ 200100000 := by
  refine ⟨Int.mul_nonneg (by omega) (by omega), ?_⟩
  have := Int.mul_le_mul (a := s + 1) (b := q) (c := 2001) (d := 100000) (by omega) h4 (by omega) (by omega)
  omega
def kindB (p : PR) : Bool := if p.kind = 2 then tubesB p.pitch p.dn p.ds else (p.dn : Int) == 0
def deadAt (strips : Int) (es : Nat → Int) (j : Nat) : Bool := withinB (es j) 0 (strips - 1) && (j == 0 || decide (es (j - 1) < es j))
theorem deadAt_iff {s : Int} {es : Nat → Int} {k : Nat} : deadAt s es k = true ↔ (0 ≤ es k ∧ es k ≤ s - 1) ∧ (k = 0 ∨ es (k - 1) < es k) := by simp [deadAt, withinB_iff]
def deadsB (p : PR) : Bool := allUpto p.en (deadAt p.strips p.es) && decide ((p.en : Int) ≤ 100)
def properB (p : PR) : Bool := withinB p.kind 1 3 && (shapedB p && (kindB p && deadsB p))
def planeAt (ps : Nat → PR) (j : Nat) : Bool := properB (ps j) && (j == 0 || decide ((ps (j - 1)).z < (ps j).z))
def checkB (n : Nat) (ps : Nat → PR) : Bool := allUpto n (planeAt ps) && withinB n 1 16

end Go.Proofs.YtegimepmccilfaaGreatDoor
