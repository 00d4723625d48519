/- Gates as data. No program here. -/
import Derived.Test.YtegimepmccilfaaGreatDoorHitData
namespace Go.Proofs.YtegimepmccilfaaGreatDoor
open Go.RowKit
set_option linter.unusedVariables false
set_option linter.unusedSimpArgs false
structure GV where
  z : Int
  lo : Int
  hi : Int
/-- a slice of gates -/
def GatesAt (B : Nat) (w : World) (a : Option Addr) (n : Nat) (gs : Nat → GV) : Prop :=
  n = 0 ∨ ∃ b off, a = some ⟨b, off, none⟩ ∧ b < B ∧ ∀ i, i < n → w.cell? ⟨b, off + i * 3, none⟩ = some (.int .i64 (gs i).z) ∧ w.cell? ⟨b, off + i * 3 + 1, none⟩ = some (.int .i64 (gs i).lo) ∧ w.cell? ⟨b, off + i * 3 + 2, none⟩ = some (.int .i64 (gs i).hi)
theorem GatesAt.below {B : Nat} {w w' : World} {a : Option Addr} {n : Nat} {gs : Nat → GV} (h : GatesAt B w a n gs) (hb : Below B w w') : GatesAt B w' a n gs := by
  rcases h with h | ⟨b, off, ha, hB, hc⟩
  · exact .inl h
  · have c := (bcell hb).1
    exact .inr ⟨b, off, ha, hB, fun i hi => ⟨(c _ _ hB).trans (hc i hi).1, (c _ _ hB).trans (hc i hi).2.1, (c _ _ hB).trans (hc i hi).2.2⟩⟩
theorem GatesAt.up {B B' : Nat} {w : World} {a : Option Addr} {n : Nat} {gs : Nat → GV} (h : GatesAt B w a n gs) (hb : B ≤ B') : GatesAt B' w a n gs := by
  rcases h with h | ⟨b, off, ha, hB, hc⟩
  · exact .inl h
  · exact .inr ⟨b, off, ha, by omega, hc⟩
def gvEq (x y : GV) : Bool := (x.z == y.z) && ((x.lo == y.lo) && (x.hi == y.hi))
def sameGatesB (n m : Nat) (f g : Nat → GV) : Bool := (n == m) && allUpto n (fun i => gvEq (f i) (g i))
theorem sameGatesB_len {n m : Nat} {f g : Nat → GV} (h : ¬ n = m) : false = sameGatesB n m f g := by simp [sameGatesB, h]
theorem sameGatesB_at {n m k : Nat} {f g : Nat → GV} (hk : k < n) (h : gvEq (f k) (g k) = false) : false = sameGatesB n m f g := by
  rw [sameGatesB, allUpto_false hk h, Bool.and_false]
theorem sameGatesB_end {n m k : Nat} {f g : Nat → GV} (hn : n = m) (hk : k = n) (h : ∀ j, j < k → gvEq (f j) (g j) = true) : true = sameGatesB n m f g := by
  subst hk; subst hn; rw [sameGatesB, allUpto_true h]; simp
theorem sameGatesB_refl {n : Nat} {f g : Nat → GV} (h : ∀ i, i < n → f i = g i) : sameGatesB n n f g = true := by
  rw [sameGatesB, allUpto_true (fun j hj => by rw [h j hj]; simp [gvEq])]; simp
/-- the least radius, when k steps have been looked at -/
def radLo (p : PR) (drift : Int) : Nat → Int
  | 0 => 0
  | k + 1 => if (p.ds k).time ≤ drift - p.jitter then (p.ds k).lo else radLo p drift k
/-- the greatest radius, when the last m steps have been looked at -/
def radHi (p : PR) (drift : Int) : Nat → Int
  | 0 => p.pitch / 2
  | m + 1 => if drift + p.jitter ≤ (p.ds (p.dn - 1 - m)).time then (p.ds (p.dn - 1 - m)).hi else radHi p drift m
def gA (p : PR) (h : HV) : Int := p.first + (h.channel + h.many - 1) * p.pitch - p.spill
def gB (p : PR) (h : HV) : Int := p.first + (h.channel + 1) * p.pitch + p.spill
def gW (p : PR) (h : HV) : Int := p.first + h.channel * p.pitch
def gR (p : PR) (h : HV) : Int := radLo p h.drift p.dn
def gF (p : PR) (h : HV) : Int := radHi p h.drift p.dn
def oneB (p : PR) (h : HV) : Bool := decide (gW p h + gR p h + p.olo ≤ gW p h - gR p h + p.ohi)
def gateN (p : PR) (h : HV) : Nat := if p.kind = 2 then (if oneB p h = true then 1 else 2) else (if gB p h < gA p h then 0 else 1)
def gateF (p : PR) (h : HV) (i : Nat) : GV :=
  if p.kind = 2 then (if oneB p h = true then ⟨p.z, gW p h - gF p h + p.olo, gW p h + gF p h + p.ohi⟩ else if i = 0 then ⟨p.z, gW p h - gF p h + p.olo, gW p h - gR p h + p.ohi⟩ else ⟨p.z, gW p h + gR p h + p.olo, gW p h + gF p h + p.ohi⟩)
  else ⟨p.z, gA p h + p.olo, gB p h + p.ohi⟩
def GatesRes (w : World) (p : PR) (h : HV) (e : Ending) (w' : World) : Prop :=
  ∃ a c, e = .returned (.slice a (gateN p h) c) ∧ (gateN p h = 0 → a = none ∧ c = 0) ∧ GatesAt w'.heap.size w' a (gateN p h) (gateF p h) ∧ Below w.heap.size w w'
theorem mul_bounds {x q : Int} (h1 : 0 ≤ x) (h2 : x ≤ 2001) (h3 : 2 ≤ q) (h4 : q ≤ 100000) : 0 ≤ x * q ∧ x * q ≤ 200100000 := by
  refine ⟨Int.mul_nonneg h1 (by omega), ?_⟩
  have := Int.mul_le_mul (a := x) (b := q) (c := 2001) (d := 100000) h2 h4 (by omega) (by omega)
  omega
theorem radLo_bounds {p : PR} {drift : Int} (h : tubesB p.pitch p.dn p.ds = true) (hp : p.pitch ≤ 100000) (hp2 : 2 ≤ p.pitch) : ∀ k, k ≤ p.dn → 0 ≤ radLo p drift k ∧ radLo p drift k ≤ 50000
  | 0, _ => by simp [radLo]
  | k + 1, hk => by
    have hs : stepAt p.pitch p.ds k = true := by
      simp only [tubesB, Bool.and_eq_true, allUpto_iff] at h
      exact h.1 k hk
    rw [stepAt_iff] at hs
    have ih := radLo_bounds h hp hp2 (drift := drift) k (by omega)
    rw [radLo]
    split <;> omega
theorem radHi_bounds {p : PR} {drift : Int} (h : tubesB p.pitch p.dn p.ds = true) (hp : p.pitch ≤ 100000) (hp2 : 2 ≤ p.pitch) : ∀ k, k ≤ p.dn → 0 ≤ radHi p drift k ∧ radHi p drift k ≤ 50000
  | 0, _ => by simp only [radHi]; omega
  | k + 1, hk => by
    have hs : stepAt p.pitch p.ds (p.dn - 1 - k) = true := by
      simp only [tubesB, Bool.and_eq_true, allUpto_iff] at h
      exact h.1 _ (by omega)
    rw [stepAt_iff] at hs
    have ih := radHi_bounds h hp hp2 (drift := drift) k (by omega)
    rw [radHi]
    split <;> omega
theorem properB_tubes {p : PR} (h : properB p = true) (hk : p.kind = 2) : tubesB p.pitch p.dn p.ds = true := by
  simp only [properB, Bool.and_eq_true] at h
  have := h.2.2.1
  simpa [kindB, hk] using this
theorem hitB_drift {p : PR} {h : HV} (hh : hitB p h = true) (hk : p.kind = 2) : 0 ≤ h.drift ∧ h.drift ≤ 1000000 := by
  simp only [hitB, Bool.and_eq_true] at hh
  have := hh.2.2
  simp only [hitKind, hk, if_true, Bool.and_eq_true] at this
  exact withinB_iff.1 this.2
theorem gateN_none {p : PR} {h : HV} (hk : ¬ p.kind = 2) (hg : gB p h < gA p h) : gateN p h = 0 := by rw [gateN, if_neg hk, if_pos hg]
theorem gateN_strip {p : PR} {h : HV} (hk : ¬ p.kind = 2) (hg : ¬ gB p h < gA p h) : gateN p h = 1 := by rw [gateN, if_neg hk, if_neg hg]
theorem oneB_yes {p : PR} {h : HV} {r : Int} (hr : r = radLo p h.drift p.dn) (ho : gW p h + r + p.olo ≤ gW p h - r + p.ohi) : oneB p h = true := by rw [hr] at ho; exact decide_eq_true ho
theorem oneB_no {p : PR} {h : HV} {r : Int} (hr : r = radLo p h.drift p.dn) (ho : ¬ gW p h + r + p.olo ≤ gW p h - r + p.ohi) : ¬ oneB p h = true := by rw [hr] at ho; intro e; exact ho (of_decide_eq_true e)
theorem gateN_one {p : PR} {h : HV} (hk : p.kind = 2) (ho : oneB p h = true) : gateN p h = 1 := by rw [gateN, if_pos hk, if_pos ho]
theorem gateN_two {p : PR} {h : HV} (hk : p.kind = 2) (ho : ¬ oneB p h = true) : gateN p h = 2 := by rw [gateN, if_pos hk, if_neg ho]
theorem gateF_strip {p : PR} {h : HV} {i : Nat} (hk : ¬ p.kind = 2) : gateF p h i = ⟨p.z, gA p h + p.olo, gB p h + p.ohi⟩ := by rw [gateF, if_neg hk]
theorem gateF_one {p : PR} {h : HV} {i : Nat} {f : Int} (hf : f = radHi p h.drift p.dn) (hk : p.kind = 2) (ho : oneB p h = true) : gateF p h i = ⟨p.z, gW p h - f + p.olo, gW p h + f + p.ohi⟩ := by rw [gateF, if_pos hk, if_pos ho, hf]; rfl
theorem gateF_left {p : PR} {h : HV} {f r : Int} (hr : r = radLo p h.drift p.dn) (hf : f = radHi p h.drift p.dn) (hk : p.kind = 2) (ho : ¬ oneB p h = true) : gateF p h 0 = ⟨p.z, gW p h - f + p.olo, gW p h - r + p.ohi⟩ := by rw [gateF, if_pos hk, if_neg ho, if_pos rfl, hf, hr]; rfl
theorem gateF_right {p : PR} {h : HV} {f r : Int} (hr : r = radLo p h.drift p.dn) (hf : f = radHi p h.drift p.dn) (hk : p.kind = 2) (ho : ¬ oneB p h = true) : gateF p h 1 = ⟨p.z, gW p h + r + p.olo, gW p h + f + p.ohi⟩ := by rw [gateF, if_pos hk, if_neg ho, if_neg (by decide), hf, hr]; rfl
theorem hitB_bounds {p : PR} {h : HV} (hh : hitB p h = true) : (0 ≤ h.channel ∧ h.channel ≤ p.strips - 1) ∧ (1 ≤ h.many ∧ h.many ≤ p.strips - h.channel) ∧ (p.least ≤ h.charge ∧ h.charge ≤ 1000000) ∧ (-1000000000 ≤ h.time ∧ h.time ≤ 1000000000) := by
  simp only [hitB, Bool.and_eq_true] at hh
  exact hitPre_iff.1 hh.1
end Go.Proofs.YtegimepmccilfaaGreatDoor
