/- Planes of a setup as they are written. No program here. -/
import Derived.Test.YtegimepmccilfaaGreatDoorPlaneData
import Derived.Test.YtegimepmccilfaaGreatDoorGpA
namespace Go.Proofs.YtegimepmccilfaaGreatDoor
open Go.RowKit
set_option linter.unusedVariables false
set_option linter.unusedSimpArgs false
def toDR (d : DV) : DR := (d.time, d.lo, d.hi)
def nsOf (p : PR) : List Int := [p.z, p.first, p.pitch, p.strips, p.spill, p.olo, p.ohi, p.clo, p.chi, p.jitter, p.least]
def drOf (p : PR) : List DR := (List.range p.dn).map fun i => toDR (p.ds i)
def deOf (p : PR) : List Int := (List.range p.en).map p.es
def toPP (p : PR) : PP := ⟨p.kind, p.view, nsOf p, drOf p, deOf p⟩
def ppsOf (n : Nat) (ps : Nat → PR) : List PP := (List.range n).map fun i => toPP (ps i)
/-- what a proper plane's numbers are -/
structure PPB (p : PR) : Prop where
  kind : 1 ≤ p.kind ∧ p.kind ≤ 3
  view : 1 ≤ p.view ∧ p.view ≤ 2
  ns : ∀ n ∈ nsOf p, -1000000000 ≤ n ∧ n ≤ 1000000000
  dn : p.dn ≤ 50
  ds : ∀ i, i < p.dn → (0 ≤ (p.ds i).time ∧ (p.ds i).time ≤ 1000000) ∧ (0 ≤ (p.ds i).lo ∧ (p.ds i).lo ≤ 100000) ∧ (0 ≤ (p.ds i).hi ∧ (p.ds i).hi ≤ 100000)
  en : p.en ≤ 100
  es : ∀ i, i < p.en → 0 ≤ p.es i ∧ p.es i ≤ 2000
theorem ppb_of {p : PR} (h : properB p = true) : PPB p := by
  unfold properB at h
  rw [Bool.and_eq_true, Bool.and_eq_true, Bool.and_eq_true, withinB_iff, shapedB_iff] at h
  obtain ⟨h1, h2, h3, h4⟩ := h
  unfold deadsB at h4
  rw [Bool.and_eq_true, allUpto_iff, decide_eq_true_eq] at h4
  have hp := h2.pitch
  refine ⟨h1, h2.view, fun n hn => ?_, ?_, fun i hi => ?_, by omega, fun i hi => ?_⟩
  · have a1 := h2.z; have a2 := h2.first; have a4 := h2.strips; have a5 := h2.spill; have a6 := h2.off; have a7 := h2.clock; have a8 := h2.jitter; have a9 := h2.least
    simp only [nsOf, List.mem_cons, List.not_mem_nil, or_false] at hn
    rcases hn with e | e | e | e | e | e | e | e | e | e | e <;> subst e <;> omega
  · unfold kindB at h3
    split at h3
    · unfold tubesB at h3
      rw [Bool.and_eq_true, withinB_iff] at h3
      omega
    · have : (p.dn : Int) = 0 := by simpa using h3
      omega
  · unfold kindB at h3
    split at h3
    · unfold tubesB at h3
      rw [Bool.and_eq_true, allUpto_iff] at h3
      have := stepAt_iff.1 (h3.1 i hi)
      omega
    · have : (p.dn : Int) = 0 := by simpa using h3
      omega
  · have := (deadAt_iff.1 (h4.1 i hi)).1
    have := h2.strips
    omega
theorem pp_ok {p : PR} (h : PPB p) : (toPP p).Ok := by
  refine ⟨h.kind, h.view, rfl, fun n hn => ?_, fun d hd => ?_, fun n hn => ?_⟩
  · have := h.ns n hn
    exact ⟨by omega, by omega⟩
  · obtain ⟨i, hi, rfl⟩ := List.mem_map.1 hd
    have := h.ds i (by simpa using hi)
    exact ⟨⟨by show -9999999999 ≤ (p.ds i).time; omega, by show (p.ds i).time ≤ _; omega⟩, ⟨by show -9999999999 ≤ (p.ds i).lo; omega, by show (p.ds i).lo ≤ _; omega⟩, ⟨by show -9999999999 ≤ (p.ds i).hi; omega, by show (p.ds i).hi ≤ _; omega⟩⟩
  · obtain ⟨i, hi, rfl⟩ := List.mem_map.1 hn
    have := h.es i (by simpa using hi)
    exact ⟨by omega, by omega⟩
theorem check_ppb {n : Nat} {ps : Nat → PR} (h : checkB n ps = true) : (1 ≤ n ∧ n ≤ 16) ∧ ∀ i, i < n → PPB (ps i) := by
  unfold checkB at h
  rw [Bool.and_eq_true, allUpto_iff, withinB_iff] at h
  refine ⟨by omega, fun i hi => ?_⟩
  have := h.1 i hi
  unfold planeAt at this
  rw [Bool.and_eq_true] at this
  exact ppb_of this.1
theorem check_oks {n : Nat} {ps : Nat → PR} (h : checkB n ps = true) : ∀ p ∈ ppsOf n ps, p.Ok := fun p hp => by
  obtain ⟨i, hi, rfl⟩ := List.mem_map.1 hp
  exact pp_ok ((check_ppb h).2 i (by simpa using hi))
/-! ### how long a text is -/
theorem itoa_len {n : Int} (h : -9999999999 ≤ n ∧ n ≤ 9999999999) : 1 ≤ (Lib.itoa n).length ∧ (Lib.itoa n).length ≤ 11 := by
  unfold Lib.itoa
  split
  · have h1 := (dec_can n.natAbs).2.1
    have h2 := dec_len (u := n.natAbs) (by omega)
    rw [List.length_cons]
    omega
  · have h1 := (dec_can n.toNat).2.1
    have h2 := dec_len (u := n.toNat) (by omega)
    omega
theorem flat_len {l : List Tx} {K : Nat} (h : ∀ w ∈ l, w.length ≤ K) : l.flatten.length ≤ l.length * K := by
  induction l with
  | nil => simp
  | cons w l ih =>
    rw [List.flatten_cons, List.length_append, List.length_cons, Nat.add_mul, Nat.one_mul]
    have := h w (by simp)
    have := ih (fun v hv => h v (List.mem_cons_of_mem _ hv))
    omega
theorem digs_len {u k : Nat} (h0 : 1 ≤ k) (h : u < 10 ^ k) : (Lib.decDigits u).length ≤ k := by
  rw [Lib.decDigits_length]
  induction k generalizing u with
  | zero => omega
  | succ k ih =>
    by_cases h1 : u < 10
    · rw [Lib.nDigits_small h1]; omega
    · rw [Lib.nDigits_big h1]
      by_cases hk : k = 0
      · subst hk; omega
      · have := ih (u := u / 10) (by omega) (by rw [Nat.pow_succ] at h; omega)
        omega
theorem itoa_le {n : Int} {k : Nat} (h0 : 1 ≤ k) (h : 0 ≤ n ∧ n < ((10 ^ k : Nat) : Int)) : (Lib.itoa n).length ≤ k := by
  unfold Lib.itoa
  rw [if_neg (by omega)]
  exact digs_len h0 (by omega)
/-- lengths with a byte between -/
def szs : List Tx → Nat
  | [] => 0
  | w :: ws => w.length + 1 + szs ws
theorem szs_append : ∀ a b : List Tx, szs (a ++ b) = szs a + szs b
  | [], b => by simp [szs]
  | w :: a, b => by rw [List.cons_append, szs, szs, szs_append a b]; omega
theorem jn_len (c : UInt8) : ∀ ws : List Tx, (jn c ws).length ≤ szs ws
  | [] => Nat.le_refl _
  | [w] => by simp [jn, szs]
  | w :: v :: ws => by
    have ih := jn_len c (v :: ws)
    rw [jn_cons, List.length_append, List.length_cons, szs]
    omega
theorem szs_le {K : Nat} : ∀ {l : List Tx}, (∀ w ∈ l, w.length ≤ K) → szs l ≤ l.length * (K + 1)
  | [], _ => by simp [szs]
  | w :: l, h => by
    rw [szs, List.length_cons, Nat.add_mul, Nat.one_mul]
    have := h w (by simp)
    have := szs_le (l := l) (fun v hv => h v (List.mem_cons_of_mem _ hv))
    omega
theorem drT_len {p : PR} (h : PPB p) {i : Nat} (hi : i < p.dn) : (drT (toDR (p.ds i))).length ≤ 21 := by
  obtain ⟨h1, h2, h3⟩ := h.ds i hi
  have a := itoa_le (n := (p.ds i).time) (k := 7) (by omega) ⟨h1.1, by omega⟩
  have b := itoa_le (n := (p.ds i).lo) (k := 6) (by omega) ⟨h2.1, by omega⟩
  have c := itoa_le (n := (p.ds i).hi) (k := 6) (by omega) ⟨h3.1, by omega⟩
  show (jn 58 [Lib.itoa (p.ds i).time, Lib.itoa (p.ds i).lo, Lib.itoa (p.ds i).hi]).length ≤ 21
  simp only [jn, List.map_cons, List.map_nil, List.flatten_cons, List.flatten_nil, List.append_nil, List.length_append, List.length_cons]
  omega
theorem ppT_len {p : PR} (h : PPB p) : (ppT (toPP p)).length ≤ 2000 := by
  have hk : (kindT p.kind).length ≤ 6 := by
    unfold kindT
    split
    · decide
    · split <;> decide
  have hv : (viewT p.view).length ≤ 6 := by
    unfold viewT
    split <;> decide
  have h1 : szs (kindT p.kind :: viewT p.view :: (nsOf p).map Lib.itoa) ≤ 200 := by
    have h2 : szs ((nsOf p).map Lib.itoa) ≤ ((nsOf p).map Lib.itoa).length * 12 := szs_le (fun w hw => by
      obtain ⟨n, hn, rfl⟩ := List.mem_map.1 hw
      have := h.ns n hn
      exact (itoa_len ⟨by omega, by omega⟩).2)
    rw [List.length_map] at h2
    have h3 : (nsOf p).length = 11 := rfl
    rw [szs, szs]
    omega
  have h2 : szs (drW (drOf p)) ≤ 1200 := by
    have hl : (drOf p).length = p.dn := by simp [drOf]
    unfold drW
    split
    · simp [szs]
    · have h3 : szs ((drOf p).map drT) ≤ ((drOf p).map drT).length * 22 := szs_le (fun w hw => by
        obtain ⟨d, hd, rfl⟩ := List.mem_map.1 hw
        obtain ⟨i, hi, rfl⟩ := List.mem_map.1 hd
        exact drT_len h (by simpa using hi))
      rw [List.length_map, hl] at h3
      have := h.dn
      have h4 : driftT.length = 5 := rfl
      rw [szs]
      omega
  have h3 : szs (deW (deOf p)) ≤ 600 := by
    have hl : (deOf p).length = p.en := by simp [deOf]
    unfold deW
    split
    · simp [szs]
    · have h3 : szs ((deOf p).map Lib.itoa) ≤ ((deOf p).map Lib.itoa).length * 5 := szs_le (fun w hw => by
        obtain ⟨n, hn, rfl⟩ := List.mem_map.1 hw
        obtain ⟨i, hi, rfl⟩ := List.mem_map.1 hn
        have := h.es i (by simpa using hi)
        exact itoa_le (by omega) ⟨this.1, by omega⟩)
      rw [List.length_map, hl] at h3
      have := h.en
      have h4 : deadT.length = 4 := rfl
      rw [szs]
      omega
  have h4 := jn_len 32 (ppW (toPP p))
  have e : ppW (toPP p) = (kindT p.kind :: viewT p.view :: (nsOf p).map Lib.itoa) ++ (drW (drOf p) ++ deW (deOf p)) := rfl
  rw [e, szs_append, szs_append] at h4
  unfold ppT
  rw [e]
  omega
theorem filT_len {n : Nat} {ps : Nat → PR} (h : checkB n ps = true) : (filT (ppsOf n ps)).length ≤ 40000 := by
  obtain ⟨⟨_, h1⟩, h2⟩ := check_ppb h
  have hl : (ppsOf n ps).length = n := by simp [ppsOf]
  have h3 : ((ppsOf n ps).map (fun p => ppT p ++ [10])).flatten.length ≤ ((ppsOf n ps).map (fun p => ppT p ++ [10])).length * 2001 := flat_len (fun w hw => by
    obtain ⟨p, hp, rfl⟩ := List.mem_map.1 hw
    obtain ⟨i, hi, rfl⟩ := List.mem_map.1 hp
    have := ppT_len (h2 i (by simpa using hi))
    simp
    omega)
  rw [List.length_map, hl] at h3
  have h4 := (itoa_len (n := ((ppsOf n ps).length : Int)) ⟨by omega, by omega⟩).2
  unfold filT
  rw [List.length_append, List.length_append, List.length_cons]
  have h5 : setupT.length = 6 := rfl
  omega
end Go.Proofs.YtegimepmccilfaaGreatDoor
