/- Planes that are written the same are the same. No program here. -/
import Derived.Test.YtegimepmccilfaaGreatDoorPlSame
import Derived.Test.YtegimepmccilfaaGreatDoorGpD
namespace Go.Proofs.YtegimepmccilfaaGreatDoor
open Go.RowKit
set_option linter.unusedVariables false
set_option linter.unusedSimpArgs false
structure WSame (p q : PR) : Prop where
  kind : p.kind = q.kind
  view : p.view = q.view
  z : p.z = q.z
  first : p.first = q.first
  pitch : p.pitch = q.pitch
  strips : p.strips = q.strips
  spill : p.spill = q.spill
  olo : p.olo = q.olo
  ohi : p.ohi = q.ohi
  clo : p.clo = q.clo
  chi : p.chi = q.chi
  jitter : p.jitter = q.jitter
  least : p.least = q.least
  dn : p.dn = q.dn
  en : p.en = q.en
  ds : ∀ i, i < p.dn → p.ds i = q.ds i
  es : ∀ i, i < p.en → p.es i = q.es i
theorem dr_eq {p q : PR} (h : drOf p = drOf q) : p.dn = q.dn ∧ ∀ i, i < p.dn → p.ds i = q.ds i := by
  have hn : p.dn = q.dn := by
    have := congrArg List.length h
    simpa [drOf] using this
  refine ⟨hn, fun i hi => ?_⟩
  have h1 : (drOf p)[i]? = (drOf q)[i]? := by rw [h]
  unfold drOf at h1
  rw [List.getElem?_map, List.getElem?_map, List.getElem?_range hi, List.getElem?_range (by omega)] at h1
  simp only [Option.map_some, Option.some.injEq, toDR, Prod.mk.injEq] at h1
  obtain ⟨a, b, c⟩ := h1
  cases hp : p.ds i
  cases hq : q.ds i
  rw [hp, hq] at a b c
  simp only at a b c
  subst a b c
  rfl
theorem de_eq {p q : PR} (h : deOf p = deOf q) : p.en = q.en ∧ ∀ i, i < p.en → p.es i = q.es i := by
  have hn : p.en = q.en := by
    have := congrArg List.length h
    simpa [deOf] using this
  refine ⟨hn, fun i hi => ?_⟩
  have h1 : (deOf p)[i]? = (deOf q)[i]? := by rw [h]
  unfold deOf at h1
  rw [List.getElem?_map, List.getElem?_map, List.getElem?_range hi, List.getElem?_range (by omega)] at h1
  simpa using h1
theorem pp_same {p q : PR} (h : toPP p = toPP q) : WSame p q := by
  unfold toPP at h
  injection h with h1 h2 h3 h4 h5
  unfold nsOf at h3
  simp only [List.cons.injEq, and_true] at h3
  obtain ⟨a1, a2, a3, a4, a5, a6, a7, a8, a9, a10, a11⟩ := h3
  obtain ⟨b1, b2⟩ := dr_eq h4
  obtain ⟨c1, c2⟩ := de_eq h5
  exact ⟨h1, h2, a1, a2, a3, a4, a5, a6, a7, a8, a9, a10, a11, b1, c1, b2, c2⟩
theorem upto_same {f g : Nat → Bool} : ∀ {n : Nat}, (∀ i, i < n → f i = g i) → allUpto n f = allUpto n g := by
  intro n h
  rw [Bool.eq_iff_iff, allUpto_iff, allUpto_iff]
  exact ⟨fun k i hi => (h i hi) ▸ k i hi, fun k i hi => (h i hi).symm ▸ k i hi⟩
theorem proper_same {p q : PR} (h : WSame p q) : properB p = properB q := by
  have e1 : shapedB p = shapedB q := by
    unfold shapedB shapedPre
    rw [h.view, h.z, h.first, h.pitch, h.strips, h.spill, h.olo, h.ohi, h.clo, h.chi, h.jitter, h.least]
  have e2 : kindB p = kindB q := by
    unfold kindB
    rw [h.kind, h.dn]
    split
    · unfold tubesB
      rw [h.pitch]
      congr 1
      refine upto_same fun i hi => ?_
      have hi' : i < p.dn := by rw [h.dn]; exact hi
      unfold stepAt
      rw [h.ds i hi']
      by_cases h0 : i = 0
      · subst h0; rfl
      · rw [h.ds (i - 1) (by omega)]
    · rfl
  have e3 : deadsB p = deadsB q := by
    unfold deadsB
    rw [h.strips, h.en]
    congr 1
    refine upto_same fun i hi => ?_
    have hi' : i < p.en := by rw [h.en]; exact hi
    unfold deadAt
    rw [h.es i hi']
    by_cases h0 : i = 0
    · subst h0; rfl
    · rw [h.es (i - 1) (by omega)]
  unfold properB
  rw [h.kind, e1, e2, e3]
theorem check_same {n : Nat} {ps qs : Nat → PR} (h : ∀ i, i < n → WSame (ps i) (qs i)) : checkB n ps = checkB n qs := by
  unfold checkB
  congr 1
  refine upto_same fun i hi => ?_
  unfold planeAt
  rw [proper_same (h i hi)]
  congr 1
  by_cases h0 : i = 0
  · subst h0; rfl
  · have h1 := (h i hi).z
    have h2 := (h (i - 1) (by omega)).z
    rw [h1, h2]
theorem pps_same {n m : Nat} {ps qs : Nat → PR} (h : ppsOf n ps = ppsOf m qs) : n = m ∧ ∀ i, i < n → WSame (ps i) (qs i) := by
  have hn : n = m := by
    have := congrArg List.length h
    simpa [ppsOf] using this
  refine ⟨hn, fun i hi => pp_same ?_⟩
  have h1 : (ppsOf n ps)[i]? = (ppsOf m qs)[i]? := by rw [h]
  unfold ppsOf at h1
  rw [List.getElem?_map, List.getElem?_map, List.getElem?_range hi, List.getElem?_range (by omega)] at h1
  simpa using h1
theorem WSame.symm {p q : PR} (h : WSame p q) : WSame q p := ⟨h.kind.symm, h.view.symm, h.z.symm, h.first.symm, h.pitch.symm, h.strips.symm, h.spill.symm, h.olo.symm, h.ohi.symm, h.clo.symm, h.chi.symm, h.jitter.symm, h.least.symm, h.dn.symm, h.en.symm, fun i hi => (h.ds i (by rw [h.dn]; exact hi)).symm, fun i hi => (h.es i (by rw [h.en]; exact hi)).symm⟩
/-- the second with the first one's rows -/
def PR.as (q p : PR) : PR := { q with ds := p.ds, es := p.es }
theorem WSame.as {p q : PR} (h : WSame p q) : PSame p (q.as p) := ⟨h.kind, h.view, h.z, h.first, h.pitch, h.strips, h.spill, h.olo, h.ohi, h.clo, h.chi, h.jitter, h.least, h.dn, h.en, rfl, rfl⟩
theorem WSame.mem {p q : PR} (h : WSame p q) {B : Nat} {w : World} (hm : q.mem B w) : (q.as p).mem B w := ⟨hm.1, hm.2.1, hm.2.2.1.congr (fun i hi => (h.ds i (by rw [h.dn]; exact hi)).symm), hm.2.2.2.congr (fun i hi => (h.es i (by rw [h.en]; exact hi)).symm)⟩
theorem planes_as {B : Nat} {w : World} {a : Option Addr} {n : Nat} {ps qs : Nat → PR} (h : Planes B w a n qs) (hs : ∀ i, i < n → WSame (ps i) (qs i)) : Planes B w a n (fun i => (qs i).as (ps i)) := by
  refine ⟨h.1, ?_⟩
  rcases h.2 with h | ⟨b, off, ha, hB, hc⟩
  · exact .inl h
  · exact .inr ⟨b, off, ha, hB, fun i hi => ⟨(hc i hi).1, (hs i hi).mem (hc i hi).2⟩⟩
theorem same_any (a b : Option Addr) (n c d : Nat) (ps qs : Nat → PR) (w : World) (B : Nat) (hBw : B ≤ w.heap.size) (hP : Planes B w a n ps) (hQ : Planes B w b n qs) (hE : ∀ i, i < n → WSame (ps i) (qs i)) :
    Calls Tryz.prog 11 #[setupV a n c, setupV b n d] w fun e w' => e = .returned (.bool true) ∧ Below w.heap.size w w' :=
  SameSetup_same a b n c d ps (fun i => (qs i).as (ps i)) w B hBw hP (planes_as hQ hE) (fun i hi => (hE i hi).as)
end Go.Proofs.YtegimepmccilfaaGreatDoor
