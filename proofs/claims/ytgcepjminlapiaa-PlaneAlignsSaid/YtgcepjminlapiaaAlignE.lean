/- Planes that say the same answer the same; narrower planes. No program here. -/
import Derived.Test.YtgcepjminlapiaaAlignB
import Derived.Test.YtgcepjminlapiaaAlignLaw
namespace Go.Proofs.Ytgcepjminlapiaa
open Go.RowKit
set_option linter.unusedVariables false
set_option linter.unusedSimpArgs false
theorem PSame.all {p q : PR} (h : PSame p q) (v : HV) : properB q = properB p ∧ hitB q v = hitB p v ∧ gateN q v = gateN p v ∧ gateF q v = gateF p v ∧ timeLo q v = timeLo p v ∧ timeHi q v = timeHi p v ∧ q.z = p.z := by
  obtain ⟨kind, view, z, first, pitch, strips, spill, olo, ohi, clo, chi, jitter, least, da, dn, dc, ea, en, ec, ds, es⟩ := p
  obtain ⟨kind', view', z', first', pitch', strips', spill', olo', ohi', clo', chi', jitter', least', da', dn', dc', ea', en', ec', ds', es'⟩ := q
  obtain ⟨e1, e2, e3, e4, e5, e6, e7, e8, e9, e10, e11, e12, e13, e14, e15, e16, e17⟩ := h
  dsimp only at *
  subst e1 e2 e3 e4 e5 e6 e7 e8 e9 e10 e11 e12 e13 e14 e15 e16 e17
  refine ⟨rfl, rfl, ?_, ?_, rfl, rfl, rfl⟩
  · have hlo : ∀ (d : Int) k, radLo ⟨kind, view, z, first, pitch, strips, spill, olo, ohi, clo, chi, jitter, least, da', dn, dc', ea', en, ec', ds, es⟩ d k = radLo ⟨kind, view, z, first, pitch, strips, spill, olo, ohi, clo, chi, jitter, least, da, dn, dc, ea, en, ec, ds, es⟩ d k := fun d k => by
      induction k with
      | zero => rfl
      | succ k ih => rw [radLo, radLo, ih]
    have hlo' := funext fun d => funext fun k => hlo d k
    unfold gateN oneB gW gR gB gA
    dsimp only
    rw [hlo']
  · funext i
    have hlo : ∀ (d : Int) k, radLo ⟨kind, view, z, first, pitch, strips, spill, olo, ohi, clo, chi, jitter, least, da', dn, dc', ea', en, ec', ds, es⟩ d k = radLo ⟨kind, view, z, first, pitch, strips, spill, olo, ohi, clo, chi, jitter, least, da, dn, dc, ea, en, ec, ds, es⟩ d k := fun d k => by
      induction k with
      | zero => rfl
      | succ k ih => rw [radLo, radLo, ih]
    have hhi : ∀ (d : Int) k, radHi ⟨kind, view, z, first, pitch, strips, spill, olo, ohi, clo, chi, jitter, least, da', dn, dc', ea', en, ec', ds, es⟩ d k = radHi ⟨kind, view, z, first, pitch, strips, spill, olo, ohi, clo, chi, jitter, least, da, dn, dc, ea, en, ec, ds, es⟩ d k := fun d k => by
      induction k with
      | zero => rfl
      | succ k ih => rw [radHi, radHi, ih]
    have hlo' := funext fun d => funext fun k => hlo d k
    have hhi' := funext fun d => funext fun k => hhi d k
    unfold gateF oneB gW gR gF gB gA
    dsimp only
    rw [hlo', hhi']
theorem PSame.two {p q r : PR} (h : PSame p q) (k : PSame p r) : PSame q r :=
  ⟨h.1.symm.trans k.1, h.2.symm.trans k.2, h.3.symm.trans k.3, h.4.symm.trans k.4, h.5.symm.trans k.5, h.6.symm.trans k.6, h.7.symm.trans k.7, h.8.symm.trans k.8, h.9.symm.trans k.9, h.10.symm.trans k.10, h.11.symm.trans k.11, h.12.symm.trans k.12, h.13.symm.trans k.13, h.14.symm.trans k.14, h.15.symm.trans k.15, h.16.symm.trans k.16, h.17.symm.trans k.17⟩
theorem checkB_same {n : Nat} {f g : Nat → PR} (h : ∀ i, i < n → PSame (f i) (g i)) : checkB n g = checkB n f := by
  have key : ∀ j, j < n → planeAt g j = planeAt f j := fun j hj => by
    rw [planeAt, planeAt, ((h j hj).all ⟨0, 0, 0, 0, 0, 0⟩).1]
    by_cases e : j = 0
    · simp [e]
    · rw [((h j hj).all ⟨0, 0, 0, 0, 0, 0⟩).2.2.2.2.2.2, ((h (j - 1) (by omega)).all ⟨0, 0, 0, 0, 0, 0⟩).2.2.2.2.2.2]
  have : allUpto n (planeAt g) = allUpto n (planeAt f) := by
    rw [Bool.eq_iff_iff, allUpto_iff, allUpto_iff]
    exact ⟨fun H j hj => by rw [← key j hj]; exact H j hj, fun H j hj => by rw [key j hj]; exact H j hj⟩
  rw [checkB, checkB, this]
theorem alnQ_narrow {ps : Nat → PR} {os cs : Nat → SV} {k : Nat} (h : narAt (ps k) (os k) (cs k) = true) : Narrow (ps k) (alnQ ps os cs k) :=
  have h := narAt_iff.1 h
  ⟨rfl, rfl, rfl, rfl, rfl, rfl, rfl, rfl, h.1, h.2.1⟩
theorem alnQ_hit {ps : Nat → PR} {os cs : Nat → SV} {k : Nat} (v : HV) : hitB (alnQ ps os cs k) v = hitB (ps k) v := rfl
theorem alnQ_times {ps : Nat → PR} {os cs : Nat → SV} {k : Nat} (h : narAt (ps k) (os k) (cs k) = true) (v : HV) : timeLo (ps k) v ≤ timeLo (alnQ ps os cs k) v ∧ timeHi (alnQ ps os cs k) v ≤ timeHi (ps k) v := by
  have h := narAt_iff.1 h
  have e1 : (alnQ ps os cs k).kind = (ps k).kind := rfl
  have e2 : (alnQ ps os cs k).clo = (cs k).lo := rfl
  have e3 : (alnQ ps os cs k).chi = (cs k).hi := rfl
  have e4 : (alnQ ps os cs k).jitter = (ps k).jitter := rfl
  simp only [timeLo, timeHi, e1, e2, e3, e4]
  by_cases hk : (ps k).kind = 3
  · simp only [hk, if_true]; omega
  · simp only [hk, if_false]; omega
def gin (x y : GV) : Bool := (x.z == y.z) && (decide (y.lo ≤ x.lo) && decide (x.hi ≤ y.hi))
/-- whether x lies within one of the first j gates -/
def metB (f : Nat → GV) (x : GV) : Nat → Bool
  | 0 => false
  | j + 1 => metB f x j || gin x (f j)
theorem metB_yes {f : Nat → GV} {x : GV} : ∀ {n j : Nat}, j < n → gin x (f j) = true → metB f x n = true
  | 0, j, hj, _ => by omega
  | n + 1, j, hj, h => by
    rw [metB]
    by_cases e : j = n
    · subst e; simp [h]
    · simp [metB_yes (n := n) (by omega) h]
/-- all that PlaneAligns asks, of a plane and its narrower copy -/
theorem align_law {ps qs : Nat → PR} {os cs : Nat → SV} {n k : Nat} (hk : k < n) (hC : checkB n ps = true) (hQ : checkB n (alnQ ps os cs) = true) (hN : narB ps os cs n = true) (hS : ∀ i, i < n → PSame (alnQ ps os cs i) (qs i)) (v : HV) (hH : hitB (ps k) v = true) :
    checkB n qs = true ∧ hitB (qs k) v = true ∧ (gateN (qs k) v = 0 ↔ gateN (ps k) v = 0) ∧ timeLo (ps k) v ≤ timeLo (qs k) v ∧ timeHi (qs k) v ≤ timeHi (ps k) v ∧ ∀ i, i < gateN (qs k) v → metB (gateF (ps k) v) (gateF (qs k) v i) (gateN (ps k) v) = true := by
  have hn := narB_iff.1 hN k hk
  obtain ⟨a1, a2, a3, a4, a5, a6, _⟩ := (hS k hk).all v
  have hNr := alnQ_narrow hn
  refine ⟨by rw [checkB_same hS, hQ], by rw [a2, alnQ_hit, hH], by rw [a3]; exact hNr.zero v, by rw [a5]; exact (alnQ_times hn v).1, by rw [a6]; exact (alnQ_times hn v).2, fun i hi => ?_⟩
  rw [a3] at hi
  obtain ⟨j, hj, z1, z2, z3⟩ := hNr.gates (checkB_plane hC hk) v hi
  rw [a4]
  exact metB_yes hj (by simp [gin, z1, z2, z3])
end Go.Proofs.Ytgcepjminlapiaa
