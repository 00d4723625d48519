/- Gates of a plane with narrower offsets, plain. -/
import Derived.Test.YtgcepjminlapiaaTrueLaw
namespace Go.Proofs.Ytgcepjminlapiaa
set_option linter.unusedVariables false
set_option linter.unusedSimpArgs false
/-- p' is p with other spans, which lie within those of p -/
structure Narrow (p p' : PR) : Prop where
  kind : p'.kind = p.kind
  z : p'.z = p.z
  first : p'.first = p.first
  pitch : p'.pitch = p.pitch
  spill : p'.spill = p.spill
  jitter : p'.jitter = p.jitter
  dn : p'.dn = p.dn
  ds : p'.ds = p.ds
  lo : p.olo ≤ p'.olo
  hi : p'.ohi ≤ p.ohi
theorem Narrow.radLo {p p' : PR} (h : Narrow p p') (d : Int) : ∀ k, radLo p' d k = Go.Proofs.Ytgcepjminlapiaa.radLo p d k
  | 0 => rfl
  | k + 1 => by rw [Go.Proofs.Ytgcepjminlapiaa.radLo, Go.Proofs.Ytgcepjminlapiaa.radLo, Narrow.radLo h d k, h.ds, h.jitter]
theorem Narrow.radHi {p p' : PR} (h : Narrow p p') (d : Int) : ∀ k, radHi p' d k = Go.Proofs.Ytgcepjminlapiaa.radHi p d k
  | 0 => by rw [Go.Proofs.Ytgcepjminlapiaa.radHi, Go.Proofs.Ytgcepjminlapiaa.radHi, h.pitch]
  | k + 1 => by rw [Go.Proofs.Ytgcepjminlapiaa.radHi, Go.Proofs.Ytgcepjminlapiaa.radHi, Narrow.radHi h d k, h.ds, h.jitter, h.dn]
theorem Narrow.gR {p p' : PR} (h : Narrow p p') (q : HV) : gR p' q = Go.Proofs.Ytgcepjminlapiaa.gR p q := by rw [Go.Proofs.Ytgcepjminlapiaa.gR, Go.Proofs.Ytgcepjminlapiaa.gR, h.radLo, h.dn]
theorem Narrow.gF {p p' : PR} (h : Narrow p p') (q : HV) : gF p' q = Go.Proofs.Ytgcepjminlapiaa.gF p q := by rw [Go.Proofs.Ytgcepjminlapiaa.gF, Go.Proofs.Ytgcepjminlapiaa.gF, h.radHi, h.dn]
theorem Narrow.gW {p p' : PR} (h : Narrow p p') (q : HV) : gW p' q = Go.Proofs.Ytgcepjminlapiaa.gW p q := by rw [Go.Proofs.Ytgcepjminlapiaa.gW, Go.Proofs.Ytgcepjminlapiaa.gW, h.first, h.pitch]
theorem Narrow.gA {p p' : PR} (h : Narrow p p') (q : HV) : gA p' q = Go.Proofs.Ytgcepjminlapiaa.gA p q := by rw [Go.Proofs.Ytgcepjminlapiaa.gA, Go.Proofs.Ytgcepjminlapiaa.gA, h.first, h.pitch, h.spill]
theorem Narrow.gB {p p' : PR} (h : Narrow p p') (q : HV) : gB p' q = Go.Proofs.Ytgcepjminlapiaa.gB p q := by rw [Go.Proofs.Ytgcepjminlapiaa.gB, Go.Proofs.Ytgcepjminlapiaa.gB, h.first, h.pitch, h.spill]
theorem Narrow.zero {p p' : PR} (h : Narrow p p') (q : HV) : gateN p' q = 0 ↔ gateN p q = 0 := by
  by_cases hk : p.kind = 2
  · have a : ∀ x : PR, x.kind = 2 → ¬ gateN x q = 0 := fun x hx => by rw [gateN, if_pos hx]; split <;> omega
    exact ⟨fun e => absurd e (a p' (h.kind.trans hk)), fun e => absurd e (a p hk)⟩
  · have hk' : ¬ p'.kind = 2 := by rw [h.kind]; exact hk
    rw [gateN, gateN, if_neg hk, if_neg hk', h.gA, h.gB]
theorem Narrow.gates {p p' : PR} (h : Narrow p p') (hP : properB p = true) (q : HV) {i : Nat} (hi : i < gateN p' q) :
    ∃ j, j < gateN p q ∧ (gateF p' q i).z = (gateF p q j).z ∧ (gateF p q j).lo ≤ (gateF p' q i).lo ∧ (gateF p' q i).hi ≤ (gateF p q j).hi := by
  have hS := properB_shaped hP
  have hlo := h.lo
  have hhi := h.hi
  by_cases hk : p.kind = 2
  · have hk' : p'.kind = 2 := h.kind.trans hk
    obtain ⟨r1, r2⟩ := rad_le (h := q) (properB_tubes hP hk) hS.jitter.1 hS.pitch.1
    have e1 := h.gR q
    have e2 := h.gF q
    have e3 := h.gW q
    by_cases ho' : oneB p' q = true
    · have hoo : Go.Proofs.Ytgcepjminlapiaa.gW p' q + Go.Proofs.Ytgcepjminlapiaa.gR p' q + p'.olo ≤ Go.Proofs.Ytgcepjminlapiaa.gW p' q - Go.Proofs.Ytgcepjminlapiaa.gR p' q + p'.ohi := of_decide_eq_true ho'
      have ho : oneB p q = true := decide_eq_true (by omega)
      refine ⟨0, by rw [gateN_one hk ho]; omega, ?_⟩
      rw [gateF_one (f := Go.Proofs.Ytgcepjminlapiaa.gF p' q) rfl hk' ho', gateF_one (f := Go.Proofs.Ytgcepjminlapiaa.gF p q) rfl hk ho]
      refine ⟨h.z, ?_, ?_⟩ <;> dsimp only <;> omega
    · rw [gateN_two hk' ho'] at hi
      by_cases ho : oneB p q = true
      · refine ⟨0, by rw [gateN_one hk ho]; omega, ?_⟩
        rw [gateF_one (f := Go.Proofs.Ytgcepjminlapiaa.gF p q) rfl hk ho]
        by_cases e : i = 0
        · subst e
          rw [gateF_left (r := Go.Proofs.Ytgcepjminlapiaa.gR p' q) (f := Go.Proofs.Ytgcepjminlapiaa.gF p' q) rfl rfl hk' ho']
          refine ⟨h.z, ?_, ?_⟩ <;> dsimp only <;> omega
        · obtain rfl : i = 1 := by omega
          rw [gateF_right (r := Go.Proofs.Ytgcepjminlapiaa.gR p' q) (f := Go.Proofs.Ytgcepjminlapiaa.gF p' q) rfl rfl hk' ho']
          refine ⟨h.z, ?_, ?_⟩ <;> dsimp only <;> omega
      · refine ⟨i, by rw [gateN_two hk ho]; omega, ?_⟩
        by_cases e : i = 0
        · subst e
          rw [gateF_left (r := Go.Proofs.Ytgcepjminlapiaa.gR p' q) (f := Go.Proofs.Ytgcepjminlapiaa.gF p' q) rfl rfl hk' ho', gateF_left (r := Go.Proofs.Ytgcepjminlapiaa.gR p q) (f := Go.Proofs.Ytgcepjminlapiaa.gF p q) rfl rfl hk ho]
          refine ⟨h.z, ?_, ?_⟩ <;> dsimp only <;> omega
        · obtain rfl : i = 1 := by omega
          rw [gateF_right (r := Go.Proofs.Ytgcepjminlapiaa.gR p' q) (f := Go.Proofs.Ytgcepjminlapiaa.gF p' q) rfl rfl hk' ho', gateF_right (r := Go.Proofs.Ytgcepjminlapiaa.gR p q) (f := Go.Proofs.Ytgcepjminlapiaa.gF p q) rfl rfl hk ho]
          refine ⟨h.z, ?_, ?_⟩ <;> dsimp only <;> omega
  · have hk' : ¬ p'.kind = 2 := by rw [h.kind]; exact hk
    have hn : gateN p' q = gateN p q := by rw [gateN, gateN, if_neg hk, if_neg hk', h.gA, h.gB]
    refine ⟨i, hn ▸ hi, ?_⟩
    rw [gateF_strip hk, gateF_strip hk', h.gA, h.gB]
    refine ⟨h.z, ?_, ?_⟩ <;> dsimp only <;> omega
end Go.Proofs.Ytgcepjminlapiaa
