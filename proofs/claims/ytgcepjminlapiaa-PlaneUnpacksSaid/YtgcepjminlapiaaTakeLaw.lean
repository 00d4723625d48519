/- Numbers read out of bytes, by place. No program here. -/
import Derived.Test.YtgcepjminlapiaaPackLaw
namespace Go.Proofs.Ytgcepjminlapiaa
set_option linter.unusedVariables false
set_option linter.unusedSimpArgs false
/-- the number that begins at a place, and where the next one begins -/
def tkP (l : List Nat) (k : Nat) : Option (Nat × Nat) := (tk (l.drop k)).map fun q => (q.1, l.length - q.2.length)
/-- what is known in round i of reading a number -/
def TkInv (l : List Nat) (k i acc : Nat) : Prop := acc < 128 ^ i ∧ tkP l k = (takeG (5 - i) (decide (i = 0)) (l.drop (k + i))).map fun q => (acc + 128 ^ i * q.1, l.length - q.2.length)
theorem tk_start (l : List Nat) (k : Nat) : TkInv l k 0 0 := ⟨by simp, by simp [tkP, tk]⟩
theorem tk_five {l : List Nat} {k acc : Nat} (h : TkInv l k 5 acc) : tkP l k = none := by rw [h.2]; simp [takeG]
theorem drop_get {l : List Nat} {j : Nat} (h : j < l.length) : l.drop j = l.getD j 0 :: l.drop (j + 1) := by
  rw [List.drop_eq_getElem_cons h, List.getD_eq_getElem?_getD, List.getElem?_eq_getElem h]; rfl
theorem tk_end {l : List Nat} {k i acc : Nat} (h : TkInv l k i acc) (hi : i < 5) (hk : l.length ≤ k + i) : tkP l k = none := by
  rw [h.2, List.drop_eq_nil_of_le hk]
  obtain ⟨f, hf⟩ : ∃ f, 5 - i = f + 1 := ⟨4 - i, by omega⟩
  rw [hf]; simp [takeG]
theorem tk_zero {l : List Nat} {k i acc : Nat} (h : TkInv l k i acc) (hi : i < 5) (hk : k + i < l.length) (hx : l.getD (k + i) 0 = 0) (h0 : 0 < i) : tkP l k = none := by
  rw [h.2, drop_get hk, hx]
  obtain ⟨f, hf⟩ : ∃ f, 5 - i = f + 1 := ⟨4 - i, by omega⟩
  have e : decide (i = 0) = false := by simp; omega
  rw [hf, e]; simp [takeG]
theorem tk_last {l : List Nat} {k i acc : Nat} (h : TkInv l k i acc) (hi : i < 5) (hk : k + i < l.length) (hx : l.getD (k + i) 0 < 128) (h0 : ¬ (l.getD (k + i) 0 = 0 ∧ 0 < i)) : tkP l k = some (acc + 128 ^ i * l.getD (k + i) 0, k + i + 1) := by
  rw [h.2, drop_get hk]
  obtain ⟨f, hf⟩ : ∃ f, 5 - i = f + 1 := ⟨4 - i, by omega⟩
  have e : ¬ (l.getD (k + i) 0 = 0 ∧ decide (i = 0) = false) := by rintro ⟨a, b⟩; simp at b; exact h0 ⟨a, by omega⟩
  rw [hf, takeG, if_pos hx, if_neg e]
  simp
  omega
theorem tk_more {l : List Nat} {k i acc : Nat} (h : TkInv l k i acc) (hi : i < 5) (hk : k + i < l.length) (hx : ¬ l.getD (k + i) 0 < 128) : TkInv l k (i + 1) (acc + 128 ^ i * (l.getD (k + i) 0 % 128)) := by
  refine ⟨?_, ?_⟩
  · have h1 := h.1
    have h2 : 128 ^ i * (l.getD (k + i) 0 % 128) ≤ 128 ^ i * 127 := Nat.mul_le_mul_left _ (by omega)
    rw [Nat.pow_succ]; omega
  · rw [h.2, drop_get hk]
    obtain ⟨f, hf⟩ : ∃ f, 5 - i = f + 1 := ⟨4 - i, by omega⟩
    have hf2 : 5 - (i + 1) = f := by omega
    have e : decide (i + 1 = 0) = false := by simp
    rw [hf, hf2, e, takeG, if_neg hx, show k + (i + 1) = k + i + 1 by omega]
    cases takeG f false (l.drop (k + i + 1)) with
    | none => rfl
    | some q =>
      obtain ⟨m, r⟩ := q
      simp only [Option.map_some, Option.some.injEq, Prod.mk.injEq, and_true]
      rw [Nat.pow_succ, Nat.mul_add, Nat.add_assoc, Nat.mul_assoc]
theorem tkP_fits {l : List Nat} {k x k' : Nat} (hl : ∀ x ∈ l, x < 256) (h : tkP l k = some (x, k')) : x < 34359738368 ∧ k < k' ∧ k' ≤ l.length := by
  unfold tkP at h
  cases ht : tk (l.drop k) with
  | none => rw [ht] at h; cases h
  | some q =>
    obtain ⟨m, r⟩ := q
    rw [ht] at h
    simp at h
    obtain ⟨rfl, rfl⟩ := h
    have h1 := tk_inv (fun x hx => hl x (List.mem_of_mem_drop hx)) ht
    have h2 := takeG_some ht
    rw [List.length_drop] at h2
    exact ⟨h1.2, by omega, by omega⟩
theorem tkP_drop {l : List Nat} {k x k' : Nat} (hl : ∀ x ∈ l, x < 256) (h : tkP l k = some (x, k')) : tk (l.drop k) = some (x, l.drop k') := by
  unfold tkP at h
  cases ht : tk (l.drop k) with
  | none => rw [ht] at h; cases h
  | some q =>
    obtain ⟨m, r⟩ := q
    rw [ht] at h
    simp at h
    obtain ⟨rfl, rfl⟩ := h
    have h1 := (tk_inv (fun x hx => hl x (List.mem_of_mem_drop hx)) ht).1
    have h2 := takeG_some ht
    rw [List.length_drop] at h2
    have e : r = (l.drop k).drop (grp m).length := by rw [h1]; simp
    have e2 : l.drop (l.length - r.length) = r := by
      have hlen := congrArg List.length h1
      simp only [List.length_drop, List.length_append] at hlen
      conv => rhs; rw [e]
      rw [List.drop_drop]
      congr 1; omega
    rw [e2]
theorem tkP_none {l : List Nat} {k : Nat} (h : tkP l k = none) : tk (l.drop k) = none := by
  unfold tkP at h
  cases ht : tk (l.drop k) with
  | none => rfl
  | some q => rw [ht] at h; cases h
end Go.Proofs.Ytgcepjminlapiaa
