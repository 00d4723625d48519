/- Six numbers read one behind the other. No program here. -/
import Derived.Test.YtgcepjminlapiaaHitsLaw
namespace Go.Proofs.Ytgcepjminlapiaa
set_option linter.unusedVariables false
set_option linter.unusedSimpArgs false
/-- j numbers were read from place k on, the next one begins at k' -/
def TakesInv (l : List Nat) (k j : Nat) (ys : Nat → Nat) (k' : Nat) : Prop := ∃ ks : Nat → Nat, ks 0 = k ∧ ks j = k' ∧ ∀ i, i < j → tkP l (ks i) = some (ys i, ks (i + 1))
theorem takes_start (l : List Nat) (k : Nat) (ys : Nat → Nat) : TakesInv l k 0 ys k := ⟨fun _ => k, rfl, rfl, fun i hi => by omega⟩
def upd (ys : Nat → Nat) (j x : Nat) : Nat → Nat := fun i => if i = j then x else ys i
theorem takes_step {l : List Nat} {k j : Nat} {ys : Nat → Nat} {k' x k'' : Nat} (h : TakesInv l k j ys k') (ht : tkP l k' = some (x, k'')) : TakesInv l k (j + 1) (upd ys j x) k'' := by
  obtain ⟨ks, h0, h1, h2⟩ := h
  refine ⟨upd ks (j + 1) k'', ?_, ?_, ?_⟩
  · simp [upd, h0]
  · simp [upd]
  · intro i hi
    by_cases e : i = j
    · subst e
      simp [upd, h1, ht]
    · have e1 : ¬ i = j + 1 := by omega
      simp [upd, e, e1, h2 i (by omega)]
theorem takes_six {l : List Nat} {k : Nat} {ys : Nat → Nat} {k' : Nat} (h : TakesInv l k 6 ys k') (last : Int) : hitP l last k = some (⟨(ys 0 : Int), (ys 1 : Int), (ys 2 : Int), (ys 3 : Int), (ys 4 : Int), last + unzig (ys 5 : Int)⟩, k') := by
  obtain ⟨ks, h0, h1, h2⟩ := h
  subst h0; subst h1
  simp only [hitP, h2 0 (by omega), h2 1 (by omega), h2 2 (by omega), h2 3 (by omega), h2 4 (by omega), h2 5 (by omega), Option.bind_some]
theorem takes_fail {l : List Nat} {k j : Nat} {ys : Nat → Nat} {k' : Nat} (h : TakesInv l k j ys k') (hj : j < 6) (ht : tkP l k' = none) (last : Int) : hitP l last k = none := by
  obtain ⟨ks, h0, h1, h2⟩ := h
  subst h0; subst h1
  match j, hj with
  | 0, _ => simp only [hitP, ht, Option.bind_none]
  | 1, _ => simp only [hitP, h2 0 (by omega), ht, Option.bind_some, Option.bind_none]
  | 2, _ => simp only [hitP, h2 0 (by omega), h2 1 (by omega), ht, Option.bind_some, Option.bind_none]
  | 3, _ => simp only [hitP, h2 0 (by omega), h2 1 (by omega), h2 2 (by omega), ht, Option.bind_some, Option.bind_none]
  | 4, _ => simp only [hitP, h2 0 (by omega), h2 1 (by omega), h2 2 (by omega), h2 3 (by omega), ht, Option.bind_some, Option.bind_none]
  | 5, _ => simp only [hitP, h2 0 (by omega), h2 1 (by omega), h2 2 (by omega), h2 3 (by omega), h2 4 (by omega), ht, Option.bind_some, Option.bind_none]
theorem takes_bounds {l : List Nat} {k j : Nat} {ys : Nat → Nat} {k' : Nat} (hl : ∀ x ∈ l, x < 256) (hk : k ≤ l.length) (h : TakesInv l k j ys k') : k + j ≤ k' ∧ k' ≤ l.length ∧ ∀ i, i < j → ys i < 34359738368 := by
  obtain ⟨ks, h0, h1, h2⟩ := h
  have key : ∀ i, i ≤ j → k + i ≤ ks i ∧ ks i ≤ l.length := by
    intro i
    induction i with
    | zero => intro _; omega
    | succ i ih =>
      intro hi
      have a := ih (by omega)
      have b := tkP_fits hl (h2 i (by omega))
      omega
  have := key j (Nat.le_refl _)
  exact ⟨by omega, by omega, fun i hi => (tkP_fits hl (h2 i hi)).1⟩
def xArr (ys : Nat → Nat) : Array Value := #[.int .i64 (ys 0 : Int), .int .i64 (ys 1 : Int), .int .i64 (ys 2 : Int), .int .i64 (ys 3 : Int), .int .i64 (ys 4 : Int), .int .i64 (ys 5 : Int)]
theorem xArr_get {ys : Nat → Nat} {j : Nat} (hj : j < 6) : (xArr ys)[j]? = some (.int .i64 (ys j : Int)) := by
  match j, hj with
  | 0, _ | 1, _ | 2, _ | 3, _ | 4, _ | 5, _ => rfl
theorem xArr_set {ys : Nat → Nat} {j x : Nat} (hj : j < 6) : (xArr ys).setIfInBounds j (.int .i64 (x : Int)) = xArr (upd ys j x) := by
  match j, hj with
  | 0, _ | 1, _ | 2, _ | 3, _ | 4, _ | 5, _ => simp [xArr, upd]
end Go.Proofs.Ytgcepjminlapiaa
