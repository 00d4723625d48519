/- What a plane must see and can see. No program here. -/
import Derived.Test.YtegimepmccilfaaGreatDoorGateData
namespace Go.Proofs.YtegimepmccilfaaGreatDoor
set_option linter.unusedVariables false
set_option linter.unusedSimpArgs false
def nextG (f : Nat → Int) (P : Int) (dead : Nat → Bool) (low : Int) : Nat → Int
  | 0 => low
  | c + 1 => if dead c = true then nextG f P dead low c else if f c ≤ nextG f P dead low c ∧ nextG f P dead low c ≤ f c + P - 1 then f c + P - 1 + 1 else nextG f P dead low c
def canG (f : Nat → Int) (P s : Int) (dead : Nat → Bool) (low high : Int) : Nat → Bool
  | 0 => false
  | c + 1 => if dead c = true then canG f P s dead low high c else canG f P s dead low high c || (decide (f c - s ≤ high) && decide (low ≤ f c + P - 1 + s))
def mustG (f : Nat → Int) (P : Int) (dead : Nat → Bool) (low high : Int) (m : Bool) : Nat → Bool
  | 0 => m
  | c + 1 => if dead c = true ∧ f c ≤ high ∧ low ≤ f c + P - 1 then false else mustG f P dead low high m c
theorem f_mono {f : Nat → Int} {P : Int} (hP : 1 ≤ P) (hf : ∀ c, f (c + 1) = f c + P) : ∀ j k, j ≤ k → f j ≤ f k
  | j, 0, h => by obtain rfl : j = 0 := by omega
                  exact Int.le_refl _
  | j, k + 1, h => by
    by_cases e : j = k + 1
    · subst e; exact Int.le_refl _
    · have := f_mono hP hf j k (by omega)
      rw [hf]; omega
theorem f_lt {f : Nat → Int} {P : Int} (hP : 1 ≤ P) (hf : ∀ c, f (c + 1) = f c + P) {j k : Nat} (h : j < k) : f j + P ≤ f k := by
  have := f_mono hP hf (j + 1) k h
  rw [hf] at this; exact this
theorem canG_iff {f : Nat → Int} {P s : Int} {dead : Nat → Bool} {low high : Int} : ∀ n, canG f P s dead low high n = true ↔ ∃ c, c < n ∧ dead c = false ∧ f c - s ≤ high ∧ low ≤ f c + P - 1 + s
  | 0 => by simp [canG]
  | n + 1 => by
    rw [canG]
    have ih := canG_iff (f := f) (P := P) (s := s) (dead := dead) (low := low) (high := high) n
    split
    · rename_i hd
      rw [ih]
      constructor
      · rintro ⟨c, hc, h⟩; exact ⟨c, by omega, h⟩
      · rintro ⟨c, hc, h1, h2⟩
        refine ⟨c, ?_, h1, h2⟩
        by_cases e : c = n
        · subst e; rw [hd] at h1; simp at h1
        · omega
    · rename_i hd
      simp only [Bool.or_eq_true, ih, Bool.and_eq_true, decide_eq_true_eq]
      constructor
      · rintro (⟨c, hc, h⟩ | h)
        · exact ⟨c, by omega, h⟩
        · exact ⟨n, by omega, by simpa using hd, h⟩
      · rintro ⟨c, hc, h1, h2⟩
        by_cases e : c = n
        · subst e; exact .inr h2
        · exact .inl ⟨c, by omega, h1, h2⟩
theorem mustG_iff {f : Nat → Int} {P : Int} {dead : Nat → Bool} {low high : Int} {m : Bool} : ∀ n, mustG f P dead low high m n = true ↔ m = true ∧ ∀ c, c < n → dead c = true → ¬ (f c ≤ high ∧ low ≤ f c + P - 1)
  | 0 => by simp [mustG]
  | n + 1 => by
    rw [mustG]
    have ih := mustG_iff (f := f) (P := P) (dead := dead) (low := low) (high := high) (m := m) n
    split
    · rename_i h
      simp only [Bool.false_eq_true, false_iff]
      rintro ⟨_, h2⟩
      exact h2 n (by omega) h.1 h.2
    · rename_i h
      rw [ih]
      constructor
      · rintro ⟨h1, h2⟩
        refine ⟨h1, fun c hc hd hh => ?_⟩
        by_cases e : c = n
        · subst e; exact h ⟨hd, hh⟩
        · exact h2 c (by omega) hd hh
      · rintro ⟨h1, h2⟩
        exact ⟨h1, fun c hc => h2 c (by omega)⟩
/-- where the first place that is not known to be seen lies -/
theorem nextG_is {f : Nat → Int} {P : Int} {dead : Nat → Bool} {low : Int} (hP : 1 ≤ P) (hf : ∀ c, f (c + 1) = f c + P) : ∀ n,
    (low < f 0 ∧ nextG f P dead low n = low) ∨ (f 0 ≤ low ∧ ((f n ≤ low ∧ nextG f P dead low n = low) ∨ (low < f n ∧ nextG f P dead low n = f n ∧ ∀ j, j < n → low ≤ f j + P - 1 → dead j = false) ∨
      ∃ d, d < n ∧ dead d = true ∧ low ≤ f d + P - 1 ∧ (nextG f P dead low n = low ∨ nextG f P dead low n = f d) ∧ low ≤ nextG f P dead low n ∧ f d ≤ nextG f P dead low n ∧ ∀ j, j < d → low ≤ f j + P - 1 → dead j = false))
  | 0 => by
    by_cases h : low < f 0
    · exact .inl ⟨h, rfl⟩
    · exact .inr ⟨by omega, .inl ⟨by omega, rfl⟩⟩
  | n + 1 => by
    have h0 := f_mono hP hf 0 n (by omega)
    have h1 := hf n
    rcases nextG_is (dead := dead) (low := low) hP hf n with ⟨h, e⟩ | ⟨h, ⟨h2, e⟩ | ⟨h2, e, ha⟩ | ⟨d, hd, hdd, h2, e, h3, h4, ha⟩⟩
    · refine .inl ⟨h, ?_⟩
      rw [nextG, e]
      split
      · rfl
      · split
        · omega
        · rfl
    · refine .inr ⟨h, ?_⟩
      have hbefore : ∀ j, j < n → ¬ low ≤ f j + P - 1 := fun j hj hl => by have := f_lt hP hf hj; omega
      rw [nextG, e]
      split
      · rename_i hd
        by_cases hl : low ≤ f n + P - 1
        · exact .inr (.inr ⟨n, by omega, hd, hl, .inl rfl, by omega, by omega, fun j hj hl' => absurd hl' (hbefore j hj)⟩)
        · exact .inl ⟨by omega, rfl⟩
      · rename_i hd
        split
        · refine .inr (.inl ⟨by omega, by omega, fun j hj hl => ?_⟩)
          by_cases ej : j = n
          · subst ej; simpa using hd
          · exact absurd hl (hbefore j (by omega))
        · exact .inl ⟨by omega, rfl⟩
    · refine .inr ⟨h, .inr ?_⟩
      rw [nextG, e]
      split
      · rename_i hd
        exact .inr ⟨n, by omega, hd, by omega, .inr rfl, by omega, by omega, ha⟩
      · rename_i hd
        split
        · refine .inl ⟨by omega, by omega, fun j hj hl => ?_⟩
          by_cases ej : j = n
          · subst ej; simpa using hd
          · exact ha j (by omega) hl
        · omega
    · have h5 := f_lt hP hf hd
      refine .inr ⟨h, .inr (.inr ⟨d, by omega, hdd, h2, ?_, ?_, ?_, ha⟩)⟩
      all_goals
        rw [nextG]
        split
        · assumption
        · split
          · omega
          · assumption
theorem must_is {f : Nat → Int} {P : Int} {dead : Nat → Bool} {low high : Int} (hP : 1 ≤ P) (hf : ∀ c, f (c + 1) = f c + P) (hlh : low ≤ high) {n : Nat} (hn : 1 ≤ n) :
    decide (high < nextG f P dead low n) = mustG f P dead low high (decide (f 0 ≤ low) && decide (high ≤ f (n - 1) + P - 1)) n := by
  have h1 := hf (n - 1)
  rw [Nat.sub_add_cancel hn] at h1
  rw [Bool.eq_iff_iff, mustG_iff, decide_eq_true_eq]
  simp only [Bool.and_eq_true, decide_eq_true_eq]
  rcases nextG_is (dead := dead) (low := low) hP hf n with ⟨h, e⟩ | ⟨h, ⟨h2, e⟩ | ⟨h2, e, ha⟩ | ⟨d, hd, hdd, h2, e, h3, h4, ha⟩⟩
  · rw [e]; constructor
    · intro; omega
    · rintro ⟨⟨_, _⟩, _⟩; omega
  · rw [e]; constructor
    · intro; omega
    · rintro ⟨⟨_, _⟩, _⟩; omega
  · rw [e]; constructor
    · intro hh
      refine ⟨⟨h, by omega⟩, fun c hc hd hx => ?_⟩
      have := ha c hc hx.2
      rw [hd] at this; simp at this
    · rintro ⟨⟨_, _⟩, _⟩; omega
  · have h5 := f_lt hP hf hd
    constructor
    · intro hh
      refine ⟨⟨h, by omega⟩, fun c hc hd' hx => ?_⟩
      have hcd : c < d := by
        by_cases hcd : c < d
        · exact hcd
        · have := f_mono hP hf d c (by omega)
          rcases e with e | e <;> omega
      have := ha c hcd hx.2
      rw [hd'] at this; simp at this
    · rintro ⟨⟨_, _⟩, hx⟩
      have := hx d hd hdd
      omega
/-- the channel of a place -/
theorem at_place {f : Nat → Int} {P : Int} (hf : ∀ c, f (c + 1) = f c + P) {x : Int} : ∀ n, f 0 ≤ x → x < f n → ∃ c, c < n ∧ f c ≤ x ∧ x ≤ f c + P - 1
  | 0, h1, h2 => by omega
  | n + 1, h1, h2 => by
    by_cases h : x < f n
    · obtain ⟨c, hc, h3⟩ := at_place hf n h1 h
      exact ⟨c, by omega, h3⟩
    · have := hf n
      exact ⟨n, by omega, by omega, by omega⟩
theorem must_can {f : Nat → Int} {P s : Int} {dead : Nat → Bool} {low high : Int} (hs : 0 ≤ s) (hf : ∀ c, f (c + 1) = f c + P) (hlh : low ≤ high) {n : Nat} (hn : 1 ≤ n)
    (h : mustG f P dead low high (decide (f 0 ≤ low) && decide (high ≤ f (n - 1) + P - 1)) n = true) : canG f P s dead low high n = true := by
  have h1 := hf (n - 1)
  rw [Nat.sub_add_cancel hn] at h1
  rw [mustG_iff] at h
  simp only [Bool.and_eq_true, decide_eq_true_eq] at h
  obtain ⟨⟨h2, h3⟩, h4⟩ := h
  obtain ⟨c, hc, h5, h6⟩ := at_place hf (x := low) n h2 (by omega)
  rw [canG_iff]
  refine ⟨c, hc, ?_, by omega, by omega⟩
  cases hd : dead c
  · rfl
  · exact absurd ⟨by omega, h6⟩ (h4 c hc hd)
theorem must_part {f : Nat → Int} {P : Int} {dead : Nat → Bool} {low high low' high' : Int} {n : Nat} (h1 : low ≤ low') (h2 : high' ≤ high)
    (h : mustG f P dead low high (decide (f 0 ≤ low) && decide (high ≤ f (n - 1) + P - 1)) n = true) : mustG f P dead low' high' (decide (f 0 ≤ low') && decide (high' ≤ f (n - 1) + P - 1)) n = true := by
  rw [mustG_iff] at h ⊢
  simp only [Bool.and_eq_true, decide_eq_true_eq] at h ⊢
  obtain ⟨⟨h3, h4⟩, h5⟩ := h
  exact ⟨⟨by omega, by omega⟩, fun c hc hd hx => h5 c hc hd ⟨by omega, by omega⟩⟩
theorem can_part {f : Nat → Int} {P s : Int} {dead : Nat → Bool} {low high low' high' : Int} {n : Nat} (h1 : low ≤ low') (h2 : high' ≤ high)
    (h : canG f P s dead low' high' n = true) : canG f P s dead low high n = true := by
  rw [canG_iff] at h ⊢
  obtain ⟨c, hc, hd, h3, h4⟩ := h
  exact ⟨c, hc, hd, by omega, by omega⟩
end Go.Proofs.YtegimepmccilfaaGreatDoor
