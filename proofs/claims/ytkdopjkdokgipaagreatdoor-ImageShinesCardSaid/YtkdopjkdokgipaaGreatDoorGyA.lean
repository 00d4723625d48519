/- Texts put together: SpLaw, SpLawB, RfA, RfB, RfC. -/
import Derived.Test.YtkdopjkdokgipaaGreatDoorGxA
import Derived.Test.YtkdopjkdokgipaaGreatDoorGxC
import Derived.Test.YtkdopjkdokgipaaGreatDoorGhA
namespace Go.Proofs.YtkdopjkdokgipaaGreatDoor
open Go.RowKit
set_option linter.unusedVariables false
set_option linter.unusedSimpArgs false
/-! ### sorted lists of numbers -/
def putL : List Int → Int → List Int
  | [], n => [n]
  | x :: l, n => if x < n then x :: putL l n else if x = n then x :: l else n :: x :: l
theorem putL_at : ∀ (l : List Int) (n : Int) (k : Nat), k ≤ l.length → (∀ j, j < k → l.getD j 0 < n) → (k < l.length → n ≤ l.getD k 0) → putL l n = if k < l.length ∧ l.getD k 0 = n then l else l.take k ++ n :: l.drop k
  | [], n, k, hk, _, _ => by
    have : k = 0 := by simpa using hk
    subst this
    simp [putL]
  | x :: l, n, 0, _, _, h => by
    have h1 := h (by simp)
    have h2 : (x :: l).getD 0 0 = x := rfl
    rw [h2] at h1 ⊢
    unfold putL
    rw [if_neg (show ¬ x < n by omega)]
    by_cases e : x = n
    · rw [if_pos e, if_pos ⟨by simp, e⟩]
    · rw [if_neg e, if_neg (fun h => e h.2)]
      rfl
  | x :: l, n, k + 1, hk, h1, h2 => by
    have h3 := h1 0 (by omega)
    have e0 : (x :: l).getD 0 0 = x := rfl
    have e1 : ∀ j, (x :: l).getD (j + 1) 0 = l.getD j 0 := fun j => rfl
    rw [e0] at h3
    have ih := putL_at l n k (by simp at hk; omega) (fun j hj => by have := h1 (j + 1) (by omega); rwa [e1] at this) (fun h => by have := h2 (by simp; omega); rwa [e1] at this)
    unfold putL
    rw [if_pos h3, ih, e1]
    by_cases e : k < l.length ∧ l.getD k 0 = n
    · rw [if_pos e, if_pos ⟨by simp; omega, e.2⟩]
    · rw [if_neg e, if_neg (fun h => e ⟨by simpa using h.1, h.2⟩)]
      rfl
theorem putL_mem : ∀ (l : List Int) (n x : Int), x ∈ putL l n ↔ x = n ∨ x ∈ l
  | [], n, x => by simp [putL]
  | y :: l, n, x => by
    unfold putL
    split
    · rw [List.mem_cons, putL_mem l n x, List.mem_cons]
      constructor
      · rintro (h | h | h)
        · exact .inr (.inl h)
        · exact .inl h
        · exact .inr (.inr h)
      · rintro (h | h | h)
        · exact .inr (.inl h)
        · exact .inl h
        · exact .inr (.inr h)
    · split
      · rename_i h1 h2
        subst h2
        simp
      · simp
theorem putL_sorted : ∀ (l : List Int) (n : Int), l.Pairwise (· < ·) → (putL l n).Pairwise (· < ·)
  | [], n, _ => by simp [putL]
  | y :: l, n, h => by
    have h1 := List.pairwise_cons.1 h
    unfold putL
    split
    · rename_i hy
      refine List.pairwise_cons.2 ⟨fun x hx => ?_, putL_sorted l n h1.2⟩
      rcases (putL_mem l n x).1 hx with e | e
      · subst e; exact hy
      · exact h1.1 x e
    · split
      · exact h
      · rename_i h2 h3
        refine List.pairwise_cons.2 ⟨fun x hx => ?_, h⟩
        rcases List.mem_cons.1 hx with e | e
        · subst e; omega
        · have := h1.1 x e; omega
theorem putL_len (l : List Int) (n : Int) : (putL l n).length ≤ l.length + 1 := by
  induction l with
  | nil => simp [putL]
  | cons x l ih =>
    unfold putL
    split
    · simp; omega
    · split <;> simp
theorem ssorted_ext {α : Type} (k : α → Int) : ∀ (l1 l2 : List α), l1.Pairwise (fun x y => k x < k y) → l2.Pairwise (fun x y => k x < k y) → (∀ x, x ∈ l1 ↔ x ∈ l2) → l1 = l2
  | [], [], _, _, _ => rfl
  | [], y :: l2, _, _, h => absurd ((h y).2 (by simp)) (by simp)
  | x :: l1, [], _, _, h => absurd ((h x).1 (by simp)) (by simp)
  | x :: l1, y :: l2, h1, h2, h => by
    have p1 := List.pairwise_cons.1 h1
    have p2 := List.pairwise_cons.1 h2
    have e : x = y := by
      rcases List.mem_cons.1 ((h x).1 (by simp)) with e | e
      · exact e
      · rcases List.mem_cons.1 ((h y).2 (by simp)) with e2 | e2
        · exact e2.symm
        · have := p2.1 x e; have := p1.1 y e2; omega
    subst e
    congr 1
    refine ssorted_ext k l1 l2 p1.2 p2.2 fun z => ⟨fun hz => ?_, fun hz => ?_⟩
    · rcases List.mem_cons.1 ((h z).1 (List.mem_cons_of_mem _ hz)) with e | e
      · subst e; have := p1.1 z hz; omega
      · exact e
    · rcases List.mem_cons.1 ((h z).2 (List.mem_cons_of_mem _ hz)) with e | e
      · subst e; have := p2.1 z hz; omega
      · exact e
/-! ### ticks are divisible by each turn -/
theorem tkS_dvd (out : Nat) (d : Int) : out ∣ tkS out d ∧ (d ≠ 0 → d.natAbs ∣ tkS out d) := by
  unfold tkS
  by_cases e : d.natAbs = 0
  · rw [if_pos e]
    exact ⟨Nat.dvd_refl _, fun h => absurd (Int.natAbs_eq_zero.1 e) h⟩
  · rw [if_neg e]
    refine ⟨?_, fun _ => Nat.dvd_mul_left _ _⟩
    have h1 := Nat.gcd_dvd_left out d.natAbs
    have h2 := Nat.gcd_dvd_right out d.natAbs
    have h3 : 0 < Nat.gcd out d.natAbs := Nat.gcd_pos_of_pos_right _ (by omega)
    generalize Nat.gcd out d.natAbs = g at *
    obtain ⟨a, ha⟩ := h1
    obtain ⟨b, hb⟩ := h2
    refine ⟨b, ?_⟩
    rw [hb, ha, Nat.mul_div_cancel_left _ h3, ← Nat.mul_assoc, Nat.mul_comm a g]
theorem ax_dvd (v : VO) (r : RY) (i : Nat) (h : (axF v r i).t ≠ 0) : (axF v r i).t ∣ (tkF r : Int) := by
  have key : ∀ (d : Int), d.natAbs ∣ tkF r → d ∣ (tkF r : Int) := fun d hd => by
    rw [← Int.natAbs_dvd]
    exact Int.natCast_dvd_natCast.2 hd
  refine key _ ?_
  show (axF v r i).t.natAbs ∣ tkS (tkS (tkS 1 r.dx) r.dy) r.dz
  match i, h with
  | 0, h => exact Nat.dvd_trans ((tkS_dvd 1 r.dx).2 h) (Nat.dvd_trans (tkS_dvd _ r.dy).1 (tkS_dvd _ r.dz).1)
  | 1, h => exact Nat.dvd_trans ((tkS_dvd _ r.dy).2 h) (tkS_dvd _ r.dz).1
  | n + 2, h => exact (tkS_dvd _ r.dz).2 h
theorem wh_eq (v : VO) (r : RY) (i : Nat) (h : (axF v r i).t ≠ 0) (p : Int) : whF (tkF r) (axF v r i) p = (p - (axF v r i).b) * (tkF r : Int).tdiv (axF v r i).t := by
  unfold whF
  rw [Int.mul_tdiv_assoc _ (ax_dvd v r i h)]
theorem wh_exact (v : VO) (r : RY) (i : Nat) (h : (axF v r i).t ≠ 0) (p : Int) : (axF v r i).t * whF (tkF r) (axF v r i) p = (p - (axF v r i).b) * (tkF r : Int) := by
  rw [wh_eq v r i h]
  obtain ⟨c, hc⟩ := ax_dvd v r i h
  rw [hc, Int.mul_tdiv_cancel_left _ h, Int.mul_left_comm]
/-! ### crossings -/
def crL (f : Nat → Int) : Nat → List Int → List Int
  | 0, l => l
  | k + 1, l => if 0 < f k then putL (crL f k l) (f k) else crL f k l
theorem crL_mem (f : Nat → Int) (l : List Int) (x : Int) : ∀ k, x ∈ crL f k l ↔ x ∈ l ∨ ∃ j, j < k ∧ 0 < f j ∧ x = f j
  | 0 => by simp [crL]
  | k + 1 => by
    rw [crL]
    constructor
    · intro h
      split at h
      · rename_i hp
        rcases (putL_mem _ _ _).1 h with e | e
        · exact .inr ⟨k, by omega, hp, e⟩
        · rcases (crL_mem f l x k).1 e with e2 | ⟨j, h1, h2⟩
          · exact .inl e2
          · exact .inr ⟨j, by omega, h2⟩
      · rcases (crL_mem f l x k).1 h with e2 | ⟨j, h1, h2⟩
        · exact .inl e2
        · exact .inr ⟨j, by omega, h2⟩
    · intro h
      have h0 : (x ∈ crL f k l) ∨ (0 < f k ∧ x = f k) := by
        rcases h with h | ⟨j, h1, h2, h3⟩
        · exact .inl ((crL_mem f l x k).2 (.inl h))
        · by_cases e : j = k
          · subst e; exact .inr ⟨h2, h3⟩
          · exact .inl ((crL_mem f l x k).2 (.inr ⟨j, by omega, h2, h3⟩))
      split
      · rcases h0 with h0 | h0
        · exact (putL_mem _ _ _).2 (.inr h0)
        · exact (putL_mem _ _ _).2 (.inl h0.2)
      · rename_i hp
        rcases h0 with h0 | h0
        · exact h0
        · exact absurd h0.1 hp
theorem crL_sorted (f : Nat → Int) (l : List Int) (h : l.Pairwise (· < ·)) : ∀ k, (crL f k l).Pairwise (· < ·)
  | 0 => h
  | k + 1 => by
    rw [crL]
    split
    · exact putL_sorted _ _ (crL_sorted f l h k)
    · exact crL_sorted f l h k
theorem crL_len (f : Nat → Int) (l : List Int) : ∀ k, (crL f k l).length ≤ l.length + k
  | 0 => Nat.le_refl _
  | k + 1 => by
    have := crL_len f l k
    rw [crL]
    split
    · have := putL_len (crL f k l) (f k); omega
    · omega
/-- the place-ticks of an axis, as the document has them -/
def rfK (T b t S : Int) (k : Nat) : Int := ((k : Int) * S - b) * T.tdiv t
def crX (T b t c S : Int) (l : List Int) : List Int := if t = 0 then l else crL (rfK T b t S) (c.toNat + 1) l
def crA (v : VO) (r : RY) (i : Nat) (l : List Int) : List Int := crX (tkF r) (axF v r i).b (axF v r i).t (axF v r i).c v.size l
def crR (v : VO) (r : RY) : Nat → List Int
  | 0 => [0]
  | i + 1 => crA v r i (crR v r i)
/-- a crossing of one of the first n axes -/
def Cnd (v : VO) (r : RY) (n : Nat) (x : Int) : Prop := ∃ i, i < n ∧ (axF v r i).t ≠ 0 ∧ ∃ k : Nat, k < (axF v r i).c.toNat + 1 ∧ x = whF (tkF r) (axF v r i) ((k : Int) * v.size)
theorem rfK_wh (v : VO) (r : RY) (i : Nat) (h : (axF v r i).t ≠ 0) (k : Nat) : rfK (tkF r) (axF v r i).b (axF v r i).t v.size k = whF (tkF r) (axF v r i) ((k : Int) * v.size) := (wh_eq v r i h _).symm
theorem crR_mem (v : VO) (r : RY) (x : Int) : ∀ n, x ∈ crR v r n ↔ x = 0 ∨ (0 < x ∧ Cnd v r n x)
  | 0 => by
    rw [crR, List.mem_singleton]
    exact ⟨fun h => .inl h, fun h => by rcases h with h | ⟨_, i, h, _⟩; exact h; omega⟩
  | n + 1 => by
    rw [crR]
    unfold crA crX
    by_cases e : (axF v r n).t = 0
    · rw [if_pos e, crR_mem v r x n]
      constructor
      · rintro (h | ⟨h0, i, h1, h2⟩)
        · exact .inl h
        · exact .inr ⟨h0, i, by omega, h2⟩
      · rintro (h | ⟨h0, i, h1, h2, h3⟩)
        · exact .inl h
        · refine .inr ⟨h0, i, ?_, h2, h3⟩
          rcases Nat.lt_or_ge i n with h | h
          · exact h
          · have : i = n := by omega
            subst this
            exact absurd e h2
    · rw [if_neg e, crL_mem, crR_mem v r x n]
      constructor
      · rintro ((h | ⟨h0, i, h1, h2⟩) | ⟨j, h1, h2, h3⟩)
        · exact .inl h
        · exact .inr ⟨h0, i, by omega, h2⟩
        · rw [rfK_wh v r n e] at h2 h3
          exact .inr ⟨by rw [h3]; exact h2, n, by omega, e, j, h1, h3⟩
      · rintro (h | ⟨h0, i, h1, h2, j, h3, h4⟩)
        · exact .inl (.inl h)
        · by_cases ei : i = n
          · subst ei
            refine .inr ⟨j, h3, ?_, ?_⟩
            · rw [rfK_wh v r i e, ← h4]; exact h0
            · rw [rfK_wh v r i e]; exact h4
          · exact .inl (.inr ⟨h0, i, by omega, h2, j, h3, h4⟩)
theorem crR_sorted (v : VO) (r : RY) : ∀ n, (crR v r n).Pairwise (· < ·)
  | 0 => by simp [crR]
  | n + 1 => by
    rw [crR]
    unfold crA crX
    split
    · exact crR_sorted v r n
    · exact crL_sorted _ _ (crR_sorted v r n) _
theorem crR_len {v : VO} {r : RY} (hv : v.Ok) (hr : r.Ok) : ∀ n, (crR v r n).length ≤ 1 + 13 * n
  | 0 => by simp [crR]
  | n + 1 => by
    have h1 := crR_len hv hr n
    have h2 := (ax_bound hv hr n).2.2
    rw [crR]
    unfold crA crX
    split
    · omega
    · have := crL_len (rfK (tkF r) (axF v r n).b (axF v r n).t v.size) (crR v r n) ((axF v r n).c.toNat + 1)
      omega
/-! ### the next crossing is the least one behind -/
def MinOf (at_ : Int) (S : Int → Prop) (b : Int) : Prop := (b = -1 ∧ ∀ t, S t → t ≤ at_) ∨ (S b ∧ at_ < b ∧ ∀ t, S t → at_ < t → b ≤ t)
theorem stp_min {at_ b t : Int} {S S' : Int → Prop} (h0 : 0 ≤ at_) (h : MinOf at_ S b) (hS : ∀ x, S' x ↔ S x ∨ x = t) : MinOf at_ S' (stp at_ b t) := by
  unfold stp
  by_cases h1 : at_ < t
  · rcases h with ⟨h2, h3⟩ | ⟨h2, h3, h4⟩
    · rw [if_pos ⟨h1, .inl (by omega)⟩]
      refine .inr ⟨(hS t).2 (.inr rfl), h1, fun x hx hl => ?_⟩
      rcases (hS x).1 hx with e | e
      · have := h3 x e; omega
      · omega
    · by_cases h5 : t < b
      · rw [if_pos ⟨h1, .inr h5⟩]
        refine .inr ⟨(hS t).2 (.inr rfl), h1, fun x hx hl => ?_⟩
        rcases (hS x).1 hx with e | e
        · have := h4 x e hl; omega
        · omega
      · rw [if_neg (by omega)]
        refine .inr ⟨(hS b).2 (.inl h2), h3, fun x hx hl => ?_⟩
        rcases (hS x).1 hx with e | e
        · exact h4 x e hl
        · omega
  · rw [if_neg (by omega)]
    rcases h with ⟨h2, h3⟩ | ⟨h2, h3, h4⟩
    · refine .inl ⟨h2, fun x hx => ?_⟩
      rcases (hS x).1 hx with e | e
      · exact h3 x e
      · omega
    · refine .inr ⟨(hS b).2 (.inl h2), h3, fun x hx hl => ?_⟩
      rcases (hS x).1 hx with e | e
      · exact h4 x e hl
      · omega
theorem nxK_min {f : Nat → Int} {at_ b : Int} {S : Int → Prop} (h0 : 0 ≤ at_) (h : MinOf at_ S b) : ∀ k, MinOf at_ (fun x => S x ∨ ∃ j, j < k ∧ x = f j) (nxK f at_ k b)
  | 0 => by
    have e : (fun x => S x ∨ ∃ j, j < 0 ∧ x = f j) = S := funext fun x => propext ⟨fun h => by rcases h with h | ⟨j, h, _⟩; exact h; omega, fun h => .inl h⟩
    rw [e]
    exact h
  | k + 1 => by
    rw [nxK]
    refine stp_min h0 (nxK_min h0 h k) fun x => ⟨?_, ?_⟩
    · rintro (h | ⟨j, h1, h2⟩)
      · exact .inl (.inl h)
      · by_cases e : j = k
        · subst e; exact .inr h2
        · exact .inl (.inr ⟨j, by omega, h2⟩)
    · rintro ((h | ⟨j, h1, h2⟩) | h)
      · exact .inl h
      · exact .inr ⟨j, by omega, h2⟩
      · exact .inr ⟨k, by omega, h⟩
theorem minOf_congr {at_ b : Int} {S S' : Int → Prop} (h : MinOf at_ S b) (hS : ∀ x, S' x ↔ S x) : MinOf at_ S' b := by
  have : S' = S := funext fun x => propext (hS x)
  rw [this]
  exact h
theorem nxA_min (v : VO) (r : RY) {at_ : Int} (h0 : 0 ≤ at_) : ∀ n, MinOf at_ (Cnd v r n) (nxA v r at_ n)
  | 0 => .inl ⟨rfl, fun t h => by obtain ⟨i, h, _⟩ := h; omega⟩
  | n + 1 => by
    rw [nxA]
    split
    · rename_i e
      refine minOf_congr (nxA_min v r h0 n) fun x => ⟨?_, ?_⟩
      · rintro ⟨i, h1, h2, h3⟩
        refine ⟨i, ?_, h2, h3⟩
        rcases Nat.lt_or_ge i n with h | h
        · exact h
        · have : i = n := by omega
          subst this
          exact absurd e h2
      · rintro ⟨i, h1, h2⟩
        exact ⟨i, by omega, h2⟩
    · rename_i e
      refine minOf_congr (nxK_min h0 (nxA_min v r h0 n) _) fun x => ⟨?_, ?_⟩
      · rintro ⟨i, h1, h2, k, h3, h4⟩
        by_cases ei : i = n
        · subst ei; exact .inr ⟨k, h3, h4⟩
        · exact .inl ⟨i, by omega, h2, k, h3, h4⟩
      · rintro (⟨i, h1, h2⟩ | ⟨k, h1, h2⟩)
        · exact ⟨i, by omega, h2⟩
        · exact ⟨n, by omega, e, k, h1, h2⟩
/-- the crossings as a list -/
def acL (v : VO) (r : RY) (m : Nat) : List Int := (List.range (m + 1)).map (atF v r)
theorem atF_min {v : VO} {r : RY} {m : Nat} (hM : IsM v r m) {j : Nat} (hj : j < m) : Cnd v r 3 (atF v r (j + 1)) ∧ atF v r j < atF v r (j + 1) ∧ ∀ t, Cnd v r 3 t → atF v r j < t → atF v r (j + 1) ≤ t := by
  have h := nxA_min v r (hM.1 j (by omega)) 3
  have h1 := hM.1 (j + 1) (by omega)
  rcases h with ⟨h2, _⟩ | h2
  · rw [atF] at h1
    have : nxF v r (atF v r j) = -1 := h2
    omega
  · exact h2
theorem atF_lt {v : VO} {r : RY} {m : Nat} (hM : IsM v r m) : ∀ (d i : Nat), i + d + 1 ≤ m → atF v r i < atF v r (i + d + 1)
  | 0, i, h => (atF_min hM (by omega)).2.1
  | d + 1, i, h => by
    have h1 := atF_lt hM d i (by omega)
    have h2 := (atF_min hM (j := i + d + 1) (by omega)).2.1
    have e : i + (d + 1) + 1 = i + d + 1 + 1 := by omega
    rw [e]
    omega
theorem atF_mono {v : VO} {r : RY} {m : Nat} (hM : IsM v r m) {i j : Nat} (h : i < j) (hj : j ≤ m) : atF v r i < atF v r j := by
  have := atF_lt hM (j - i - 1) i (by omega)
  rwa [show i + (j - i - 1) + 1 = j by omega] at this
theorem acL_sorted {v : VO} {r : RY} {m : Nat} (hM : IsM v r m) : (acL v r m).Pairwise (· < ·) := by
  unfold acL
  rw [List.pairwise_map, List.pairwise_iff_getElem]
  intro i j hi hj hij
  simp at hi hj
  simp
  exact atF_mono hM hij (by omega)
theorem atF_found {v : VO} {r : RY} {m : Nat} (hM : IsM v r m) {t : Int} (ht : Cnd v r 3 t) : ∀ (d j : Nat), j + d = m → atF v r j < t → ∃ i, i ≤ m ∧ t = atF v r i
  | 0, j, h, hl => by
    have e : j = m := by omega
    subst e
    have h1 := nxA_min v r (hM.1 j (Nat.le_refl _)) 3
    rcases h1 with ⟨_, h2⟩ | ⟨_, h2, _⟩
    · have := h2 t ht; omega
    · have h3 : nxF v r (atF v r j) < 0 := hM.2
      have h4 : atF v r j < nxF v r (atF v r j) := h2
      have := hM.1 j (Nat.le_refl _)
      omega
  | d + 1, j, h, hl => by
    have h1 := (atF_min hM (j := j) (by omega)).2.2 t ht hl
    by_cases e : t = atF v r (j + 1)
    · exact ⟨j + 1, by omega, e⟩
    · exact atF_found hM ht d (j + 1) (by omega) (by omega)
theorem crR_eq {v : VO} {r : RY} {m : Nat} (hM : IsM v r m) : crR v r 3 = acL v r m := by
  refine ssorted_ext id _ _ (crR_sorted v r 3) (acL_sorted hM) fun x => ?_
  rw [crR_mem]
  unfold acL
  rw [List.mem_map]
  constructor
  · rintro (h | ⟨h0, h1⟩)
    · exact ⟨0, by simp, by rw [h]; rfl⟩
    · obtain ⟨i, hi, e⟩ := atF_found hM h1 m 0 (by omega) h0
      exact ⟨i, by simp; omega, e.symm⟩
  · rintro ⟨i, hi, e⟩
    have hi2 : i < m + 1 := by simpa using hi
    cases i with
    | zero => exact .inl e.symm
    | succ j =>
      have h1 := atF_min hM (j := j) (by omega)
      have h2 := hM.1 j (by omega)
      rw [e] at h1
      exact .inr ⟨by omega, h1.1⟩
theorem acL_get {v : VO} {r : RY} {m i : Nat} (h : i ≤ m) : (acL v r m).getD i 0 = atF v r i := by
  unfold acL
  rw [List.getD_eq_getElem?_getD, List.getElem?_map, List.getElem?_range (by omega)]
  rfl
theorem acL_len (v : VO) (r : RY) (m : Nat) : (acL v r m).length = m + 1 := by simp [acL]
end Go.Proofs.YtkdopjkdokgipaaGreatDoor
namespace Go.Proofs.YtkdopjkdokgipaaGreatDoor
open Go.RowKit
set_option linter.unusedVariables false
set_option linter.unusedSimpArgs false
theorem putL_pos (l : List Int) (n : Int) : l.length ≤ (putL l n).length := by
  induction l with
  | nil => simp [putL]
  | cons x l ih =>
    unfold putL
    split
    · simp; omega
    · split <;> simp
theorem crL_pos (f : Nat → Int) (l : List Int) : ∀ k, l.length ≤ (crL f k l).length
  | 0 => Nat.le_refl _
  | k + 1 => by
    have := crL_pos f l k
    rw [crL]
    split
    · have := putL_pos (crL f k l) (f k); omega
    · omega
theorem crR_pos (v : VO) (r : RY) : ∀ n, 0 < (crR v r n).length
  | 0 => by simp [crR]
  | n + 1 => by
    have h1 := crR_pos v r n
    rw [crR]
    unfold crA crX
    split
    · exact h1
    · exact Nat.lt_of_lt_of_le h1 (crL_pos _ _ _)
/-! ### cells -/
/-- where an axis is in the middle, as the document has it -/
def cXR (T b t c S p q : Int) : Int := if 2 * T * b + t * (p + q) < 0 then -1 else if 2 * T * S * c ≤ 2 * T * b + t * (p + q) then -1 else (2 * T * b + t * (p + q)).tdiv (2 * T * S)
theorem cXR_eq {T S : Int} {a : AX} (hT : 1 ≤ T) (hS : 1 ≤ S) (p q : Int) : cXR T a.b a.t a.c S p q = cAx T S a p q := by
  unfold cXR cAx
  have e : 2 * T * a.b = 2 * a.b * T := by rw [Int.mul_right_comm]
  rw [e]
  have hK : 0 < 2 * T * S := Int.mul_pos (by omega) (by omega)
  generalize 2 * a.b * T + a.t * (p + q) = P at *
  generalize 2 * T * S = K at *
  split
  · rfl
  · rename_i h
    have h1 : P.tdiv K = P / K := Int.tdiv_eq_ediv_of_nonneg (by omega)
    rw [h1]
    have h2 : a.c ≤ P / K ↔ a.c * K ≤ P := Int.le_ediv_iff_mul_le hK
    have h3 : a.c * K = K * a.c := Int.mul_comm _ _
    by_cases h4 : K * a.c ≤ P
    · rw [if_pos h4, if_pos (h2.2 (by omega))]
    · rw [if_neg h4, if_neg (fun h => h4 (by have := h2.1 h; omega))]
/-- the piece between two crossings -/
def pc1 (v : VO) (r : RY) (p q : Int) : List PT := if cellF v r p q < 0 then [] else [⟨cellF v r p q, p, q⟩]
def pcN (v : VO) (r : RY) : Nat → List PT
  | 0 => []
  | 1 => []
  | k + 2 => pcN v r (k + 1) ++ pc1 v r (atF v r k) (atF v r (k + 1))
/-- a piece between some ticks -/
def cutR (p : PT) (a b : Int) : List PT := if max p.lo a < min p.hi b then [⟨p.cell, max p.lo a, min p.hi b⟩] else []
/-- what of a piece is rock -/
def un1 (v : VO) (r : RY) (g : Nat → Int) (p : PT) : List PT :=
  if 0 < r.dz then cutR p 0 ((g (p.cell.tmod (v.nx * v.ny)).toNat - r.z) * (tkF r : Int).tdiv r.dz)
  else if r.dz < 0 then cutR p ((g (p.cell.tmod (v.nx * v.ny)).toNat - r.z) * (tkF r : Int).tdiv r.dz) 1000000000000
  else if r.z < g (p.cell.tmod (v.nx * v.ny)).toNat then [p] else []
def unL (v : VO) (r : RY) (g : Nat → Int) : List PT → List PT
  | [] => []
  | p :: l => un1 v r g p ++ unL v r g l
theorem unL_append (v : VO) (r : RY) (g : Nat → Int) : ∀ (a b : List PT), unL v r g (a ++ b) = unL v r g a ++ unL v r g b
  | [], b => rfl
  | p :: a, b => by rw [List.cons_append, unL, unL, unL_append v r g a b, List.append_assoc]
theorem un_one (v : VO) (r : RY) (g : Nat → Int) (p q : Int) (hp : 0 ≤ p) (hpq : p < q) (hq : q ≤ 43200000000) : unL v r g (pc1 v r p q) = oneF v r g p q := by
  unfold pc1 oneF
  split
  · rfl
  · show un1 v r g _ ++ [] = _
    rw [List.append_nil]
    generalize cellF v r p q = c
    unfold un1 cutF cutR
    dsimp only
    by_cases h1 : 0 < r.dz
    · rw [if_pos h1, if_pos h1]
      have h2 : (axF v r 2).t ≠ 0 := show r.dz ≠ 0 by omega
      have e : whF (tkF r) (axF v r 2) (g (c.tmod (v.nx * v.ny)).toNat) = (g (c.tmod (v.nx * v.ny)).toNat - r.z) * (tkF r : Int).tdiv r.dz := wh_eq v r 2 h2 _
      rw [e]
      generalize (g (c.tmod (v.nx * v.ny)).toNat - r.z) * (tkF r : Int).tdiv r.dz = u
      have e2 : max p 0 = p := by omega
      rw [e2]
    · rw [if_neg h1, if_neg h1]
      by_cases h3 : r.dz < 0
      · rw [if_pos h3, if_pos h3]
        have h2 : (axF v r 2).t ≠ 0 := show r.dz ≠ 0 by omega
        have e : whF (tkF r) (axF v r 2) (g (c.tmod (v.nx * v.ny)).toNat) = (g (c.tmod (v.nx * v.ny)).toNat - r.z) * (tkF r : Int).tdiv r.dz := wh_eq v r 2 h2 _
        rw [e]
        generalize (g (c.tmod (v.nx * v.ny)).toNat - r.z) * (tkF r : Int).tdiv r.dz = u
        have e2 : min q 1000000000000 = q := by omega
        rw [e2]
      · rw [if_neg h3, if_neg h3]
        by_cases h4 : r.z < g (c.tmod (v.nx * v.ny)).toNat
        · rw [if_pos h4, if_neg (show ¬ g (c.tmod (v.nx * v.ny)).toNat ≤ r.z by omega), if_pos (show p < q from hpq)]
        · rw [if_neg h4, if_pos (show g (c.tmod (v.nx * v.ny)).toNat ≤ r.z by omega), if_neg (show ¬ p < p by omega)]
theorem un_eq {v : VO} {r : RY} {m : Nat} (hv : v.Ok) (hr : r.Ok) (hM : IsM v r m) (g : Nat → Int) : ∀ k, k ≤ m + 1 → unL v r g (pcN v r k) = prN v r g k
  | 0, _ => rfl
  | 1, _ => rfl
  | k + 2, h => by
    rw [pcN, prN, unL_append, un_eq hv hr hM g (k + 1) (by omega), un_one v r g _ _ (hM.1 k (by omega)) (atF_mono hM (by omega) (by omega)) (atF_low hv hr (k + 1)).2]
theorem pc1_len (v : VO) (r : RY) (p q : Int) : (pc1 v r p q).length ≤ 1 := by
  unfold pc1
  split <;> simp
theorem pcN_len (v : VO) (r : RY) : ∀ k, (pcN v r k).length ≤ k
  | 0 => Nat.le_refl _
  | 1 => by simp [pcN]
  | k + 2 => by
    rw [pcN, List.length_append]
    have := pcN_len v r (k + 1)
    have := pc1_len v r (atF v r k) (atF v r (k + 1))
    omega
/-! ### no cell twice -/
theorem index_inj {x y z x' y' z' nx ny : Int} (hx : 0 ≤ x ∧ x < nx) (hy : 0 ≤ y ∧ y < ny) (hx' : 0 ≤ x' ∧ x' < nx) (hy' : 0 ≤ y' ∧ y' < ny) (h : (z * ny + y) * nx + x = (z' * ny + y') * nx + x') : x = x' ∧ y = y' ∧ z = z' := by
  have key : ∀ (a b q q' n : Int), 0 ≤ a ∧ a < n → 0 ≤ b ∧ b < n → q * n + a = q' * n + b → a = b ∧ q = q' := fun a b q q' n ha hb he => by
    have e1 : (q * n + a) / n = q := by rw [Int.add_comm, Int.add_mul_ediv_right _ _ (by omega), Int.ediv_eq_zero_of_lt ha.1 ha.2, Int.zero_add]
    have e2 : (q' * n + b) / n = q' := by rw [Int.add_comm, Int.add_mul_ediv_right _ _ (by omega), Int.ediv_eq_zero_of_lt hb.1 hb.2, Int.zero_add]
    have e3 : q = q' := by rw [← e1, ← e2, he]
    subst e3
    exact ⟨by omega, rfl⟩
  obtain ⟨h1, h2⟩ := key _ _ _ _ _ hx hx' h
  obtain ⟨h3, h4⟩ := key _ _ _ _ _ hy hy' h2
  exact ⟨h1, h3, h4⟩
theorem cell_axes {v : VO} {r : RY} (hv : v.Ok) (hr : r.Ok) {p q p' q' : Int} (h : 0 ≤ cellF v r p q) (h' : 0 ≤ cellF v r p' q') (he : cellF v r p q = cellF v r p' q') : ∀ i, i < 3 → 0 ≤ cAx (tkF r) v.size (axF v r i) p q ∧ cAx (tkF r) v.size (axF v r i) p q = cAx (tkF r) v.size (axF v r i) p' q' := by
  have hT := tkF_bound hr
  have b0 := cAx_bound (T := (tkF r : Int)) (S := v.size) (a := axF v r 0) (p := p) (q := q) (by omega) hv.size.1 hv.x.1
  have b1 := cAx_bound (T := (tkF r : Int)) (S := v.size) (a := axF v r 1) (p := p) (q := q) (by omega) hv.size.1 hv.y.1
  have c0 := cAx_bound (T := (tkF r : Int)) (S := v.size) (a := axF v r 0) (p := p') (q := q') (by omega) hv.size.1 hv.x.1
  have c1 := cAx_bound (T := (tkF r : Int)) (S := v.size) (a := axF v r 1) (p := p') (q := q') (by omega) hv.size.1 hv.y.1
  unfold cellF at h h' he
  split at h
  · omega
  · split at h'
    · omega
    · rename_i h1 h2
      rw [if_neg h1, if_neg h2] at he
      obtain ⟨e1, e2, e3⟩ := index_inj ⟨by omega, b0.2⟩ ⟨by omega, b1.2⟩ ⟨by omega, c0.2⟩ ⟨by omega, c1.2⟩ he
      intro i hi
      match i, hi with
      | 0, _ => exact ⟨by omega, e1⟩
      | 1, _ => exact ⟨by omega, e2⟩
      | 2, _ => exact ⟨by omega, e3⟩
theorem cAx_side {T S : Int} {a : AX} (hT : 1 ≤ T) (hS : 1 ≤ S) {p q p' q' t : Int} {k : Int} (ht : a.t ≠ 0) (hx : a.t * t = (k * S - a.b) * T) (h1 : p + q < 2 * t) (h2 : 2 * t < p' + q') (h : 0 ≤ cAx T S a p q) (h' : 0 ≤ cAx T S a p' q') : cAx T S a p q ≠ cAx T S a p' q' := by
  have hK : 0 < 2 * T * S := Int.mul_pos (by omega) (by omega)
  have hE : 2 * a.b * T + a.t * (2 * t) = k * (2 * T * S) := by
    have e1 : a.t * (2 * t) = 2 * (a.t * t) := by rw [Int.mul_left_comm]
    rw [e1, hx, Int.sub_mul, Int.mul_sub]
    have e2 : 2 * a.b * T = 2 * (a.b * T) := Int.mul_assoc _ _ _
    have e3 : k * (2 * T * S) = 2 * (k * S * T) := by
      rw [Int.mul_assoc 2 T S, Int.mul_left_comm k 2, Int.mul_comm T S, Int.mul_assoc k S T]
    omega
  unfold cAx at h h' ⊢
  split at h
  · omega
  · rename_i g1
    rw [if_neg g1]
    split at h
    · omega
    · rename_i g2
      rw [if_neg g2]
      split at h'
      · omega
      · rename_i g3
        rw [if_neg g3]
        split at h'
        · omega
        · rename_i g4
          rw [if_neg g4]
          generalize hd : 2 * T * S = K at *
          have q1 : (2 * a.b * T + a.t * (p + q)).tdiv K = (2 * a.b * T + a.t * (p + q)) / K := Int.tdiv_eq_ediv_of_nonneg (by omega)
          have q2 : (2 * a.b * T + a.t * (p' + q')).tdiv K = (2 * a.b * T + a.t * (p' + q')) / K := Int.tdiv_eq_ediv_of_nonneg (by omega)
          rw [q1, q2]
          rcases Int.lt_trichotomy a.t 0 with hn | hz | hp
          · have m1 : a.t * (2 * t) < a.t * (p + q) := Int.mul_lt_mul_of_neg_left h1 hn
            have m2 : a.t * (p' + q') < a.t * (2 * t) := Int.mul_lt_mul_of_neg_left h2 hn
            have r1 : k ≤ (2 * a.b * T + a.t * (p + q)) / K := (Int.le_ediv_iff_mul_le hK).2 (by omega)
            have r2 : (2 * a.b * T + a.t * (p' + q')) / K < k := (Int.ediv_lt_iff_lt_mul hK).2 (by omega)
            omega
          · exact absurd hz ht
          · have m1 : a.t * (p + q) < a.t * (2 * t) := Int.mul_lt_mul_of_pos_left h1 hp
            have m2 : a.t * (2 * t) < a.t * (p' + q') := Int.mul_lt_mul_of_pos_left h2 hp
            have r1 : (2 * a.b * T + a.t * (p + q)) / K < k := (Int.ediv_lt_iff_lt_mul hK).2 (by omega)
            have r2 : k ≤ (2 * a.b * T + a.t * (p' + q')) / K := (Int.le_ediv_iff_mul_le hK).2 (by omega)
            omega
theorem cell_ne {v : VO} {r : RY} {m : Nat} (hv : v.Ok) (hr : r.Ok) (hM : IsM v r m) {i j : Nat} (hij : i < j) (hj : j < m) (h : 0 ≤ cellF v r (atF v r i) (atF v r (i + 1))) (h' : 0 ≤ cellF v r (atF v r j) (atF v r (j + 1))) : cellF v r (atF v r i) (atF v r (i + 1)) ≠ cellF v r (atF v r j) (atF v r (j + 1)) := by
  intro he
  have hT := tkF_bound hr
  obtain ⟨⟨x, hx, hn, k, hk, e⟩, hlt, _⟩ := atF_min hM (j := i) (by omega)
  have h1 := cell_axes hv hr h h' he x hx
  have h2 := cell_axes hv hr h' h he.symm x hx
  have hex := wh_exact v r x hn ((k : Int) * v.size)
  rw [← e] at hex
  have h3 : atF v r (i + 1) ≤ atF v r j := by
    by_cases q : i + 1 = j
    · rw [q]; exact Int.le_refl _
    · exact Int.le_of_lt (atF_mono hM (by omega) (by omega))
  have h4 := atF_mono hM (show j < j + 1 by omega) (by omega)
  exact cAx_side (T := (tkF r : Int)) (S := v.size) (a := axF v r x) (by omega) hv.size.1 hn hex (by omega) (by omega) h1.1 h2.1 h1.2
theorem one_cell {v : VO} {r : RY} {g : Nat → Int} {p q : Int} {x : PT} (h : x ∈ oneF v r g p q) : x.cell = cellF v r p q ∧ 0 ≤ cellF v r p q := by
  unfold oneF at h
  split at h
  · simp at h
  · rename_i h1
    split at h
    · rw [List.mem_singleton] at h
      subst h
      refine ⟨?_, by omega⟩
      unfold cutF
      split
      · rfl
      · split
        · rfl
        · split <;> rfl
    · simp at h
theorem prN_mem {v : VO} {r : RY} {g : Nat → Int} {x : PT} : ∀ k, x ∈ prN v r g k → ∃ i, i + 1 < k ∧ x.cell = cellF v r (atF v r i) (atF v r (i + 1)) ∧ 0 ≤ x.cell
  | 0, h => by simp [prN] at h
  | 1, h => by simp [prN] at h
  | k + 2, h => by
    rw [prN, List.mem_append] at h
    rcases h with h | h
    · obtain ⟨i, h1, h2⟩ := prN_mem (k + 1) h
      exact ⟨i, by omega, h2⟩
    · have := one_cell h
      exact ⟨k, by omega, this.1, by omega⟩
theorem sp_one_len (v : VO) (r : RY) (g : Nat → Int) (p q : Int) : (oneF v r g p q).length ≤ 1 := by
  unfold oneF
  split
  · simp
  · split <;> simp
theorem prN_apart {v : VO} {r : RY} {m : Nat} (hv : v.Ok) (hr : r.Ok) (hM : IsM v r m) (g : Nat → Int) : ∀ k, k ≤ m + 1 → (prN v r g k).Pairwise (fun x y => x.cell ≠ y.cell)
  | 0, _ => by simp [prN]
  | 1, _ => by simp [prN]
  | k + 2, h => by
    rw [prN, List.pairwise_append]
    refine ⟨prN_apart hv hr hM g (k + 1) (by omega), ?_, fun x hx y hy => ?_⟩
    · have := sp_one_len v r g (atF v r k) (atF v r (k + 1))
      match hq : oneF v r g (atF v r k) (atF v r (k + 1)) with
      | [] => exact List.Pairwise.nil
      | [a] => simp
      | a :: b :: l => rw [hq] at this; simp at this
    · obtain ⟨i, h1, h2, h3⟩ := prN_mem (k + 1) hx
      have h4 := one_cell hy
      rw [h2, h4.1]
      rw [h2] at h3
      exact cell_ne hv hr hM (by omega) (by omega) h3 h4.2
theorem prN_cell {v : VO} {r : RY} (hv : v.Ok) (hr : r.Ok) {g : Nat → Int} {k : Nat} {x : PT} (h : x ∈ prN v r g k) : 0 ≤ x.cell ∧ x.cell < v.nx * v.ny * v.nz := by
  obtain ⟨i, _, h1, h2⟩ := prN_mem k h
  exact ⟨h2, by rw [h1]; exact (cell_bound hv hr _ _).2⟩
/-! ### the beam, as the document has it -/
abbrev CHs := List (Int × Int)
def chsR (L : List PT) : CHs := L.map fun p => (p.cell, p.hi - p.lo)
/-- cell by cell -/
def shR (l : CHs) : Nat → CHs
  | 0 => []
  | c + 1 => shR l c ++ l.filter (fun x => decide (x.1 = (c : Int)))
theorem shR_mem (l : CHs) (x : Int × Int) : ∀ n, x ∈ shR l n ↔ x ∈ l ∧ ∃ c : Nat, c < n ∧ x.1 = (c : Int)
  | 0 => by simp [shR]
  | n + 1 => by
    rw [shR, List.mem_append, shR_mem l x n, List.mem_filter, decide_eq_true_eq]
    constructor
    · rintro (⟨h1, c, h2, h3⟩ | ⟨h1, h2⟩)
      · exact ⟨h1, c, by omega, h3⟩
      · exact ⟨h1, n, by omega, h2⟩
    · rintro ⟨h1, c, h2, h3⟩
      by_cases e : c = n
      · subst e; exact .inr ⟨h1, h3⟩
      · exact .inl ⟨h1, c, by omega, h3⟩
theorem shR_sorted (l : CHs) (h : l.Pairwise (fun x y => x.1 ≠ y.1)) : ∀ n, (shR l n).Pairwise (fun x y => x.1 < y.1)
  | 0 => by simp [shR]
  | n + 1 => by
    rw [shR, List.pairwise_append]
    refine ⟨shR_sorted l h n, ?_, fun x hx y hy => ?_⟩
    · refine List.Pairwise.imp_of_mem (fun {a b} ha hb hab => ?_) (h.filter _)
      rw [List.mem_filter, decide_eq_true_eq] at ha hb
      exact absurd (ha.2.trans hb.2.symm) hab
    · obtain ⟨_, c, h1, h2⟩ := (shR_mem l x n).1 hx
      rw [List.mem_filter, decide_eq_true_eq] at hy
      omega
theorem shR_eq {l S : CHs} {n : Nat} (hp : S.Perm l) (hs : S.Pairwise (fun x y => x.1 ≤ y.1)) (ha : l.Pairwise (fun x y => x.1 ≠ y.1)) (hb : ∀ x ∈ l, 0 ≤ x.1 ∧ x.1 < (n : Int)) : shR l n = S := by
  have ha2 : S.Pairwise (fun x y => x.1 ≠ y.1) := hp.symm.pairwise ha (fun h => h.symm)
  have hs2 : S.Pairwise (fun x y => x.1 < y.1) := List.Pairwise.imp₂ (fun x y h1 h2 => by omega) hs ha2
  refine ssorted_ext (fun x => x.1) _ _ (shR_sorted l ha n) hs2 fun x => ?_
  rw [shR_mem, hp.mem_iff]
  exact ⟨fun h => h.1, fun h => ⟨h, x.1.toNat, by have := hb x h; omega, by have := hb x h; omega⟩⟩
theorem chsR_apart {L : List PT} (h : L.Pairwise (fun x y => x.cell ≠ y.cell)) : (chsR L).Pairwise (fun x y => x.1 ≠ y.1) := by
  unfold chsR
  rw [List.pairwise_map]
  exact h
end Go.Proofs.YtkdopjkdokgipaaGreatDoor
namespace Go.Proofs.YtkdopjkdokgipaaGreatDoor
open Go.RowKit Go.Shelf
set_option linter.unusedVariables false
set_option linter.unusedSimpArgs false
set_option maxRecDepth 100000 in
set_option maxHeartbeats 1000000 in
theorem r6gcd_any (out D : Nat) (w : World) (h1 : out ≤ 216000) (h2 : D ≤ 216000) : Calls Tryz.prog 115 #[.int .i64 (out : Int), .int .i64 (D : Int)] w fun e w' => e = .returned (.int .i64 (Nat.gcd out D : Int)) ∧ Below w.heap.size w w' := by
  go_enter Tryz.func115, Tryz.ntmps115
  go_wp2
  go_loopw [0, 1] (fun s0 s1 wx => ∃ a b : Nat, s0 = .int .i64 (a : Int) ∧ s1 = .int .i64 (b : Int) ∧ Nat.gcd a b = Nat.gcd out D ∧ a ≤ 216000 ∧ b ≤ 216000 ∧ Hid (Below w.heap.size w wx)) (fun _ s1 _ => (intOf s1).toNat)
  case atStart => exact ⟨out, D, rfl, rfl, rfl, h1, h2, Lib.hid (Below.refl _ _)⟩
  case round =>
    obtain ⟨a, b, rfl, rfl, hgc, ha, hb, HB⟩ := hrel
    by_cases hb0 : b = 0
    · subst hb0
      rw [Nat.gcd_zero_right] at hgc
      subst hgc
      go_wp2
      go_ret
      exact ⟨rfl, HB.out⟩
    · have hbn : ((b : Int) == 0) = false := beq_eq_false_iff_ne.2 (by omega)
      have hmo : (a : Int).tmod (b : Int) = ((a % b : Nat) : Int) := rfl
      have hlt2 : a % b < b := Nat.mod_lt _ (by omega)
      have hg2 : Nat.gcd b (a % b) = Nat.gcd out D := by rw [← hgc, Nat.gcd_comm b, ← Nat.gcd_rec, Nat.gcd_comm]
      generalize a % b = m at *
      go_upto_region 2 with (fail)
      (refine wp_region_calm (wr.heap.size) (by kernel_rfl) (by kernel_rfl) ?_; (repeat (first | go_big_quiet_step (fail) | quiet_step (fail))); refine wpQuiet_nil ?_; intro _ hw'; obtain ⟨xq, hw''⟩ := hw'; subst hw'')
      have HB2 := Lib.hid (HB.out.trans ((Calm.below xq).mono HB.out.size))
      generalize Calm.val xq = wq at *
      go_wp2
      go_roundw
      case rel => first | exact ⟨b, m, rfl, rfl, hg2, by omega, by omega, HB2⟩ | ((repeat apply Exists.intro); exact ⟨⟨b, m, rfl, rfl, hg2, by omega, by omega, HB2⟩, rfl⟩)
      case measure => simp [intOf]; omega
/-- numbers as cells -/
def lC (l : List Int) : List Value := l.map fun x => .int .i64 x
theorem lC_len (l : List Int) : (lC l).length = l.length := by simp [lC]
theorem lC_append (a b : List Int) : lC (a ++ b) = lC a ++ lC b := by simp [lC]
theorem lC_get {l : List Int} {j : Nat} (h : j < l.length) : (lC l)[j]? = some (.int .i64 (l.getD j 0)) := by simp [lC, List.getD_eq_getElem?_getD, h]
theorem lC_one (l : List Int) : ∀ u ∈ lC l, u.oneCell' = true := by
  intro u hu
  simp only [lC, List.mem_map] at hu
  obtain ⟨x, _, rfl⟩ := hu
  rfl
theorem own_pos {W : World} {B : Nat} {l : List Int} {a : Option Addr} {n c : Nat} (h : W.ownsRow B 3 1 (.slice a n c) l.length (lC l)) (hl : 0 < l.length) : ∃ b, a = some ⟨b, 0, none⟩ ∧ b < W.heap.size ∧ n = l.length ∧ l.length ≤ c ∧ c ≤ maxLen ∧ ∀ j, j < l.length → W.cell? ⟨b, j, none⟩ = some (.int .i64 (l.getD j 0)) := by
  rcases h.2 with ⟨e, h0⟩ | ⟨g, cap, cur, e, h1, h2, h3, h4, _⟩
  · omega
  · injection e with e1 e2 e3
    subst e1 e2 e3
    refine ⟨g, rfl, (bl h2), rfl, h3, h4, fun j hj => ?_⟩
    rw [h.cellAt j (show j < l.length * 1 by omega), lC_get hj]
set_option maxRecDepth 100000 in
set_option maxHeartbeats 2000000 in
theorem r6Ticks_any (r : RY) (w : World) (hr : r.Ok) : Calls Tryz.prog 82 #[r.val] w fun e w' => e = .returned (.int .i64 (tkF r : Int)) ∧ Below w.heap.size w w' := by
  have HR := Lib.hid hr
  have HE := Lib.hid (show tkF r = tkN r 3 from rfl)
  generalize tkF r = RES at *
  unfold RY.val
  clear hr
  go_enter Tryz.func82, Tryz.ntmps82
  go_upto_region 1 with (fail)
  have HB := Lib.hid (rk_below w (.cells #[.int .i64 r.x, .int .i64 r.y, .int .i64 r.z, .int .i64 r.dx, .int .i64 r.dy, .int .i64 r.dz] 26))
  have hn := heap_alloc_new w (.cells #[.int .i64 r.x, .int .i64 r.y, .int .i64 r.z, .int .i64 r.dx, .int .i64 r.dy, .int .i64 r.dz] 26)
  generalize World.alloc w _ = V at *
  have k3 := cell_of_row _ _ 3 _ _ _ hn
  have k4 := cell_of_row _ _ 4 _ _ _ hn
  have k5 := cell_of_row _ _ 5 _ _ _ hn
  clear hn
  go_upto_region 3 with (fail)
  have HB2 := Lib.hid (HB.out.trans ((rk_below V (.cells #[.int .i64 r.dx, .int .i64 r.dy, .int .i64 r.dz] 3)).mono HB.out.size))
  have HL := Lib.hid (heap_alloc_new V (.cells #[.int .i64 r.dx, .int .i64 r.dy, .int .i64 r.dz] 3))
  clear HB k3 k4 k5
  generalize V.heap.size = kb at *
  generalize World.alloc V _ = V2 at *
  go_wp2
  go_loopw [3, 5] (fun s3 s5 wr => ∃ i : Nat, i ≤ 3 ∧ s5 = .int .i64 (i : Int) ∧ s3 = .int .i64 (tkN r i : Int) ∧ Hid (Below V2.heap.size V2 wr)) (fun _ s5 _ => 3 - (intOf s5).toNat)
  case atStart => exact ⟨0, by omega, rfl, rfl, Lib.hid (Below.refl _ _)⟩
  case round =>
    obtain ⟨i, hi, rfl, rfl, HW⟩ := hrel
    by_cases hlt : i < 3
    · have hlt' : (i : Int) < 3 := by omega
      have HSU := Lib.hid (tkN_succ (r := r) hlt)
      obtain ⟨hb1, hb2⟩ := tn_bound HR.out i
      have HLr := (HW.out.block _ (bl HL.out)).trans HL.out
      have hd : wr.cell? ⟨kb, i, none⟩ = some (.int .i64 (tnF r i)) := by
        match i, hlt with
        | 0, _ => exact cell_of_row _ _ 0 _ _ _ HLr
        | 1, _ => exact cell_of_row _ _ 1 _ _ _ HLr
        | 2, _ => exact cell_of_row _ _ 2 _ _ _ HLr
      obtain ⟨ho1, ho2⟩ := tkN_bound HR.out i
      clear HLr
      generalize tnF r i = d at *
      generalize tkN r i = out at *
      have HMX := Lib.hid (max_neg d)
      have HMY := Lib.hid (show max d (-d) = ((d.natAbs : Nat) : Int) from by omega)
      have HSE := Lib.hid (show tkS out d = if d.natAbs = 0 then out else out / Nat.gcd out d.natAbs * d.natAbs from rfl)
      have hD60 : d.natAbs ≤ 60 := by omega
      go_upto_region 6 with (fail)
      go_region
      first | rw [HMX.out] | rw [HMY.out]
      generalize d.natAbs = D at *
      by_cases h0 : D = 0
      · subst h0
        have HS2 := Lib.hid (show tkN r (i + 1) = out from by rw [HSU.out, HSE.out, if_pos rfl])
        go_wp2
        go_roundw
        case rel => exact ⟨i + 1, by omega, by go_num, by rw [HS2.out], Lib.hid (HW.out.drew)⟩
        case measure => simp [intOf]; omega
      · have HS2 := Lib.hid (show tkN r (i + 1) = out / Nat.gcd out D * D from by rw [HSU.out, HSE.out, if_neg h0])
        have h0' : ((D : Int) == 0) = false := beq_eq_false_iff_ne.2 (by omega)
        have hg : Nat.gcd out D ≠ 0 := by have := Nat.gcd_pos_of_pos_left D (show 0 < out by omega); omega
        have HGC := Lib.hid (fun (W : World) => r6gcd_any out D W (by omega) (by omega))
        generalize Nat.gcd out D = G at *
        have hq1 : (out : Int).tdiv (G : Int) = ((out / G : Nat) : Int) := rfl
        have hq2 : out / G ≤ 216000 := Nat.le_trans (Nat.div_le_self _ _) ho2
        have hq3 : out / G * D ≤ 216000 * 60 := Nat.mul_le_mul hq2 hD60
        have hq4 : ((out / G : Nat) : Int) * (D : Int) = ((out / G * D : Nat) : Int) := by rw [Int.natCast_mul]
        have hG : ((G : Int) == 0) = false := beq_eq_false_iff_ne.2 (by omega)
        have HWD := Lib.hid (HW.out.drew)
        clear HSE HSU HMX HMY
        generalize out / G = q at *
        generalize q * D = o2 at *
        go_wp2_with (go_at_call 115; refine (HGC.out _).mono ?_; rintro e w2 ⟨rfl, hb2'⟩; have HW2 := Lib.hid (HWD.out.trans (hb2'.mono HWD.out.size)); clear hb2')
        go_roundw
        case rel => exact ⟨i + 1, by omega, by go_num, by rw [HS2.out], HW2⟩
        case measure => simp [intOf]; omega
    · obtain rfl : i = 3 := by omega
      have hlt' : ¬ (3 : Int) < 3 := by omega
      rw [← HE.out]
      go_wp2
      go_ret
      exact ⟨rfl, HB2.out.trans (HW.out.mono HB2.out.size)⟩
set_option maxRecDepth 100000 in
set_option maxHeartbeats 2000000 in
theorem r6cell_any (T b t c S p q : Int) (w : World) (hT : 1 ≤ T ∧ T ≤ 216000) (hb : -100000 ≤ b ∧ b ≤ 100000) (ht : -60 ≤ t ∧ t ≤ 60) (hc : 1 ≤ c ∧ c ≤ 12) (hS : 1 ≤ S ∧ S ≤ 1000) (hp : 0 ≤ p ∧ p ≤ 43200000000) (hq : 0 ≤ q ∧ q ≤ 43200000000) :
    Calls Tryz.prog 114 #[.int .i64 T, .int .i64 b, .int .i64 t, .int .i64 c, .int .i64 S, .int .i64 p, .int .i64 q] w fun e w' => e = .returned (.int .i64 (cXR T b t c S p q)) ∧ w = w' := by
  have HE := Lib.hid (show cXR T b t c S p q = if 2 * T * b + t * (p + q) < 0 then -1 else if 2 * T * S * c ≤ 2 * T * b + t * (p + q) then -1 else (2 * T * b + t * (p + q)).tdiv (2 * T * S) from rfl)
  generalize cXR T b t c S p q = RES at *
  have h1 := rk_mul_abs (x := 2 * T) (y := b) (K := 432000) (M := 100000) (by decide) (by decide) (by omega) (by omega)
  have h2 := rk_mul_abs (x := t) (y := p + q) (K := 60) (M := 86400000000) (by decide) (by decide) (by omega) (by omega)
  have h3 := rk_mul_abs (x := 2 * T) (y := S) (K := 432000) (M := 1000) (by decide) (by decide) (by omega) (by omega)
  have h4 := rk_mul_abs (x := 2 * T * S) (y := c) (K := 432000000) (M := 12) (by decide) (by decide) (by omega) (by omega)
  have h5 : 0 < 2 * T * S := Int.mul_pos (by omega) (by omega)
  have h6 := tdiv_abs (2 * T * b + t * (p + q)) (2 * T * S) 5300000000000 (by omega)
  generalize hTb : 2 * T * b = Tb at *
  generalize htp : t * (p + q) = tp at *
  generalize hTS : 2 * T * S = TS at *
  generalize hTSc : TS * c = TSc at *
  have hTS0 : (TS == 0) = false := beq_eq_false_iff_ne.2 (by omega)
  have h7 : -5300000000000 ≤ Tb + tp ∧ Tb + tp ≤ 5300000000000 := by omega
  generalize hP : Tb + tp = P at *
  generalize hQ : P.tdiv TS = Q at *
  by_cases e1 : P < 0
  · rw [if_pos e1] at HE
    go_enter Tryz.func114, Tryz.ntmps114
    go_wp2
    go_ret
    exact ⟨congrArg (fun x => Ending.returned (Value.int .i64 x)) HE.out.symm, rfl⟩
  · by_cases e2 : TSc ≤ P
    · rw [if_neg e1, if_pos e2] at HE
      go_enter Tryz.func114, Tryz.ntmps114
      go_wp2
      go_ret
      exact ⟨congrArg (fun x => Ending.returned (Value.int .i64 x)) HE.out.symm, rfl⟩
    · rw [if_neg e1, if_neg e2] at HE
      go_enter Tryz.func114, Tryz.ntmps114
      go_wp2
      go_ret
      exact ⟨congrArg (fun x => Ending.returned (Value.int .i64 x)) HE.out.symm, rfl⟩
end Go.Proofs.YtkdopjkdokgipaaGreatDoor
namespace Go.Proofs.YtkdopjkdokgipaaGreatDoor
open Go.RowKit Go.Shelf
set_option linter.unusedVariables false
set_option linter.unusedSimpArgs false
/-- a row of numbers that put hands back -/
def PutRes (B : Nat) (l : List Int) (w : World) (e : Ending) (w' : World) : Prop := ∃ a c, e = .returned (.slice a l.length c) ∧ w'.ownsRow B 3 1 (.slice a l.length c) l.length (lC l) ∧ Below w.heap.size w w'
/-- a block that holds one number -/
structure NbAt (nb : Nat) (n : Int) (W : World) : Prop where
  cell : W.heap[nb]? = some (.cells #[.int .i64 n] 3)
theorem NbAt.lt {nb : Nat} {n : Int} {W : World} (h : NbAt nb n W) : nb < W.heap.size := (bl h.cell)
theorem NbAt.new (W : World) (n : Int) : NbAt W.heap.size n (W.alloc (.cells #[.int .i64 n] 3)) := ⟨heap_alloc_new W _⟩
theorem NbAt.keep {nb : Nat} {n : Int} {W W' : World} (h : NbAt nb n W) (hk : W'.heap[nb]? = W.heap[nb]?) : NbAt nb n W' := ⟨hk.trans h.cell⟩
theorem NbAt.src {nb : Nat} {n : Int} {W : World} (h : NbAt nb n W) : ∀ j u, (lC [n])[j]? = some u → W.cell? ((⟨nb, 0, none⟩ : Addr).add j) = some u := fun j u hu => by
  have hj : j < 1 := by have := (List.getElem?_eq_some_iff.1 hu).1; simpa [lC] using this
  have : j = 0 := by omega
  subst this
  rw [addr_add, ← hu]
  exact cell_of_row _ _ 0 _ _ _ h.cell
theorem row_take {W : World} {b k : Nat} {l : List Int} (hk : k ≤ l.length) (h : ∀ j, j < l.length → W.cell? ⟨b, j, none⟩ = some (.int .i64 (l.getD j 0))) : ∀ j u, (lC (l.take k))[j]? = some u → W.cell? ((⟨b, 0, none⟩ : Addr).add j) = some u := fun j u hu => by
  have hj : j < k := by have := (List.getElem?_eq_some_iff.1 hu).1; rw [lC_len, List.length_take] at this; omega
  rw [addr_add, Nat.zero_add, h j (by omega), ← hu, lC_get (by rw [List.length_take]; omega)]
  congr 2
  rw [List.getD_eq_getElem?_getD, List.getD_eq_getElem?_getD, List.getElem?_take_of_lt hj]
theorem row_drop {W : World} {b k : Nat} {l : List Int} (h : ∀ j, j < l.length → W.cell? ⟨b, j, none⟩ = some (.int .i64 (l.getD j 0))) : ∀ j u, (lC (l.drop k))[j]? = some u → W.cell? ((⟨b, k, none⟩ : Addr).add j) = some u := fun j u hu => by
  have hj : k + j < l.length := by have := (List.getElem?_eq_some_iff.1 hu).1; rw [lC_len, List.length_drop] at this; omega
  rw [addr_add, h (k + j) hj, ← hu, lC_get (by rw [List.length_drop]; omega)]
  congr 2
  rw [List.getD_eq_getElem?_getD, List.getD_eq_getElem?_getD, List.getElem?_drop]
theorem put_row {l : List Int} {n : Int} {k : Nat} (hk : k ≤ l.length) : lC (l.take k ++ n :: l.drop k) = (lC (l.take k) ++ lC [n]) ++ lC (l.drop k) ∧ (l.take k ++ n :: l.drop k).length = k + 1 + (l.length - k) := by
  constructor
  · simp [lC]
  · rw [List.length_append, List.length_cons, List.length_take, List.length_drop]; omega
set_option maxRecDepth 100000 in
set_option maxHeartbeats 2000000 in
theorem r6put_any (B : Nat) (l : List Int) (n : Int) (a : Option Addr) (c : Nat) (w : World) (hB : B ≤ w.heap.size) (h0 : 0 < l.length) (hl : l.length ≤ 100) (hown : w.ownsRow B 3 1 (.slice a l.length c) l.length (lC l)) :
    Calls Tryz.prog 127 #[.slice a l.length c, .int .i64 n] w (PutRes B (putL l n) w) := by
  obtain ⟨b, rfl, hbz, _, hcap, hcm, hcell⟩ := own_pos hown h0
  have HAT := Lib.hid (fun k h1 h2 h3 => putL_at l n k h1 h2 h3)
  have HO := Lib.hid hown
  have HC := Lib.hid hcell
  have HB0 := Lib.hid hB
  have HR1 := Lib.hid (fun (e : putL l n = l) => show PutRes B (putL l n) w (.returned (.slice (some ⟨b, 0, none⟩) l.length c)) w from by rw [e]; exact ⟨_, _, rfl, hown, Below.refl _ _⟩)
  have HR2 := Lib.hid (fun (v : Value) (W' : World) (h1 : Below w.heap.size w W') (h2 : W'.ownsRow w.heap.size 3 1 v (putL l n).length (lC (putL l n))) => show PutRes B (putL l n) w (.returned v) W' from by
    obtain ⟨a, c, rfl⟩ := own_len h2
    exact ⟨a, c, rfl, own_base h2 hB, h1⟩)
  obtain ⟨jt, hjt, hj0, hj1, hj2⟩ := info_parts info_int
  obtain ⟨N, hN⟩ : ∃ N, l.length = N := ⟨_, rfl⟩
  have HN0 := Lib.hid hN
  rw [hN] at h0 hl hcap HC HAT HR1 ⊢
  generalize PutRes B (putL l n) w = RES at *
  clear hown hcell hB hN
  go_enter Tryz.func127, Tryz.ntmps127
  go_wp2
  go_loopw [5] (fun s5 wr => ∃ i : Nat, i ≤ N ∧ s5 = .int .i64 (i : Int) ∧ Hid (∀ j, j < i → l.getD j 0 < n) ∧ w = wr) (fun s5 _ => N - (intOf s5).toNat)
  case atStart => exact ⟨0, by omega, rfl, Lib.hid (fun j hj => by omega), rfl⟩
  case round =>
    obtain ⟨k, hk, rfl, HA, rfl⟩ := hrel
    by_cases hlt : k < N
    · have hlt' : (k : Int) < (N : Int) := by omega
      have hc := HC.out k hlt
      by_cases hv : l.getD k 0 < n
      · have HA2 := Lib.hid (fun j (hj : j < k + 1) => show l.getD j 0 < n from by (by_cases e : j = k; (subst e; exact hv); exact HA.out j (by omega)))
        generalize l.getD k 0 = x at *
        go_wp2
        go_roundw
        case rel => exact ⟨k + 1, by omega, by go_num, HA2, by trivial⟩
        case measure => simp [intOf]; omega
      · have HP := Lib.hid (HAT.out k (by omega) HA.out (fun _ => by omega))
        by_cases he : l.getD k 0 = n
        · have HP2 := Lib.hid (HR1.out (by rw [HP.out, if_pos ⟨hlt, he⟩]))
          rw [he] at hc
          have hv2 : ¬ n < n := by omega
          clear hv
          go_wp2
          exact HP2.out
        · have HP2 := Lib.hid (show putL l n = l.take k ++ n :: l.drop k from by rw [HP.out, if_neg (fun h => he h.2)])
          have he' : (l.getD k 0 == n) = false := beq_eq_false_iff_ne.2 he
          have HC2 := Lib.hid (HC.out)
          generalize l.getD k 0 = x at *
          go_upto_region 6 with (fail)
          clear hc hv he he'
          (have hkc : k ≤ c := (by omega); have HT1 := Lib.hid (fun (W : World) (hb : Below w.heap.size w W) => show k = 0 ∨ ∃ ad, some (⟨b, 0, none⟩ : Addr) = some ad ∧ ∀ j u, (lC (l.take k))[j]? = some u → W.cell? (ad.add j) = some u from .inr ⟨_, rfl, row_take (by rw [HN0.out]; exact hk) (fun j hj => ((bcell hb).1 _ _ hbz).trans (HC.out j (by rw [HN0.out] at hj; exact hj)))⟩); have HT3 := Lib.hid (fun (W : World) (hb : Below w.heap.size w W) => show ∀ j u, (lC (l.drop k))[j]? = some u → W.cell? ((⟨b, k, none⟩ : Addr).add j) = some u from row_drop (fun j hj => ((bcell hb).1 _ _ hbz).trans (HC.out j (by rw [HN0.out] at hj; exact hj)))); have HR3 := Lib.hid (fun (v : Value) (W' : World) (h1 : Below w.heap.size w W') (h2 : W'.ownsRow w.heap.size 3 1 v (k + 1 + (N - k)) ((lC (l.take k) ++ lC [n]) ++ lC (l.drop k))) => HR2.out v W' h1 (by rw [HP2.out, (put_row (by rw [HN0.out]; exact hk)).1, (put_row (by rw [HN0.out]; exact hk)).2, HN0.out]; exact h2)); refine wp_region_any (by kernel_rfl) ?_; change wpAny _ _ _ _ _ _ _ (World.drew _); have HB := Lib.hid (show Below w.heap.size w w.drew from (Below.refl _ _).drew); clear HA HAT HC HP HP2 HO HR1 HR2 HB0 hcm; refine any_of_tail 11 11 (fun w' => True) (by kernel_rfl) trivial (fun hS => ?_); refine headH_take (i := 0) (v := ?_) rfl (by kernel_rfl) (fun _ _ _ h => h) (Or.inl ⟨by rfl, ?_⟩) (by assumption) ?_; rotate_left; (· intro w' hSw; (try dsimp only at hSw); (try simp only [hng]); go_simp; (try with_reducible rfl)); (try simp only [hng]); (try dsimp only [Act.put]); (try simp only [hns]); refine headH_take (i := 1) (v := ?_) rfl (by kernel_rfl) (fun _ _ _ h => h) (Or.inl ⟨by rfl, ?_⟩) (by assumption) ?_; rotate_left; (· intro w' hSw; (try dsimp only at hSw); (try simp only [hng]); go_simp; (try with_reducible rfl)); (try simp only [hng]); (try dsimp only [Act.put]); (try simp only [hns]); refine headH_take (i := 2) (v := ?_) rfl (by kernel_rfl) (fun _ _ _ h => h) (Or.inl ⟨by rfl, ?_⟩) (by assumption) ?_; rotate_left; (· intro w' hSw; (try dsimp only at hSw); (try simp only [hng]); go_simp; (try with_reducible rfl)); (try simp only [hng]); (try dsimp only [Act.put]); (try simp only [hns]); refine headH_take (i := 4) (v := ?_) rfl (by kernel_rfl) (fun _ _ _ h => h) (Or.inl ⟨by rfl, ?_⟩) (by assumption) ?_; rotate_left; (· intro w' hSw; (try dsimp only at hSw); (try simp only [hng]); go_simp; (try with_reducible rfl)); (try simp only [hng]); (try dsimp only [Act.put]); (try simp only [hns]); refine headH_take (i := 7) (v := ?_) rfl (by kernel_rfl) (fun _ _ _ h => h) (Or.inl ⟨by rfl, ?_⟩) (by assumption) ?_; rotate_left; (· intro w' hSw; (try dsimp only at hSw); (try simp only [hng]); go_simp; (try with_reducible rfl)); (try simp only [hng]); (try dsimp only [Act.put]); (try simp only [hns]); refine headH_take (i := 8) (v := ?_) rfl (by kernel_rfl) (fun _ _ _ h => h) (Or.inl ⟨by rfl, ?_⟩) (by assumption) ?_; rotate_left; (· intro w' hSw; (try dsimp only at hSw); (try simp only [hng]); go_simp; (try with_reducible rfl)); (try simp only [hng]); (try dsimp only [Act.put]); (try simp only [hns]); refine headH_take (i := 9) (v := ?_) rfl (by kernel_rfl) (fun _ _ _ h => h) (Or.inl ⟨by rfl, ?_⟩) (by assumption) ?_; rotate_left; (· intro w' hSw; (try dsimp only at hSw); (try simp only [hng]); go_simp; (try with_reducible rfl)); (try simp only [hng]); (try dsimp only [Act.put]); (try simp only [hns]); generalize World.drew w = wd at *; refine headH_all (rs := [3, 5]) (by kernel_rfl) (by simp) (by kernel_rfl) ?_; intro i0 hi0; simp only [List.mem_cons, List.not_mem_nil, or_false] at hi0)
          (rcases hi0 with rfl | rfl; (· (refine headH_op rfl (fun K hK => ?_); refine step_append_src rfl _ _ 24 rfl w.heap.size 3 jt (.int .i64 0) 1 8 Tryz.underlying24 hjt hj0 hj1 hj2 rfl (by decide) (.slice none 0 0) 0 [] rfl (World.ownsRow_nil _ _ _ _) _ k _ (lC (l.take k)) rfl (by rw [lC_len, List.length_take, HN0.out]; omega) (HT1.out _ HB.out) (lC_one _) (by unfold maxLen; omega) (by omega) HB.out.size ?_; intro v1 W1 hown hgrow; rw [Nat.zero_add, List.nil_append] at hown; have HO1 := Lib.hid hown; have HBx := Lib.hid (show Below w.heap.size w W1 from HB.out.grown hgrow HB.out.size (fun k e => by cases e)); (try replace HN := Lib.hid (HN.out.keep (hgrow.block _ (HN.out.lt) (by simp [Value.ownBlock])))); clear HB hown hgrow; have HB := HBx; clear HBx; (refine hK.out _ _ trivial (fun hS => ?_); clear hK K; (try simp only [hng]); (try dsimp only [Act.put]); (try simp only [hns]))); refine headH_all (rs := [5]) (by kernel_rfl) (by simp) (by kernel_rfl) ?_; intro i0 hi0; simp only [List.mem_cons, List.not_mem_nil, or_false] at hi0; subst hi0; (refine headH_op rfl (fun K hK => ?_); (try simp only [hng]); go_simp; have HN := Lib.hid (NbAt.new W1 n); replace HO1 := Lib.hid (own_below HO1.out (rk_below W1 (.cells #[.int .i64 n] 3))); replace HB := Lib.hid (HB.out.trans ((rk_below W1 (.cells #[.int .i64 n] 3)).mono HB.out.size)); generalize (W1).heap.size = nb at *; generalize World.alloc W1 _ = W2 at *; (refine hK.out _ _ trivial (fun hS => ?_); clear hK K; (try simp only [hng]); (try dsimp only [Act.put]); (try simp only [hns]))); refine headH_all (rs := [6]) (by kernel_rfl) (by simp) (by kernel_rfl) ?_; intro i0 hi0; simp only [List.mem_cons, List.not_mem_nil, or_false] at hi0; subst hi0; (refine headH_op rfl (fun K hK => ?_); refine step_append_src rfl _ _ 24 rfl w.heap.size 3 jt (.int .i64 0) 1 8 Tryz.underlying24 hjt hj0 hj1 hj2 rfl (by decide) v1 k _ rfl HO1.out _ 1 _ (lC [n]) rfl rfl (.inr ⟨⟨nb, 0, none⟩, rfl, HN.out.src⟩) (lC_one _) (by unfold maxLen; omega) (by omega) HB.out.size ?_; intro v2 W3 hown hgrow; have HO2 := Lib.hid hown; replace HB := Lib.hid (show Below w.heap.size w W3 from HB.out.grown hgrow HB.out.size (fun k e => (HO1.out.lt k e).1)); clear hown hgrow HO1 HN; (refine hK.out _ _ trivial (fun hS => ?_); clear hK K; (try simp only [hng]); (try dsimp only [Act.put]); (try simp only [hns]))); refine headH_all (rs := [10]) (by kernel_rfl) (by simp) (by kernel_rfl) ?_; intro i0 hi0; simp only [List.mem_cons, List.not_mem_nil, or_false] at hi0; subst hi0; (refine headH_op rfl (fun K hK => ?_); refine step_append_src rfl _ _ 24 rfl w.heap.size 3 jt (.int .i64 0) 1 8 Tryz.underlying24 hjt hj0 hj1 hj2 rfl (by decide) v2 (k + 1) _ rfl HO2.out _ (N - k) _ (lC (l.drop k)) rfl (by rw [lC_len, List.length_drop, HN0.out, Nat.mul_one]) (if hcap2 : c = k then Or.inl (by omega) else Or.inr ⟨⟨b, k, none⟩, if_neg hcap2, HT3.out _ HB.out⟩) (lC_one _) (by unfold maxLen; omega) (by omega) HB.out.size ?_; intro v3 W4 hown hgrow; have HO3 := Lib.hid (HR3.out _ _ (show Below w.heap.size w W4 from HB.out.grown hgrow HB.out.size (fun k e => (HO2.out.lt k e).1)) hown); clear HB hown hgrow HO2; (refine hK.out _ _ trivial (fun hS => ?_); clear hK K; (try simp only [hng]); (try dsimp only [Act.put]); (try simp only [hns]))); (change tailL _ _ _ _ _ _ _ _; refine ⟨by kernel_rfl, ?_⟩; simp only [List.drop_succ_cons, List.drop_zero]; go_wp2; exact HO3.out)); (· (refine headH_op rfl (fun K hK => ?_); (try simp only [hng]); go_simp; have HN := Lib.hid (NbAt.new wd n); (try replace HO1 := Lib.hid (own_below HO1.out (rk_below wd (.cells #[.int .i64 n] 3)))); replace HB := Lib.hid (HB.out.trans ((rk_below wd (.cells #[.int .i64 n] 3)).mono HB.out.size)); generalize (wd).heap.size = nb at *; generalize World.alloc wd _ = W1 at *; (refine hK.out _ _ trivial (fun hS => ?_); clear hK K; (try simp only [hng]); (try dsimp only [Act.put]); (try simp only [hns]))); refine headH_all (rs := [3]) (by kernel_rfl) (by simp) (by kernel_rfl) ?_; intro i0 hi0; simp only [List.mem_cons, List.not_mem_nil, or_false] at hi0; subst hi0; (refine headH_op rfl (fun K hK => ?_); refine step_append_src rfl _ _ 24 rfl w.heap.size 3 jt (.int .i64 0) 1 8 Tryz.underlying24 hjt hj0 hj1 hj2 rfl (by decide) (.slice none 0 0) 0 [] rfl (World.ownsRow_nil _ _ _ _) _ k _ (lC (l.take k)) rfl (by rw [lC_len, List.length_take, HN0.out]; omega) (HT1.out _ HB.out) (lC_one _) (by unfold maxLen; omega) (by omega) HB.out.size ?_; intro v1 W2 hown hgrow; rw [Nat.zero_add, List.nil_append] at hown; have HO1 := Lib.hid hown; have HBx := Lib.hid (show Below w.heap.size w W2 from HB.out.grown hgrow HB.out.size (fun k e => by cases e)); (try replace HN := Lib.hid (HN.out.keep (hgrow.block _ (HN.out.lt) (by simp [Value.ownBlock])))); clear HB hown hgrow; have HB := HBx; clear HBx; (refine hK.out _ _ trivial (fun hS => ?_); clear hK K; (try simp only [hng]); (try dsimp only [Act.put]); (try simp only [hns]))); refine headH_all (rs := [6]) (by kernel_rfl) (by simp) (by kernel_rfl) ?_; intro i0 hi0; simp only [List.mem_cons, List.not_mem_nil, or_false] at hi0; subst hi0; (refine headH_op rfl (fun K hK => ?_); refine step_append_src rfl _ _ 24 rfl w.heap.size 3 jt (.int .i64 0) 1 8 Tryz.underlying24 hjt hj0 hj1 hj2 rfl (by decide) v1 k _ rfl HO1.out _ 1 _ (lC [n]) rfl rfl (.inr ⟨⟨nb, 0, none⟩, rfl, HN.out.src⟩) (lC_one _) (by unfold maxLen; omega) (by omega) HB.out.size ?_; intro v2 W3 hown hgrow; have HO2 := Lib.hid hown; replace HB := Lib.hid (show Below w.heap.size w W3 from HB.out.grown hgrow HB.out.size (fun k e => (HO1.out.lt k e).1)); clear hown hgrow HO1 HN; (refine hK.out _ _ trivial (fun hS => ?_); clear hK K; (try simp only [hng]); (try dsimp only [Act.put]); (try simp only [hns]))); refine headH_all (rs := [10]) (by kernel_rfl) (by simp) (by kernel_rfl) ?_; intro i0 hi0; simp only [List.mem_cons, List.not_mem_nil, or_false] at hi0; subst hi0; (refine headH_op rfl (fun K hK => ?_); refine step_append_src rfl _ _ 24 rfl w.heap.size 3 jt (.int .i64 0) 1 8 Tryz.underlying24 hjt hj0 hj1 hj2 rfl (by decide) v2 (k + 1) _ rfl HO2.out _ (N - k) _ (lC (l.drop k)) rfl (by rw [lC_len, List.length_drop, HN0.out, Nat.mul_one]) (if hcap2 : c = k then Or.inl (by omega) else Or.inr ⟨⟨b, k, none⟩, if_neg hcap2, HT3.out _ HB.out⟩) (lC_one _) (by unfold maxLen; omega) (by omega) HB.out.size ?_; intro v3 W4 hown hgrow; have HO3 := Lib.hid (HR3.out _ _ (show Below w.heap.size w W4 from HB.out.grown hgrow HB.out.size (fun k e => (HO2.out.lt k e).1)) hown); clear HB hown hgrow HO2; (refine hK.out _ _ trivial (fun hS => ?_); clear hK K; (try simp only [hng]); (try dsimp only [Act.put]); (try simp only [hns]))); (change tailL _ _ _ _ _ _ _ _; refine ⟨by kernel_rfl, ?_⟩; simp only [List.drop_succ_cons, List.drop_zero]; go_wp2; exact HO3.out)))
    · have hlt' : ¬ (k : Int) < (N : Int) := by omega
      have HP := Lib.hid (HAT.out k (by omega) HA.out (fun h => by omega))
      have HP2 := Lib.hid (show putL l n = l.take k ++ n :: l.drop k from by rw [HP.out, if_neg (fun h => by omega)])
      go_upto_region 6 with (fail)
      have HC2 := Lib.hid (HC.out)
      (have hkc : k ≤ c := (by omega); have HT1 := Lib.hid (fun (W : World) (hb : Below w.heap.size w W) => show k = 0 ∨ ∃ ad, some (⟨b, 0, none⟩ : Addr) = some ad ∧ ∀ j u, (lC (l.take k))[j]? = some u → W.cell? (ad.add j) = some u from .inr ⟨_, rfl, row_take (by rw [HN0.out]; exact hk) (fun j hj => ((bcell hb).1 _ _ hbz).trans (HC.out j (by rw [HN0.out] at hj; exact hj)))⟩); have HT3 := Lib.hid (fun (W : World) (hb : Below w.heap.size w W) => show ∀ j u, (lC (l.drop k))[j]? = some u → W.cell? ((⟨b, k, none⟩ : Addr).add j) = some u from row_drop (fun j hj => ((bcell hb).1 _ _ hbz).trans (HC.out j (by rw [HN0.out] at hj; exact hj)))); have HR3 := Lib.hid (fun (v : Value) (W' : World) (h1 : Below w.heap.size w W') (h2 : W'.ownsRow w.heap.size 3 1 v (k + 1 + (N - k)) ((lC (l.take k) ++ lC [n]) ++ lC (l.drop k))) => HR2.out v W' h1 (by rw [HP2.out, (put_row (by rw [HN0.out]; exact hk)).1, (put_row (by rw [HN0.out]; exact hk)).2, HN0.out]; exact h2)); refine wp_region_any (by kernel_rfl) ?_; change wpAny _ _ _ _ _ _ _ (World.drew _); have HB := Lib.hid (show Below w.heap.size w w.drew from (Below.refl _ _).drew); clear HA HAT HC HP HP2 HO HR1 HR2 HB0 hcm; refine any_of_tail 11 11 (fun w' => True) (by kernel_rfl) trivial (fun hS => ?_); refine headH_take (i := 0) (v := ?_) rfl (by kernel_rfl) (fun _ _ _ h => h) (Or.inl ⟨by rfl, ?_⟩) (by assumption) ?_; rotate_left; (· intro w' hSw; (try dsimp only at hSw); (try simp only [hng]); go_simp; (try with_reducible rfl)); (try simp only [hng]); (try dsimp only [Act.put]); (try simp only [hns]); refine headH_take (i := 1) (v := ?_) rfl (by kernel_rfl) (fun _ _ _ h => h) (Or.inl ⟨by rfl, ?_⟩) (by assumption) ?_; rotate_left; (· intro w' hSw; (try dsimp only at hSw); (try simp only [hng]); go_simp; (try with_reducible rfl)); (try simp only [hng]); (try dsimp only [Act.put]); (try simp only [hns]); refine headH_take (i := 2) (v := ?_) rfl (by kernel_rfl) (fun _ _ _ h => h) (Or.inl ⟨by rfl, ?_⟩) (by assumption) ?_; rotate_left; (· intro w' hSw; (try dsimp only at hSw); (try simp only [hng]); go_simp; (try with_reducible rfl)); (try simp only [hng]); (try dsimp only [Act.put]); (try simp only [hns]); refine headH_take (i := 4) (v := ?_) rfl (by kernel_rfl) (fun _ _ _ h => h) (Or.inl ⟨by rfl, ?_⟩) (by assumption) ?_; rotate_left; (· intro w' hSw; (try dsimp only at hSw); (try simp only [hng]); go_simp; (try with_reducible rfl)); (try simp only [hng]); (try dsimp only [Act.put]); (try simp only [hns]); refine headH_take (i := 7) (v := ?_) rfl (by kernel_rfl) (fun _ _ _ h => h) (Or.inl ⟨by rfl, ?_⟩) (by assumption) ?_; rotate_left; (· intro w' hSw; (try dsimp only at hSw); (try simp only [hng]); go_simp; (try with_reducible rfl)); (try simp only [hng]); (try dsimp only [Act.put]); (try simp only [hns]); refine headH_take (i := 8) (v := ?_) rfl (by kernel_rfl) (fun _ _ _ h => h) (Or.inl ⟨by rfl, ?_⟩) (by assumption) ?_; rotate_left; (· intro w' hSw; (try dsimp only at hSw); (try simp only [hng]); go_simp; (try with_reducible rfl)); (try simp only [hng]); (try dsimp only [Act.put]); (try simp only [hns]); refine headH_take (i := 9) (v := ?_) rfl (by kernel_rfl) (fun _ _ _ h => h) (Or.inl ⟨by rfl, ?_⟩) (by assumption) ?_; rotate_left; (· intro w' hSw; (try dsimp only at hSw); (try simp only [hng]); go_simp; (try with_reducible rfl)); (try simp only [hng]); (try dsimp only [Act.put]); (try simp only [hns]); generalize World.drew w = wd at *; refine headH_all (rs := [3, 5]) (by kernel_rfl) (by simp) (by kernel_rfl) ?_; intro i0 hi0; simp only [List.mem_cons, List.not_mem_nil, or_false] at hi0)
      (rcases hi0 with rfl | rfl; (· (refine headH_op rfl (fun K hK => ?_); refine step_append_src rfl _ _ 24 rfl w.heap.size 3 jt (.int .i64 0) 1 8 Tryz.underlying24 hjt hj0 hj1 hj2 rfl (by decide) (.slice none 0 0) 0 [] rfl (World.ownsRow_nil _ _ _ _) _ k _ (lC (l.take k)) rfl (by rw [lC_len, List.length_take, HN0.out]; omega) (HT1.out _ HB.out) (lC_one _) (by unfold maxLen; omega) (by omega) HB.out.size ?_; intro v1 W1 hown hgrow; rw [Nat.zero_add, List.nil_append] at hown; have HO1 := Lib.hid hown; have HBx := Lib.hid (show Below w.heap.size w W1 from HB.out.grown hgrow HB.out.size (fun k e => by cases e)); (try replace HN := Lib.hid (HN.out.keep (hgrow.block _ (HN.out.lt) (by simp [Value.ownBlock])))); clear HB hown hgrow; have HB := HBx; clear HBx; (refine hK.out _ _ trivial (fun hS => ?_); clear hK K; (try simp only [hng]); (try dsimp only [Act.put]); (try simp only [hns]))); refine headH_all (rs := [5]) (by kernel_rfl) (by simp) (by kernel_rfl) ?_; intro i0 hi0; simp only [List.mem_cons, List.not_mem_nil, or_false] at hi0; subst hi0; (refine headH_op rfl (fun K hK => ?_); (try simp only [hng]); go_simp; have HN := Lib.hid (NbAt.new W1 n); replace HO1 := Lib.hid (own_below HO1.out (rk_below W1 (.cells #[.int .i64 n] 3))); replace HB := Lib.hid (HB.out.trans ((rk_below W1 (.cells #[.int .i64 n] 3)).mono HB.out.size)); generalize (W1).heap.size = nb at *; generalize World.alloc W1 _ = W2 at *; (refine hK.out _ _ trivial (fun hS => ?_); clear hK K; (try simp only [hng]); (try dsimp only [Act.put]); (try simp only [hns]))); refine headH_all (rs := [6]) (by kernel_rfl) (by simp) (by kernel_rfl) ?_; intro i0 hi0; simp only [List.mem_cons, List.not_mem_nil, or_false] at hi0; subst hi0; (refine headH_op rfl (fun K hK => ?_); refine step_append_src rfl _ _ 24 rfl w.heap.size 3 jt (.int .i64 0) 1 8 Tryz.underlying24 hjt hj0 hj1 hj2 rfl (by decide) v1 k _ rfl HO1.out _ 1 _ (lC [n]) rfl rfl (.inr ⟨⟨nb, 0, none⟩, rfl, HN.out.src⟩) (lC_one _) (by unfold maxLen; omega) (by omega) HB.out.size ?_; intro v2 W3 hown hgrow; have HO2 := Lib.hid hown; replace HB := Lib.hid (show Below w.heap.size w W3 from HB.out.grown hgrow HB.out.size (fun k e => (HO1.out.lt k e).1)); clear hown hgrow HO1 HN; (refine hK.out _ _ trivial (fun hS => ?_); clear hK K; (try simp only [hng]); (try dsimp only [Act.put]); (try simp only [hns]))); refine headH_all (rs := [10]) (by kernel_rfl) (by simp) (by kernel_rfl) ?_; intro i0 hi0; simp only [List.mem_cons, List.not_mem_nil, or_false] at hi0; subst hi0; (refine headH_op rfl (fun K hK => ?_); refine step_append_src rfl _ _ 24 rfl w.heap.size 3 jt (.int .i64 0) 1 8 Tryz.underlying24 hjt hj0 hj1 hj2 rfl (by decide) v2 (k + 1) _ rfl HO2.out _ (N - k) _ (lC (l.drop k)) rfl (by rw [lC_len, List.length_drop, HN0.out, Nat.mul_one]) (if hcap2 : c = k then Or.inl (by omega) else Or.inr ⟨⟨b, k, none⟩, if_neg hcap2, HT3.out _ HB.out⟩) (lC_one _) (by unfold maxLen; omega) (by omega) HB.out.size ?_; intro v3 W4 hown hgrow; have HO3 := Lib.hid (HR3.out _ _ (show Below w.heap.size w W4 from HB.out.grown hgrow HB.out.size (fun k e => (HO2.out.lt k e).1)) hown); clear HB hown hgrow HO2; (refine hK.out _ _ trivial (fun hS => ?_); clear hK K; (try simp only [hng]); (try dsimp only [Act.put]); (try simp only [hns]))); (change tailL _ _ _ _ _ _ _ _; refine ⟨by kernel_rfl, ?_⟩; simp only [List.drop_succ_cons, List.drop_zero]; go_wp2; exact HO3.out)); (· (refine headH_op rfl (fun K hK => ?_); (try simp only [hng]); go_simp; have HN := Lib.hid (NbAt.new wd n); (try replace HO1 := Lib.hid (own_below HO1.out (rk_below wd (.cells #[.int .i64 n] 3)))); replace HB := Lib.hid (HB.out.trans ((rk_below wd (.cells #[.int .i64 n] 3)).mono HB.out.size)); generalize (wd).heap.size = nb at *; generalize World.alloc wd _ = W1 at *; (refine hK.out _ _ trivial (fun hS => ?_); clear hK K; (try simp only [hng]); (try dsimp only [Act.put]); (try simp only [hns]))); refine headH_all (rs := [3]) (by kernel_rfl) (by simp) (by kernel_rfl) ?_; intro i0 hi0; simp only [List.mem_cons, List.not_mem_nil, or_false] at hi0; subst hi0; (refine headH_op rfl (fun K hK => ?_); refine step_append_src rfl _ _ 24 rfl w.heap.size 3 jt (.int .i64 0) 1 8 Tryz.underlying24 hjt hj0 hj1 hj2 rfl (by decide) (.slice none 0 0) 0 [] rfl (World.ownsRow_nil _ _ _ _) _ k _ (lC (l.take k)) rfl (by rw [lC_len, List.length_take, HN0.out]; omega) (HT1.out _ HB.out) (lC_one _) (by unfold maxLen; omega) (by omega) HB.out.size ?_; intro v1 W2 hown hgrow; rw [Nat.zero_add, List.nil_append] at hown; have HO1 := Lib.hid hown; have HBx := Lib.hid (show Below w.heap.size w W2 from HB.out.grown hgrow HB.out.size (fun k e => by cases e)); (try replace HN := Lib.hid (HN.out.keep (hgrow.block _ (HN.out.lt) (by simp [Value.ownBlock])))); clear HB hown hgrow; have HB := HBx; clear HBx; (refine hK.out _ _ trivial (fun hS => ?_); clear hK K; (try simp only [hng]); (try dsimp only [Act.put]); (try simp only [hns]))); refine headH_all (rs := [6]) (by kernel_rfl) (by simp) (by kernel_rfl) ?_; intro i0 hi0; simp only [List.mem_cons, List.not_mem_nil, or_false] at hi0; subst hi0; (refine headH_op rfl (fun K hK => ?_); refine step_append_src rfl _ _ 24 rfl w.heap.size 3 jt (.int .i64 0) 1 8 Tryz.underlying24 hjt hj0 hj1 hj2 rfl (by decide) v1 k _ rfl HO1.out _ 1 _ (lC [n]) rfl rfl (.inr ⟨⟨nb, 0, none⟩, rfl, HN.out.src⟩) (lC_one _) (by unfold maxLen; omega) (by omega) HB.out.size ?_; intro v2 W3 hown hgrow; have HO2 := Lib.hid hown; replace HB := Lib.hid (show Below w.heap.size w W3 from HB.out.grown hgrow HB.out.size (fun k e => (HO1.out.lt k e).1)); clear hown hgrow HO1 HN; (refine hK.out _ _ trivial (fun hS => ?_); clear hK K; (try simp only [hng]); (try dsimp only [Act.put]); (try simp only [hns]))); refine headH_all (rs := [10]) (by kernel_rfl) (by simp) (by kernel_rfl) ?_; intro i0 hi0; simp only [List.mem_cons, List.not_mem_nil, or_false] at hi0; subst hi0; (refine headH_op rfl (fun K hK => ?_); refine step_append_src rfl _ _ 24 rfl w.heap.size 3 jt (.int .i64 0) 1 8 Tryz.underlying24 hjt hj0 hj1 hj2 rfl (by decide) v2 (k + 1) _ rfl HO2.out _ (N - k) _ (lC (l.drop k)) rfl (by rw [lC_len, List.length_drop, HN0.out, Nat.mul_one]) (if hcap2 : c = k then Or.inl (by omega) else Or.inr ⟨⟨b, k, none⟩, if_neg hcap2, HT3.out _ HB.out⟩) (lC_one _) (by unfold maxLen; omega) (by omega) HB.out.size ?_; intro v3 W4 hown hgrow; have HO3 := Lib.hid (HR3.out _ _ (show Below w.heap.size w W4 from HB.out.grown hgrow HB.out.size (fun k e => (HO2.out.lt k e).1)) hown); clear HB hown hgrow HO2; (refine hK.out _ _ trivial (fun hS => ?_); clear hK K; (try simp only [hng]); (try dsimp only [Act.put]); (try simp only [hns]))); (change tailL _ _ _ _ _ _ _ _; refine ⟨by kernel_rfl, ?_⟩; simp only [List.drop_succ_cons, List.drop_zero]; go_wp2; exact HO3.out)))
set_option maxRecDepth 100000 in
set_option maxHeartbeats 2000000 in
theorem r6cross_any (B : Nat) (l : List Int) (T b t c S : Int) (a : Option Addr) (cc : Nat) (w : World) (hB : B ≤ w.heap.size) (h0 : 0 < l.length) (hl : l.length ≤ 50) (hown : w.ownsRow B 3 1 (.slice a l.length cc) l.length (lC l))
    (hT : 1 ≤ T ∧ T ≤ 216000) (hb : -100000 ≤ b ∧ b ≤ 100000) (ht : -60 ≤ t ∧ t ≤ 60) (hc : 1 ≤ c ∧ c ≤ 12) (hS : 1 ≤ S ∧ S ≤ 1000) :
    Calls Tryz.prog 113 #[.slice a l.length cc, .int .i64 T, .int .i64 b, .int .i64 t, .int .i64 c, .int .i64 S] w (PutRes B (crX T b t c S l) w) := by
  obtain ⟨m, hm⟩ : ∃ m : Nat, c = (m : Int) := ⟨c.toNat, by omega⟩
  subst hm
  by_cases e : t = 0
  · have HR := Lib.hid (show PutRes B (crX T b t (m : Int) S l) w (.returned (.slice a l.length cc)) w from by unfold crX; rw [if_pos e]; exact ⟨_, _, rfl, hown, Below.refl _ _⟩)
    subst e
    generalize PutRes B _ w = RES at *
    generalize l.length = n at *
    clear hown
    go_enter Tryz.func113, Tryz.ntmps113
    go_wp2
    go_loopw [0, 13] (fun s0 s13 wr => s0 = .slice a n cc ∧ s13 = .int .i64 0 ∧ w = wr) (fun _ _ _ => 0)
    case atStart => exact ⟨rfl, rfl, rfl⟩
    case round =>
      obtain ⟨rfl, rfl, rfl⟩ := hrel
      have hm0 : (0 : Int) ≤ (m : Int) := by omega
      go_wp2
      exact HR.out
  · have HR := Lib.hid (fun (a' : Option Addr) (L : List Int) (c' : Nat) (W' : World) (h1 : L = crL (rfK T b t S) (m + 1) l) (h2 : W'.ownsRow B 3 1 (.slice a' L.length c') L.length (lC L)) (h3 : Below w.heap.size w W') => show PutRes B (crX T b t (m : Int) S l) w (.returned (.slice a' L.length c')) W' from by
      unfold crX
      rw [if_neg e]
      simp only [Int.toNat_natCast]
      rw [← h1]
      exact ⟨a', c', rfl, h2, h3⟩)
    generalize PutRes B (crX T b t (m : Int) S l) w = RES at *
    have HP := Lib.hid (fun (L : List Int) (n : Int) (a' : Option Addr) (c' : Nat) (W : World) (h1 : B ≤ W.heap.size) (h2 : 0 < L.length) (h3 : L.length ≤ 100) (h4 : W.ownsRow B 3 1 (.slice a' L.length c') L.length (lC L)) => r6put_any B L n a' c' W h1 h2 h3 h4)
    have HL1 := Lib.hid (fun k => show (crL (rfK T b t S) k l).length ≤ 50 + k from by have := crL_len (rfK T b t S) l k; omega)
    have HL2 := Lib.hid (fun k => Nat.lt_of_lt_of_le h0 (crL_pos (rfK T b t S) l k))
    have hq := tdiv_abs T t 216000 (by omega)
    have HF := Lib.hid (fun (k : Nat) => show rfK T b t S k = ((k : Int) * S - b) * T.tdiv t from rfl)
    have HKS := Lib.hid (fun (k : Nat) (hk : k ≤ m) => rk_mul_abs (x := (k : Int)) (y := S) (K := 12) (M := 1000) (by decide) (by decide) (by omega) (by omega))
    have HO := Lib.hid hown
    have HB0 := Lib.hid hB
    have he : (t == 0) = false := beq_eq_false_iff_ne.2 e
    generalize hqq : T.tdiv t = q at *
    generalize rfK T b t S = f at *
    have HS1 := Lib.hid (fun (k : Nat) (h : 0 < f k) => show crL f (k + 1) l = putL (crL f k l) (f k) from by rw [crL, if_pos h])
    have HS0 := Lib.hid (fun (k : Nat) (h : ¬ 0 < f k) => show crL f (k + 1) l = crL f k l from by rw [crL, if_neg h])
    obtain ⟨L0, hL0⟩ : ∃ L, L = l := ⟨_, rfl⟩
    have HL0 := Lib.hid (show L0 = crL f 0 l from by rw [hL0]; rfl)
    rw [← hL0] at HO h0 hl ⊢
    clear hown hB hL0
    go_enter Tryz.func113, Tryz.ntmps113
    go_wp2
    go_loopw [0, 13] (fun s0 s13 wr => ∃ (k : Nat) (L : List Int) (a' : Option Addr) (c' : Nat), k ≤ m + 1 ∧ s13 = .int .i64 (k : Int) ∧ s0 = .slice a' L.length c' ∧ Hid (L = crL f k l ∧ wr.ownsRow B 3 1 (.slice a' L.length c') L.length (lC L) ∧ Below w.heap.size w wr)) (fun _ s13 _ => m + 1 - (intOf s13).toNat)
    case atStart => exact ⟨0, L0, a, cc, by omega, rfl, rfl, Lib.hid ⟨HL0.out, HO.out, Below.refl _ _⟩⟩
    case round =>
      clear HL0 HO
      obtain ⟨k, L, a', c', hk, rfl, rfl, HH⟩ := hrel
      by_cases hlt : k ≤ m
      · have hlt' : (k : Int) ≤ (m : Int) := by omega
        have hks := HKS.out k hlt
        have hfk := HF.out k
        have hl1 := HL1.out k
        have hl2 := HL2.out k
        rw [← HH.out.1] at hl1 hl2
        have HPU := Lib.hid (HP.out L (f k) a' c' wr (by have h1 := HB0.out; have h2 := HH.out.2.2.size; omega) hl2 (by omega) HH.out.2.1)
        have HSa := Lib.hid (HS1.out k)
        have HSb := Lib.hid (HS0.out k)
        have hb2 := rk_mul_abs (x := (k : Int) * S - b) (y := q) (K := 112000) (M := 216000) (by decide) (by decide) (by omega) (by omega)
        rw [← hfk] at hb2
        generalize hKS : (k : Int) * S = ks at *
        have hfk' := hfk.symm
        generalize f k = x at *
        clear hfk
        by_cases hx : 0 < x
        · have HSa2 := Lib.hid (HSa.out hx)
          go_upto_region 6 with (fail)
          go_wp2_with (go_at_call 127; refine HPU.out.mono ?_; rintro e w2 ⟨a2, c2, rfl, ho2, hb2'⟩; have HO2 := Lib.hid ho2; have HB2 := Lib.hid (HH.out.2.2.trans (hb2'.mono HH.out.2.2.size)); clear ho2 hb2')
          have HE2 := Lib.hid (show putL L x = crL f (k + 1) l from by rw [HSa2.out, ← HH.out.1])
          generalize putL L x = L2 at *
          go_roundw
          case rel => exact ⟨k + 1, L2, a2, c2, by omega, by go_num, rfl, Lib.hid ⟨HE2.out, HO2.out, HB2.out⟩⟩
          case measure => simp [intOf]; omega
        · have HSb2 := Lib.hid (HSb.out (by omega))
          have HE2 := Lib.hid (show L = crL f (k + 1) l from by rw [HSb2.out, ← HH.out.1])
          go_wp2
          go_roundw
          case rel => exact ⟨k + 1, L, a', c', by omega, by go_num, rfl, Lib.hid ⟨HE2.out, HH.out.2⟩⟩
          case measure => simp [intOf]; omega
      · obtain rfl : k = m + 1 := by omega
        have hlt' : ¬ ((m + 1 : Nat) : Int) ≤ (m : Int) := by omega
        go_wp2
        exact HR.out a' L c' wr HH.out.1 HH.out.2.1 HH.out.2.2
end Go.Proofs.YtkdopjkdokgipaaGreatDoor
namespace Go.Proofs.YtkdopjkdokgipaaGreatDoor
open Go.RowKit Go.Shelf
set_option linter.unusedVariables false
set_option linter.unusedSimpArgs false
theorem info_piece : (Tryz.prog.info? 90).map (fun i => (i.zero, i.size, i.bytes)) = some (some (.agg #[.int .i64 0, .int .i64 0, .int .i64 0]), 3, 24) := by kernel_rfl
/-- a row of pieces that a call hands back -/
def PcRes (P : List PT) (w : World) (e : Ending) (w' : World) : Prop := ∃ a c, e = .returned (.slice a P.length c) ∧ w'.ownsRow w.heap.size 90 3 (.slice a P.length c) P.length (ptC P) ∧ Below w.heap.size w w'
theorem one_int (x : Int) (W : World) (B : Nat) (hB : B ≤ W.heap.size) : (W.alloc (.cells #[.int .i64 x] 3)).ownsRow B 3 1 (.slice (some ⟨W.heap.size, 0, none⟩) 1 1) 1 (lC [x]) :=
  ⟨rfl, .inr ⟨W.heap.size, 1, #[.int .i64 x], rfl, hB, heap_alloc_new W _, Nat.le_refl _, by decide, rfl, rfl⟩⟩
set_option maxRecDepth 100000 in
set_option maxHeartbeats 4000000 in
theorem r6Pieces_any (v : VO) (r : RY) (hv : v.Ok) (hr : r.Ok) (m : Nat) (hM : IsM v r m) (w : World) : Calls Tryz.prog 81 #[v.val, r.val] w (PcRes (pcN v r (m + 1)) w) := by
  have hT := tkF_bound hr
  have hlen3 := crR_len hv hr 3
  have hml : m + 1 ≤ 40 := by have h1 := crR_eq hM; have h2 := acL_len v r m; rw [h1] at hlen3; omega
  have HTK := Lib.hid (fun (W : World) => r6Ticks_any r W hr)
  have hcr : ∀ (i : Nat) (_ : i < 3) (W : World) (a : Option Addr) (c : Nat) (hB : w.heap.size ≤ W.heap.size) (ho : W.ownsRow w.heap.size 3 1 (.slice a (crR v r i).length c) (crR v r i).length (lC (crR v r i))), Calls Tryz.prog 113 #[.slice a (crR v r i).length c, .int .i64 (tkF r : Int), .int .i64 (axF v r i).b, .int .i64 (axF v r i).t, .int .i64 (axF v r i).c, .int .i64 v.size] W (PutRes w.heap.size (crR v r (i + 1)) W) := fun i hi W a c hB ho => by
    have hx := ax_bound hv hr i
    have := crR_len hv hr i
    exact r6cross_any w.heap.size (crR v r i) (tkF r) (axF v r i).b (axF v r i).t (axF v r i).c v.size a c W hB (crR_pos v r i) (by omega) ho (by omega) hx.1 hx.2.1 hx.2.2 hv.size
  have HC0 := Lib.hid (fun (W : World) (a : Option Addr) (c : Nat) (hB : w.heap.size ≤ W.heap.size) (ho : W.ownsRow w.heap.size 3 1 (.slice a 1 c) 1 (lC [0])) => show Calls Tryz.prog 113 #[.slice a 1 c, .int .i64 (tkF r : Int), .int .i64 r.x, .int .i64 r.dx, .int .i64 v.nx, .int .i64 v.size] W (PutRes w.heap.size (crR v r 1) W) from hcr 0 (by omega) W a c hB ho)
  have HC1 := Lib.hid (fun (W : World) (a : Option Addr) (c : Nat) (hB : w.heap.size ≤ W.heap.size) (ho : W.ownsRow w.heap.size 3 1 (.slice a (crR v r 1).length c) (crR v r 1).length (lC (crR v r 1))) => show Calls Tryz.prog 113 #[.slice a (crR v r 1).length c, .int .i64 (tkF r : Int), .int .i64 r.y, .int .i64 r.dy, .int .i64 v.ny, .int .i64 v.size] W (PutRes w.heap.size (crR v r 2) W) from hcr 1 (by omega) W a c hB ho)
  have HC2 := Lib.hid (fun (W : World) (a : Option Addr) (c : Nat) (hB : w.heap.size ≤ W.heap.size) (ho : W.ownsRow w.heap.size 3 1 (.slice a (crR v r 2).length c) (crR v r 2).length (lC (crR v r 2))) => show Calls Tryz.prog 113 #[.slice a (crR v r 2).length c, .int .i64 (tkF r : Int), .int .i64 r.z, .int .i64 r.dz, .int .i64 v.nz, .int .i64 v.size] W (PutRes w.heap.size (crR v r 3) W) from hcr 2 (by omega) W a c hB ho)
  have hcel : ∀ (i : Nat) (p q : Int) (W : World) (hp : 0 ≤ p ∧ p ≤ 43200000000) (hq : 0 ≤ q ∧ q ≤ 43200000000), Calls Tryz.prog 114 #[.int .i64 (tkF r : Int), .int .i64 (axF v r i).b, .int .i64 (axF v r i).t, .int .i64 (axF v r i).c, .int .i64 v.size, .int .i64 p, .int .i64 q] W (fun e w' => e = .returned (.int .i64 (cAx (tkF r) v.size (axF v r i) p q)) ∧ W = w') := fun i p q W hp hq => by
    have hx := ax_bound hv hr i
    rw [← cXR_eq (T := (tkF r : Int)) (S := v.size) (a := axF v r i) (by omega) hv.size.1]
    exact r6cell_any (tkF r) (axF v r i).b (axF v r i).t (axF v r i).c v.size p q W (by omega) hx.1 hx.2.1 hx.2.2 hv.size hp hq
  have hcb : ∀ (i : Nat) (p q : Int), -1 ≤ cAx (tkF r) v.size (axF v r i) p q ∧ cAx (tkF r) v.size (axF v r i) p q < (axF v r i).c := fun i p q => cAx_bound (T := (tkF r : Int)) (S := v.size) (a := axF v r i) (p := p) (q := q) (by omega) hv.size.1 (ax_bound hv hr i).2.2.1
  have HX := Lib.hid (fun (p q : Int) (hp : 0 ≤ p ∧ p ≤ 43200000000) (hq : 0 ≤ q ∧ q ≤ 43200000000) (W : World) => show Calls Tryz.prog 114 #[.int .i64 (tkF r : Int), .int .i64 r.x, .int .i64 r.dx, .int .i64 v.nx, .int .i64 v.size, .int .i64 p, .int .i64 q] W (fun e w' => e = .returned (.int .i64 (cAx (tkF r) v.size (axF v r 0) p q)) ∧ W = w') from hcel 0 p q W hp hq)
  have HY := Lib.hid (fun (p q : Int) (hp : 0 ≤ p ∧ p ≤ 43200000000) (hq : 0 ≤ q ∧ q ≤ 43200000000) (W : World) => show Calls Tryz.prog 114 #[.int .i64 (tkF r : Int), .int .i64 r.y, .int .i64 r.dy, .int .i64 v.ny, .int .i64 v.size, .int .i64 p, .int .i64 q] W (fun e w' => e = .returned (.int .i64 (cAx (tkF r) v.size (axF v r 1) p q)) ∧ W = w') from hcel 1 p q W hp hq)
  have HZ := Lib.hid (fun (p q : Int) (hp : 0 ≤ p ∧ p ≤ 43200000000) (hq : 0 ≤ q ∧ q ≤ 43200000000) (W : World) => show Calls Tryz.prog 114 #[.int .i64 (tkF r : Int), .int .i64 r.z, .int .i64 r.dz, .int .i64 v.nz, .int .i64 v.size, .int .i64 p, .int .i64 q] W (fun e w' => e = .returned (.int .i64 (cAx (tkF r) v.size (axF v r 2) p q)) ∧ W = w') from hcel 2 p q W hp hq)
  have HXB := Lib.hid (fun (p q : Int) => show -1 ≤ cAx (tkF r) v.size (axF v r 0) p q ∧ cAx (tkF r) v.size (axF v r 0) p q < v.nx from hcb 0 p q)
  have HYB := Lib.hid (fun (p q : Int) => show -1 ≤ cAx (tkF r) v.size (axF v r 1) p q ∧ cAx (tkF r) v.size (axF v r 1) p q < v.ny from hcb 1 p q)
  have HZB := Lib.hid (fun (p q : Int) => show -1 ≤ cAx (tkF r) v.size (axF v r 2) p q ∧ cAx (tkF r) v.size (axF v r 2) p q < v.nz from hcb 2 p q)
  have HCF := Lib.hid (fun (p q : Int) => show cellF v r p q = if cAx (tkF r) v.size (axF v r 0) p q < 0 ∨ cAx (tkF r) v.size (axF v r 1) p q < 0 ∨ cAx (tkF r) v.size (axF v r 2) p q < 0 then -1 else (cAx (tkF r) v.size (axF v r 2) p q * v.ny + cAx (tkF r) v.size (axF v r 1) p q) * v.nx + cAx (tkF r) v.size (axF v r 0) p q from rfl)
  have HAT := Lib.hid (fun (j : Nat) (hj : j ≤ m) => And.intro (hM.1 j hj) (atF_low hv hr j).2)
  have HL3 := Lib.hid (show (crR v r 3).length = m + 1 from by rw [crR_eq hM]; exact acL_len v r m)
  have HLG := Lib.hid (fun (j : Nat) (hj : j ≤ m) => show (crR v r 3).getD j 0 = atF v r j from by rw [crR_eq hM]; exact acL_get hj)
  have HPN := Lib.hid (fun (j : Nat) => show pcN v r (j + 2) = pcN v r (j + 1) ++ (if cellF v r (atF v r j) (atF v r (j + 1)) < 0 then [] else [⟨cellF v r (atF v r j) (atF v r (j + 1)), atF v r j, atF v r (j + 1)⟩]) from rfl)
  have HPL := Lib.hid (fun k => pcN_len v r k)
  have HP0 := Lib.hid (show [] = pcN v r 1 from rfl)
  have HRES := Lib.hid (fun (a : Option Addr) (c : Nat) (P : List PT) (W' : World) (h0 : P = pcN v r (m + 1)) (h1 : W'.ownsRow w.heap.size 90 3 (.slice a P.length c) P.length (ptC P)) (h2 : Below w.heap.size w W') => show PcRes (pcN v r (m + 1)) w (.returned (.slice a P.length c)) W' from by rw [← h0]; exact ⟨a, c, rfl, h1, h2⟩)
  have HVB := Lib.hid hv
  generalize PcRes (pcN v r (m + 1)) w = RES at *
  generalize pcN v r = pn at *
  generalize cellF v r = cf at *
  generalize atF v r = atf at *
  clear hcr hcel hcb
  generalize crR v r 3 = L3 at *
  generalize crR v r 2 = L2 at *
  generalize crR v r 1 = L1 at *
  generalize cAx (tkF r) v.size (axF v r 0) = fx at *
  generalize cAx (tkF r) v.size (axF v r 1) = fy at *
  generalize cAx (tkF r) v.size (axF v r 2) = fz at *
  generalize tkF r = T at *
  obtain ⟨M, hMm⟩ : ∃ M, m + 1 = M := ⟨_, rfl⟩
  have HMM := Lib.hid hMm
  rw [hMm] at HL3 hml
  clear hMm hlen3 hM hv hr
  unfold RY.val at HTK
  unfold VO.val RY.val
  go_enter Tryz.func81, Tryz.ntmps81
  go_upto_region 1 with (fail)
  (obtain ⟨hVb, e1, e2⟩ := rk_two w (.cells #[.int .i64 v.nx, .int .i64 v.ny, .int .i64 v.nz, .int .i64 v.size] 23) (.cells #[.int .i64 r.x, .int .i64 r.y, .int .i64 r.z, .int .i64 r.dx, .int .i64 r.dy, .int .i64 r.dz] 26))
  have HB := Lib.hid hVb
  have HV := Lib.hid e1
  have HRY := Lib.hid e2
  clear hVb e1 e2
  generalize World.alloc (World.alloc w _) _ = V at *
  (try clear v0 v1 v2 v3 s0 s1 s2 s3 s4 s5); obtain ⟨v0, v1, v2, v3⟩ := cr4 HV.out; obtain ⟨s0, s1, s2, s3, s4, s5⟩ := cr6 HRY.out
  go_upto_region 2 with (go_at_call 82; refine (HTK.out _).mono ?_; rintro e w2 ⟨rfl, hb2⟩; (replace HB := Lib.hid (HB.out.trans ((hb2).mono HB.out.size)); replace HV := Lib.hid (bs HV.out hb2); replace HRY := Lib.hid (bs HRY.out hb2); (try clear v0 v1 v2 v3 s0 s1 s2 s3 s4 s5); obtain ⟨v0, v1, v2, v3⟩ := cr4 HV.out; obtain ⟨s0, s1, s2, s3, s4, s5⟩ := cr6 HRY.out); clear hb2)
  rename World => w2
  go_upto_region 3 with (fail)
  have HO0 := Lib.hid (one_int 0 w2 w.heap.size HB.out.size)
  have hb3 := rk_below w2 (.cells #[.int .i64 0] 3)
  (replace HB := Lib.hid (HB.out.trans ((hb3).mono HB.out.size)); replace HV := Lib.hid (bs HV.out hb3); replace HRY := Lib.hid (bs HRY.out hb3); (try clear v0 v1 v2 v3 s0 s1 s2 s3 s4 s5); obtain ⟨v0, v1, v2, v3⟩ := cr4 HV.out; obtain ⟨s0, s1, s2, s3, s4, s5⟩ := cr6 HRY.out)
  clear hb3
  generalize World.alloc w2 _ = w3 at *
  go_upto_region 4 with (go_at_call 113; refine (HC0.out _ _ _ HB.out.size HO0.out).mono ?_; rintro e w4 ⟨a1, c1, rfl, ho1, hb2⟩; have HO1 := Lib.hid ho1; (replace HB := Lib.hid (HB.out.trans ((hb2).mono HB.out.size)); replace HV := Lib.hid (bs HV.out hb2); replace HRY := Lib.hid (bs HRY.out hb2); (try clear v0 v1 v2 v3 s0 s1 s2 s3 s4 s5); obtain ⟨v0, v1, v2, v3⟩ := cr4 HV.out; obtain ⟨s0, s1, s2, s3, s4, s5⟩ := cr6 HRY.out); clear hb2 ho1)
  clear HO0 HC0
  go_upto_region 5 with (go_at_call 113; refine (HC1.out _ _ _ HB.out.size HO1.out).mono ?_; rintro e w5 ⟨a2, c2, rfl, ho1, hb2⟩; have HO2 := Lib.hid ho1; (replace HB := Lib.hid (HB.out.trans ((hb2).mono HB.out.size)); replace HV := Lib.hid (bs HV.out hb2); replace HRY := Lib.hid (bs HRY.out hb2); (try clear v0 v1 v2 v3 s0 s1 s2 s3 s4 s5); obtain ⟨v0, v1, v2, v3⟩ := cr4 HV.out; obtain ⟨s0, s1, s2, s3, s4, s5⟩ := cr6 HRY.out); clear hb2 ho1)
  clear HO1 HC1
  go_upto_region 6 with (go_at_call 113; refine (HC2.out _ _ _ HB.out.size HO2.out).mono ?_; rintro e w6 ⟨a3, c3, rfl, ho1, hb2⟩; have HO3 := Lib.hid ho1; (replace HB := Lib.hid (HB.out.trans ((hb2).mono HB.out.size)); replace HV := Lib.hid (bs HV.out hb2); replace HRY := Lib.hid (bs HRY.out hb2); (try clear v0 v1 v2 v3 s0 s1 s2 s3 s4 s5); obtain ⟨v0, v1, v2, v3⟩ := cr4 HV.out; obtain ⟨s0, s1, s2, s3, s4, s5⟩ := cr6 HRY.out); clear hb2 ho1)
  clear HO2 HC2
  rename World => w6
  obtain ⟨lb, rfl, hlz, _, _, _, hlc⟩ := own_pos HO3.out (by have := HL3.out; have := HMM.out; omega)
  rw [HL3.out] at hlc ⊢
  have HLC := Lib.hid (fun (j : Nat) (hj : j < M) => show w6.cell? ⟨lb, j, none⟩ = some (.int .i64 (atf j)) from by rw [hlc j hj, HLG.out j (by have := HMM.out; omega)])
  clear hlc HO3 HLG HL3
  clear v0 v1 v2 v3 s0 s1 s2 s3 s4 s5
  obtain ⟨i0, hi0', hz0, hz1, hz2⟩ := info_parts info_piece
  go_wp2
  go_loopw [7, 8] (fun s7 s8 wr => ∃ (k : Nat) (a : Option Addr) (c : Nat) (P : List PT), (1 ≤ k ∧ k ≤ M) ∧ s8 = .int .i64 (k : Int) ∧ s7 = .slice a P.length c ∧ Hid (P = pn k ∧ wr.ownsRow w6.heap.size 90 3 (.slice a P.length c) P.length (ptC P) ∧ Below w6.heap.size w6 wr)) (fun _ s8 _ => M - (intOf s8).toNat)
  case atStart => exact ⟨1, none, 0, [], by have := HMM.out; omega, rfl, rfl, Lib.hid ⟨HP0.out, World.ownsRow_nil _ _ _ _, Below.refl _ _⟩⟩
  case round =>
    obtain ⟨k, a, c, P, ⟨hk1, hk2⟩, rfl, rfl, HH⟩ := hrel
    have HBr := Lib.hid (HB.out.trans (HH.out.2.2.mono HB.out.size))
    by_cases hlt : k < M
    · have hlt' : (k : Int) < (M : Int) := by omega
      obtain ⟨j, hjk⟩ : ∃ j, k = j + 1 := ⟨k - 1, by omega⟩
      have HJK := Lib.hid hjk
      have d0 := ((bcell HH.out.2.2).1 _ _ hlz).trans (HLC.out j (by omega))
      have d1 := ((bcell HH.out.2.2).1 _ _ hlz).trans (HLC.out k hlt)
      obtain ⟨hp1, hp2⟩ := HAT.out j (by have := HMM.out; omega)
      obtain ⟨hq1, hq2⟩ := HAT.out k (by have := HMM.out; omega)
      have HN := Lib.hid (HPN.out j)
      have hpl := HPL.out k
      have HN2 := Lib.hid (show pn (k + 1) = P ++ (if cf (atf j) (atf k) < 0 then [] else [⟨cf (atf j) (atf k), atf j, atf k⟩]) from by rw [HH.out.1, HJK.out, ← HN.out])
      rw [← HH.out.1] at hpl
      have HVr := Lib.hid ((HH.out.2.2.block _ (bl HV.out)).trans HV.out)
      have HRr := Lib.hid ((HH.out.2.2.block _ (bl HRY.out)).trans HRY.out)
      have hwr : IntKind.i64.wrap ((k : Int) - 1) = (j : Int) := by rw [show (k : Int) - 1 = (j : Int) by omega]; exact IntWalk.i64_in _ (by omega)
      have hjM : j < M := by omega
      have hlr : lb < wr.heap.size := Nat.lt_of_lt_of_le hlz HH.out.2.2.size
      clear HN hjk
      generalize atf j = p at *
      generalize atf k = q at *
      have HX1 := Lib.hid (HX.out p q ⟨hp1, hp2⟩ ⟨hq1, hq2⟩)
      have HY1 := Lib.hid (HY.out p q ⟨hp1, hp2⟩ ⟨hq1, hq2⟩)
      have HZ1 := Lib.hid (HZ.out p q ⟨hp1, hp2⟩ ⟨hq1, hq2⟩)
      have hxb := HXB.out p q
      have hyb := HYB.out p q
      have hzb := HZB.out p q
      have HC1 := Lib.hid (HCF.out p q)
      generalize fx p q = x at *
      generalize fy p q = y at *
      generalize fz p q = z at *
      generalize cf p q = cel at *
      go_upto_region 10 with (fail)
      (refine wp_region_calm (wr.heap.size) (by kernel_rfl) (by kernel_rfl) ?_; (repeat (first | go_big_quiet_step (fail) | quiet_step (fail))); refine wpQuiet_nil ?_; intro _ hw'; obtain ⟨xq, hw''⟩ := hw'; subst hw'')
      have hb3 := Calm.below xq
      clear d0 d1
      have HHx := Lib.hid (show wr.heap.size ≤ (Calm.val xq).heap.size from hb3.size)
      have HOx := Lib.hid (own_below HH.out.2.1 hb3)
      have HBx := Lib.hid (HH.out.2.2.trans (hb3.mono HH.out.2.2.size))
      have HVx := Lib.hid (bs HVr.out hb3)
      have HRx := Lib.hid (bs HRr.out hb3)
      clear hb3 HVr HRr HH
      generalize Calm.val xq = wx at *
      have hvl := (bl HVx.out)
      have hrl := (bl HRx.out)
      obtain ⟨v0, v1, v2, v3⟩ := cr4 HVx.out
      obtain ⟨s0, s1, s2, s3, s4, s5⟩ := cr6 HRx.out
      go_upto_region 11 with (fail)
      (refine wp_region_calm (wx.heap.size) (by kernel_rfl) (by kernel_rfl) ?_; (repeat (first | go_big_quiet_step ((go_at_call 114; first | with_reducible exact Calls.calm_same (HX1.out _) | with_reducible exact Calls.calm_same (HY1.out _) | with_reducible exact Calls.calm_same (HZ1.out _))) | quiet_step ((go_at_call 114; first | with_reducible exact Calls.calm_same (HX1.out _) | with_reducible exact Calls.calm_same (HY1.out _) | with_reducible exact Calls.calm_same (HZ1.out _))))); refine wpQuiet_nil ?_; intro _ hw'; obtain ⟨xq, hw''⟩ := hw'; subst hw'')
      have hb4 := Calm.below xq
      clear v0 v1 v2 v3 s0 s1 s2 s3 s4 s5
      have HOy := Lib.hid (own_below HOx.out hb4)
      have HBy := Lib.hid (HBx.out.trans (hb4.mono HBx.out.size))
      have HVy := Lib.hid (bs HVx.out hb4)
      clear hb4 HOx HBx HVx HRx HX1 HY1 HZ1 HHx
      generalize Calm.val xq = wy at *
      obtain ⟨v0, v1⟩ := cr2 HVy.out
      have HSK := Lib.hid (fun (h : x < 0 ∨ y < 0 ∨ z < 0) => show P = pn (k + 1) from by
        rw [HN2.out, HC1.out, if_pos h, if_pos (by decide), List.append_nil])
      have HAD := Lib.hid (fun (h : ¬ (x < 0 ∨ y < 0 ∨ z < 0)) => show 0 ≤ cel ∧ cel = (z * v.ny + y) * v.nx + x ∧ P ++ [⟨cel, p, q⟩] = pn (k + 1) from by
        have hi := index_bound (x := x) (y := y) (z := z) (nx := v.nx) (ny := v.ny) (nz := v.nz) ⟨by omega, hxb.2⟩ ⟨by omega, hyb.2⟩ ⟨by omega, hzb.2⟩
        have hc := HC1.out
        rw [if_neg h] at hc
        refine ⟨by omega, hc, ?_⟩
        rw [HN2.out, if_neg (by omega)])
      clear HN2 HC1
      by_cases hx : 0 ≤ x
      rotate_left
      · have HS2 := Lib.hid (HSK.out (.inl (by omega)))
        go_wp2
        go_roundw
        case rel => exact ⟨k + 1, a, c, P, ⟨by omega, by omega⟩, by go_num, rfl, Lib.hid ⟨HS2.out, HOy.out, HBy.out⟩⟩
        case measure => simp [intOf]; omega
      by_cases hy : 0 ≤ y
      rotate_left
      · have HS2 := Lib.hid (HSK.out (.inr (.inl (by omega))))
        go_wp2
        go_roundw
        case rel => exact ⟨k + 1, a, c, P, ⟨by omega, by omega⟩, by go_num, rfl, Lib.hid ⟨HS2.out, HOy.out, HBy.out⟩⟩
        case measure => simp [intOf]; omega
      by_cases hz : 0 ≤ z
      rotate_left
      · have HS2 := Lib.hid (HSK.out (.inr (.inr (by omega))))
        go_wp2
        go_roundw
        case rel => exact ⟨k + 1, a, c, P, ⟨by omega, by omega⟩, by go_num, rfl, Lib.hid ⟨HS2.out, HOy.out, HBy.out⟩⟩
        case measure => simp [intOf]; omega
      obtain ⟨hc0, hc1, hc2⟩ := HAD.out (by omega)
      have hvx := HVB.out.x
      have hvy := HVB.out.y
      have hvz := HVB.out.z
      have hm1 := rk_mul_abs (x := z) (y := v.ny) (K := 12) (M := 12) (by decide) (by decide) (by omega) (by omega)
      have hm2 := rk_mul_abs (x := z * v.ny + y) (y := v.nx) (K := 156) (M := 12) (by decide) (by decide) (by omega) (by omega)
      have HC2 := Lib.hid hc2
      clear hc2 HSK HAD
      obtain ⟨n, hn⟩ : ∃ n, P.length = n := ⟨_, rfl⟩
      have HPN2 := Lib.hid hn
      rw [hn] at HOy hpl ⊢
      clear hn
      generalize hzn : z * v.ny = zn at *
      generalize hzx : (zn + y) * v.nx = zx at *
      have hcel : zx + x = cel := hc1.symm
      have hb63 : n + 1 ≤ maxLen := by unfold maxLen; omega
      have hb47 : (n + 1) * 24 ≤ 140737488355328 := by omega
      have hl6 := Lib.hid HBy.out.size
      clear hc1
      go_upto_region 13 with (fail)
      go_wp2_with (at_builtin; refine wpList_append_lies _ rfl _ _ 87 rfl w6.heap.size 90 i0 _ 3 24 Tryz.underlying87 hi0' hz0 hz1 hz2 rfl (by decide) (.slice a n c) n (ptC P) rfl (HOy.out.alloc _) ⟨wy.heap.size, 0, none⟩ 1 1 [.int .i64 cel, .int .i64 p, .int .i64 q] rfl rfl (World.news_of_block (heap_alloc_new wy (.cells #[.int .i64 cel, .int .i64 p, .int .i64 q] 90))) pt_one (by decide) hb63 hb47 (by have := hl6.out; simp; omega) _ rfl ?_; intro g1 p1 w9 hown9 hgrow9 hat9 hlt9; have HO9 := Lib.hid hown9; have HB9 := Lib.hid (show Below w6.heap.size w6 w9 from (HBy.out.alloc hl6.out _).grown hgrow9 (by have := hl6.out; simp; omega) (fun b e => (HOy.out.lt b e).1)); clear hown9 hgrow9 hat9 hlt9)
      go_roundw
      case rel => exact ⟨k + 1, some ⟨g1, 0, none⟩, p1, P ++ [⟨cel, p, q⟩], ⟨by omega, by omega⟩, by go_num, by rw [List.length_append, HPN2.out]; rfl, Lib.hid ⟨HC2.out, by rw [List.length_append, HPN2.out, ptC_append, ptC_one]; exact HO9.out, HB9.out⟩⟩
      case measure => simp [intOf]; omega
    · have hM1 : k = M := by omega
      have hlt' : ¬ (k : Int) < (M : Int) := by omega
      have HRR := Lib.hid (HRES.out a c P wr (by rw [HH.out.1, hM1, HMM.out]) (own_base HH.out.2.1 HB.out.size) HBr.out)
      clear hM1
      go_wp2
      exact HRR.out
end Go.Proofs.YtkdopjkdokgipaaGreatDoor
