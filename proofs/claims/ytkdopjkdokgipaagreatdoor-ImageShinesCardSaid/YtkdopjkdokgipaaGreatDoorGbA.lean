/- Texts put together: ImBound, ImEpoch. -/
import Derived.Test.YtkdopjkdokgipaaGreatDoorGaA
namespace Go.Proofs.YtkdopjkdokgipaaGreatDoor
set_option linter.unusedVariables false
set_option linter.unusedSimpArgs false
/-! ### bounds -/
/-- the bounds of a number of fields, one field after the other -/
def bnd (g : List Int → Int) : List (List Int) → SV
  | [] => ⟨0, 0⟩
  | f :: t => t.foldl (fun s f => ⟨min s.lo (g f), max s.hi (g f)⟩) ⟨g f, g f⟩
theorem bnd_snoc (g : List Int → Int) (l : List (List Int)) (f : List Int) : bnd g (l ++ [f]) = if l = [] then ⟨g f, g f⟩ else ⟨min (bnd g l).lo (g f), max (bnd g l).hi (g f)⟩ := by
  cases l with
  | nil => simp [bnd]
  | cons x t => simp [bnd, List.foldl_append]
structure IsBnd (g : List Int → Int) (l : List (List Int)) (s : SV) : Prop where
  all : ∀ f ∈ l, s.lo ≤ g f ∧ g f ≤ s.hi
  lo : ∃ f ∈ l, g f = s.lo
  hi : ∃ f ∈ l, g f = s.hi
theorem bnd_fold (g : List Int → Int) : ∀ (t : List (List Int)) (l : List (List Int)) (s : SV), IsBnd g l s → IsBnd g (l ++ t) (t.foldl (fun s f => ⟨min s.lo (g f), max s.hi (g f)⟩) s)
  | [], l, s, h => by simpa using h
  | f :: t, l, s, h => by
    have h2 : IsBnd g (l ++ [f]) ⟨min s.lo (g f), max s.hi (g f)⟩ := by
      refine ⟨fun x hx => ?_, ?_, ?_⟩
      · rcases List.mem_append.1 hx with h1 | h1
        · have := h.all x h1; dsimp only; omega
        · simp at h1; subst h1; dsimp only; omega
      · obtain ⟨x, hx, e⟩ := h.lo
        by_cases h1 : s.lo ≤ g f
        · exact ⟨x, by simp [hx], by dsimp only; omega⟩
        · exact ⟨f, by simp, by dsimp only; omega⟩
      · obtain ⟨x, hx, e⟩ := h.hi
        by_cases h1 : g f ≤ s.hi
        · exact ⟨x, by simp [hx], by dsimp only; omega⟩
        · exact ⟨f, by simp, by dsimp only; omega⟩
    have := bnd_fold g t (l ++ [f]) _ h2
    simpa using this
theorem bnd_is (g : List Int → Int) {l : List (List Int)} (h : l ≠ []) : IsBnd g l (bnd g l) := by
  cases l with
  | nil => exact absurd rfl h
  | cons f t =>
    have := bnd_fold g t [f] ⟨g f, g f⟩ ⟨by simp, ⟨f, by simp, rfl⟩, ⟨f, by simp, rfl⟩⟩
    simpa [bnd] using this
theorem IsBnd.eq {g : List Int → Int} {l k : List (List Int)} {s t : SV} (h : IsBnd g l s) (hk : IsBnd g k t) (e : ∀ f, f ∈ l ↔ f ∈ k) : s = t := by
  obtain ⟨f1, m1, e1⟩ := h.lo
  obtain ⟨f2, m2, e2⟩ := h.hi
  obtain ⟨f3, m3, e3⟩ := hk.lo
  obtain ⟨f4, m4, e4⟩ := hk.hi
  have a1 := hk.all f1 ((e f1).1 m1)
  have a2 := hk.all f2 ((e f2).1 m2)
  have a3 := h.all f3 ((e f3).2 m3)
  have a4 := h.all f4 ((e f4).2 m4)
  obtain ⟨sl, sh⟩ := s
  obtain ⟨tl, th⟩ := t
  dsimp only at *
  obtain rfl : sl = tl := by omega
  obtain rfl : sh = th := by omega
  rfl
/-- fewer fields: no wider bounds -/
theorem IsBnd.sub {g : List Int → Int} {l k : List (List Int)} {s t : SV} (h : IsBnd g l s) (hk : IsBnd g k t) (e : ∀ f, f ∈ l → f ∈ k) : t.lo ≤ s.lo ∧ s.hi ≤ t.hi ∧ s.lo ≤ s.hi := by
  obtain ⟨f1, m1, e1⟩ := h.lo
  obtain ⟨f2, m2, e2⟩ := h.hi
  have a1 := hk.all f1 (e f1 m1)
  have a2 := hk.all f2 (e f2 m2)
  have a3 := h.all f1 m1
  omega
/-! ### the order of fields -/
def lexLt : List Int → List Int → Prop
  | a :: as, b :: bs => a < b ∨ (a = b ∧ lexLt as bs)
  | _, _ => False
theorem lexLt_irrefl : ∀ a, ¬ lexLt a a
  | [] => by simp [lexLt]
  | a :: as => by
    have := lexLt_irrefl as
    simp [lexLt, this]
theorem lexLt_asymm : ∀ a b, lexLt a b → ¬ lexLt b a
  | [], _, h => by simp [lexLt] at h
  | _ :: _, [], h => by simp [lexLt] at h
  | a :: as, b :: bs, h => by
    have := lexLt_asymm as bs
    simp only [lexLt] at *
    rintro (h2 | ⟨h2, h3⟩)
    · rcases h with h | h <;> omega
    · rcases h with h | ⟨h, h4⟩
      · omega
      · exact this h4 h3
theorem lexLt_append : ∀ (p a b : List Int), lexLt (p ++ a) (p ++ b) ↔ lexLt a b
  | [], _, _ => Iff.rfl
  | x :: p, a, b => by
    have := lexLt_append p a b
    simp [lexLt, this]
theorem dens_sorted (s : SV) : (dens s).Pairwise (· < ·) := by
  unfold dens
  rw [List.pairwise_map]
  exact List.pairwise_lt_range.imp (fun h => by omega)
theorem enumF_sorted {n : Nat} {ss : Nat → SV} {ag : List Int → Bool} : ∀ r pre, r ≤ n → pre.length = n - r → (enumF n ss ag r pre).Pairwise lexLt
  | 0, pre, hr, hp => by
    rw [enumF]
    split <;> simp
  | r + 1, pre, hr, hp => by
    rw [enumF, List.pairwise_flatMap]
    refine ⟨fun d _ => enumF_sorted r _ (by omega) (by simp; omega), ?_⟩
    refine (dens_sorted _).imp ?_
    intro d e hde x hx y hy
    obtain ⟨_, _, ⟨t, rfl⟩, _⟩ := (enumF_mem r (pre ++ [d]) x (by omega) (by simp; omega)).1 hx
    obtain ⟨_, _, ⟨u, rfl⟩, _⟩ := (enumF_mem r (pre ++ [e]) y (by omega) (by simp; omega)).1 hy
    rw [List.append_assoc, List.append_assoc, lexLt_append]
    simp only [List.singleton_append, lexLt]
    exact .inl hde
theorem allF_sorted {n : Nat} {ss : Nat → SV} {m : Nat} {bs : Nat → BM} : (allF n ss m bs).Pairwise lexLt := enumF_sorted n [] (Nat.le_refl _) (by simp)
/-- two lists in order that have the same fields are the same -/
theorem sorted_eq : ∀ {l k : List (List Int)}, l.Pairwise lexLt → k.Pairwise lexLt → (∀ f, f ∈ l ↔ f ∈ k) → l = k
  | [], [], _, _, _ => rfl
  | [], y :: k, _, _, h => by have := (h y).2 (by simp); simp at this
  | x :: l, [], _, _, h => by have := (h x).1 (by simp); simp at this
  | x :: l, y :: k, hl, hk, h => by
    have h1 := List.pairwise_cons.1 hl
    have h2 := List.pairwise_cons.1 hk
    have e : x = y := by
      rcases List.mem_cons.1 ((h x).1 (by simp)) with e | hx
      · exact e
      · rcases List.mem_cons.1 ((h y).2 (by simp)) with e | hy
        · exact e.symm
        · exact absurd (h1.1 y hy) (lexLt_asymm _ _ (h2.1 x hx))
    subst e
    congr 1
    refine sorted_eq h1.2 h2.2 (fun f => ?_)
    constructor
    · intro hf
      rcases List.mem_cons.1 ((h f).1 (by simp [hf])) with e | hk'
      · subst e; exact absurd (h1.1 f hf) (lexLt_irrefl f)
      · exact hk'
    · intro hf
      rcases List.mem_cons.1 ((h f).2 (by simp [hf])) with e | hk'
      · subst e; exact absurd (h2.1 f hf) (lexLt_irrefl f)
      · exact hk'
theorem sorted_nodup {l : List (List Int)} (h : l.Pairwise lexLt) : l.Nodup := h.imp (fun h e => by subst e; exact lexLt_irrefl _ h)
/-- the fields of a list whose members are those of a sorted one that have a mark -/
theorem sorted_filter {l k : List (List Int)} (hl : l.Pairwise lexLt) (hk : k.Pairwise lexLt) {p : List Int → Bool} (h : ∀ f, f ∈ k ↔ f ∈ l ∧ p f = true) : k = l.filter p :=
  sorted_eq hk (hl.sublist List.filter_sublist) (fun f => by rw [h, List.mem_filter])
/-- fewer fields are not more -/
theorem sorted_length {l k : List (List Int)} (hl : l.Pairwise lexLt) (hk : k.Pairwise lexLt) (h : ∀ f, f ∈ k → f ∈ l) : k.length ≤ l.length := by
  have : k = l.filter (fun f => decide (f ∈ k)) := sorted_filter hl hk (fun f => by simp; exact fun hf => h f hf)
  rw [this]
  exact List.length_filter_le _ _
end Go.Proofs.YtkdopjkdokgipaaGreatDoor
namespace Go.Proofs.YtkdopjkdokgipaaGreatDoor
set_option linter.unusedVariables false
set_option linter.unusedSimpArgs false
/-- by how much two fields differ at most in the first cells -/
def apartF (f g : Nat → Int) : Nat → Int
  | 0 => 0
  | k + 1 => max (max (apartF f g k) (f k - g k)) (g k - f k)
theorem apart_comm (f g : Nat → Int) : ∀ k, apartF f g k = apartF g f k
  | 0 => rfl
  | k + 1 => by
    rw [apartF, apartF, apart_comm f g k]
    omega
theorem apart_nonneg (f g : Nat → Int) : ∀ k, 0 ≤ apartF f g k
  | 0 => Int.le_refl _
  | k + 1 => by
    have := apart_nonneg f g k
    rw [apartF]; omega
theorem apart_le {f g : Nat → Int} {c : Int} : ∀ k, 0 ≤ c → (∀ i, i < k → f i - g i ≤ c ∧ g i - f i ≤ c) → apartF f g k ≤ c
  | 0, h0, _ => h0
  | k + 1, h0, h => by
    have := apart_le k h0 (fun i hi => h i (by omega))
    have := h k (by omega)
    rw [apartF]; omega
def apartL (n : Nat) (a b : List Int) : Int := apartF (fOf a) (fOf b) n
def nearF (n : Nat) (c : Int) (l from_ : List (List Int)) : List (List Int) := l.filter (fun f => from_.any (fun x => decide (apartL n x f ≤ c)))
theorem nearF_mem {n : Nat} {c : Int} {l k : List (List Int)} {f : List Int} : f ∈ nearF n c l k ↔ f ∈ l ∧ ∃ x ∈ k, apartL n x f ≤ c := by
  simp [nearF]
/-- the fields of an epoch to which a history leads -/
def fwdF (n : Nat) (c : Int) (L : Nat → List (List Int)) : Nat → List (List Int)
  | 0 => L 0
  | i + 1 => nearF n c (L (i + 1)) (fwdF n c L i)
/-- of these, those from which a history goes on for j epochs -/
def bwdF (n : Nat) (c : Int) (L : Nat → List (List Int)) (t : Nat) : Nat → List (List Int)
  | 0 => fwdF n c L (t - 1)
  | j + 1 => nearF n c (fwdF n c L (t - 1 - (j + 1))) (bwdF n c L t j)
structure HistF (n : Nat) (c : Int) (L : Nat → List (List Int)) (t : Nat) (h : Nat → List Int) : Prop where
  mem : ∀ i, i < t → h i ∈ L i
  near : ∀ i, i + 1 < t → apartL n (h i) (h (i + 1)) ≤ c
theorem fwd_mem {n : Nat} {c : Int} {L : Nat → List (List Int)} : ∀ i f, f ∈ fwdF n c L i ↔ ∃ h, HistF n c L (i + 1) h ∧ h i = f
  | 0, f => by
    constructor
    · intro hf
      exact ⟨fun _ => f, ⟨fun i hi => by obtain rfl : i = 0 := by omega
                                         exact hf, fun i hi => by omega⟩, rfl⟩
    · rintro ⟨h, hh, rfl⟩
      exact hh.mem 0 (by omega)
  | i + 1, f => by
    rw [fwdF, nearF_mem]
    constructor
    · rintro ⟨h1, x, hx, h2⟩
      obtain ⟨h, hh, rfl⟩ := (fwd_mem i x).1 hx
      refine ⟨fun j => if j = i + 1 then f else h j, ⟨fun j hj => ?_, fun j hj => ?_⟩, if_pos rfl⟩
      · by_cases e : j = i + 1
        · rw [if_pos e, e]; exact h1
        · rw [if_neg e]; exact hh.mem j (by omega)
      · rw [if_neg (by omega)]
        by_cases e : j = i
        · subst e; rw [if_pos rfl]; exact h2
        · rw [if_neg (by omega)]; exact hh.near j (by omega)
    · rintro ⟨h, hh, rfl⟩
      exact ⟨hh.mem _ (by omega), h i, (fwd_mem i _).2 ⟨h, ⟨fun j hj => hh.mem j (by omega), fun j hj => hh.near j (by omega)⟩, rfl⟩, hh.near i (by omega)⟩
theorem bwd_mem {n : Nat} {c : Int} {L : Nat → List (List Int)} {t : Nat} : ∀ j f, j < t → (f ∈ bwdF n c L t j ↔ ∃ h, HistF n c L t h ∧ h (t - 1 - j) = f)
  | 0, f, ht => by
    rw [bwdF, fwd_mem, show t - 1 + 1 = t by omega, Nat.sub_zero]
  | j + 1, f, ht => by
    rw [bwdF, nearF_mem, fwd_mem]
    constructor
    · rintro ⟨⟨h, hh, hf⟩, x, hx, h2⟩
      obtain ⟨g, hg, hgx⟩ := (bwd_mem j x (by omega)).1 hx
      refine ⟨fun i => if i ≤ t - 1 - (j + 1) then h i else g i, ⟨fun i hi => ?_, fun i hi => ?_⟩, by dsimp only; rw [if_pos (Nat.le_refl _)]; exact hf⟩
      · by_cases e : i ≤ t - 1 - (j + 1)
        · rw [if_pos e]; exact hh.mem i (by omega)
        · rw [if_neg e]; exact hg.mem i hi
      · by_cases e : i + 1 ≤ t - 1 - (j + 1)
        · rw [if_pos (by omega), if_pos e]; exact hh.near i (by omega)
        · rw [if_neg e]
          by_cases e2 : i ≤ t - 1 - (j + 1)
          · have e3 : i = t - 1 - (j + 1) := by omega
            rw [if_pos e2, e3, hf, show t - 1 - (j + 1) + 1 = t - 1 - j by omega, hgx, apartL, apart_comm]
            exact h2
          · rw [if_neg e2]; exact hg.near i hi
    · rintro ⟨h, hh, rfl⟩
      refine ⟨⟨h, ⟨fun i hi => hh.mem i (by omega), fun i hi => hh.near i (by omega)⟩, rfl⟩, h (t - 1 - j), (bwd_mem j _ (by omega)).2 ⟨h, hh, rfl⟩, ?_⟩
      have := hh.near (t - 1 - (j + 1)) (by omega)
      rw [show t - 1 - (j + 1) + 1 = t - 1 - j by omega] at this
      rw [apartL, apart_comm]
      exact this
/-! ### the least change -/
def minO (z : Int) (l : List Int) : Int := l.foldl (fun m x => min m x) z
theorem minO_le : ∀ (l : List Int) (z c : Int), minO z l ≤ c ↔ z ≤ c ∨ ∃ x ∈ l, x ≤ c
  | [], z, c => by simp [minO]
  | y :: l, z, c => by
    show minO (min z y) l ≤ c ↔ _
    rw [minO_le l]
    simp only [List.mem_cons, exists_eq_or_imp]
    constructor
    · rintro (h | h)
      · by_cases e : z ≤ c
        · exact .inl e
        · exact .inr (.inl (by omega))
      · exact .inr (.inr h)
    · rintro (h | h | h)
      · exact .inl (by omega)
      · exact .inl (by omega)
      · exact .inr h
/-- the least change of histories that end with a field -/
def costF (n : Nat) (L : Nat → List (List Int)) : Nat → List Int → Int
  | 0, _ => 0
  | i + 1, f => minO 1000 ((L i).map (fun x => max (costF n L i x) (apartL n x f)))
theorem cost_nonneg {n : Nat} {L : Nat → List (List Int)} : ∀ i f, 0 ≤ costF n L i f
  | 0, _ => Int.le_refl _
  | i + 1, f => by
    rw [costF]
    false_or_by_contra
    rename_i h
    have h2 : minO 1000 ((L i).map (fun x => max (costF n L i x) (apartL n x f))) ≤ -1 := by omega
    rw [minO_le] at h2
    rcases h2 with h2 | ⟨y, hy, h3⟩
    · omega
    · obtain ⟨x, hx, rfl⟩ := List.mem_map.1 hy
      have := cost_nonneg (n := n) (L := L) i x
      omega
/-- the densities of all fields are as in images -/
def Dense (n : Nat) (L : Nat → List (List Int)) (t : Nat) : Prop := ∀ i, i < t → ∀ f ∈ L i, ∀ c, c < n → 0 ≤ fOf f c ∧ fOf f c ≤ 1000
theorem dense_apart {n : Nat} {L : Nat → List (List Int)} {t i j : Nat} (hD : Dense n L t) (hi : i < t) (hj : j < t) {f g : List Int} (hf : f ∈ L i) (hg : g ∈ L j) : apartL n f g ≤ 1000 :=
  apart_le n (by omega) (fun c hc => by
    have := hD i hi f hf c hc
    have := hD j hj g hg c hc
    omega)
theorem cost_le {n : Nat} {L : Nat → List (List Int)} {t : Nat} (hD : Dense n L t) (hne : ∀ i, i < t → L i ≠ []) {c : Int} (hc : 0 ≤ c) : ∀ i f, i < t → f ∈ L i → (costF n L i f ≤ c ↔ ∃ h, HistF n c L (i + 1) h ∧ h i = f)
  | 0, f, ht, hf => by
    constructor
    · intro _
      exact ⟨fun _ => f, ⟨fun i hi => by obtain rfl : i = 0 := by omega
                                         exact hf, fun i hi => by omega⟩, rfl⟩
    · intro _; exact hc
  | i + 1, f, ht, hf => by
    rw [costF, minO_le]
    constructor
    · intro h
      have h2 : ∃ x, x ∈ L i ∧ costF n L i x ≤ c ∧ apartL n x f ≤ c := by
        rcases h with h | ⟨y, hy, h3⟩
        · -- no change is greater than the greatest density
          cases e : L i with
          | nil => exact absurd e (hne i (by omega))
          | cons x l =>
            have hx : x ∈ L i := by rw [e]; simp
            refine ⟨x, by simp, ?_, Int.le_trans (dense_apart hD (by omega) ht hx hf) h⟩
            have : costF n L i x ≤ 1000 := by
              cases i with
              | zero => show (0 : Int) ≤ 1000; omega
              | succ i => rw [costF, minO_le]; exact .inl (Int.le_refl _)
            omega
        · obtain ⟨x, hx, rfl⟩ := List.mem_map.1 hy
          exact ⟨x, hx, by omega, by omega⟩
      obtain ⟨x, hx, h3, h4⟩ := h2
      obtain ⟨h, hh, rfl⟩ := (cost_le hD hne hc i x (by omega) hx).1 h3
      refine ⟨fun j => if j = i + 1 then f else h j, ⟨fun j hj => ?_, fun j hj => ?_⟩, if_pos rfl⟩
      · by_cases e : j = i + 1
        · rw [if_pos e, e]; exact hf
        · rw [if_neg e]; exact hh.mem j (by omega)
      · rw [if_neg (by omega)]
        by_cases e : j = i
        · subst e; rw [if_pos rfl]; exact h4
        · rw [if_neg (by omega)]; exact hh.near j (by omega)
    · rintro ⟨h, hh, rfl⟩
      refine .inr ⟨_, List.mem_map.2 ⟨h i, hh.mem i (by omega), rfl⟩, ?_⟩
      have h1 := (cost_le hD hne hc i (h i) (by omega) (hh.mem i (by omega))).2 ⟨h, ⟨fun j hj => hh.mem j (by omega), fun j hj => hh.near j (by omega)⟩, rfl⟩
      have h2 := hh.near i (by omega)
      omega
/-- the least of some numbers -/
def leastL : List Int → Int
  | [] => 0
  | x :: l => minO x l
def calmF (n : Nat) (L : Nat → List (List Int)) (t : Nat) : Int := leastL ((L (t - 1)).map (costF n L (t - 1)))
theorem calm_le {n : Nat} {L : Nat → List (List Int)} {t : Nat} (hD : Dense n L t) (hne : ∀ i, i < t → L i ≠ []) (ht : 0 < t) {c : Int} (hc : 0 ≤ c) : calmF n L t ≤ c ↔ ∃ h, HistF n c L t h := by
  unfold calmF
  have key : ∀ l : List (List Int), l ≠ [] → (leastL (l.map (costF n L (t - 1))) ≤ c ↔ ∃ x ∈ l, costF n L (t - 1) x ≤ c) := by
    intro l hl
    cases l with
    | nil => exact absurd rfl hl
    | cons x l =>
      rw [List.map_cons, leastL, minO_le]
      constructor
      · rintro (h | ⟨y, hy, h⟩)
        · exact ⟨x, by simp, h⟩
        · obtain ⟨z, hz, rfl⟩ := List.mem_map.1 hy
          exact ⟨z, by simp [hz], h⟩
      · rintro ⟨z, hz, h⟩
        rcases List.mem_cons.1 hz with e | hz
        · subst e; exact .inl h
        · exact .inr ⟨_, List.mem_map.2 ⟨z, hz, rfl⟩, h⟩
  rw [key _ (hne _ (by omega))]
  constructor
  · rintro ⟨x, hx, h1⟩
    obtain ⟨h, hh, _⟩ := (cost_le hD hne hc (t - 1) x (by omega) hx).1 h1
    rw [show t - 1 + 1 = t by omega] at hh
    exact ⟨h, hh⟩
  · rintro ⟨h, hh⟩
    refine ⟨h (t - 1), hh.mem _ (by omega), (cost_le hD hne hc (t - 1) _ (by omega) (hh.mem _ (by omega))).2 ⟨h, ?_, rfl⟩⟩
    rw [show t - 1 + 1 = t by omega]
    exact hh
theorem calm_nonneg {n : Nat} {L : Nat → List (List Int)} {t : Nat} : 0 ≤ calmF n L t := by
  unfold calmF
  cases h : L (t - 1) with
  | nil => exact Int.le_refl _
  | cons x l =>
    rw [List.map_cons, leastL]
    false_or_by_contra
    rename_i h2
    have h3 : minO (costF n L (t - 1) x) (l.map (costF n L (t - 1))) ≤ -1 := by omega
    rw [minO_le] at h3
    rcases h3 with h3 | ⟨y, hy, h4⟩
    · have := cost_nonneg (n := n) (L := L) (t - 1) x; omega
    · obtain ⟨z, _, rfl⟩ := List.mem_map.1 hy
      have := cost_nonneg (n := n) (L := L) (t - 1) z; omega
end Go.Proofs.YtkdopjkdokgipaaGreatDoor
