/- Event files as lists of bytes: numbers in groups of 7 bits, the check, packing and unpacking. No program here. -/
import Derived.Test.YtgcepjminlapiaaHitRows
namespace Go.Proofs.Ytgcepjminlapiaa
set_option linter.unusedVariables false
set_option linter.unusedSimpArgs false
/-- a number in groups of 7 bits -/
def grp (n : Nat) : List Nat := if n < 128 then [n] else (n % 128 + 128) :: grp (n / 128)
termination_by n
decreasing_by omega
theorem grp_lt {n : Nat} (h : n < 128) : grp n = [n] := by rw [grp, if_pos h]
theorem grp_ge {n : Nat} (h : ¬ n < 128) : grp n = (n % 128 + 128) :: grp (n / 128) := by rw [grp, if_neg h]
theorem grp_len : ∀ (f n : Nat), n < 128 ^ (f + 1) → 1 ≤ (grp n).length ∧ (grp n).length ≤ f + 1
  | 0, n, h => by rw [grp_lt (by simpa using h)]; simp
  | f + 1, n, h => by
    by_cases hn : n < 128
    · rw [grp_lt hn]; simp
    · rw [grp_ge hn]
      have : n / 128 < 128 ^ (f + 1) := by
        rw [Nat.div_lt_iff_lt_mul (by omega)]; rw [Nat.pow_succ] at h; exact h
      have := grp_len f (n / 128) this
      simp; omega
theorem grp_byte : ∀ (n : Nat), ∀ x ∈ grp n, x < 256 := fun n => by
  induction n using Nat.strongRecOn with
  | ind n ih =>
    intro x hx
    by_cases hn : n < 128
    · rw [grp_lt hn] at hx; simp at hx; omega
    · rw [grp_ge hn] at hx
      rcases List.mem_cons.1 hx with h | h
      · omega
      · exact ih (n / 128) (by omega) x h
/-- the number that begins here, of at most f groups -/
def takeG : Nat → Bool → List Nat → Option (Nat × List Nat)
  | 0, _, _ => none
  | _ + 1, _, [] => none
  | f + 1, first, x :: r => if x < 128 then (if x = 0 ∧ first = false then none else some (x, r)) else
      match takeG f false r with
      | some (m, r') => some (x % 128 + 128 * m, r')
      | none => none
theorem takeG_grp : ∀ (f n : Nat) (first : Bool) (r : List Nat), n < 128 ^ (f + 1) → (first = true ∨ 0 < n) → takeG (f + 1) first (grp n ++ r) = some (n, r)
  | 0, n, first, r, h, h0 => by
    have hn : n < 128 := by simpa using h
    rw [grp_lt hn]
    have : ¬ (n = 0 ∧ first = false) := by rintro ⟨a, b⟩; rcases h0 with h0 | h0 <;> simp_all
    simp [takeG, hn, this]
  | f + 1, n, first, r, h, h0 => by
    by_cases hn : n < 128
    · rw [grp_lt hn]
      have : ¬ (n = 0 ∧ first = false) := by rintro ⟨a, b⟩; rcases h0 with h0 | h0 <;> simp_all
      simp [takeG, hn, this]
    · rw [grp_ge hn]
      have h1 : n / 128 < 128 ^ (f + 1) := by rw [Nat.div_lt_iff_lt_mul (by omega)]; rw [Nat.pow_succ] at h; exact h
      have ih := takeG_grp f (n / 128) false r h1 (.inr (by omega))
      have h2 : ¬ (n % 128 + 128 < 128) := by omega
      rw [List.cons_append, takeG, if_neg h2, ih]
      simp only [Option.some.injEq, Prod.mk.injEq, and_true]
      omega
theorem takeG_inv : ∀ (f : Nat) (first : Bool) (l : List Nat) (n : Nat) (r : List Nat), (∀ x ∈ l, x < 256) → takeG f first l = some (n, r) → l = grp n ++ r ∧ n < 128 ^ f ∧ (first = true ∨ 0 < n)
  | 0, first, l, n, r, hl, h => by simp [takeG] at h
  | f + 1, first, [], n, r, hl, h => by simp [takeG] at h
  | f + 1, first, x :: t, n, r, hl, h => by
    rw [takeG] at h
    by_cases hx : x < 128
    · rw [if_pos hx] at h
      by_cases h0 : x = 0 ∧ first = false
      · rw [if_pos h0] at h; cases h
      · rw [if_neg h0] at h
        injection h with h
        injection h with h1 h2
        subst h1; subst h2
        refine ⟨by rw [grp_lt hx]; rfl, ?_, ?_⟩
        · have : 128 ^ 1 ≤ 128 ^ (f + 1) := Nat.pow_le_pow_right (by omega) (by omega)
          omega
        · cases first
          · right
            have : ¬ x = 0 := fun e => h0 ⟨e, rfl⟩
            omega
          · exact .inl rfl
    · rw [if_neg hx] at h
      cases ht : takeG f false t with
      | none => rw [ht] at h; cases h
      | some q =>
        obtain ⟨m, r'⟩ := q
        rw [ht] at h
        injection h with h
        injection h with h1 h2
        subst h2
        have hx2 := hl x (by simp)
        obtain ⟨i1, i2, i3⟩ := takeG_inv f false t m r' (fun y hy => hl y (by simp [hy])) ht
        have i4 : 0 < m := by rcases i3 with i3 | i3; cases i3; exact i3
        subst h1
        refine ⟨?_, ?_, .inr (by omega)⟩
        · rw [grp_ge (by omega), i1]
          have e1 : (x % 128 + 128 * m) % 128 + 128 = x := by omega
          have e2 : (x % 128 + 128 * m) / 128 = m := by omega
          rw [e1, e2]; rfl
        · rw [Nat.pow_succ]; omega
theorem takeG_some {f : Nat} {first : Bool} {l : List Nat} {n : Nat} {r : List Nat} (h : takeG f first l = some (n, r)) : r.length < l.length := by
  induction f generalizing first l n r with
  | zero => simp [takeG] at h
  | succ f ih =>
    cases l with
    | nil => simp [takeG] at h
    | cons x t =>
      rw [takeG] at h
      by_cases hx : x < 128
      · rw [if_pos hx] at h
        by_cases h0 : x = 0 ∧ first = false
        · rw [if_pos h0] at h; cases h
        · rw [if_neg h0] at h
          injection h with h
          injection h with h1 h2
          subst h2; simp
      · rw [if_neg hx] at h
        cases ht : takeG f false t with
        | none => rw [ht] at h; cases h
        | some q =>
          obtain ⟨m, r'⟩ := q
          rw [ht] at h
          injection h with h
          injection h with h1 h2
          subst h2
          have := ih ht
          simp; omega
/-! the number for a difference -/
def zig (d : Int) : Int := if d < 0 then -2 * d - 1 else 2 * d
def unzig (m : Int) : Int := if m % 2 = 0 then m / 2 else -((m + 1) / 2)
theorem unzig_zig (d : Int) : unzig (zig d) = d := by unfold zig unzig; split <;> split <;> omega
theorem zig_unzig (m : Int) (h : 0 ≤ m) : zig (unzig m) = m := by unfold zig unzig; split <;> split <;> omega
theorem zig_nonneg (d : Int) : 0 ≤ zig d := by unfold zig; split <;> omega
/-- a number that is read, from whatever place on -/
def tk (l : List Nat) : Option (Nat × List Nat) := takeG 5 true l
theorem tk_grp {n : Nat} (h : n < 34359738368) (r : List Nat) : tk (grp n ++ r) = some (n, r) := takeG_grp 4 n true r (by simpa using h) (.inl rfl)
theorem tk_inv {l : List Nat} {n : Nat} {r : List Nat} (hl : ∀ x ∈ l, x < 256) (h : tk l = some (n, r)) : l = grp n ++ r ∧ n < 34359738368 := by
  obtain ⟨h1, h2, _⟩ := takeG_inv 5 true l n r hl h
  exact ⟨h1, by simpa using h2⟩
/-- the bytes of a hit -/
def packH (last : Int) (h : HV) : List Nat := grp h.plane.toNat ++ (grp h.channel.toNat ++ (grp h.many.toNat ++ (grp h.drift.toNat ++ (grp h.charge.toNat ++ grp (zig (h.time - last)).toNat))))
def packHs : Int → List HV → List Nat
  | _, [] => []
  | last, h :: t => packH last h ++ packHs h.time t
def Fits (x : Int) : Prop := 0 ≤ x ∧ x < 34359738368
/-- a hit that is read -/
def tkH (last : Int) (l : List Nat) : Option (HV × List Nat) :=
  (tk l).bind fun a => (tk a.2).bind fun b => (tk b.2).bind fun c => (tk c.2).bind fun d => (tk d.2).bind fun e => (tk e.2).bind fun g =>
    some (⟨(a.1 : Int), (b.1 : Int), (c.1 : Int), (d.1 : Int), (e.1 : Int), last + unzig (g.1 : Int)⟩, g.2)
theorem tk_grp_int {x : Int} (h : Fits x) (r : List Nat) : tk (grp x.toNat ++ r) = some (x.toNat, r) := tk_grp (by have := h.2; have := h.1; omega) r
theorem tkH_pack {last : Int} {h : HV} (h1 : Fits h.plane) (h2 : Fits h.channel) (h3 : Fits h.many) (h4 : Fits h.drift) (h5 : Fits h.charge) (h6 : Fits (zig (h.time - last))) (r : List Nat) : tkH last (packH last h ++ r) = some (h, r) := by
  unfold tkH packH
  simp only [List.append_assoc]
  rw [tk_grp_int h1]
  simp only [Option.bind_some]
  rw [tk_grp_int h2]
  simp only [Option.bind_some]
  rw [tk_grp_int h3]
  simp only [Option.bind_some]
  rw [tk_grp_int h4]
  simp only [Option.bind_some]
  rw [tk_grp_int h5]
  simp only [Option.bind_some]
  rw [tk_grp_int h6]
  simp only [Option.bind_some]
  have e1 : (h.plane.toNat : Int) = h.plane := Int.toNat_of_nonneg h1.1
  have e2 : (h.channel.toNat : Int) = h.channel := Int.toNat_of_nonneg h2.1
  have e3 : (h.many.toNat : Int) = h.many := Int.toNat_of_nonneg h3.1
  have e4 : (h.drift.toNat : Int) = h.drift := Int.toNat_of_nonneg h4.1
  have e5 : (h.charge.toNat : Int) = h.charge := Int.toNat_of_nonneg h5.1
  have e6 : ((zig (h.time - last)).toNat : Int) = zig (h.time - last) := Int.toNat_of_nonneg h6.1
  rw [e1, e2, e3, e4, e5, e6, unzig_zig]
  have e7 : last + (h.time - last) = h.time := by omega
  rw [e7]
theorem tkH_inv {last : Int} {l : List Nat} {h : HV} {r : List Nat} (hl : ∀ x ∈ l, x < 256) (hh : tkH last l = some (h, r)) : l = packH last h ++ r ∧ r.length < l.length ∧ Fits h.plane ∧ Fits h.channel ∧ Fits h.many ∧ Fits h.drift ∧ Fits h.charge ∧ Fits (zig (h.time - last)) := by
  unfold tkH at hh
  simp only [Option.bind_eq_some_iff] at hh
  obtain ⟨⟨a, l1⟩, ha, ⟨b, l2⟩, hb, ⟨c, l3⟩, hc, ⟨d, l4⟩, hd, ⟨e, l5⟩, he, ⟨g, l6⟩, hg, hh⟩ := hh
  dsimp only at hb hc hd he hg hh
  injection hh with hh
  injection hh with hh hr
  subst hr
  subst hh
  have s1 := takeG_some ha
  have s2 := takeG_some hb
  have s3 := takeG_some hc
  have s4 := takeG_some hd
  have s5 := takeG_some he
  have s6 := takeG_some hg
  obtain ⟨rfl, b1⟩ := tk_inv hl ha
  have hl1 : ∀ x ∈ l1, x < 256 := fun x hx => hl x (by simp [hx])
  obtain ⟨rfl, b2⟩ := tk_inv hl1 hb
  have hl2 : ∀ x ∈ l2, x < 256 := fun x hx => hl1 x (by simp [hx])
  obtain ⟨rfl, b3⟩ := tk_inv hl2 hc
  have hl3 : ∀ x ∈ l3, x < 256 := fun x hx => hl2 x (by simp [hx])
  obtain ⟨rfl, b4⟩ := tk_inv hl3 hd
  have hl4 : ∀ x ∈ l4, x < 256 := fun x hx => hl3 x (by simp [hx])
  obtain ⟨rfl, b5⟩ := tk_inv hl4 he
  have hl5 : ∀ x ∈ l5, x < 256 := fun x hx => hl4 x (by simp [hx])
  obtain ⟨rfl, b6⟩ := tk_inv hl5 hg
  have ez : last + unzig (g : Int) - last = unzig (g : Int) := by omega
  have eg : zig (last + unzig (g : Int) - last) = (g : Int) := by rw [ez, zig_unzig _ (by omega)]
  refine ⟨?_, by omega, ⟨by dsimp only; omega, by dsimp only; omega⟩, ⟨by dsimp only; omega, by dsimp only; omega⟩, ⟨by dsimp only; omega, by dsimp only; omega⟩, ⟨by dsimp only; omega, by dsimp only; omega⟩, ⟨by dsimp only; omega, by dsimp only; omega⟩, ?_⟩
  · unfold packH
    dsimp only
    rw [eg]
    simp only [Int.toNat_natCast, List.append_assoc]
  · dsimp only
    rw [eg]
    exact ⟨by omega, by omega⟩
def tkHs : Nat → Int → List Nat → Option (List HV × List Nat)
  | 0, _, l => some ([], l)
  | k + 1, last, l => (tkH last l).bind fun a => (tkHs k a.1.time a.2).bind fun b => some (a.1 :: b.1, b.2)
/-- what can be packed -/
def packableB (h : HV) : Bool := withinB h.plane 0 15 && (withinB h.channel 0 1999 && (withinB h.many 1 2000 && (withinB h.drift 0 1000000 && (withinB h.charge 0 1000000 && withinB h.time (-1000000000) 1000000000))))
theorem packable_iff {h : HV} : packableB h = true ↔ (0 ≤ h.plane ∧ h.plane ≤ 15) ∧ (0 ≤ h.channel ∧ h.channel ≤ 1999) ∧ (1 ≤ h.many ∧ h.many ≤ 2000) ∧ (0 ≤ h.drift ∧ h.drift ≤ 1000000) ∧ (0 ≤ h.charge ∧ h.charge ≤ 1000000) ∧ (-1000000000 ≤ h.time ∧ h.time ≤ 1000000000) := by
  simp only [packableB, Bool.and_eq_true, withinB_iff]
theorem zig_fits {t last : Int} (h1 : -1000000000 ≤ t) (h2 : t ≤ 1000000000) (h3 : -1000000000 ≤ last) (h4 : last ≤ 1000000000) : Fits (zig (t - last)) := by
  unfold Fits zig; split <;> omega
theorem tkHs_pack : ∀ (hs : List HV) (last : Int) (r : List Nat), (∀ h ∈ hs, packableB h = true) → -1000000000 ≤ last → last ≤ 1000000000 → tkHs hs.length last (packHs last hs ++ r) = some (hs, r)
  | [], last, r, _, _, _ => rfl
  | h :: t, last, r, hp, h1, h2 => by
    obtain ⟨a1, a2, a3, a4, a5, a6⟩ := packable_iff.1 (hp h (by simp))
    rw [List.length_cons, tkHs, packHs, List.append_assoc, tkH_pack ⟨by omega, by omega⟩ ⟨by omega, by omega⟩ ⟨by omega, by omega⟩ ⟨by omega, by omega⟩ ⟨by omega, by omega⟩ (zig_fits a6.1 a6.2 h1 h2)]
    simp only [Option.bind_some]
    rw [tkHs_pack t h.time r (fun x hx => hp x (by simp [hx])) a6.1 a6.2]
    rfl
theorem tkHs_inv : ∀ (k : Nat) (last : Int) (l : List Nat) (hs : List HV) (r : List Nat), (∀ x ∈ l, x < 256) → tkHs k last l = some (hs, r) → l = packHs last hs ++ r ∧ hs.length = k
  | 0, last, l, hs, r, hl, h => by
    rw [tkHs] at h
    injection h with h
    injection h with h1 h2
    subst h1; subst h2
    exact ⟨rfl, rfl⟩
  | k + 1, last, l, hs, r, hl, h => by
    rw [tkHs] at h
    simp only [Option.bind_eq_some_iff] at h
    obtain ⟨⟨a, l1⟩, ha, ⟨b, l2⟩, hb, h⟩ := h
    dsimp only at hb h
    injection h with h
    injection h with h1 h2
    subst h1; subst h2
    obtain ⟨e1, _⟩ := tkH_inv hl ha
    subst e1
    obtain ⟨e2, e3⟩ := tkHs_inv k a.time l1 b l2 (fun x hx => hl x (by simp [hx])) hb
    subst e2
    exact ⟨by rw [packHs, List.append_assoc], by simp [e3]⟩
/-! the check -/
def chkN (f : Nat → Nat) : Nat → Nat
  | 0 => 0
  | k + 1 => (chkN f k + (k + 1) * f k) % 65521
def sumN (f : Nat → Nat) : Nat → Nat
  | 0 => 0
  | k + 1 => sumN f k + (k + 1) * f k
theorem chkN_sum (f : Nat → Nat) : ∀ n, chkN f n = sumN f n % 65521
  | 0 => rfl
  | n + 1 => by rw [chkN, sumN, chkN_sum f n, Nat.mod_add_mod]
theorem chkN_lt (f : Nat → Nat) (n : Nat) : chkN f n < 65521 := by rw [chkN_sum]; exact Nat.mod_lt _ (by omega)
theorem chkN_congr {f g : Nat → Nat} : ∀ n, (∀ i, i < n → f i = g i) → chkN f n = chkN g n
  | 0, _ => rfl
  | n + 1, h => by rw [chkN, chkN, chkN_congr n (fun i hi => h i (by omega)), h n (by omega)]
theorem sumN_one {f g : Nat → Nat} {j : Nat} (hne : ∀ i, i ≠ j → f i = g i) : ∀ n, (n ≤ j → sumN f n = sumN g n) ∧ (j < n → sumN f n + (j + 1) * g j = sumN g n + (j + 1) * f j)
  | 0 => ⟨fun _ => rfl, fun h => by omega⟩
  | n + 1 => by
    obtain ⟨h1, h2⟩ := sumN_one hne n
    refine ⟨fun h => by rw [sumN, sumN, h1 (by omega), hne n (by omega)], fun h => ?_⟩
    by_cases e : j = n
    · subst e
      rw [sumN, sumN, h1 (Nat.le_refl _)]
      omega
    · have := h2 (by omega)
      rw [sumN, sumN, hne n (by omega)]
      omega
theorem coprime_small : ∀ a, a < 2000 → Nat.gcd (a + 1) 65521 = 1 := by decide +kernel
theorem chkN_spoilt {f g : Nat → Nat} {j n : Nat} (hn : n ≤ 2000) (hj : j < n) (hne : ∀ i, i ≠ j → f i = g i) (hf : f j < 256) (hg : g j < 256) (h : f j ≠ g j) : chkN f n ≠ chkN g n := by
  intro e
  rw [chkN_sum, chkN_sum] at e
  have hs := (sumN_one hne n).2 hj
  have hc := coprime_small j (by omega)
  rcases Nat.lt_or_ge (f j) (g j) with hlt | hge
  · have e1 : sumN g n = sumN f n + (j + 1) * (g j - f j) := by rw [Nat.mul_sub]; have := Nat.mul_le_mul_left (j + 1) (Nat.le_of_lt hlt); omega
    have hd : 65521 ∣ (j + 1) * (g j - f j) := by
      have : (sumN f n + (j + 1) * (g j - f j)) % 65521 = sumN f n % 65521 := by rw [← e1, e]
      exact (Nat.dvd_of_mod_eq_zero (by omega))
    have := (Nat.Coprime.dvd_of_dvd_mul_left (show Nat.Coprime 65521 (j + 1) from by rw [Nat.Coprime, Nat.gcd_comm]; exact hc) hd)
    have := Nat.le_of_dvd (by omega) this
    omega
  · have hlt : g j < f j := by omega
    have e1 : sumN f n = sumN g n + (j + 1) * (f j - g j) := by rw [Nat.mul_sub]; have := Nat.mul_le_mul_left (j + 1) (Nat.le_of_lt hlt); omega
    have hd : 65521 ∣ (j + 1) * (f j - g j) := by
      have : (sumN g n + (j + 1) * (f j - g j)) % 65521 = sumN g n % 65521 := by rw [← e1, e]
      exact (Nat.dvd_of_mod_eq_zero (by omega))
    have := (Nat.Coprime.dvd_of_dvd_mul_left (show Nat.Coprime 65521 (j + 1) from by rw [Nat.Coprime, Nat.gcd_comm]; exact hc) hd)
    have := Nat.le_of_dvd (by omega) this
    omega
/-! a file, hit by hit -/
def hn (last : Int) (h : HV) (j : Nat) : Nat := ([h.plane.toNat, h.channel.toNat, h.many.toNat, h.drift.toNat, h.charge.toNat, (zig (h.time - last)).toNat] : List Nat).getD j 0
def packJ (last : Int) (h : HV) : Nat → List Nat
  | 0 => []
  | j + 1 => packJ last h j ++ grp (hn last h j)
theorem packJ_six (last : Int) (h : HV) : packJ last h 6 = packH last h := by
  simp [packJ, packH, hn]
def lastT (hs : Nat → HV) : Nat → Int
  | 0 => 0
  | k + 1 => (hs k).time
def packN (hs : Nat → HV) : Nat → List Nat
  | 0 => []
  | k + 1 => packN hs k ++ packH (lastT hs k) (hs k)
def bodyN (m : Nat) (hs : Nat → HV) (k : Nat) : List Nat := ([79, 86, 69, 49] ++ grp m) ++ packN hs k
def chkL (l : List Nat) : Nat := chkN (fun i => l.getD i 0) l.length
def fileN (m : Nat) (hs : Nat → HV) : List Nat := bodyN m hs m ++ [chkL (bodyN m hs m) / 256, chkL (bodyN m hs m) % 256]
theorem hn_fits {last : Int} {h : HV} (hp : packableB h = true) (h1 : -1000000000 ≤ last) (h2 : last ≤ 1000000000) (j : Nat) : hn last h j < 34359738368 := by
  obtain ⟨a1, a2, a3, a4, a5, a6⟩ := packable_iff.1 hp
  have hz := zig_fits a6.1 a6.2 h1 h2
  unfold Fits at hz
  match j with
  | 0 | 1 | 2 | 3 | 4 | 5 => simp [hn] <;> omega
  | j + 6 => simp [hn]
theorem grp_le5 {n : Nat} (h : n < 34359738368) : (grp n).length ≤ 5 := (grp_len 4 n (by simpa using h)).2
theorem packJ_len {last : Int} {h : HV} (hp : packableB h = true) (h1 : -1000000000 ≤ last) (h2 : last ≤ 1000000000) : ∀ j, (packJ last h j).length ≤ 5 * j
  | 0 => by simp [packJ]
  | j + 1 => by
    have := packJ_len hp h1 h2 j
    have := grp_le5 (hn_fits hp h1 h2 j)
    simp [packJ]; omega
theorem lastT_le {hs : Nat → HV} {m : Nat} (h : ∀ i, i < m → packableB (hs i) = true) : ∀ k, k ≤ m → -1000000000 ≤ lastT hs k ∧ lastT hs k ≤ 1000000000
  | 0, _ => by simp [lastT]
  | k + 1, hk => by
    obtain ⟨_, _, _, _, _, a6⟩ := packable_iff.1 (h k (by omega))
    exact a6
theorem packN_len {hs : Nat → HV} {m : Nat} (h : ∀ i, i < m → packableB (hs i) = true) : ∀ k, k ≤ m → (packN hs k).length ≤ 30 * k
  | 0, _ => by simp [packN]
  | k + 1, hk => by
    have := packN_len h k (by omega)
    obtain ⟨l1, l2⟩ := lastT_le h k (by omega)
    have := packJ_len (h k (by omega)) l1 l2 6
    rw [packJ_six] at this
    simp [packN]; omega
theorem bodyN_len {hs : Nat → HV} {m : Nat} (h : ∀ i, i < m → packableB (hs i) = true) (hm : m ≤ 2000) {k : Nat} (hk : k ≤ m) : (bodyN m hs k).length ≤ 9 + 30 * k := by
  have := packN_len h k hk
  have := grp_le5 (n := m) (by omega)
  simp [bodyN]; omega
theorem packH_byte {last : Int} {h : HV} : ∀ x ∈ packH last h, x < 256 := by
  intro x hx
  simp only [packH, List.mem_append] at hx
  rcases hx with h | h | h | h | h | h <;> exact grp_byte _ x h
theorem packN_byte {hs : Nat → HV} : ∀ k, ∀ x ∈ packN hs k, x < 256
  | 0, x, hx => by simp [packN] at hx
  | k + 1, x, hx => by
    simp only [packN, List.mem_append] at hx
    rcases hx with h | h
    · exact packN_byte k x h
    · exact packH_byte x h
theorem bodyN_byte {m : Nat} {hs : Nat → HV} {k : Nat} : ∀ x ∈ bodyN m hs k, x < 256 := by
  intro x hx
  simp only [bodyN, List.mem_append] at hx
  rcases hx with (h | h) | h
  · simp at h; omega
  · exact grp_byte _ x h
  · exact packN_byte k x h
theorem getD_byte {l : List Nat} (h : ∀ x ∈ l, x < 256) (i : Nat) : l.getD i 0 < 256 := by
  by_cases hi : i < l.length
  · rw [List.getD_eq_getElem?_getD, List.getElem?_eq_getElem hi]; exact h _ (List.getElem_mem hi)
  · rw [List.getD_eq_getElem?_getD, List.getElem?_eq_none (by omega)]; simp
end Go.Proofs.Ytgcepjminlapiaa
