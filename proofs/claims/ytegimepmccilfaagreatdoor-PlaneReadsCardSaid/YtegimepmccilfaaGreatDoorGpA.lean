/- Texts put together: FpLaw, FpLawB, FpLawC, FpLawD, FpLawE. -/
import Derived.Lib.Split
import Derived.Lib.SplitLaws
import Derived.Lib.ItoaNum
import Derived.Lib.Atoi
import Derived.Lib.Join
import Derived.Lib.Strings
import Derived.Lib.SlTrimSet
namespace Go.Proofs.YtegimepmccilfaaGreatDoor
set_option linter.unusedVariables false
set_option linter.unusedSimpArgs false
abbrev Tx := List UInt8
/-! ### cutting at a byte -/
def spl (c : UInt8) : Tx → List Tx
  | [] => [[]]
  | x :: l => if x = c then [] :: spl c l else match spl c l with
    | [] => [[x]]
    | w :: ws => (x :: w) :: ws
theorem spl_ne (c : UInt8) : ∀ l, spl c l ≠ []
  | [] => by simp [spl]
  | x :: l => by
    unfold spl
    split
    · simp
    · split <;> simp
theorem spl_no {c : UInt8} : ∀ {a : Tx}, c ∉ a → spl c a = [a]
  | [], _ => rfl
  | x :: a, h => by
    have h1 : x ≠ c := fun e => h (by simp [e])
    have h2 := spl_no (c := c) (a := a) (fun hm => h (List.mem_cons_of_mem _ hm))
    rw [spl, if_neg h1, h2]
theorem spl_app {c : UInt8} : ∀ {a : Tx} (b : Tx), c ∉ a → spl c (a ++ c :: b) = a :: spl c b
  | [], b, _ => by
    show spl c (c :: b) = _
    rw [spl, if_pos rfl]
  | x :: a, b, h => by
    have h1 : x ≠ c := fun e => h (by simp [e])
    have h2 := spl_app (c := c) (a := a) b (fun hm => h (List.mem_cons_of_mem _ hm))
    show spl c (x :: (a ++ c :: b)) = _
    rw [spl, if_neg h1, h2]
theorem spl_mem {c : UInt8} : ∀ {l w : Tx}, w ∈ spl c l → c ∉ w
  | [], w, h => by
    have : w = [] := by simpa [spl] using h
    subst this
    simp
  | x :: l, w, h => by
    unfold spl at h
    split at h
    · rcases List.mem_cons.1 h with e | e
      · subst e; simp
      · exact spl_mem e
    · rename_i hx
      split at h
      · rename_i e
        exact absurd e (spl_ne c l)
      · rename_i v vs e
        have hv : ∀ u ∈ v :: vs, c ∉ u := fun u hu => spl_mem (l := l) (by rw [e]; exact hu)
        rcases List.mem_cons.1 h with q | q
        · subst q
          intro hm
          rcases List.mem_cons.1 hm with q | q
          · exact hx q.symm
          · exact hv v (by simp) q
        · exact hv w (List.mem_cons_of_mem _ q)
/-- words put together -/
def jn (c : UInt8) : List Tx → Tx
  | [] => []
  | w :: ws => w ++ (ws.map (c :: ·)).flatten
theorem jn_cons (c : UInt8) (w v : Tx) (ws : List Tx) : jn c (w :: v :: ws) = w ++ c :: jn c (v :: ws) := by simp [jn]
theorem lib_join (c : UInt8) : ∀ ws : List Tx, Lib.join ws [c] = jn c ws
  | [] => rfl
  | w :: ws => by
    rw [Lib.join_cons, jn]
    rfl
theorem jn_spl (c : UInt8) : ∀ s : Tx, jn c (spl c s) = s
  | [] => rfl
  | x :: l => by
    have ih := jn_spl c l
    unfold spl
    split
    · rename_i e
      subst e
      cases h : spl x l with
      | nil => exact absurd h (spl_ne x l)
      | cons v vs => rw [jn_cons, ← h, ih]; rfl
    · cases h : spl c l with
      | nil => exact absurd h (spl_ne c l)
      | cons v vs =>
        rw [h] at ih
        show (x :: v) ++ _ = _
        show x :: (v ++ _) = _
        congr 1
theorem spl_jn {c : UInt8} : ∀ {ws : List Tx}, ws ≠ [] → (∀ w ∈ ws, c ∉ w) → spl c (jn c ws) = ws
  | [], h, _ => absurd rfl h
  | [w], _, h => by
    show spl c (w ++ []) = _
    rw [List.append_nil]
    exact spl_no (h w (by simp))
  | w :: v :: ws, _, h => by
    rw [jn_cons, spl_app _ (h w (by simp)), spl_jn (by simp) (fun u hu => h u (List.mem_cons_of_mem _ hu))]
theorem spl_len (c : UInt8) : ∀ s : Tx, (spl c s).length = s.count c + 1
  | [] => rfl
  | x :: l => by
    have ih := spl_len c l
    unfold spl
    split
    · rename_i e
      subst e
      rw [List.length_cons, ih, List.count_cons_self]
    · rename_i e
      rw [List.count_cons_of_ne e]
      cases h : spl c l with
      | nil => exact absurd h (spl_ne c l)
      | cons v vs => rw [← ih, h]; rfl
theorem lib_split (c : UInt8) : ∀ (n : Nat) (s : Tx), s.length ≤ n → Lib.split s [c] = spl c s := by
  intro n
  induction n with
  | zero =>
    intro s hs
    have : s = [] := List.eq_nil_of_length_eq_zero (by omega)
    subst this
    unfold Lib.split
    rw [Lib.count_miss (by rfl)]
    rfl
  | succ n ih =>
    intro s hs
    rcases Lib.index_spec s [c] with ⟨h1, h2⟩ | ⟨i, h1, h2, h3, h4⟩
    · have hc : c ∉ s := fun hm => by
        obtain ⟨j, hj, e⟩ := List.mem_iff_getElem.1 hm
        have := h2 j (by omega)
        rw [Lib.occAt_iff_take s [c] j (by simp; omega)] at this
        have e2 : (s.drop j).take [c].length = [c] := by
          rw [List.drop_eq_getElem_cons hj, e]; rfl
        rw [e2] at this
        simp at this
      unfold Lib.split
      rw [Lib.count_miss h1, spl_no hc]
      rfl
    · have hlt : i < s.length := by
        have := Lib.index_room s [c] (by omega)
        rw [h1] at this
        simp at this
        omega
      have hci : s[i] = c := by
        have := Lib.occAt_head (c := c) (t := []) rfl h3
        rw [List.getElem?_eq_getElem hlt] at this
        exact Option.some.inj this
      have hno : c ∉ s.take i := fun hm => by
        obtain ⟨j, hj, e⟩ := List.mem_iff_getElem.1 hm
        rw [List.length_take] at hj
        have h5 := h4 j (by omega)
        rw [Lib.occAt_iff_take s [c] j (by simp; omega)] at h5
        rw [List.getElem_take] at e
        have e2 : (s.drop j).take [c].length = [c] := by
          rw [List.drop_eq_getElem_cons (show j < s.length by omega), e]; rfl
        rw [e2] at h5
        simp at h5
      have hs2 : s = s.take i ++ c :: s.drop (i + 1) := by
        rw [← hci, ← List.drop_eq_getElem_cons hlt, List.take_append_drop]
      have hcount := Lib.count_hit (s := s) (sub := [c]) (by simp) h1
      have hd := ih (s.drop (i + 1)) (by rw [List.length_drop]; omega)
      unfold Lib.split at hd ⊢
      rw [hcount]
      rw [show 1 + Lib.count (s.drop (i + [c].length)) [c] = Lib.count (s.drop (i + 1)) [c] + 1 by rw [List.length_singleton]; omega]
      rw [Lib.splitK, if_neg (by rw [h1]; simp), h1]
      have e3 : spl c s = s.take i :: spl c (s.drop (i + 1)) := by
        conv => lhs; rw [hs2]
        exact spl_app _ hno
      rw [e3]
      congr 1
/-! ### numerals -/
def dgB (b : UInt8) : Bool := decide (48 ≤ b.toNat ∧ b.toNat ≤ 57)
theorem dg_val {b : UInt8} (h : dgB b = true) : Lib.digitVal b = some (b.toNat - 48) := by
  unfold dgB at h
  rw [decide_eq_true_eq] at h
  unfold Lib.digitVal
  rw [if_pos h]
theorem decFrom_append : ∀ (a b : Tx) (acc m : Nat), Lib.decFrom acc a = some m → Lib.decFrom acc (a ++ b) = Lib.decFrom m b
  | [], b, acc, m, h => by
    have : acc = m := by simpa [Lib.decFrom] using h
    subst this
    rfl
  | x :: a, b, acc, m, h => by
    simp only [Lib.decFrom, List.cons_append] at h ⊢
    cases hx : Lib.digitVal x with
    | none => rw [hx] at h; cases h
    | some d => rw [hx] at h; exact decFrom_append a b _ m h
/-- a row of digits that is no other number's -/
def canB (d : Tx) : Bool := decide (1 ≤ d.length) && d.all dgB && (d.getD 0 0 != 48 || decide (d.length = 1))
theorem can_value : ∀ (n : Nat) (d : Tx), d.length = n + 1 → d.all dgB = true → (d.getD 0 0 ≠ 48 ∨ n = 0) → ∃ u, Lib.decFrom 0 d = some u ∧ Lib.decDigits u = d ∧ (d.getD 0 0 ≠ 48 → 0 < u)
  | 0, d, hl, hd, _ => by
    match d, hl with
    | [b], _ => 
      have hb : dgB b = true := by simpa using hd
      have hb2 := hb
      unfold dgB at hb2
      rw [decide_eq_true_eq] at hb2
      refine ⟨b.toNat - 48, ?_, ?_, fun h => ?_⟩
      · show (match Lib.digitVal b with | some d => Lib.decFrom (0 * 10 + d) [] | none => none) = _
        rw [dg_val hb]
        simp [Lib.decFrom]
      · rw [Lib.decDigits_one (by omega)]
        congr 1
        rw [show 48 + (b.toNat - 48) = b.toNat by omega]
        exact UInt8.ofNat_toNat
      · have h2 : b ≠ 48 := h
        have : b.toNat ≠ 48 := fun e => h2 (UInt8.toNat_inj.1 e)
        omega
  | n + 1, d, hl, hd, hz => by
    have hne : d ≠ [] := fun e => by subst e; simp at hl
    have hsp : d = d.dropLast ++ [d.getLast hne] := (List.dropLast_concat_getLast hne).symm
    have hl2 : d.dropLast.length = n + 1 := by rw [List.length_dropLast]; omega
    have hd2 : d.dropLast.all dgB = true := by
      rw [List.all_eq_true] at hd ⊢
      exact fun x hx => hd x ((List.dropLast_sublist d).subset hx)
    have hb : dgB (d.getLast hne) = true := by
      rw [List.all_eq_true] at hd
      exact hd _ (List.getLast_mem hne)
    have h0 : d.dropLast.getD 0 0 = d.getD 0 0 := by
      rw [List.getD_eq_getElem?_getD, List.getD_eq_getElem?_getD, List.getElem?_eq_getElem (by omega), List.getElem?_eq_getElem (by omega), List.getElem_dropLast]
    have hz2 : d.getD 0 0 ≠ 48 := by
      rcases hz with h | h
      · exact h
      · omega
    obtain ⟨u, h1, h2, h3⟩ := can_value n d.dropLast hl2 hd2 (.inl (by rw [h0]; exact hz2))
    have hu := h3 (by rw [h0]; exact hz2)
    generalize d.getLast hne = b at *
    have hb2 := hb
    unfold dgB at hb2
    rw [decide_eq_true_eq] at hb2
    refine ⟨u * 10 + (b.toNat - 48), ?_, ?_, fun _ => by omega⟩
    · rw [hsp, decFrom_append _ _ _ _ h1]
      show (match Lib.digitVal b with | some d => Lib.decFrom (u * 10 + d) [] | none => none) = _
      rw [dg_val hb]
      rfl
    · rw [Lib.decDigits, dif_neg (by omega), show (u * 10 + (b.toNat - 48)) / 10 = u by omega, show (u * 10 + (b.toNat - 48)) % 10 = b.toNat - 48 by omega, h2, show 48 + (b.toNat - 48) = b.toNat by omega]
      rw [hsp]
      congr 2
      · rw [← hsp]
      · exact UInt8.ofNat_toNat
theorem dec_can (u : Nat) : (Lib.decDigits u).all dgB = true ∧ 1 ≤ (Lib.decDigits u).length ∧ Lib.decFrom 0 (Lib.decDigits u) = some u ∧ ((Lib.decDigits u).getD 0 0 ≠ 48 ∨ u = 0) := by
  have hdg : ∀ k, k < 10 → dgB (UInt8.ofNat (48 + k)) = true ∧ (UInt8.ofNat (48 + k)).toNat = 48 + k := fun k hk => by
    have : (UInt8.ofNat (48 + k)).toNat = 48 + k := by
      rw [UInt8.toNat_ofNat']
      omega
    exact ⟨by unfold dgB; rw [this]; simp; omega, this⟩
  induction u using Nat.strongRecOn with
  | _ u ih =>
    by_cases h : u < 10
    · rw [Lib.decDigits_one h]
      obtain ⟨h1, h2⟩ := hdg u h
      refine ⟨by simpa using h1, by simp, ?_, ?_⟩
      · show (match Lib.digitVal (UInt8.ofNat (48 + u)) with | some d => Lib.decFrom (0 * 10 + d) [] | none => none) = _
        rw [dg_val h1, h2]
        simp [Lib.decFrom]
      · by_cases e : u = 0
        · exact .inr e
        · left
          show UInt8.ofNat (48 + u) ≠ 48
          intro e2
          have : (UInt8.ofNat (48 + u)).toNat = 48 := by rw [e2]; rfl
          omega
    · obtain ⟨i1, i2, i3, i4⟩ := ih (u / 10) (by omega)
      obtain ⟨h1, h2⟩ := hdg (u % 10) (by omega)
      rw [Lib.decDigits, dif_neg h]
      refine ⟨by rw [List.all_append, i1]; simpa using h1, by simp, ?_, .inl ?_⟩
      · rw [decFrom_append _ _ _ _ i3]
        show (match Lib.digitVal (UInt8.ofNat (48 + u % 10)) with | some d => Lib.decFrom (u / 10 * 10 + d) [] | none => none) = _
        rw [dg_val h1, h2]
        show some _ = some _
        congr 1
        omega
      · rw [List.getD_eq_getElem?_getD, List.getElem?_append_left (by omega), ← List.getD_eq_getElem?_getD]
        rcases i4 with i4 | i4
        · exact i4
        · omega
end Go.Proofs.YtegimepmccilfaaGreatDoor
namespace Go.Proofs.YtegimepmccilfaaGreatDoor
set_option linter.unusedVariables false
set_option linter.unusedSimpArgs false
def digsT : Tx := [48, 49, 50, 51, 52, 53, 54, 55, 56, 57]
theorem digs_iff (b : UInt8) : digsT.contains b = dgB b := by
  unfold dgB
  rw [Bool.eq_iff_iff, decide_eq_true_eq, List.contains_iff_mem]
  constructor
  · intro h
    simp only [digsT, List.mem_cons, List.not_mem_nil, or_false] at h
    rcases h with h | h | h | h | h | h | h | h | h | h <;> subst h <;> decide
  · rintro ⟨h1, h2⟩
    have : b = UInt8.ofNat b.toNat := by simp
    rw [this]
    generalize b.toNat = k at *
    have : k = 48 ∨ k = 49 ∨ k = 50 ∨ k = 51 ∨ k = 52 ∨ k = 53 ∨ k = 54 ∨ k = 55 ∨ k = 56 ∨ k = 57 := by omega
    rcases this with h | h | h | h | h | h | h | h | h | h <;> subst h <;> decide
theorem drop_all {p : UInt8 → Bool} : ∀ (l : Tx), l.dropWhile p = [] ↔ l.all p = true
  | [] => by simp
  | x :: l => by
    have := drop_all (p := p) l
    rw [List.dropWhile_cons]
    by_cases h : p x = true
    · rw [if_pos h, this, List.all_cons, h, Bool.true_and]
    · rw [if_neg h, List.all_cons]
      simp [h]
theorem trim_digs (d : Tx) : Lib.trimS d digsT = [] ↔ d.all dgB = true := by
  have e : (fun b => digsT.contains b) = dgB := funext digs_iff
  unfold Lib.trimS Lib.trimLeftS Lib.trimRightS
  rw [e]
  constructor
  · intro h
    rw [drop_all] at h
    rw [List.all_eq_true] at h ⊢
    intro x hx
    by_cases hb : dgB x = true
    · exact hb
    · -- the part cut off at the end holds digits alone
      have h2 : x ∈ (d.reverse.dropWhile dgB).reverse := by
        rw [List.mem_reverse]
        have h3 : d.reverse = d.reverse.takeWhile dgB ++ d.reverse.dropWhile dgB := List.takeWhile_append_dropWhile.symm
        have h4 : x ∈ d.reverse := List.mem_reverse.2 hx
        rw [h3, List.mem_append] at h4
        rcases h4 with h4 | h4
        · exact absurd (List.all_eq_true.1 List.all_takeWhile x h4) hb
        · exact h4
      exact h x h2
  · intro h
    have h2 : d.reverse.dropWhile dgB = [] := (drop_all _).2 (by rw [List.all_reverse]; exact h)
    rw [h2]
    rfl
/-- what a word says as a number: the program's test -/
def nmR (w : Tx) : Option Int := if (1 ≤ (Lib.trimPrefix w [45]).length ∧ (Lib.trimPrefix w [45]).length ≤ 10) ∧ (Lib.trimPrefix w [45]).all dgB = true ∧ ¬ ((Lib.trimPrefix w [45]).getD 0 0 = 48 ∧ w ≠ [48]) then Lib.atoi w else none
theorem trim_minus (w : Tx) : (∃ d, w = 45 :: d ∧ Lib.trimPrefix w [45] = d) ∨ ((∀ d, w ≠ 45 :: d) ∧ Lib.trimPrefix w [45] = w) := by
  cases w with
  | nil => exact .inr ⟨fun d h => (by cases h), rfl⟩
  | cons x d =>
    by_cases e : x = 45
    · subst e
      exact .inl ⟨d, rfl, by unfold Lib.trimPrefix Lib.hasPrefix; simp⟩
    · refine .inr ⟨fun d' h => e (by injection h), ?_⟩
      unfold Lib.trimPrefix Lib.hasPrefix
      rw [if_neg]
      simp [List.isPrefixOf]
      exact fun h => e h.symm
theorem atoi_digits {d : Tx} (h : d.all dgB = true) (h1 : 1 ≤ d.length) : Lib.atoi d = (Lib.decNat d).map fun (m : Nat) => (m : Int) := by
  cases d with
  | nil => simp at h1
  | cons b r =>
    have hb : dgB b = true := by
      rw [List.all_cons, Bool.and_eq_true] at h
      exact h.1
    unfold dgB at hb
    rw [decide_eq_true_eq] at hb
    have e1 : (b == 45) = false := by
      rw [beq_eq_false_iff_ne]
      intro e; subst e; revert hb; decide
    have e2 : (b == 43) = false := by
      rw [beq_eq_false_iff_ne]
      intro e; subst e; revert hb; decide
    show (if (b == 45) = true then (Lib.decNat r).map (fun (m : Nat) => -(m : Int)) else if (b == 43) = true then (Lib.decNat r).map (fun (m : Nat) => (m : Int)) else (Lib.decNat (b :: r)).map fun (m : Nat) => (m : Int)) = _
    rw [e1, e2]
    rfl
theorem atoi_neg (d : Tx) : Lib.atoi (45 :: d) = (Lib.decNat d).map fun (m : Nat) => -(m : Int) := rfl
theorem dec_nat_some {d : Tx} {u : Nat} (h1 : 1 ≤ d.length) (h : Lib.decFrom 0 d = some u) : Lib.decNat d = some u := by
  unfold Lib.decNat
  cases d with
  | nil => simp at h1
  | cons b r => exact h
/-- what is read as a number is that number's numeral -/
theorem nm_some {w : Tx} {n : Int} (h : nmR w = some n) : w = Lib.itoa n ∧ (-9999999999 ≤ n ∧ n ≤ 9999999999) := by
  unfold nmR at h
  split at h
  · rename_i hc
    obtain ⟨⟨h1, h2⟩, h3, h4⟩ := hc
    rcases trim_minus w with ⟨d, e1, e2⟩ | ⟨e1, e2⟩
    · rw [e2] at h1 h2 h3 h4
      have hz : d.getD 0 0 ≠ 48 := fun e => h4 ⟨e, by rw [e1]; intro e; cases e⟩
      obtain ⟨u, v1, v2, v3⟩ := can_value (d.length - 1) d (by omega) h3 (.inl hz)
      have hu := v3 hz
      have hb := Lib.decFrom_lt d 0 u v1
      have hp : (10 : Nat) ^ d.length ≤ 10 ^ 10 := Nat.pow_le_pow_right (by decide) h2
      subst e1
      have ha : Lib.atoi (45 :: d) = some (-(u : Int)) := by
        rw [atoi_neg, dec_nat_some h1 v1]
        rfl
      rw [ha] at h
      injection h with h
      subst h
      refine ⟨?_, by omega, by omega⟩
      unfold Lib.itoa
      rw [if_pos (by omega)]
      congr 1
      rw [show (-(u : Int)).natAbs = u by omega]
      exact v2.symm
    · rw [e2] at h1 h2 h3 h4
      have hz : w.getD 0 0 ≠ 48 ∨ w.length - 1 = 0 := by
        by_cases e : w.getD 0 0 = 48
        · right
          have : w = [48] := by
            false_or_by_contra
            exact h4 ⟨e, by assumption⟩
          rw [this]; rfl
        · exact .inl e
      obtain ⟨u, v1, v2, v3⟩ := can_value (w.length - 1) w (by omega) h3 hz
      have hb := Lib.decFrom_lt w 0 u v1
      have hp : (10 : Nat) ^ w.length ≤ 10 ^ 10 := Nat.pow_le_pow_right (by decide) h2
      rw [atoi_digits h3 h1, dec_nat_some h1 v1] at h
      have h : (u : Int) = n := by simpa using h
      subst h
      refine ⟨?_, by omega, by omega⟩
      unfold Lib.itoa
      rw [if_neg (by omega), Int.toNat_natCast]
      exact v2.symm
  · cases h
theorem dec_len {u : Nat} (h : u ≤ 9999999999) : (Lib.decDigits u).length ≤ 10 := by
  rw [Lib.decDigits_length]
  false_or_by_contra
  have key : ∀ u, u ≤ 9999999999 → Lib.nDigits u ≤ 10 := by
    intro u hu
    by_cases e0 : u = 0
    · subst e0; decide +kernel
    · have : ∃ k, k ≤ 9 ∧ 10 ^ k ≤ u ∧ u < 10 ^ (k + 1) := by
        by_cases c1 : u < 10
        · exact ⟨0, by omega, by omega, by omega⟩
        by_cases c2 : u < 100
        · exact ⟨1, by omega, by omega, by omega⟩
        by_cases c3 : u < 1000
        · exact ⟨2, by omega, by omega, by omega⟩
        by_cases c4 : u < 10000
        · exact ⟨3, by omega, by omega, by omega⟩
        by_cases c5 : u < 100000
        · exact ⟨4, by omega, by omega, by omega⟩
        by_cases c6 : u < 1000000
        · exact ⟨5, by omega, by omega, by omega⟩
        by_cases c7 : u < 10000000
        · exact ⟨6, by omega, by omega, by omega⟩
        by_cases c8 : u < 100000000
        · exact ⟨7, by omega, by omega, by omega⟩
        by_cases c9 : u < 1000000000
        · exact ⟨8, by omega, by omega, by omega⟩
        · exact ⟨9, by omega, by omega, by omega⟩
      obtain ⟨k, h1, h2, h3⟩ := this
      rw [Lib.nDigits_unique k u h2 h3]
      omega
  have := key u h
  omega
/-- a number's numeral is read as that number -/
theorem nm_itoa {n : Int} (h : -9999999999 ≤ n ∧ n ≤ 9999999999) : nmR (Lib.itoa n) = some n := by
  unfold nmR Lib.itoa
  by_cases hn : n < 0
  · rw [if_pos hn]
    obtain ⟨h1, h2, h3, h4⟩ := dec_can n.natAbs
    have hl := dec_len (u := n.natAbs) (by omega)
    have et : Lib.trimPrefix (45 :: Lib.decDigits n.natAbs) [45] = Lib.decDigits n.natAbs := by unfold Lib.trimPrefix Lib.hasPrefix; simp
    rw [et, if_pos ⟨⟨h2, hl⟩, h1, fun hc => by rcases h4 with h4 | h4; exact h4 hc.1; omega⟩]
    rw [atoi_neg, dec_nat_some h2 h3]
    show some (-((n.natAbs : Nat) : Int)) = some n
    congr 1
    omega
  · rw [if_neg hn]
    obtain ⟨h1, h2, h3, h4⟩ := dec_can n.toNat
    have hl := dec_len (u := n.toNat) (by omega)
    have et : Lib.trimPrefix (Lib.decDigits n.toNat) [45] = Lib.decDigits n.toNat := by
      rcases trim_minus (Lib.decDigits n.toNat) with ⟨d, e1, _⟩ | ⟨_, e2⟩
      · rw [e1] at h1
        simp [dgB] at h1
      · exact e2
    rw [et, if_pos ⟨⟨h2, hl⟩, h1, fun hc => by
      rcases h4 with h4 | h4
      · exact h4 hc.1
      · apply hc.2
        rw [h4, Lib.decDigits_one (by decide)]
        rfl⟩]
    rw [atoi_digits h1 h2, dec_nat_some h2 h3]
    show some ((n.toNat : Nat) : Int) = some n
    congr 1
    omega
/-- a numeral holds digits and '-' alone -/
theorem itoa_mem {n : Int} {b : UInt8} (h : b ∈ Lib.itoa n) : b = 45 ∨ dgB b = true := by
  unfold Lib.itoa at h
  split at h
  · rcases List.mem_cons.1 h with e | e
    · exact .inl e
    · exact .inr (List.all_eq_true.1 (dec_can n.natAbs).1 b e)
  · exact .inr (List.all_eq_true.1 (dec_can n.toNat).1 b h)
theorem itoa_free {n : Int} {c : UInt8} (hc : c = 32 ∨ c = 58 ∨ c = 10) : c ∉ Lib.itoa n := fun h => by
  rcases itoa_mem h with e | e
  · subst e; rcases hc with h | h | h <;> cases h
  · rcases hc with h | h | h <;> subst h <;> revert e <;> decide
end Go.Proofs.YtegimepmccilfaaGreatDoor
namespace Go.Proofs.YtegimepmccilfaaGreatDoor
set_option linter.unusedVariables false
set_option linter.unusedSimpArgs false
def stripsT : Tx := [115, 116, 114, 105, 112, 115]
def tubesT : Tx := [116, 117, 98, 101, 115]
def filmT : Tx := [102, 105, 108, 109]
def viewxT : Tx := [120]
def viewyT : Tx := [121]
def driftT : Tx := [100, 114, 105, 102, 116]
def deadT : Tx := [100, 101, 97, 100]
def setupT : Tx := [115, 101, 116, 117, 112, 32]
abbrev DR := Int × Int × Int
structure PP where
  kind : Int
  view : Int
  ns : List Int
  dr : List DR
  de : List Int
def N10 (n : Int) : Prop := -9999999999 ≤ n ∧ n ≤ 9999999999
structure PP.Ok (p : PP) : Prop where
  kind : 1 ≤ p.kind ∧ p.kind ≤ 3
  view : 1 ≤ p.view ∧ p.view ≤ 2
  len : p.ns.length = 11
  ns : ∀ n ∈ p.ns, N10 n
  dr : ∀ d ∈ p.dr, N10 d.1 ∧ N10 d.2.1 ∧ N10 d.2.2
  de : ∀ n ∈ p.de, N10 n
/-! ### printing -/
def kindT (k : Int) : Tx := if k = 1 then stripsT else if k = 2 then tubesT else filmT
def viewT (v : Int) : Tx := if v = 1 then viewxT else viewyT
def drT (d : DR) : Tx := jn 58 [Lib.itoa d.1, Lib.itoa d.2.1, Lib.itoa d.2.2]
def drW (l : List DR) : List Tx := if l = [] then [] else driftT :: l.map drT
def deW (l : List Int) : List Tx := if l = [] then [] else deadT :: l.map Lib.itoa
def ppW (p : PP) : List Tx := kindT p.kind :: viewT p.view :: (p.ns.map Lib.itoa ++ (drW p.dr ++ deW p.de))
def ppT (p : PP) : Tx := jn 32 (ppW p)
def filT (ps : List PP) : Tx := setupT ++ (Lib.itoa (ps.length : Int) ++ 10 :: (ps.map (fun p => ppT p ++ [10])).flatten)
/-! ### reading -/
def kindR (w : Tx) : Option Int := if w = stripsT then some 1 else if w = tubesT then some 2 else if w = filmT then some 3 else none
def viewR (w : Tx) : Option Int := if w = viewxT then some 1 else if w = viewyT then some 2 else none
def drR3 : List Tx → Option DR
  | [a, b, c] => match nmR a, nmR b, nmR c with
    | some x, some y, some z => some (x, y, z)
    | _, _, _ => none
  | _ => none
def drR (w : Tx) : Option DR := drR3 (spl 58 w)
def drsR : List Tx → Option (List DR × List Tx)
  | [] => some ([], [])
  | w :: ws => if w = deadT then some ([], w :: ws) else match drR w with
    | none => none
    | some d => match drsR ws with
      | none => none
      | some (l, r) => some (d :: l, r)
def nmsR : List Tx → Option (List Int)
  | [] => some []
  | w :: ws => match nmR w with
    | none => none
    | some n => match nmsR ws with
      | none => none
      | some l => some (n :: l)
def deR : List Tx → Option (List Int)
  | [] => some []
  | w :: r => if w = deadT then match nmsR r with
      | none => none
      | some l => if l = [] then none else some l
    else none
def tailR : List Tx → Option (List DR × List Int)
  | [] => some ([], [])
  | w :: r => if w = driftT then match drsR r with
      | none => none
      | some (l, r2) => if l = [] then none else match deR r2 with
        | none => none
        | some e => some (l, e)
    else match deR (w :: r) with
      | none => none
      | some e => some ([], e)
def lineR : List Tx → Option PP
  | k :: v :: r => match kindR k, viewR v with
    | some a, some b => if 11 ≤ r.length then match nmsR (r.take 11), tailR (r.drop 11) with
        | some ns, some (d, e) => some ⟨a, b, ns, d, e⟩
        | _, _ => none
      else none
    | _, _ => none
  | _ => none
def lnsR : List Tx → Option (List PP)
  | [] => some []
  | l :: ls => match lineR (spl 32 l) with
    | none => none
    | some p => match lnsR ls with
      | none => none
      | some ps => some (p :: ps)
def headR : List Tx → Option (List PP)
  | [] => none
  | h :: r => if Lib.hasPrefix h setupT = true then match nmR (h.drop 6) with
      | none => none
      | some n => if n = (r.length : Int) then lnsR r else none
    else none
def filR (t : Tx) : Option (List PP) := if Lib.hasSuffix t [10] = true then headR (spl 10 (Lib.trimSuffix t [10])) else none
/-! ### what is printed is read -/
theorem kind_T {k : Int} (h : 1 ≤ k ∧ k ≤ 3) : kindR (kindT k) = some k := by
  have : k = 1 ∨ k = 2 ∨ k = 3 := by omega
  rcases this with e | e | e <;> subst e <;> decide
theorem view_T {k : Int} (h : 1 ≤ k ∧ k ≤ 2) : viewR (viewT k) = some k := by
  have : k = 1 ∨ k = 2 := by omega
  rcases this with e | e <;> subst e <;> decide
theorem nms_T : ∀ {l : List Int}, (∀ n ∈ l, N10 n) → nmsR (l.map Lib.itoa) = some l
  | [], _ => rfl
  | n :: l, h => by
    rw [List.map_cons, nmsR, nm_itoa (h n (by simp)), nms_T (fun m hm => h m (List.mem_cons_of_mem _ hm))]
theorem dr_T {d : DR} (h : N10 d.1 ∧ N10 d.2.1 ∧ N10 d.2.2) : drR (drT d) = some d := by
  unfold drR drT
  rw [spl_jn (by simp) (fun w hw => by
    simp only [List.mem_cons, List.not_mem_nil, or_false] at hw
    rcases hw with e | e | e <;> subst e <;> exact itoa_free (.inr (.inl rfl)))]
  simp only [drR3, nm_itoa h.1, nm_itoa h.2.1, nm_itoa h.2.2]
theorem dr_ne (d : DR) : drT d ≠ deadT := fun e => by
  have h : (58 : UInt8) ∈ drT d := by unfold drT; simp [jn]
  rw [e] at h
  revert h
  decide
theorem drs_T : ∀ {l : List DR} (r : List Tx), (∀ d ∈ l, N10 d.1 ∧ N10 d.2.1 ∧ N10 d.2.2) → (r = [] ∨ ∃ r2, r = deadT :: r2) → drsR (l.map drT ++ r) = some (l, r)
  | [], r, _, hr => by
    rcases hr with e | ⟨r2, e⟩
    · subst e; rfl
    · subst e
      show drsR (deadT :: r2) = _
      rw [drsR, if_pos rfl]
  | d :: l, r, h, hr => by
    show drsR (drT d :: (l.map drT ++ r)) = _
    rw [drsR, if_neg (dr_ne d), dr_T (h d (by simp)), drs_T r (fun x hx => h x (List.mem_cons_of_mem _ hx)) hr]
theorem de_T {l : List Int} (h : ∀ n ∈ l, N10 n) : deR (deW l) = some l := by
  unfold deW
  by_cases e : l = []
  · rw [if_pos e, e]; rfl
  · rw [if_neg e, deR, if_pos rfl, nms_T h]
    show (if l = [] then none else some l) = _
    rw [if_neg e]
theorem deW_cases (l : List Int) : deW l = [] ∨ ∃ r2, deW l = deadT :: r2 := by
  unfold deW
  split
  · exact .inl rfl
  · exact .inr ⟨_, rfl⟩
theorem tail_T {dr : List DR} {de : List Int} (h1 : ∀ d ∈ dr, N10 d.1 ∧ N10 d.2.1 ∧ N10 d.2.2) (h2 : ∀ n ∈ de, N10 n) : tailR (drW dr ++ deW de) = some (dr, de) := by
  by_cases e : dr = []
  · subst e
    show tailR (deW de) = _
    have h3 := de_T h2
    rcases deW_cases de with q | ⟨r2, q⟩
    · rw [q] at h3 ⊢
      have h4 : some [] = some de := h3
      injection h4 with h4
      rw [← h4]
      rfl
    · rw [q] at h3 ⊢
      rw [tailR, if_neg (by decide), h3]
  · unfold drW
    rw [if_neg e]
    show tailR (driftT :: (dr.map drT ++ deW de)) = _
    rw [tailR, if_pos rfl, drs_T _ h1 (deW_cases de)]
    show (if dr = [] then none else _) = _
    rw [if_neg e, de_T h2]
theorem line_T {p : PP} (h : p.Ok) : lineR (ppW p) = some p := by
  unfold ppW
  rw [lineR, kind_T h.kind, view_T h.view]
  have hl : (p.ns.map Lib.itoa).length = 11 := by rw [List.length_map]; exact h.len
  show (if 11 ≤ (p.ns.map Lib.itoa ++ (drW p.dr ++ deW p.de)).length then _ else none) = _
  rw [if_pos (by rw [List.length_append]; omega), List.take_left' hl, List.drop_left' hl, nms_T h.ns, tail_T h.dr h.de]
theorem pp_free {p : PP} {c : UInt8} (hc : c = 32 ∨ c = 10) : ∀ w ∈ ppW p, c ∉ w := by
  intro w hw
  unfold ppW at hw
  have hk : c ∉ kindT p.kind := by
    unfold kindT
    split
    · rcases hc with e | e <;> subst e <;> decide
    · split
      · rcases hc with e | e <;> subst e <;> decide
      · rcases hc with e | e <;> subst e <;> decide
  have hv : c ∉ viewT p.view := by
    unfold viewT
    split
    · rcases hc with e | e <;> subst e <;> decide
    · rcases hc with e | e <;> subst e <;> decide
  have hi : ∀ n, c ∉ Lib.itoa n := fun n => itoa_free (by rcases hc with e | e; exact .inl e; exact .inr (.inr e))
  have hd : ∀ d : DR, c ∉ drT d := fun d hm => by
    have e58 : c ≠ 58 := by rcases hc with e | e <;> subst e <;> decide
    unfold drT at hm
    simp only [jn, List.map_cons, List.map_nil, List.flatten_cons, List.flatten_nil, List.append_nil, List.mem_append, List.mem_cons] at hm
    rcases hm with hm | ((hm | hm) | (hm | hm))
    · exact hi _ hm
    · exact e58 hm
    · exact hi _ hm
    · exact e58 hm
    · exact hi _ hm
  rcases List.mem_cons.1 hw with e | hw
  · subst e; exact hk
  · rcases List.mem_cons.1 hw with e | hw
    · subst e; exact hv
    · rw [List.mem_append, List.mem_append] at hw
      rcases hw with hw | hw | hw
      · obtain ⟨n, _, rfl⟩ := List.mem_map.1 hw
        exact hi n
      · unfold drW at hw
        split at hw
        · cases hw
        · rcases List.mem_cons.1 hw with e | hw
          · subst e; rcases hc with e | e <;> subst e <;> decide
          · obtain ⟨d, _, rfl⟩ := List.mem_map.1 hw
            exact hd d
      · unfold deW at hw
        split at hw
        · cases hw
        · rcases List.mem_cons.1 hw with e | hw
          · subst e; rcases hc with e | e <;> subst e <;> decide
          · obtain ⟨n, _, rfl⟩ := List.mem_map.1 hw
            exact hi n
theorem pp_words (p : PP) : spl 32 (ppT p) = ppW p := spl_jn (by simp [ppW]) (pp_free (.inl rfl))
theorem jn_free {c b : UInt8} (hb : b ≠ c) : ∀ {ws : List Tx}, (∀ w ∈ ws, b ∉ w) → b ∉ jn c ws
  | [], _ => by simp [jn]
  | [w], h => by simpa [jn] using h w (by simp)
  | w :: v :: ws, h => by
    rw [jn_cons]
    intro hm
    rcases List.mem_append.1 hm with hm | hm
    · exact h w (by simp) hm
    · rcases List.mem_cons.1 hm with hm | hm
      · exact hb hm
      · exact jn_free hb (fun u hu => h u (List.mem_cons_of_mem _ hu)) hm
theorem ppT_free (p : PP) : (10 : UInt8) ∉ ppT p := jn_free (by decide) (pp_free (.inr rfl))
theorem lns_T : ∀ {ps : List PP}, (∀ p ∈ ps, p.Ok) → lnsR (ps.map ppT) = some ps
  | [], _ => rfl
  | p :: ps, h => by
    rw [List.map_cons, lnsR, pp_words, line_T (h p (by simp)), lns_T (fun q hq => h q (List.mem_cons_of_mem _ hq))]
/-- a file's lines -/
def filW (ps : List PP) : List Tx := (setupT ++ Lib.itoa (ps.length : Int)) :: ps.map ppT
theorem flat_lines : ∀ (h : Tx) (ls : List Tx), h ++ 10 :: (ls.map (· ++ [10])).flatten = jn 10 (h :: ls) ++ [10]
  | h, [] => by simp [jn]
  | h, l :: ls => by
    have ih := flat_lines l ls
    rw [jn_cons, List.append_assoc, List.cons_append, ← ih]
    simp
theorem fil_jn (ps : List PP) : filT ps = jn 10 (filW ps) ++ [10] := by
  unfold filT filW
  rw [← flat_lines, List.map_map, List.append_assoc]
  rfl
theorem suffix_one (a : Tx) (c : UInt8) : Lib.hasSuffix (a ++ [c]) [c] = true ∧ Lib.trimSuffix (a ++ [c]) [c] = a := by
  have h : Lib.hasSuffix (a ++ [c]) [c] = true := by
    unfold Lib.hasSuffix
    rw [List.isSuffixOf_iff_suffix]
    exact ⟨a, rfl⟩
  refine ⟨h, ?_⟩
  unfold Lib.trimSuffix
  rw [if_pos h]
  simp
theorem fil_T {ps : List PP} (h : ∀ p ∈ ps, p.Ok) (hl : ps.length ≤ 9999999999) : filR (filT ps) = some ps := by
  obtain ⟨h1, h2⟩ := suffix_one (jn 10 (filW ps)) 10
  unfold filR
  rw [fil_jn, if_pos h1, h2, spl_jn (by simp [filW]) (fun w hw => by
    unfold filW at hw
    rcases List.mem_cons.1 hw with e | hw
    · subst e
      intro hm
      rcases List.mem_append.1 hm with hm | hm
      · revert hm; decide
      · exact itoa_free (.inr (.inr rfl)) hm
    · obtain ⟨p, _, rfl⟩ := List.mem_map.1 hw
      exact ppT_free p)]
  unfold filW
  rw [headR, if_pos (by unfold Lib.hasPrefix; rw [List.isPrefixOf_iff_prefix]; exact ⟨_, rfl⟩)]
  rw [show (setupT ++ Lib.itoa (ps.length : Int)).drop 6 = Lib.itoa (ps.length : Int) from rfl, nm_itoa ⟨by omega, by omega⟩]
  show (if (ps.length : Int) = ((ps.map ppT).length : Int) then _ else none) = _
  rw [if_pos (by rw [List.length_map]), lns_T h]
/-! ### what is read is what was printed -/
theorem kind_R {w : Tx} {k : Int} (h : kindR w = some k) : kindT k = w ∧ (1 ≤ k ∧ k ≤ 3) := by
  unfold kindR at h
  split at h
  · rename_i e; injection h with h; subst h; subst e; exact ⟨rfl, by decide, by decide⟩
  · split at h
    · rename_i e; injection h with h; subst h; subst e; exact ⟨rfl, by decide, by decide⟩
    · split at h
      · rename_i e; injection h with h; subst h; subst e; exact ⟨rfl, by decide, by decide⟩
      · cases h
theorem view_R {w : Tx} {k : Int} (h : viewR w = some k) : viewT k = w ∧ (1 ≤ k ∧ k ≤ 2) := by
  unfold viewR at h
  split at h
  · rename_i e; injection h with h; subst h; subst e; exact ⟨rfl, by decide, by decide⟩
  · split at h
    · rename_i e; injection h with h; subst h; subst e; exact ⟨rfl, by decide, by decide⟩
    · cases h
theorem nms_R : ∀ {ws : List Tx} {l : List Int}, nmsR ws = some l → l.map Lib.itoa = ws ∧ ∀ n ∈ l, N10 n
  | [], l, h => by
    injection h with h
    subst h
    exact ⟨rfl, fun n hn => by cases hn⟩
  | w :: ws, l, h => by
    rw [nmsR] at h
    cases h1 : nmR w with
    | none => rw [h1] at h; cases h
    | some n =>
      rw [h1] at h
      cases h2 : nmsR ws with
      | none => rw [h2] at h; cases h
      | some l2 =>
        rw [h2] at h
        injection h with h
        subst h
        obtain ⟨e1, e2⟩ := nm_some h1
        obtain ⟨e3, e4⟩ := nms_R h2
        refine ⟨by rw [List.map_cons, e3, ← e1], fun m hm => ?_⟩
        rcases List.mem_cons.1 hm with q | q
        · subst q; exact e2
        · exact e4 m q
theorem dr_R {w : Tx} {d : DR} (h : drR w = some d) : drT d = w ∧ (N10 d.1 ∧ N10 d.2.1 ∧ N10 d.2.2) := by
  unfold drR at h
  have hj := jn_spl 58 w
  match hs : spl 58 w with
  | [a, b, c] =>
    rw [hs] at h hj
    cases h1 : nmR a with
    | none => simp [drR3, h1] at h
    | some x =>
      cases h2 : nmR b with
      | none => simp [drR3, h1, h2] at h
      | some y =>
        cases h3 : nmR c with
        | none => simp [drR3, h1, h2, h3] at h
        | some z =>
          simp only [drR3, h1, h2, h3] at h
          injection h with h
          subst h
          obtain ⟨e1, f1⟩ := nm_some h1
          obtain ⟨e2, f2⟩ := nm_some h2
          obtain ⟨e3, f3⟩ := nm_some h3
          refine ⟨?_, f1, f2, f3⟩
          unfold drT
          dsimp only
          rw [← e1, ← e2, ← e3]
          exact hj
  | [] => rw [hs] at h; cases h
  | [_] => rw [hs] at h; cases h
  | [_, _] => rw [hs] at h; cases h
  | _ :: _ :: _ :: _ :: _ => rw [hs] at h; cases h
theorem drs_R : ∀ {ws r : List Tx} {l : List DR}, drsR ws = some (l, r) → l.map drT ++ r = ws ∧ (∀ d ∈ l, N10 d.1 ∧ N10 d.2.1 ∧ N10 d.2.2)
  | [], r, l, h => by
    injection h with h
    injection h with h1 h2
    subst h1 h2
    exact ⟨rfl, fun d hd => by cases hd⟩
  | w :: ws, r, l, h => by
    rw [drsR] at h
    split at h
    · injection h with h
      injection h with h1 h2
      subst h1 h2
      exact ⟨rfl, fun d hd => by cases hd⟩
    · cases h1 : drR w with
      | none => rw [h1] at h; cases h
      | some d =>
        rw [h1] at h
        cases h2 : drsR ws with
        | none => rw [h2] at h; cases h
        | some q =>
          obtain ⟨l2, r2⟩ := q
          rw [h2] at h
          injection h with h
          injection h with h3 h4
          subst h3 h4
          obtain ⟨e1, e2⟩ := dr_R h1
          obtain ⟨e3, e4⟩ := drs_R h2
          refine ⟨by rw [List.map_cons, List.cons_append, e3, e1], fun x hx => ?_⟩
          rcases List.mem_cons.1 hx with q | q
          · subst q; exact e2
          · exact e4 x q
theorem de_R {ws : List Tx} {l : List Int} (h : deR ws = some l) : deW l = ws ∧ ∀ n ∈ l, N10 n := by
  cases ws with
  | nil =>
    injection h with h
    subst h
    exact ⟨rfl, fun n hn => by cases hn⟩
  | cons w r =>
    rw [deR] at h
    split at h
    · rename_i e
      cases h1 : nmsR r with
      | none => rw [h1] at h; cases h
      | some l2 =>
        rw [h1] at h
        dsimp only at h
        split at h
        · cases h
        · rename_i hne
          injection h with h
          subst h
          obtain ⟨e1, e2⟩ := nms_R h1
          refine ⟨?_, e2⟩
          unfold deW
          rw [if_neg hne, e1, e]
    · cases h
theorem tail_R {ws : List Tx} {dr : List DR} {de : List Int} (h : tailR ws = some (dr, de)) : drW dr ++ deW de = ws ∧ (∀ d ∈ dr, N10 d.1 ∧ N10 d.2.1 ∧ N10 d.2.2) ∧ ∀ n ∈ de, N10 n := by
  cases ws with
  | nil =>
    injection h with h
    injection h with h1 h2
    subst h1 h2
    exact ⟨rfl, fun d hd => (by cases hd), fun n hn => by cases hn⟩
  | cons w r =>
    rw [tailR] at h
    split at h
    · rename_i e
      cases h1 : drsR r with
      | none => rw [h1] at h; cases h
      | some q =>
        obtain ⟨l, r2⟩ := q
        rw [h1] at h
        dsimp only at h
        split at h
        · cases h
        · rename_i hne
          cases h2 : deR r2 with
          | none => rw [h2] at h; cases h
          | some e2 =>
            rw [h2] at h
            injection h with h
            injection h with h3 h4
            subst h3 h4
            obtain ⟨a1, a2⟩ := drs_R h1
            obtain ⟨b1, b2⟩ := de_R h2
            refine ⟨?_, a2, b2⟩
            unfold drW
            rw [if_neg hne, b1, List.cons_append, a1, e]
    · cases h2 : deR (w :: r) with
      | none => rw [h2] at h; cases h
      | some e2 =>
        rw [h2] at h
        injection h with h
        injection h with h3 h4
        subst h3 h4
        obtain ⟨b1, b2⟩ := de_R h2
        exact ⟨b1, fun d hd => (by cases hd), b2⟩
theorem line_R {ws : List Tx} {p : PP} (h : lineR ws = some p) : ppW p = ws ∧ p.Ok := by
  match ws, h with
  | k :: v :: r, h =>
    rw [lineR] at h
    cases h1 : kindR k with
    | none => rw [h1] at h; cases h
    | some a =>
      cases h2 : viewR v with
      | none => rw [h1, h2] at h; cases h
      | some b =>
        rw [h1, h2] at h
        dsimp only at h
        split at h
        · rename_i hl
          cases h3 : nmsR (r.take 11) with
          | none => rw [h3] at h; cases h
          | some ns =>
            cases h4 : tailR (r.drop 11) with
            | none => rw [h3, h4] at h; cases h
            | some q =>
              obtain ⟨d, e⟩ := q
              rw [h3, h4] at h
              injection h with h
              subst h
              obtain ⟨a1, a2⟩ := kind_R h1
              obtain ⟨b1, b2⟩ := view_R h2
              obtain ⟨c1, c2⟩ := nms_R h3
              obtain ⟨d1, d2, d3⟩ := tail_R h4
              have hlen : ns.length = 11 := by
                have := congrArg List.length c1
                rw [List.length_map, List.length_take] at this
                omega
              refine ⟨?_, a2, b2, hlen, c2, d2, d3⟩
              unfold ppW
              dsimp only
              rw [a1, b1, c1, d1, List.take_append_drop]
        · cases h
  | [], h => cases h
  | [_], h => cases h
theorem lns_R : ∀ {ls : List Tx} {ps : List PP}, lnsR ls = some ps → ps.map ppT = ls ∧ ∀ p ∈ ps, p.Ok
  | [], ps, h => by
    injection h with h
    subst h
    exact ⟨rfl, fun p hp => by cases hp⟩
  | l :: ls, ps, h => by
    rw [lnsR] at h
    cases h1 : lineR (spl 32 l) with
    | none => rw [h1] at h; cases h
    | some p =>
      rw [h1] at h
      cases h2 : lnsR ls with
      | none => rw [h2] at h; cases h
      | some qs =>
        rw [h2] at h
        injection h with h
        subst h
        obtain ⟨a1, a2⟩ := line_R h1
        obtain ⟨b1, b2⟩ := lns_R h2
        refine ⟨?_, fun q hq => ?_⟩
        · rw [List.map_cons, b1]
          congr 1
          unfold ppT
          rw [a1, jn_spl]
        · rcases List.mem_cons.1 hq with e | e
          · subst e; exact a2
          · exact b2 q e
theorem fil_R {t : Tx} {ps : List PP} (h : filR t = some ps) : filT ps = t ∧ ∀ p ∈ ps, p.Ok := by
  unfold filR at h
  split at h
  · rename_i hs
    have ht : Lib.trimSuffix t [10] ++ [10] = t := by
      unfold Lib.hasSuffix at hs
      rw [List.isSuffixOf_iff_suffix] at hs
      obtain ⟨a, rfl⟩ := hs
      rw [(suffix_one a 10).2]
    have hj := jn_spl 10 (Lib.trimSuffix t [10])
    cases hsp : spl 10 (Lib.trimSuffix t [10]) with
    | nil => rw [hsp] at h; cases h
    | cons hd r =>
      rw [hsp] at h hj
      rw [headR] at h
      split at h
      · rename_i hp
        cases h1 : nmR (hd.drop 6) with
        | none => rw [h1] at h; cases h
        | some n =>
          rw [h1] at h
          dsimp only at h
          split at h
          · rename_i hn
            obtain ⟨a1, a2⟩ := lns_R h
            obtain ⟨b1, b2⟩ := nm_some h1
            refine ⟨?_, a2⟩
            have hlen : ps.length = r.length := by rw [← a1, List.length_map]
            rw [fil_jn]
            unfold filW
            rw [a1, hlen, ← hn, ← b1]
            have he : setupT ++ hd.drop 6 = hd := by
              unfold Lib.hasPrefix at hp
              rw [List.isPrefixOf_iff_prefix] at hp
              obtain ⟨q, rfl⟩ := hp
              rfl
            rw [he, hj, ht]
          · cases h
      · cases h
  · cases h
end Go.Proofs.YtegimepmccilfaaGreatDoor
namespace Go.Proofs.YtegimepmccilfaaGreatDoor
set_option linter.unusedVariables false
set_option linter.unusedSimpArgs false
def setup5 : Tx := [115, 101, 116, 117, 112]
theorem spl_snoc (c : UInt8) : ∀ a : Tx, spl c (a ++ [c]) = spl c a ++ [[]]
  | [] => by simp [spl]
  | x :: a => by
    have ih := spl_snoc c a
    show spl c (x :: (a ++ [c])) = _
    by_cases e : x = c
    · rw [spl, if_pos e, spl, if_pos e, ih]; rfl
    · rw [spl, if_neg e, spl, if_neg e, ih]
      cases h : spl c a with
      | nil => exact absurd h (spl_ne c a)
      | cons v vs => rfl
theorem spl_last {c : UInt8} : ∀ {t : Tx}, (spl c t).getLast? = some [] → t = [] ∨ ∃ a, t = a ++ [c]
  | [], _ => .inl rfl
  | x :: l, h => by
    right
    cases hs : spl c l with
    | nil => exact absurd hs (spl_ne c l)
    | cons v vs =>
      by_cases e : x = c
      · have h2 : spl c (x :: l) = [] :: v :: vs := by rw [spl, if_pos e, hs]
        rw [h2, List.getLast?_cons_cons, ← hs] at h
        rcases spl_last h with q | ⟨a, q⟩
        · exact ⟨[], by rw [q, e]; rfl⟩
        · exact ⟨x :: a, by rw [q]; rfl⟩
      · have h2 : spl c (x :: l) = (x :: v) :: vs := by rw [spl, if_neg e, hs]
        rw [h2] at h
        cases vs with
        | nil => simp at h
        | cons u us =>
          rw [List.getLast?_cons_cons] at h
          have h3 : (spl c l).getLast? = some [] := by rw [hs, List.getLast?_cons_cons]; exact h
          rcases spl_last h3 with q | ⟨a, q⟩
          · subst q
            simp [spl] at hs
          · exact ⟨x :: a, by rw [q]; rfl⟩
/-- the document's reader of a file -/
def refR (t : Tx) : Option (List PP) :=
  if 2 ≤ (spl 10 t).length ∧ (spl 10 t).getLast? = some [] then
    if spl 32 ((spl 10 t).headD []) = [setup5, Lib.itoa (((spl 10 t).length - 2 : Nat) : Int)] then lnsR ((spl 10 t).tail.dropLast) else none
  else none
theorem head_ref {h : Tx} {k : Nat} (hk : k ≤ 9999999999) : (Lib.hasPrefix h setupT = true ∧ nmR (h.drop 6) = some (k : Int)) ↔ spl 32 h = [setup5, Lib.itoa (k : Int)] := by
  constructor
  · rintro ⟨h1, h2⟩
    obtain ⟨e, _⟩ := nm_some h2
    unfold Lib.hasPrefix at h1
    rw [List.isPrefixOf_iff_prefix] at h1
    obtain ⟨q, rfl⟩ := h1
    have e2 : (setupT ++ q).drop 6 = q := rfl
    rw [e2] at e
    subst e
    show spl 32 (setup5 ++ 32 :: Lib.itoa (k : Int)) = _
    rw [spl_app _ (by decide), spl_no (itoa_free (.inl rfl))]
  · intro hs
    have hj := jn_spl 32 h
    rw [hs] at hj
    have e : h = setupT ++ Lib.itoa (k : Int) := by rw [← hj]; simp [jn, setupT, setup5]
    subst e
    refine ⟨?_, ?_⟩
    · unfold Lib.hasPrefix
      rw [List.isPrefixOf_iff_prefix]
      exact ⟨_, rfl⟩
    · show nmR (Lib.itoa (k : Int)) = _
      exact nm_itoa ⟨by omega, by omega⟩
theorem ref_fil {t : Tx} (ht : t.length ≤ 9999999990) : refR t = filR t := by
  unfold refR filR
  by_cases hs : ∃ a, t = a ++ [10]
  · obtain ⟨a, rfl⟩ := hs
    obtain ⟨h1, h2⟩ := suffix_one a 10
    rw [if_pos h1, h2]
    have hsn := spl_snoc 10 a
    have hlen := spl_len 10 a
    have hcnt : a.count 10 ≤ a.length := List.count_le_length
    rw [List.length_append] at ht
    cases hsp : spl 10 a with
    | nil => exact absurd hsp (spl_ne 10 a)
    | cons h r =>
      rw [hsp] at hsn hlen
      simp only [hsn]
      have hl2 : ((h :: r) ++ [([] : Tx)]).length - 2 = r.length := by simp
      have hr : r.length ≤ 9999999999 := by rw [List.length_cons] at hlen; omega
      rw [if_pos ⟨by simp, by rw [List.getLast?_concat]⟩, hl2]
      rw [headR]
      have key := head_ref (h := h) hr
      have e1 : ((h :: r) ++ [([] : Tx)]).headD [] = h := rfl
      have e2 : ((h :: r) ++ [([] : Tx)]).tail.dropLast = r := by simp
      rw [e1, e2]
      by_cases hc : spl 32 h = [setup5, Lib.itoa (r.length : Int)]
      · rw [if_pos hc]
        obtain ⟨k1, k2⟩ := key.2 hc
        rw [if_pos k1, k2]
        show _ = if (r.length : Int) = (r.length : Int) then _ else _
        rw [if_pos rfl]
      · rw [if_neg hc]
        by_cases k1 : Lib.hasPrefix h setupT = true
        · rw [if_pos k1]
          cases k2 : nmR (h.drop 6) with
          | none => rfl
          | some n =>
            dsimp only
            rw [if_neg (fun e => hc (key.1 ⟨k1, by rw [k2, e]⟩))]
        · rw [if_neg k1]
  · have h1 : ¬ Lib.hasSuffix t [10] = true := fun h => by
      unfold Lib.hasSuffix at h
      rw [List.isSuffixOf_iff_suffix] at h
      obtain ⟨a, e⟩ := h
      exact hs ⟨a, e.symm⟩
    rw [if_neg h1, if_neg]
    rintro ⟨h2, h3⟩
    rcases spl_last h3 with e | e
    · subst e
      simp [spl] at h2
    · exact hs e
/-- the document's test of a number -/
theorem nm_ref {d : Tx} (h1 : 1 ≤ d.length) (h2 : d.length ≤ 10) (h3 : d.all dgB = true) : ∃ u, Lib.decFrom 0 d = some u ∧ u ≤ 9999999999 ∧ nmR (45 :: d) = (if Lib.decDigits u = d ∧ u ≠ 0 then some (-(u : Int)) else none) ∧ nmR d = (if Lib.decDigits u = d then some (u : Int) else none) := by
  have hval : ∃ u, Lib.decFrom 0 d = some u := by
    clear h1 h2
    have key : ∀ (l : Tx) (acc : Nat), l.all dgB = true → ∃ u, Lib.decFrom acc l = some u := by
      intro l
      induction l with
      | nil => intro acc _; exact ⟨acc, rfl⟩
      | cons b r ih =>
        intro acc h
        rw [List.all_cons, Bool.and_eq_true] at h
        simp only [Lib.decFrom, dg_val h.1]
        exact ih _ h.2
    exact key d 0 h3
  obtain ⟨u, hu⟩ := hval
  have hb := Lib.decFrom_lt d 0 u hu
  have hp : (10 : Nat) ^ d.length ≤ 10 ^ 10 := Nat.pow_le_pow_right (by decide) h2
  refine ⟨u, hu, by omega, ?_, ?_⟩
  · have et : Lib.trimPrefix (45 :: d) [45] = d := by unfold Lib.trimPrefix Lib.hasPrefix; simp
    by_cases hc : Lib.decDigits u = d ∧ u ≠ 0
    · rw [if_pos hc]
      have e : (45 : UInt8) :: d = Lib.itoa (-(u : Int)) := by
        unfold Lib.itoa
        rw [if_pos (by omega), show (-(u : Int)).natAbs = u by omega, hc.1]
      rw [e]
      exact nm_itoa ⟨by omega, by omega⟩
    · rw [if_neg hc]
      cases hn : nmR (45 :: d) with
      | none => rfl
      | some n =>
        exfalso
        obtain ⟨e, _⟩ := nm_some hn
        unfold Lib.itoa at e
        split at e
        · rename_i hneg
          injection e with _ e
          have hd := (dec_can n.natAbs).2.2.1
          rw [← e, hu] at hd
          injection hd with hd
          exact hc ⟨by rw [hd]; exact e.symm, by omega⟩
        · have hd := (dec_can n.toNat).1
          rw [← e] at hd
          simp [dgB] at hd
  · by_cases hc : Lib.decDigits u = d
    · rw [if_pos hc]
      have e : d = Lib.itoa (u : Int) := by
        unfold Lib.itoa
        rw [if_neg (by omega), Int.toNat_natCast, hc]
      rw [e]
      exact nm_itoa ⟨by omega, by omega⟩
    · rw [if_neg hc]
      cases hn : nmR d with
      | none => rfl
      | some n =>
        exfalso
        obtain ⟨e, _⟩ := nm_some hn
        unfold Lib.itoa at e
        split at e
        · rw [e] at h3
          simp [dgB] at h3
        · have hd := (dec_can n.toNat).2.2.1
          rw [← e, hu] at hd
          injection hd with hd
          exact hc (by rw [hd]; exact e.symm)
theorem nm_no {w : Tx} (h : ¬ ((1 ≤ (Lib.trimPrefix w [45]).length ∧ (Lib.trimPrefix w [45]).length ≤ 10) ∧ (Lib.trimPrefix w [45]).all dgB = true)) : nmR w = none := by
  unfold nmR
  rw [if_neg (fun hc => h ⟨hc.1, hc.2.1⟩)]
end Go.Proofs.YtegimepmccilfaaGreatDoor
namespace Go.Proofs.YtegimepmccilfaaGreatDoor
set_option linter.unusedVariables false
set_option linter.unusedSimpArgs false
def moreB (ws : List Tx) (k : Nat) (y : Tx) : Bool := decide (k < ws.length ∧ ws.getD k [] = y)
theorem drop_at {ws : List Tx} {k : Nat} (h : k < ws.length) : ws.drop k = ws.getD k [] :: ws.drop (k + 1) := by
  rw [List.getD_eq_getElem?_getD, List.getElem?_eq_getElem h]
  exact List.drop_eq_getElem_cons h
theorem drop_end {ws : List Tx} {k : Nat} (h : ¬ k < ws.length) : ws.drop k = [] := List.drop_eq_nil_of_le (by omega)
theorem more_true {ws : List Tx} {k : Nat} {y : Tx} : moreB ws k y = true ↔ k < ws.length ∧ ws.getD k [] = y := by
  unfold moreB
  rw [decide_eq_true_eq]
theorem line_none0 {ws : List Tx} (h : (if 0 < ws.length then kindR (ws.getD 0 []) else none) = none) : lineR ws = none := by
  match ws, h with
  | [], _ => rfl
  | [k], _ => rfl
  | k :: v :: r, h =>
    have h2 : kindR k = none := by simpa using h
    simp only [lineR, h2]
theorem line_none1 {ws : List Tx} (h : (if 1 < ws.length then viewR (ws.getD 1 []) else none) = none) : lineR ws = none := by
  match ws, h with
  | [], _ => rfl
  | [k], _ => rfl
  | k :: v :: r, h =>
    have h2 : viewR v = none := by simpa using h
    simp only [lineR, h2]
    cases kindR k <;> rfl
theorem nms_cons (w : Tx) (ws : List Tx) : nmsR (w :: ws) = match nmR w with
    | none => none
    | some n => (nmsR ws).map (n :: ·) := by
  rw [nmsR]
  cases nmR w with
  | none => rfl
  | some n =>
    simp only
    cases nmsR ws <;> rfl
theorem nms_app : ∀ {a b : List Tx}, nmsR (a ++ b) = match nmsR a with
    | none => none
    | some l => (nmsR b).map (l ++ ·)
  | [], b => by
    show nmsR b = (nmsR b).map ([] ++ ·)
    cases nmsR b <;> rfl
  | w :: a, b => by
    rw [List.cons_append, nms_cons, nms_cons, nms_app]
    cases nmR w with
    | none => rfl
    | some n =>
      simp only
      cases nmsR a with
      | none => rfl
      | some l =>
        simp only [Option.map_some]
        cases nmsR b <;> rfl
theorem nms_one {y : Tx} : nmsR [y] = (nmR y).map ([·]) := by
  rw [nms_cons]
  cases nmR y <;> rfl
theorem take_next {ws : List Tx} {i : Nat} (h : 2 + i < ws.length) : (ws.drop 2).take (i + 1) = (ws.drop 2).take i ++ [ws.getD (2 + i) []] := by
  rw [List.take_add_one, List.getElem?_drop, List.getElem?_eq_getElem h, List.getD_eq_getElem?_getD, List.getElem?_eq_getElem h]
  rfl
theorem ns_step {ws : List Tx} {i : Nat} {l : List Int} {n : Int} (h : nmsR ((ws.drop 2).take i) = some l) (hi : 2 + i < ws.length) (hn : nmR (ws.getD (2 + i) []) = some n) : nmsR ((ws.drop 2).take (i + 1)) = some (l ++ [n]) := by
  rw [take_next hi, nms_app, h, nms_one, hn]
  rfl
theorem ns_fail {ws : List Tx} {i : Nat} {l : List Int} (h : nmsR ((ws.drop 2).take i) = some l) (hi : i < 11) (hn : ¬ 2 + i < ws.length ∨ nmR (ws.getD (2 + i) []) = none) : lineR ws = none := by
  match ws, h, hn with
  | [], _, _ => rfl
  | [k], _, _ => rfl
  | k :: v :: r, h, hn =>
    simp only [lineR]
    cases kindR k with
    | none => rfl
    | some a =>
      cases viewR v with
      | none => rfl
      | some b =>
        simp only
        by_cases h11 : 11 ≤ r.length
        · rw [if_pos h11]
          rcases hn with hn | hn
          · exact absurd (show 2 + i < (k :: v :: r).length by simp; omega) hn
          · have e1 : r.take 11 = r.take (i + 1) ++ (r.drop (i + 1)).take (11 - (i + 1)) := by
              rw [← List.take_add]
              congr 1
              omega
            have e2 := take_next (ws := k :: v :: r) (i := i) (by simp; omega)
            have e3 : (k :: v :: r).drop 2 = r := rfl
            rw [e3] at e2 h
            rw [e1, nms_app, e2, nms_app, h, nms_one, hn]
            rfl
        · rw [if_neg h11]
theorem line_some {ws : List Tx} {a b : Int} {l : List Int} (h0 : kindR (ws.getD 0 []) = some a) (h1 : viewR (ws.getD 1 []) = some b) (h13 : 13 ≤ ws.length) (hn : nmsR ((ws.drop 2).take 11) = some l) : lineR ws = (tailR (ws.drop 13)).map fun t => ⟨a, b, l, t.1, t.2⟩ := by
  match ws, h0, h1, h13, hn with
  | k :: v :: r, h0, h1, h13, hn =>
    have e0 : kindR k = some a := h0
    have e1 : viewR v = some b := h1
    have e2 : nmsR (r.take 11) = some l := hn
    have e3 : (k :: v :: r).drop 13 = r.drop 11 := rfl
    have h11 : 11 ≤ r.length := by simp at h13; omega
    rw [e3]
    simp only [lineR, e0, e1]
    rw [if_pos h11, e2]
    cases tailR (r.drop 11) <;> rfl
theorem tail_cons (w : Tx) (r : List Tx) : tailR (w :: r) = if w = driftT then (match drsR r with
      | none => none
      | some (l, r2) => if l = [] then none else match deR r2 with
        | none => none
        | some e => some (l, e)) else (match deR (w :: r) with
      | none => none
      | some e => some ([], e)) := rfl
theorem de_cons (w : Tx) (r : List Tx) : deR (w :: r) = if w = deadT then (match nmsR r with
      | none => none
      | some l => if l = [] then none else some l) else none := rfl
theorem tail_no {ws : List Tx} {k : Nat} (h : moreB ws k driftT = false) : tailR (ws.drop k) = (deR (ws.drop k)).map fun e => ([], e) := by
  by_cases hk : k < ws.length
  · rw [drop_at hk]
    have hn : ¬ ws.getD k [] = driftT := fun e => by
      rw [more_true.2 ⟨hk, e⟩] at h
      cases h
    rw [tail_cons, if_neg hn]
    cases deR (ws.getD k [] :: ws.drop (k + 1)) <;> rfl
  · rw [drop_end hk]
    rfl
theorem tail_yes {ws : List Tx} {k : Nat} (h : moreB ws k driftT = true) : tailR (ws.drop k) = match drsR (ws.drop (k + 1)) with
    | none => none
    | some (l, r2) => if l = [] then none else (deR r2).map fun e => (l, e) := by
  obtain ⟨hk, he⟩ := more_true.1 h
  rw [drop_at hk, tail_cons, if_pos he]
  cases drsR (ws.drop (k + 1)) with
  | none => rfl
  | some t =>
    obtain ⟨l, r2⟩ := t
    simp only
    split
    · rfl
    · cases deR r2 <;> rfl
theorem dr_dead : drR deadT = none := by decide
/-- j drifts are read from word k on -/
structure DrInv (ws : List Tx) (k j : Nat) (D : List DR) : Prop where
  len : D.length = j
  is : drsR (ws.drop k) = (drsR (ws.drop (k + j))).map fun t => (D ++ t.1, t.2)
theorem DrInv.start (ws : List Tx) (k : Nat) : DrInv ws k 0 [] := ⟨rfl, by
  rw [Nat.add_zero]
  cases drsR (ws.drop k) <;> rfl⟩
theorem DrInv.step {ws : List Tx} {k j : Nat} {D : List DR} {d : DR} (h : DrInv ws k j D) (hk : k + j < ws.length) (hd : drR (ws.getD (k + j) []) = some d) : DrInv ws k (j + 1) (D ++ [d]) := ⟨by simp [h.len], by
  have hne : ¬ ws.getD (k + j) [] = deadT := fun e => by rw [e, dr_dead] at hd; cases hd
  rw [h.is, drop_at hk, drsR, if_neg hne, hd]
  show Option.map _ (match drsR (ws.drop (k + (j + 1))) with
    | none => none
    | some (l, r) => some (d :: l, r)) = _
  cases drsR (ws.drop (k + (j + 1))) with
  | none => rfl
  | some t =>
    obtain ⟨l, r⟩ := t
    simp⟩
theorem DrInv.fail {ws : List Tx} {k j : Nat} {D : List DR} (h : DrInv ws (k + 1) j D) (hm : moreB ws k driftT = true) (hk : k + 1 + j < ws.length) (hd : drR (ws.getD (k + 1 + j) []) = none) (hc : j = 0 ∨ ¬ ws.getD (k + 1 + j) [] = deadT) : tailR (ws.drop k) = none := by
  rw [tail_yes hm, h.is, drop_at hk]
  by_cases he : ws.getD (k + 1 + j) [] = deadT
  · have hj : j = 0 := by
      rcases hc with h | h
      · exact h
      · exact absurd he h
    have hD : D = [] := List.length_eq_zero_iff.1 (h.len.trans hj)
    have e : drsR (ws.getD (k + 1 + j) [] :: ws.drop (k + 1 + j + 1)) = some ([], ws.getD (k + 1 + j) [] :: ws.drop (k + 1 + j + 1)) := by
      rw [drsR, if_pos he]
    rw [e, hD]
    rfl
  · have e : drsR (ws.getD (k + 1 + j) [] :: ws.drop (k + 1 + j + 1)) = none := by
      rw [drsR, if_neg he, hd]
    rw [e]
    rfl
theorem DrInv.none {ws : List Tx} {k : Nat} (hm : moreB ws k driftT = true) (hk : ¬ k + 1 < ws.length) : tailR (ws.drop k) = none := by
  rw [tail_yes hm, drop_end hk]
  rfl
theorem DrInv.fin {ws : List Tx} {k j : Nat} {D : List DR} (h : DrInv ws (k + 1) j D) (hm : moreB ws k driftT = true) (hj : ¬ j = 0) (he : ¬ k + 1 + j < ws.length ∨ ws.getD (k + 1 + j) [] = deadT) : tailR (ws.drop k) = (deR (ws.drop (k + 1 + j))).map fun e => (D, e) := by
  have hD : ¬ D = [] := fun e => hj (h.len.symm.trans (by rw [e]; rfl))
  have hd : drsR (ws.drop (k + 1 + j)) = some ([], ws.drop (k + 1 + j)) := by
    by_cases hk : k + 1 + j < ws.length
    · rcases he with he | he
      · exact absurd hk he
      · rw [drop_at hk]
        rw [drsR, if_pos he]
    · rw [drop_end hk]
      rfl
  rw [tail_yes hm, h.is, hd]
  simp only [Option.map_some, List.append_nil]
  rw [if_neg hD]
theorem de_no {ws : List Tx} {k : Nat} (h : moreB ws k deadT = false) : deR (ws.drop k) = if k < ws.length then none else some [] := by
  by_cases hk : k < ws.length
  · rw [if_pos hk, drop_at hk]
    have hn : ¬ ws.getD k [] = deadT := fun e => by
      rw [more_true.2 ⟨hk, e⟩] at h
      cases h
    rw [de_cons, if_neg hn]
  · rw [if_neg hk, drop_end hk]
    rfl
theorem de_yes {ws : List Tx} {k : Nat} (h : moreB ws k deadT = true) : deR (ws.drop k) = match nmsR (ws.drop (k + 1)) with
    | none => none
    | some l => if l = [] then none else some l := by
  obtain ⟨hk, he⟩ := more_true.1 h
  rw [drop_at hk, de_cons, if_pos he]
/-- j dead channels are read from word k on -/
structure DeInv (ws : List Tx) (k j : Nat) (E : List Int) : Prop where
  len : E.length = j
  is : nmsR (ws.drop k) = (nmsR (ws.drop (k + j))).map (E ++ ·)
theorem DeInv.start (ws : List Tx) (k : Nat) : DeInv ws k 0 [] := ⟨rfl, by
  rw [Nat.add_zero]
  cases nmsR (ws.drop k) <;> rfl⟩
theorem DeInv.step {ws : List Tx} {k j : Nat} {E : List Int} {n : Int} (h : DeInv ws k j E) (hk : k + j < ws.length) (hd : nmR (ws.getD (k + j) []) = some n) : DeInv ws k (j + 1) (E ++ [n]) := ⟨by simp [h.len], by
  rw [h.is, drop_at hk, nms_cons, hd]
  show Option.map _ (Option.map _ (nmsR (ws.drop (k + (j + 1))))) = _
  cases nmsR (ws.drop (k + (j + 1))) with
  | none => rfl
  | some t => simp⟩
theorem DeInv.fail {ws : List Tx} {k j : Nat} {E : List Int} (h : DeInv ws (k + 1) j E) (hm : moreB ws k deadT = true) (hk : k + 1 + j < ws.length) (hd : nmR (ws.getD (k + 1 + j) []) = none) : deR (ws.drop k) = none := by
  rw [de_yes hm, h.is, drop_at hk]
  have e : nmsR (ws.getD (k + 1 + j) [] :: ws.drop (k + 1 + j + 1)) = none := by
    rw [nms_cons, hd]
  rw [e]
  rfl
theorem DeInv.none {ws : List Tx} {k : Nat} (hm : moreB ws k deadT = true) (hk : ¬ k + 1 < ws.length) : deR (ws.drop k) = none := by
  rw [de_yes hm, drop_end hk]
  rfl
theorem DeInv.fin {ws : List Tx} {k j : Nat} {E : List Int} (h : DeInv ws (k + 1) j E) (hm : moreB ws k deadT = true) (hj : ¬ j = 0) (he : ¬ k + 1 + j < ws.length) : deR (ws.drop k) = some E := by
  have hE : ¬ E = [] := fun e => hj (h.len.symm.trans (by rw [e]; rfl))
  rw [de_yes hm, h.is, drop_end he]
  show (if E ++ [] = [] then _ else some (E ++ [])) = _
  rw [List.append_nil, if_neg hE]
theorem dr3_len {ps : List Tx} (h : ¬ ps.length = 3) : drR3 ps = none := by
  match ps, h with
  | [], _ => rfl
  | [_], _ => rfl
  | [_, _], _ => rfl
  | [_, _, _], h => exact absurd rfl h
  | _ :: _ :: _ :: _ :: _, _ => rfl
end Go.Proofs.YtegimepmccilfaaGreatDoor
