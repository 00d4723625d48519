/- The theorem of gates, plain. -/
import Derived.Test.YtgcepjminlapiaaFires
namespace Go.Proofs.Ytgcepjminlapiaa
set_option linter.unusedVariables false
set_option linter.unusedSimpArgs false
def inG (p : PR) (h : HV) (x : Int) : Nat → Bool
  | 0 => false
  | i + 1 => inG p h x i || (decide ((gateF p h i).lo ≤ x) && decide (x ≤ (gateF p h i).hi))
theorem inG_iff {p : PR} {h : HV} {x : Int} : ∀ n, inG p h x n = true ↔ ∃ i, i < n ∧ (gateF p h i).lo ≤ x ∧ x ≤ (gateF p h i).hi
  | 0 => by simp [inG]
  | n + 1 => by
    rw [inG, Bool.or_eq_true, inG_iff n, Bool.and_eq_true, decide_eq_true_eq, decide_eq_true_eq]
    constructor
    · rintro (⟨i, hi, hh⟩ | hh)
      · exact ⟨i, by omega, hh⟩
      · exact ⟨n, by omega, hh⟩
    · rintro ⟨i, hi, hh⟩
      by_cases e : i = n
      · subst e; exact .inr hh
      · exact .inl ⟨i, by omega, hh⟩
theorem tubes_step {p : PR} (h : tubesB p.pitch p.dn p.ds = true) {k : Nat} (hk : k < p.dn) : (p.ds k).lo ≤ (p.ds k).hi ∧ (p.ds k).hi ≤ p.pitch / 2 ∧ 0 ≤ (p.ds k).lo := by
  simp only [tubesB, Bool.and_eq_true, allUpto_iff] at h
  have := stepAt_iff.1 (h.1 k hk)
  omega
theorem tubes_up {p : PR} (h : tubesB p.pitch p.dn p.ds = true) {i : Nat} : ∀ j, i < j → j < p.dn → (p.ds i).time < (p.ds j).time ∧ (p.ds i).hi ≤ (p.ds j).hi
  | 0, hij, _ => by omega
  | j + 1, hij, hj => by
    have hs : (p.ds j).time < (p.ds (j + 1)).time ∧ (p.ds j).hi ≤ (p.ds (j + 1)).hi := by
      have h' := h
      simp only [tubesB, Bool.and_eq_true, allUpto_iff] at h'
      have := (stepAt_iff.1 (h'.1 (j + 1) hj)).2.2.2
      simp only [Nat.add_sub_cancel] at this
      omega
    by_cases e : i = j
    · subst e; exact hs
    · have ih := tubes_up (i := i) h j (by omega) (by omega)
      omega
theorem radLo_is {p : PR} {d : Int} : ∀ k, radLo p d k = 0 ∨ ∃ i, i < k ∧ radLo p d k = (p.ds i).lo ∧ (p.ds i).time ≤ d - p.jitter
  | 0 => .inl rfl
  | k + 1 => by
    rw [radLo]
    split
    · exact .inr ⟨k, by omega, rfl, by assumption⟩
    · rcases radLo_is (p := p) (d := d) k with h | ⟨i, hi, h1, h2⟩
      · exact .inl h
      · exact .inr ⟨i, by omega, h1, h2⟩
theorem radHi_is {p : PR} {d : Int} : ∀ m, m ≤ p.dn → radHi p d m = p.pitch / 2 ∨ ∃ i, i < p.dn ∧ radHi p d m = (p.ds i).hi ∧ d + p.jitter ≤ (p.ds i).time
  | 0, _ => .inl rfl
  | m + 1, hm => by
    rw [radHi]
    split
    · exact .inr ⟨p.dn - 1 - m, by omega, rfl, by assumption⟩
    · exact radHi_is m (by omega)
theorem rad_le {p : PR} {h : HV} (ht : tubesB p.pitch p.dn p.ds = true) (hj : 0 ≤ p.jitter) (hp : 2 ≤ p.pitch) : 0 ≤ gR p h ∧ gR p h ≤ gF p h := by
  unfold gR gF
  rcases radLo_is (p := p) (d := h.drift) p.dn with e | ⟨i, hi, e, hi2⟩
  · rw [e]
    rcases radHi_is (p := p) (d := h.drift) p.dn (Nat.le_refl _) with e' | ⟨j, hj', e', hj2⟩
    · rw [e']; omega
    · rw [e']; have := tubes_step ht hj'; omega
  · rw [e]
    have h1 := tubes_step ht hi
    refine ⟨h1.2.2, ?_⟩
    rcases radHi_is (p := p) (d := h.drift) p.dn (Nat.le_refl _) with e' | ⟨j, hj', e', hj2⟩
    · rw [e']; omega
    · rw [e']
      by_cases e1 : i = j
      · subst e1; omega
      · by_cases e2 : i < j
        · have := tubes_up ht j e2 hj'; omega
        · have := tubes_up ht i (show j < i by omega) hi; omega
theorem true_1 {p : PR} {h : HV} {x o : Int} (hP : properB p = true) (hH : hitB p h = true) (h1 : p.olo ≤ o) (h2 : o ≤ p.ohi) (hf : firesB p h (x - o) = true) : inG p h x (gateN p h) = true := by
  have hS := properB_shaped hP
  obtain ⟨b1, b2⟩ := hS.pitch
  obtain ⟨⟨q1, q2⟩, ⟨q3, q4⟩, _, _⟩ := hitB_bounds hH
  rw [inG_iff]
  by_cases hk : p.kind = 2
  · obtain ⟨r1, r2⟩ := rad_le (h := h) (properB_tubes hP hk) hS.jitter.1 b1
    rw [firesB, if_pos hk, withinB_iff, far] at hf
    by_cases ho : oneB p h = true
    · rw [gateN_one hk ho]
      refine ⟨0, by omega, ?_⟩
      rw [gateF_one (f := gF p h) rfl hk ho]
      dsimp only
      split at hf <;> omega
    · rw [gateN_two hk ho]
      split at hf
      · refine ⟨1, by omega, ?_⟩
        rw [gateF_right (r := gR p h) (f := gF p h) rfl rfl hk ho]
        dsimp only
        omega
      · refine ⟨0, by omega, ?_⟩
        rw [gateF_left (r := gR p h) (f := gF p h) rfl rfl hk ho]
        dsimp only
        omega
  · rw [firesB, if_neg hk, allUpto_iff] at hf
    have f0 := hf 0 (by omega)
    have f1 := hf (h.many.toNat - 1) (by omega)
    simp only [fireAt, withinB_iff] at f0 f1
    rw [show ((h.many.toNat - 1 : Nat) : Int) = h.many - 1 by omega, show h.channel + (h.many - 1) = h.channel + h.many - 1 by omega] at f1
    rw [show h.channel + ((0 : Nat) : Int) = h.channel by simp] at f0
    have hg : ¬ gB p h < gA p h := by unfold gA gB; omega
    rw [gateN_strip hk hg]
    refine ⟨0, by omega, ?_⟩
    rw [gateF_strip hk]
    unfold gA gB
    dsimp only
    omega
theorem true_2 {p : PR} {h : HV} {x : Int} (hP : properB p = true) (hH : hitB p h = true) (hi : inG p h x (gateN p h) = true) : ∃ o, p.olo ≤ o ∧ o ≤ p.ohi ∧ firesB p h (x - o) = true := by
  have hS := properB_shaped hP
  obtain ⟨b1, b2⟩ := hS.pitch
  obtain ⟨o1, o2, o3⟩ := hS.off
  obtain ⟨⟨q1, q2⟩, ⟨q3, q4⟩, _, _⟩ := hitB_bounds hH
  rw [inG_iff] at hi
  obtain ⟨i, hin, hl, hu⟩ := hi
  by_cases hk : p.kind = 2
  · obtain ⟨r1, r2⟩ := rad_le (h := h) (properB_tubes hP hk) hS.jitter.1 b1
    have left : gW p h - gF p h + p.olo ≤ x → x ≤ gW p h - gR p h + p.ohi → ∃ o, p.olo ≤ o ∧ o ≤ p.ohi ∧ firesB p h (x - o) = true := fun a b => by
      refine ⟨if p.olo ≤ x - (gW p h - gR p h) then x - (gW p h - gR p h) else p.olo, ?_, ?_, ?_⟩
      · split <;> omega
      · split <;> omega
      · rw [firesB, if_pos hk, withinB_iff, far]
        split <;> split <;> omega
    have right : gW p h + gR p h + p.olo ≤ x → x ≤ gW p h + gF p h + p.ohi → ∃ o, p.olo ≤ o ∧ o ≤ p.ohi ∧ firesB p h (x - o) = true := fun a b => by
      refine ⟨if p.olo ≤ x - (gW p h + gF p h) then x - (gW p h + gF p h) else p.olo, ?_, ?_, ?_⟩
      · split <;> omega
      · split <;> omega
      · rw [firesB, if_pos hk, withinB_iff, far]
        split <;> split <;> omega
    by_cases ho : oneB p h = true
    · rw [gateF_one (f := gF p h) rfl hk ho] at hl hu
      dsimp only at hl hu
      have hoo : gW p h + gR p h + p.olo ≤ gW p h - gR p h + p.ohi := of_decide_eq_true ho
      by_cases hx : x ≤ gW p h - gR p h + p.ohi
      · exact left hl hx
      · exact right (by omega) hu
    · rw [gateN_two hk ho] at hin
      by_cases e : i = 0
      · subst e
        rw [gateF_left (r := gR p h) (f := gF p h) rfl rfl hk ho] at hl hu
        exact left hl hu
      · obtain rfl : i = 1 := by omega
        rw [gateF_right (r := gR p h) (f := gF p h) rfl rfl hk ho] at hl hu
        exact right hl hu
  · rw [gateF_strip hk] at hl hu
    dsimp only at hl hu
    have hg : ¬ gB p h < gA p h := fun hg => by rw [gateN_none hk hg] at hin; omega
    refine ⟨if p.olo ≤ x - gB p h then x - gB p h else p.olo, ?_, ?_, ?_⟩
    · split <;> omega
    · split <;> omega
    · rw [firesB, if_neg hk, allUpto_iff]
      intro j hj
      have ha : gA p h ≤ x - (if p.olo ≤ x - gB p h then x - gB p h else p.olo) := by split <;> omega
      have hb : x - (if p.olo ≤ x - gB p h then x - gB p h else p.olo) ≤ gB p h := by split <;> omega
      generalize x - (if p.olo ≤ x - gB p h then x - gB p h else p.olo) = y at *
      unfold gA at ha
      unfold gB at hb
      simp only [fireAt, withinB_iff]
      have m1 := Int.mul_le_mul_of_nonneg_right (show h.channel + (j : Int) ≤ h.channel + h.many - 1 by omega) (show 0 ≤ p.pitch by omega)
      have m2 := Int.mul_le_mul_of_nonneg_right (show h.channel + 1 ≤ h.channel + (j : Int) + 1 by omega) (show 0 ≤ p.pitch by omega)
      omega
end Go.Proofs.Ytgcepjminlapiaa
