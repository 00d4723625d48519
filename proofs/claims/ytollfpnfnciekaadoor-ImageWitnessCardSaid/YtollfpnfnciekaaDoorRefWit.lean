/- The walk of the reference's Witness. -/
import Derived.Test.YtollfpnfnciekaaDoorImApart
namespace Go.Proofs.YtollfpnfnciekaaDoor
open Go.RowKit
set_option linter.unusedVariables false
set_option linter.unusedSimpArgs false
theorem filter_first {p : List Int → Bool} : ∀ (l : List (List Int)) (i : Nat), i < l.length → (∀ j, j < i → p (l.getD j []) = false) → p (l.getD i []) = true → ∃ t, l.filter p = l.getD i [] :: t
  | [], i, h, _, _ => by simp at h
  | x :: l, 0, _, _, h => ⟨l.filter p, by rw [List.filter_cons, if_pos (by simpa using h)]; rfl⟩
  | x :: l, i + 1, hi, h0, h1 => by
    obtain ⟨t, ht⟩ := filter_first l i (by simpa using hi) (fun j hj => by have := h0 (j + 1) (by omega); simpa using this) (by simpa using h1)
    refine ⟨t, ?_⟩
    rw [List.filter_cons, if_neg (by have := h0 0 (by omega); simp at this; simp [this]), ht]
    simp
theorem filter_none {p : List Int → Bool} {l : List (List Int)} (h : ∀ j, j < l.length → p (l.getD j []) = false) : l.filter p = [] := by
  rw [List.filter_eq_nil_iff]
  intro x hx hp
  obtain ⟨j, hj, rfl⟩ := List.mem_iff_getElem.1 hx
  have := h j hj
  rw [List.getD_eq_getElem?_getD, List.getElem?_eq_getElem hj] at this
  simp [hp] at this
/-- what the reference's Witness hands back -/
def RWitRes (n : Nat) (l : List (List Int)) (ci : Nat) (d : Int) (w : World) (e : Ending) (w' : World) : Prop :=
  w' = w ∧ match l.filter (fun g => inB (fOf g ci) d d) with
    | [] => e = .returned (.slice none 0 0)
    | g :: _ => ∃ a c, e = .returned (.slice a n c) ∧ Ints w.heap.size w a n (fOf g)
theorem inB_one {x d : Int} : inB x d d = true ↔ x = d := by rw [inB_iff]; omega
set_option maxRecDepth 100000 in
set_option maxHeartbeats 1000000 in
theorem r8Wit_any (la : Option Addr) (n lc : Nat) (l : List (List Int)) (ci : Nat) (d : Int) (w : World) (hF : Flds w.heap.size w la n l) (hci : ci < n) (hl : l.length ≤ 1000000) :
    Calls Tryd.prog 24 #[.slice la l.length lc, .int .i64 (ci : Int), .int .i64 d] w (RWitRes n l ci d w) := by
  obtain ⟨N, hN⟩ : ∃ N, l.length = N := ⟨_, rfl⟩
  have HNN := Lib.hid hN
  have HRN := Lib.hid (fun (h : ∀ j, j < l.length → inB (fOf (l.getD j []) ci) d d = false) => show RWitRes n l ci d w (.returned (.slice none 0 0)) w from ⟨rfl, by rw [filter_none (p := fun g => inB (fOf g ci) d d) h]⟩)
  have HRY := Lib.hid (fun (i : Nat) (hi : i < l.length) (h0 : ∀ j, j < i → inB (fOf (l.getD j []) ci) d d = false) (h1 : inB (fOf (l.getD i []) ci) d d = true) (a : Option Addr) (c : Nat) (hI : Ints w.heap.size w a n (fOf (l.getD i []))) => show RWitRes n l ci d w (.returned (.slice a n c)) w from ⟨rfl, by
    obtain ⟨t, ht⟩ := filter_first (p := fun g => inB (fOf g ci) d d) l i hi h0 h1
    rw [ht]
    exact ⟨a, c, rfl, hI⟩⟩)
  have HF := Lib.hid hF
  rw [hN] at HRN HRY hl ⊢
  generalize RWitRes n l ci d w = RES at *
  have hci' : (ci : Int) < (n : Int) := by omega
  clear hF hN
  go_enter Tryd.func24, Tryd.ntmps24
  go_wp2
  go_loopw [7] (fun t wr => ∃ i : Nat, i ≤ N ∧ t = .int .i64 (i : Int) ∧ wr = w ∧ Hid (∀ j, j < i → inB (fOf (l.getD j []) ci) d d = false)) (fun t _ => N - (intOf t).toNat)
  case atStart => exact ⟨0, Nat.zero_le _, rfl, rfl, Lib.hid (fun j h => by omega)⟩
  case round =>
    obtain ⟨i, hi, rfl, rfl, HA⟩ := hrel
    by_cases hlt : i < N
    · have hlt' : (i : Int) < (N : Int) := by omega
      obtain ⟨b, o, ra, rc, rfl, hb, c0, hI⟩ := HF.out.get (i := i) (by rw [HNN.out]; exact hlt)
      obtain ⟨rb, ro, rfl, hrB, d0⟩ := hI.get hci
      have HI := Lib.hid hI
      have HRI := Lib.hid (HRY.out i hlt)
      generalize hx : fOf (l.getD i []) ci = x at *
      have HX := Lib.hid hx
      clear hI hx
      cases h1 : (x == d)
      · have hne : inB x d d = false := by
          cases e : inB x d d
          · rfl
          · rw [inB_one.1 e] at h1; simp at h1
        have HB := Lib.hid (fun j (hj : j < i + 1) => show inB (fOf (l.getD j []) ci) d d = false from by (by_cases e : j = i; (subst e; rw [HX.out]; exact hne); exact HA.out j (by omega)))
        clear hne
        go_wp2
        go_roundw
        case rel => exact ⟨i + 1, by omega, by go_num, by first | trivial | rfl, HB⟩
        case measure => simp [intOf]; omega
      · have heq : inB x d d = true := inB_one.2 (by simpa using h1)
        have HE := Lib.hid (HRI.out HA.out heq _ rc HI.out)
        clear heq
        go_wp2
        exact HE.out
    · obtain rfl : i = N := by omega
      have hlt' : ¬ (i : Int) < (i : Int) := by omega
      have HE := Lib.hid (HRN.out HA.out)
      go_wp2
      exact HE.out
end Go.Proofs.YtollfpnfnciekaaDoor
