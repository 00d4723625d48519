/- The walks of cmp.Compare, cmp.Or, Events' key and by's comparison. -/
import Derived.Test.YtgcepjminlapiaaPlaneQ
import Derived.Test.YtgcepjminlapiaaRowOwn
import Derived.Deep.RegionHeld3
import Derived.Sort.Grow
namespace Go.Proofs.Ytgcepjminlapiaa
open Go.RowKit
set_option linter.unusedVariables false
set_option linter.unusedSimpArgs false
def cmpI (x y : Int) : Int := if x < y then -1 else if y < x then 1 else 0
def orI (x y : Int) : Int := if x = 0 then y else x
theorem isNaN_any (x : Int) (w : World) : Calls Try.prog 104 #[.int .i64 x] w fun e w' => e = .returned (.bool false) ∧ w = w' := by
  go_enter Try.func104, Try.ntmps104
  go_wp2
  go_ret
  exact ⟨ret_bool (by simp), rfl⟩
theorem Compare_any (x y : Int) (w : World) : Calls Try.prog 93 #[.int .i64 x, .int .i64 y] w fun e w' => e = .returned (.int .i64 (cmpI x y)) ∧ w = w' := by
  by_cases h1 : x < y
  · have HC := Lib.hid (show cmpI x y = -1 by rw [cmpI, if_pos h1])
    go_enter Try.func93, Try.ntmps93
    go_wp2_with (go_at_call 104; refine (isNaN_any _ _).mono ?_; rintro e w' ⟨rfl, rfl⟩)
    go_ret
    exact ⟨ret_int HC.out.symm, rfl⟩
  · by_cases h2 : y < x
    · have HC := Lib.hid (show cmpI x y = 1 by rw [cmpI, if_neg h1, if_pos h2])
      go_enter Try.func93, Try.ntmps93
      go_wp2_with (go_at_call 104; refine (isNaN_any _ _).mono ?_; rintro e w' ⟨rfl, rfl⟩)
      go_ret
      exact ⟨ret_int HC.out.symm, rfl⟩
    · have HC := Lib.hid (show cmpI x y = 0 by rw [cmpI, if_neg h1, if_neg h2])
      go_enter Try.func93, Try.ntmps93
      go_wp2_with (go_at_call 104; refine (isNaN_any _ _).mono ?_; rintro e w' ⟨rfl, rfl⟩)
      go_ret
      exact ⟨ret_int HC.out.symm, rfl⟩
set_option maxRecDepth 100000 in
set_option maxHeartbeats 1000000 in
theorem Or_any (b c : Nat) (x y : Int) (w : World) (h0 : w.cell? ⟨b, 0, none⟩ = some (.int .i64 x)) (h1 : w.cell? ⟨b, 1, none⟩ = some (.int .i64 y)) : Calls Try.prog 92 #[.slice (some ⟨b, 0, none⟩) 2 c] w fun e w' => e = .returned (.int .i64 (orI x y)) ∧ w = w' := by
  have HX := Lib.hid (show ∀ k : Nat, k < 2 → w.cell? ⟨b, k, none⟩ = some (.int .i64 (if k = 0 then x else y)) from fun k hk => by
    match k, hk with
    | 0, _ => exact h0
    | 1, _ => exact h1)
  clear h0 h1
  go_enter Try.func92, Try.ntmps92
  go_wp2
  go_loop [8] (fun t => ∃ k : Nat, k ≤ 2 ∧ t = .int .i64 (k : Int) ∧ Hid (∀ j, j < k → (if j = 0 then x else y) = 0)) (fun t => 2 - (intOf t).toNat)
  case atStart => exact ⟨0, by omega, rfl, Lib.hid (fun j h => by omega)⟩
  case round =>
    obtain ⟨k, hk, rfl, HZ⟩ := hrel
    by_cases hlt : k < 2
    · have c0 := HX.out k hlt
      have hlt' : (k : Int) < 2 := by omega
      obtain ⟨z, hz⟩ : ∃ z, z = (if k = 0 then x else y) := ⟨_, rfl⟩
      rw [← hz] at c0
      have HZE := Lib.hid hz
      clear hz
      by_cases h0 : z = 0
      · have h0' : (z != 0) = false := by simp [h0]
        have H0 := Lib.hid h0
        clear h0
        go_wp2
        go_round
        case rel => exact ⟨k + 1, by omega, by go_num, Lib.hid (fun j hj => by (by_cases e : j = k; (subst e; rw [← HZE.out]; exact H0.out); exact HZ.out j (by omega)))⟩
        case measure => simp [intOf]; omega
      · have h0' : (z != 0) = true := by simp [h0]
        have HR := Lib.hid (show z = orI x y by
          have := HZE.out
          match k, hlt with
          | 0, _ => simp at this; rw [orI, ← this, if_neg h0]
          | 1, _ => simp at this; have h3 := HZ.out 0 (by omega); simp at h3; rw [orI, if_pos h3, this])
        go_wp2
        go_ret
        exact ⟨ret_int HR.out, rfl⟩
    · obtain rfl : 2 = k := by omega
      have HR := Lib.hid (show 0 = orI x y by
        have h3 := HZ.out 0 (by omega); have h4 := HZ.out 1 (by omega); simp at h3 h4; rw [orI, if_pos h3, h4])
      go_wp2
      go_ret
      exact ⟨ret_int HR.out, rfl⟩
/-- the least time of a hit, read out of the spans -/
theorem key_any (pb sb m c : Nat) (i : Nat) (x : Int) (w : World) (hm : m ≤ maxLen) (h0 : w.cell? ⟨pb, 0, none⟩ = some (.slice (some ⟨sb, 0, none⟩) m c)) (hi : i < m) (h1 : w.cell? ⟨sb, i * 2, none⟩ = some (.int .i64 x)) :
    Calls Try.prog 75 #[.int .i64 (i : Int), .pointer (some ⟨pb, 0, none⟩)] w fun e w' => e = .returned (.int .i64 x) ∧ w = w' := by
  unfold maxLen at hm
  have hi' : (i : Int) < (m : Int) := by omega
  go_enter Try.func75, Try.ntmps75
  go_wp2
  go_ret
  exact ⟨rfl, rfl⟩
/-- a world that has only drawn, and laid blocks -/
def Grew (W w' : World) : Prop := ∃ q os, w' = Go.Sort.grow (W.drewN q) os
theorem Grew.refl (W : World) : Grew W W := ⟨0, #[], by simp; rfl⟩
theorem Grew.drew {W w' : World} (h : Grew W w') : Grew W w'.drew := by
  obtain ⟨q, os, rfl⟩ := h
  exact ⟨q + 1, os, rfl⟩
theorem Grew.alloc {W w' : World} (h : Grew W w') (o : Obj) : Grew W (w'.alloc o) := by
  obtain ⟨q, os, rfl⟩ := h
  exact ⟨q, os ++ #[o], by rw [Go.Sort.alloc_eq_grow, Go.Sort.grow_grow]⟩
theorem Grew.below {W w' : World} (h : Grew W w') : Below W.heap.size W w' := by
  obtain ⟨q, os, rfl⟩ := h
  exact ⟨rfl, rfl, rfl, by simp [Go.Sort.grow], fun k hk => Go.Sort.heap_grow_old _ _ hk⟩
theorem new2_0 (W : World) (x y : Int) (t : TypeId) : (W.alloc (.cells #[.int .i64 x, .int .i64 y] t)).cell? ⟨W.heap.size, 0, none⟩ = some (.int .i64 x) := cell_of_row _ _ _ _ _ _ (heapQ_new rfl)
theorem new2_1 (W : World) (x y : Int) (t : TypeId) : (W.alloc (.cells #[.int .i64 x, .int .i64 y] t)).cell? ⟨W.heap.size, 1, none⟩ = some (.int .i64 y) := cell_of_row _ _ _ _ _ _ (heapQ_new rfl)
theorem Or_new (W : World) (c : Nat) (x y : Int) (t : TypeId) : Calls Try.prog 92 #[.slice (some ⟨W.heap.size, 0, none⟩) 2 c] (W.alloc (.cells #[.int .i64 x, .int .i64 y] t)) fun e w' => e = .returned (.int .i64 (orI x y)) ∧ W.alloc (.cells #[.int .i64 x, .int .i64 y] t) = w' :=
  Or_any _ _ _ _ _ (new2_0 _ _ _ _) (new2_1 _ _ _ _)
theorem Or_newD (W : World) (c : Nat) (x y : Int) (t : TypeId) : Calls Try.prog 92 #[.slice (some ⟨W.heap.size, 0, none⟩) 2 c] (W.alloc (.cells #[.int .i64 x, .int .i64 y] t)).drew fun e w' => e = .returned (.int .i64 (orI x y)) ∧ (W.alloc (.cells #[.int .i64 x, .int .i64 y] t)).drew = w' :=
  Or_any _ _ _ _ _ (new2_0 _ _ _ _) (new2_1 _ _ _ _)
abbrev BS (kb pb : Nat) (W w' : World) : Prop := w'.cell? ⟨kb, 0, none⟩ = some (.func (.func 75) #[] #[.pointer (some ⟨pb, 0, none⟩)]) ∧ kb < w'.heap.size ∧ Grew W w'
theorem BS_alloc {kb pb : Nat} {W w' : World} (h : BS kb pb W w') (o : Obj) : BS kb pb W (w'.alloc o) :=
  ⟨(((Below.refl w'.heap.size w').alloc (Nat.le_refl _) o).cell (p := ⟨kb, 0, none⟩) h.2.1).trans h.1, by have := h.2.1; simp; omega, h.2.2.alloc o⟩
theorem BS_drew {kb pb : Nat} {W w' : World} (h : BS kb pb W w') : BS kb pb W w'.drew := ⟨h.1, h.2.1, h.2.2.drew⟩
theorem BS_grew {kb pb : Nat} {W w' : World} (h : BS kb pb W w') : Grew W w' := h.2.2
def byCmp (lo : Nat → Int) (i k : Nat) : Int := orI (cmpI (lo i) (lo k)) (cmpI (i : Int) (k : Int))
set_option maxRecDepth 100000 in
set_option maxHeartbeats 1000000 in
theorem byCmp_any (kb pb sb m c : Nat) (lo : Nat → Int) (i k : Nat) (W : World) (hm : m ≤ maxLen) (hk0 : W.cell? ⟨kb, 0, none⟩ = some (.func (.func 75) #[] #[.pointer (some ⟨pb, 0, none⟩)])) (hp : W.cell? ⟨pb, 0, none⟩ = some (.slice (some ⟨sb, 0, none⟩) m c)) (hs : ∀ j, j < m → W.cell? ⟨sb, j * 2, none⟩ = some (.int .i64 (lo j))) (hi : i < m) (hk : k < m)
    (l1 : kb < W.heap.size) (l2 : pb < W.heap.size) (l3 : sb < W.heap.size) :
    Calls Try.prog 91 #[.int .i64 (i : Int), .int .i64 (k : Int), .pointer (some ⟨kb, 0, none⟩)] W fun e w' => e = .returned (.int .i64 (byCmp lo i k)) ∧ Grew W w' := by
  have HK := Lib.hid (fun (w' : World) (j : Nat) (hj : j < m) (h : Grew W w') => key_any pb sb m c j (lo j) w' hm (((bcell h.below).1 _ _ l2).trans hp) hj (((bcell h.below).1 _ _ l3).trans (hs j hj)))
  have hS0 : BS kb pb W W := ⟨hk0, l1, Grew.refl _⟩
  have HR := Lib.hid (show orI (cmpI (lo i) (lo k)) (cmpI (i : Int) (k : Int)) = byCmp lo i k from rfl)
  clear hp hs hk0
  have M0 : True := trivial
  go_enter Try.func91, Try.ntmps91
  go_upto_region 1 with (fail)
  go_region_held3 (fun w' => w'.cell? ⟨kb, 0, none⟩ = some (.func (.func 75) #[] #[.pointer (some ⟨pb, 0, none⟩)]) ∧ kb < w'.heap.size ∧ Grew W w') (first | (repeat (first | (with_reducible assumption) | (with_reducible refine BS_drew ?_) | (with_reducible refine BS_alloc ?_ _)))) (first | (go_at_call 75; refine (HK.out _ i hi (BS_grew (kb := kb) (pb := pb) (by with_reducible assumption))).mono ?_; rintro e wy ⟨rfl, rfl⟩) | (go_at_call 75; refine (HK.out _ k hk (BS_grew (kb := kb) (pb := pb) (by with_reducible assumption))).mono ?_; rintro e wy ⟨rfl, rfl⟩) | (go_at_call 93; refine (Compare_any _ _ _).mono ?_; rintro e wy ⟨rfl, rfl⟩) | (go_at_call 92; (first | refine (Or_new _ _ _ _ _).mono ?_ | refine (Or_newD _ _ _ _ _).mono ?_); rintro e wy ⟨rfl, rfl⟩))
  go_wp2
  go_ret
  first | exact ⟨ret_int HR.out, ((Grew.refl _).alloc _).drew⟩ | exact ⟨ret_int HR.out, (Grew.refl _).drew.alloc _⟩
end Go.Proofs.Ytgcepjminlapiaa
