/- The statement PlaneSpoilt: its walk. -/
import Derived.Test.YtgcepjminlapiaaSpoilLaw
import Derived.Test.YtgcepjminlapiaaKnown
import Derived.Test.YtgcepjminlapiaaOpenH
namespace Go.Proofs.Ytgcepjminlapiaa
open Go.RowKit
set_option linter.unusedVariables false
set_option linter.unusedSimpArgs false
set_option maxRecDepth 100000 in
set_option maxHeartbeats 1000000 in
theorem PSp_out (a : Option Addr) (m d : Nat) (hs : Nat → HV) (at' now : Int) (w : World) (B : Nat) (hBw : B ≤ w.heap.size) (hH : Hits B w a m hs) (hU : 30 < m ∨ packB m hs = false ∨ now < 0 ∨ 255 < now) :
    Calls Try.prog 12 #[.slice a m d, .int .i64 at', .int .i64 now] w fun e w' => e = .returned (.bool true) ∧ Below w.heap.size w w' := by
  have hm := hH.1
  unfold maxLen at hm
  have HH := Lib.hid hH
  clear hH
  by_cases h1 : 30 < m
  · have h1' : (30 : Int) < (m : Int) := by omega
    clear hU
    go_enter Try.func12, Try.ntmps12
    go_wp2_with (go_at_call 16; refine (lawKnown_any _).mono ?_; rintro e wk ⟨rfl, hbk⟩)
    go_ret
    exact ⟨rfl, hbk⟩
  · have h1' : ¬ (30 : Int) < (m : Int) := by omega
    cases hp : packB m hs
    · clear hU
      go_enter Try.func12, Try.ntmps12
      go_wp2_with (first | (go_at_call 38; refine (Packed_any a m d hs _ B hBw HH.out).mono ?_; rintro e wy ⟨rfl, hby⟩; rw [hp]) | (go_at_call 16; refine (lawKnown_any _).mono ?_; rintro e wk ⟨rfl, hbk⟩))
      go_ret
      exact ⟨rfl, hby.trans (hbk.mono hby.size)⟩
    · have hn : now < 0 ∨ 255 < now := by rcases hU with h | h | h | h; omega; (rw [hp] at h; cases h); exact .inl h; exact .inr h
      by_cases h2 : now < 0
      · clear hU
        go_enter Try.func12, Try.ntmps12
        go_wp2_with (first | (go_at_call 38; refine (Packed_any a m d hs _ B hBw HH.out).mono ?_; rintro e wy ⟨rfl, hby⟩; rw [hp]) | (go_at_call 16; refine (lawKnown_any _).mono ?_; rintro e wk ⟨rfl, hbk⟩))
        go_ret
        exact ⟨rfl, hby.trans (hbk.mono hby.size)⟩
      · have h3 : 255 < now := by omega
        clear hU
        go_enter Try.func12, Try.ntmps12
        go_wp2_with (first | (go_at_call 38; refine (Packed_any a m d hs _ B hBw HH.out).mono ?_; rintro e wy ⟨rfl, hby⟩; rw [hp]) | (go_at_call 16; refine (lawKnown_any _).mono ?_; rintro e wk ⟨rfl, hbk⟩))
        go_ret
        exact ⟨rfl, hby.trans (hbk.mono hby.size)⟩
theorem own_some {w : World} {base : Nat} {e : TypeId} {k : Nat} {a : Option Addr} {n m c : Nat} {xs : List Value} (h : w.ownsRow base e k (.slice a m c) n xs) (hn : 0 < n) : ∃ g, a = some ⟨g, 0, none⟩ ∧ base ≤ g ∧ g < w.heap.size ∧ n ≤ c ∧ c ≤ maxLen := by
  rcases h.2 with ⟨hv, hn'⟩ | ⟨g, cap, cur, hv, hb, hg, hnc, hcm, hcs, htake⟩
  · omega
  · injection hv with h1 h2 h3
    subst h3
    exact ⟨g, h1, hb, (Array.getElem?_eq_some_iff.1 hg).1, hnc, hcm⟩
theorem bC_get {l : List Nat} {i : Nat} (h : i < l.length) : (bC l)[i]? = some (.int .u8 ((l.getD i 0 : Nat) : Int)) := by
  rw [bC, List.getElem?_map, List.getElem?_eq_getElem h, List.getD_eq_getElem?_getD, List.getElem?_eq_getElem h]; rfl
/-- one byte of an owned row, changed -/
theorem spoil_cells {w : World} {base : Nat} {e : TypeId} {g n c : Nat} {l : List Nat} (h : w.ownsRow base e 1 (.slice (some ⟨g, 0, none⟩) n c) n (bC l)) {k y : Nat} (hk : k < n) :
    ∀ i, i < n → (w.setCell ⟨g, k, none⟩ (.int .u8 (y : Int))).cell? ⟨g, 0 + i, none⟩ = some (.int .u8 ((if i = k then y else l.getD i 0 : Nat) : Int)) := by
  have hl : l.length = n := by have := h.1; rw [bC_len] at this; omega
  intro i hi
  have h1 := (h.stored k (.int .u8 (y : Int))).1.cellAt i (by omega)
  rw [Nat.zero_add, h1]
  by_cases e : i = k
  · subst e
    rw [List.getElem?_set_self (by rw [bC_len]; omega), if_pos rfl]
  · rw [List.getElem?_set_ne (by omega), if_neg e, bC_get (by omega)]
theorem fileN_len {m : Nat} {hs : Nat → HV} (hm : m ≤ 30) (hp : packB m hs = true) : (fileN m hs).length ≤ 1000 ∧ 7 ≤ (fileN m hs).length := by
  have h1 := bodyN_len (allUpto_iff.1 hp) (show m ≤ 2000 by omega) (Nat.le_refl m)
  have h2 := (grp_len 4 m (by have : (128 : Nat) ^ (4 + 1) = 34359738368 := (by decide); omega)).1
  have h3 : 5 ≤ (bodyN m hs m).length := by simp [bodyN]; omega
  simp only [fileN, List.length_append, List.length_cons, List.length_nil]
  omega
set_option maxRecDepth 100000 in
set_option maxHeartbeats 1000000 in
theorem PSp_off (a : Option Addr) (m d : Nat) (hs : Nat → HV) (at' now : Int) (w : World) (B : Nat) (hBw : B ≤ w.heap.size) (hH : Hits B w a m hs) (hm : m ≤ 30) (hp : packB m hs = true) (h1 : 0 ≤ now) (h2 : now ≤ 255) (hU : at' < 0 ∨ ((fileN m hs).length : Int) ≤ at') :
    Calls Try.prog 12 #[.slice a m d, .int .i64 at', .int .i64 now] w fun e w' => e = .returned (.bool true) ∧ Below w.heap.size w w' := by
  (have HH := Lib.hid hH; clear hH; have h1' : ¬ (30 : Int) < (m : Int) := (by omega); have hlen : (fileN m hs).length ≤ 1000 ∧ 7 ≤ (fileN m hs).length := fileN_len hm hp; have HPK := Lib.hid (fun (w1 : World) (h1 : B ≤ w1.heap.size) (h2 : Hits B w1 a m hs) => Pack_ok a m d hs w1 B h1 h2 hm hp))
  have h3 : ¬ now < 0 := by omega
  have h4 : ¬ 255 < now := by omega
  generalize fileN m hs = FN at *
  by_cases h5 : at' < 0
  · clear hU
    go_enter Try.func12, Try.ntmps12
    go_wp2_with (first | (go_at_call 38; refine (Packed_any a m d hs _ B hBw HH.out).mono ?_; rintro e wy ⟨rfl, hby⟩; rw [hp]) | (go_at_call 37; refine (HPK.out _ (Nat.le_trans hBw hby.size) (HH.out.below (hby.mono hBw))).mono ?_; rintro e wz ⟨za, zc, rfl, hown, hbz⟩; have HO := Lib.hid hown; have hbz2 : Below w.heap.size w wz := hby.trans (hbz.mono hby.size); clear hown hbz hby) | (go_at_call 16; refine (lawKnown_any _).mono ?_; rintro e wk ⟨rfl, hbk⟩))
    go_ret
    exact ⟨rfl, hbz2.trans (hbk.mono hbz2.size)⟩
  · have h6 : (FN.length : Int) ≤ at' := by rcases hU with h | h; omega; exact h
    clear hU
    go_enter Try.func12, Try.ntmps12
    go_wp2_with (first | (go_at_call 38; refine (Packed_any a m d hs _ B hBw HH.out).mono ?_; rintro e wy ⟨rfl, hby⟩; rw [hp]) | (go_at_call 37; refine (HPK.out _ (Nat.le_trans hBw hby.size) (HH.out.below (hby.mono hBw))).mono ?_; rintro e wz ⟨za, zc, rfl, hown, hbz⟩; have HO := Lib.hid hown; have hbz2 : Below w.heap.size w wz := hby.trans (hbz.mono hby.size); clear hown hbz hby) | (go_at_call 16; refine (lawKnown_any _).mono ?_; rintro e wk ⟨rfl, hbk⟩))
    go_ret
    exact ⟨rfl, hbz2.trans (hbk.mono hbz2.size)⟩
set_option maxRecDepth 100000 in
set_option maxHeartbeats 1000000 in
theorem PSp_same (a : Option Addr) (m d : Nat) (hs : Nat → HV) (k y : Nat) (w : World) (B : Nat) (hBw : B ≤ w.heap.size) (hH : Hits B w a m hs) (hm : m ≤ 30) (hp : packB m hs = true) (hy : y < 256) (hk : k < (fileN m hs).length) (hU : (fileN m hs).getD k 0 = y) :
    Calls Try.prog 12 #[.slice a m d, .int .i64 (k : Int), .int .i64 (y : Int)] w fun e w' => e = .returned (.bool true) ∧ Below w.heap.size w w' := by
  (have HH := Lib.hid hH; clear hH; have h1' : ¬ (30 : Int) < (m : Int) := (by omega); have hlen : (fileN m hs).length ≤ 1000 ∧ 7 ≤ (fileN m hs).length := fileN_len hm hp; have HPK := Lib.hid (fun (w1 : World) (h1 : B ≤ w1.heap.size) (h2 : Hits B w1 a m hs) => Pack_ok a m d hs w1 B h1 h2 hm hp))
  generalize fileN m hs = FN at *
  have h3 : ¬ (y : Int) < 0 := by omega
  have h4 : ¬ 255 < (y : Int) := by omega
  have h5 : ¬ (k : Int) < 0 := by omega
  have h6 : ¬ (FN.length : Int) ≤ (k : Int) := by omega
  subst hU
  generalize hz : FN.getD k 0 = z at *
  have HZ := Lib.hid hz
  clear hz
  go_enter Try.func12, Try.ntmps12
  go_wp2_with (first | (go_at_call 38; refine (Packed_any a m d hs _ B hBw HH.out).mono ?_; rintro e wy ⟨rfl, hby⟩; rw [hp]) | ((go_at_call 37; refine (HPK.out _ (Nat.le_trans hBw hby.size) (HH.out.below (hby.mono hBw))).mono ?_; rintro e wz ⟨za, zc, rfl, hown, hbz⟩; obtain ⟨g, rfl, hg1, hg2, _, _⟩ := own_some hown (show 0 < FN.length from Nat.lt_of_lt_of_le (by decide) hlen.2); have c0 : wz.cell? ⟨g, k, none⟩ = some (.int .u8 ((FN.getD k 0 : Nat) : Int)) := (hown.cellAt k (by omega)).trans (bC_get hk); have HO := Lib.hid hown; have hbz2 : Below w.heap.size w wz := hby.trans (hbz.mono hby.size); clear hown hbz hby); rw [HZ.out] at c0) | (go_at_call 16; refine (lawKnown_any _).mono ?_; rintro e wk ⟨rfl, hbk⟩))
  go_ret
  exact ⟨rfl, hbz2.trans (hbk.mono hbz2.size)⟩
end Go.Proofs.Ytgcepjminlapiaa
