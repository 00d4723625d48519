/- The walks of the reference's Film and touch. -/
import Derived.Test.YtgcepjminlapiaaPlaneO
import Derived.Test.YtgcepjminlapiaaPlaneQ
import Derived.Test.YtgcepjminlapiaaPlaneH
import Derived.Deep.RegionHeld3
namespace Go.Proofs.Ytgcepjminlapiaa
open Go.RowKit
set_option linter.unusedVariables false
set_option linter.unusedSimpArgs false
set_option maxRecDepth 100000 in
set_option maxHeartbeats 1000000 in
theorem Film_any (a : Option Addr) (n c : Nat) (ps : Nat → PR) (h : HV) (w : World) (B : Nat) (hBw : B ≤ w.heap.size) (hP : Planes B w a n ps) (hn : n ≤ 16) (k : Nat) (hk : k < n) (hhp : h.plane = k) :
    Calls Try.prog 78 #[setupV a n c, h.val] w fun e w' => e = .returned (.bool ((ps k).kind == 3)) ∧ Below w.heap.size w w' := by
  obtain ⟨b, off, rfl, hbB, ⟨c0, c1, c2, c3, c4, c5, c6, c7, c8, c9, c10, c11, c12, c13, c14⟩, hm⟩ := hP.get hk
  clear hP hm c1 c2 c3 c4 c5 c6 c7 c8 c9 c10 c11 c12 c13 c14
  obtain ⟨_, channel, many, drift, charge, time⟩ := h
  dsimp only at hhp ⊢
  subst hhp
  generalize ps k = p at *
  have hbz : b < w.heap.size := by omega
  have lt1 : b < w.heap.size + 1 := by omega
  have lt2 : b < w.heap.size + 1 + 1 := by omega
  go_enter Try.func78, Try.ntmps78
  go_wp2
  go_ret
  exact ⟨rfl, ((Below.refl _ _).alloc (Nat.le_refl _) _).alloc (by simp) _⟩
theorem refTimes_t2 {a : Option Addr} {n c : Nat} {ps : Nat → PR} {h : HV} {w : World} {B : Nat} (hBw : B ≤ w.heap.size) (hP : Planes B w a n ps) (hn : n ≤ 16) {k : Nat} (hk : k < n) (hhp : h.plane = k) (hS : Shaped (ps k)) (ht : -1000000000 ≤ h.time ∧ h.time ≤ 1000000000) :
    Calls Try.prog 21 #[setupV a n c, h.val] w fun e w' => e = .returned (.agg #[.int .i64 (timeLo (ps k) h), .int .i64 (timeHi (ps k) h)]) ∧ Below w.heap.size w w' :=
  refTimes_any a n c ps h w B hBw hP hn k hk hhp hS ht
abbrev TS (a : Option Addr) (n c : Nat) (A1 A2 : Array Value) (w w' : World) : Prop := w'.cell? ⟨w.heap.size, 0, none⟩ = some (.slice a n c) ∧ (∀ j, w'.cell? ⟨w.heap.size + 1, j, none⟩ = A1[j]?) ∧ (∀ j, w'.cell? ⟨w.heap.size + 1 + 1, j, none⟩ = A2[j]?) ∧ w.heap.size + 3 ≤ w'.heap.size ∧ Below w.heap.size w w'
section
variable {a : Option Addr} {n c : Nat} {A1 A2 : Array Value} {w W wy : World}
theorem TS_step (h : TS a n c A1 A2 w W) (hb : Below W.heap.size W wy) : TS a n c A1 A2 w wy := by
  obtain ⟨h0, h1, h2, h3, h4⟩ := h
  have hc := (bcell hb).1
  have hz := hb.size
  exact ⟨(hc _ _ (by omega)).trans h0, fun j => (hc _ _ (by omega)).trans (h1 j), fun j => (hc _ _ (by omega)).trans (h2 j), by omega, h4.trans (hb.mono (by omega))⟩
theorem TS_drew (h : TS a n c A1 A2 w W) : TS a n c A1 A2 w W.drew := ⟨h.1, h.2.1, h.2.2.1, h.2.2.2.1, h.2.2.2.2.drew⟩
theorem TS_alloc (h : TS a n c A1 A2 w W) (o : Obj) : TS a n c A1 A2 w (W.alloc o) := TS_step h ((Below.refl _ _).alloc (Nat.le_refl _) _)
theorem TS_set {x j : Nat} {v : Value} (h : TS a n c A1 A2 w W) (hx : w.heap.size + 3 ≤ x) : TS a n c A1 A2 w (W.setCell ⟨x, j, none⟩ v) := by
  obtain ⟨h0, h1, h2, h3, h4⟩ := h
  exact ⟨by rw [set_other (by omega)]; exact h0, fun i => by rw [set_other (by omega)]; exact h1 i, fun i => by rw [set_other (by omega)]; exact h2 i, by simpa using h3, h4.setCell (p := ⟨_, _, _⟩) (by simp; omega) _⟩
theorem TS_sz (h : TS a n c A1 A2 w W) : w.heap.size + 3 ≤ W.heap.size := h.2.2.2.1
theorem TS_below (h : TS a n c A1 A2 w W) : Below w.heap.size w W := h.2.2.2.2
end
def touchB (l1 h1 l2 h2 : Int) : Bool := decide (l1 ≤ h2) && decide (l2 ≤ h1)
set_option maxRecDepth 100000 in
set_option maxHeartbeats 3000000 in
theorem touch_any (a : Option Addr) (n c : Nat) (ps : Nat → PR) (h g : HV) (w : World) (B : Nat) (hBw : B ≤ w.heap.size) (hP : Planes B w a n ps) (hn : n ≤ 16) (k : Nat) (hk : k < n) (hhp : h.plane = k) (hS : Shaped (ps k)) (ht : -1000000000 ≤ h.time ∧ h.time ≤ 1000000000) (k2 : Nat) (hk2 : k2 < n) (hhp2 : g.plane = k2) (hS2 : Shaped (ps k2)) (ht2 : -1000000000 ≤ g.time ∧ g.time ≤ 1000000000) :
    Calls Try.prog 79 #[setupV a n c, h.val, g.val] w fun e w' => e = .returned (.bool (touchB (timeLo (ps k) h) (timeHi (ps k) h) (timeLo (ps k2) g) (timeHi (ps k2) g))) ∧ Below w.heap.size w w' := by
  have HT1 := Lib.hid (fun (W : World) (hW : Below w.heap.size w W) => refTimes_t2 (h := h) (Nat.le_trans hBw hW.size) (hP.below (hW.mono hBw)) hn hk hhp hS ht (c := c))
  have HT2 := Lib.hid (fun (W : World) (hW : Below w.heap.size w W) => refTimes_t2 (h := g) (Nat.le_trans hBw hW.size) (hP.below (hW.mono hBw)) hn hk2 hhp2 hS2 ht2 (c := c))
  obtain ⟨p1, channel, many, drift, charge, time⟩ := h
  obtain ⟨p2, channel2, many2, drift2, charge2, time2⟩ := g
  generalize timeLo (ps k) _ = l1 at *
  generalize timeHi (ps k) _ = h1 at *
  generalize timeLo (ps k2) _ = l2 at *
  generalize timeHi (ps k2) _ = h2 at *
  have HR := Lib.hid (show touchB l1 h1 l2 h2 = (decide (l1 ≤ h2) && decide (l2 ≤ h1)) from rfl)
  clear hP hS hS2 ht ht2 hhp hhp2
  have HU1 := Lib.hid (show ∀ (W : World), Below w.heap.size w W → Calls Try.prog 21 #[.agg #[.slice a n c], .agg #[.int .i64 p1, .int .i64 channel, .int .i64 many, .int .i64 drift, .int .i64 charge, .int .i64 time]] W (fun e w' => e = .returned (.agg #[.int .i64 l1, .int .i64 h1]) ∧ Below W.heap.size W w') from HT1.out)
  have HU2 := Lib.hid (show ∀ (W : World), Below w.heap.size w W → Calls Try.prog 21 #[.agg #[.slice a n c], .agg #[.int .i64 p2, .int .i64 channel2, .int .i64 many2, .int .i64 drift2, .int .i64 charge2, .int .i64 time2]] W (fun e w' => e = .returned (.agg #[.int .i64 l2, .int .i64 h2]) ∧ Below W.heap.size W w') from HT2.out)
  clear HT1 HT2
  go_enter Try.func79, Try.ntmps79
  go_upto_region 1 with (fail)
  have hS0 : TS a n c #[.int .i64 p1, .int .i64 channel, .int .i64 many, .int .i64 drift, .int .i64 charge, .int .i64 time] #[.int .i64 p2, .int .i64 channel2, .int .i64 many2, .int .i64 drift2, .int .i64 charge2, .int .i64 time2] w (((w.alloc (.cells #[.slice a n c] 24)).alloc (.cells #[.int .i64 p1, .int .i64 channel, .int .i64 many, .int .i64 drift, .int .i64 charge, .int .i64 time] 26)).alloc (.cells #[.int .i64 p2, .int .i64 channel2, .int .i64 many2, .int .i64 drift2, .int .i64 charge2, .int .i64 time2] 26)) :=
    ⟨cell_of_row _ _ _ _ _ _ ((heapQ_old (by simp; omega)).trans (heapQ_2_0 _ _ _)), fun j => cell_of_row _ _ _ _ _ _ ((heapQ_old (by simp)).trans (heapQ_2_1 _ _ _)), fun j => cell_of_row _ _ _ _ _ _ (heapQ_new (by simp)), by simp, (((Below.refl _ _).alloc (Nat.le_refl _) _).alloc (by simp) _).alloc (by simp; omega) _⟩
  generalize World.alloc _ _ = w3 at *
  go_cut [7, 8] from 9 to 14 (fun s7 s8 wx => ∃ x y, s7 = .pointer (some ⟨x, 0, none⟩) ∧ s8 = .pointer (some ⟨y, 0, none⟩) ∧ (wx.cell? ⟨x, 0, none⟩ = some (.int .i64 l1) ∧ wx.cell? ⟨x, 1, none⟩ = some (.int .i64 h1)) ∧ (wx.cell? ⟨y, 0, none⟩ = some (.int .i64 l2) ∧ wx.cell? ⟨y, 1, none⟩ = some (.int .i64 h2)) ∧ Below w.heap.size w wx)
  case first =>
    have hsz0 := TS_sz hS0
    go_region_held3 (fun w' => w'.cell? ⟨w.heap.size, 0, none⟩ = some (.slice a n c) ∧ (∀ j, w'.cell? ⟨w.heap.size + 1, j, none⟩ = (#[.int .i64 p1, .int .i64 channel, .int .i64 many, .int .i64 drift, .int .i64 charge, .int .i64 time] : Array Value)[j]?) ∧ (∀ j, w'.cell? ⟨w.heap.size + 1 + 1, j, none⟩ = (#[.int .i64 p2, .int .i64 channel2, .int .i64 many2, .int .i64 drift2, .int .i64 charge2, .int .i64 time2] : Array Value)[j]?) ∧ w.heap.size + 3 ≤ w'.heap.size ∧ Below w.heap.size w w') (first | (repeat (first | (with_reducible assumption) | (with_reducible refine TS_drew ?_) | (with_reducible refine TS_alloc ?_ _) | (with_reducible refine TS_set ?_ (TS_sz (by with_reducible assumption))) | (with_reducible refine TS_set ?_ (Nat.le_succ_of_le (TS_sz (by with_reducible assumption)))))))  (first | (go_at_call 21; (first | (with_reducible refine (HU1.out _ (TS_below (by with_reducible assumption))).mono ?_) | (with_reducible refine (HU2.out _ (TS_below (by with_reducible assumption))).mono ?_)); rintro e wy ⟨rfl, hby⟩; have hsy := TS_step (by with_reducible assumption) hby; obtain ⟨hcy, hfy⟩ := bcell hby; have hly := QS_lt hby; (try have hk1 := QS_lt1 hby); (try have hk2 := QS_lt2 hby); (try have hq1 : w3.heap.size < wy.heap.size := (hly _ (by first | assumption | omega | (simp; done) | (simp; omega)))); (try have hq2 : w3.heap.size + 1 < wy.heap.size := (hly _ (by first | assumption | omega | (simp; done) | (simp; omega)))); clear hby hly))
    all_goals (go_wp2_with fail)
    all_goals go_meet
    all_goals (refine ⟨_, _, rfl, rfl, ⟨?_, ?_⟩, ⟨?_, ?_⟩, TS_below (by with_reducible assumption)⟩)
    all_goals (try go_simp)
    all_goals (refine World.cell?_setCell_same' _ _ _ ?_; go_simp)
  obtain ⟨x, y, rfl, rfl, ⟨x0, x1⟩, ⟨y0, y1⟩, hB2⟩ := hcut
  clear hS0
  by_cases q1 : l1 ≤ h2
  · by_cases q2 : l2 ≤ h1
    · have HQ := Lib.hid (show touchB l1 h1 l2 h2 = true by rw [HR.out]; simp [q1, q2])
      go_wp2
      go_ret
      exact ⟨ret_bool (by rw [HQ.out]), hB2⟩
    · have HQ := Lib.hid (show touchB l1 h1 l2 h2 = false by rw [HR.out]; simp [q2])
      go_wp2
      go_ret
      exact ⟨ret_bool (by rw [HQ.out]), hB2⟩
  · have HQ := Lib.hid (show touchB l1 h1 l2 h2 = false by rw [HR.out]; simp [q1])
    go_wp2
    go_ret
    exact ⟨ret_bool (by rw [HQ.out]), hB2⟩
end Go.Proofs.Ytgcepjminlapiaa
