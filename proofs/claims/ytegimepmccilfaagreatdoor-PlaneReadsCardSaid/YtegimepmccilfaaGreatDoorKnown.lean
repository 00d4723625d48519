/- The statements' known. -/
import Derived.Test.YtegimepmccilfaaGreatDoorExample
import Derived.Test.YtegimepmccilfaaGreatDoorSees
import Derived.Test.YtegimepmccilfaaGreatDoorPlaneR
import Derived.Test.YtegimepmccilfaaGreatDoorPlaneM
namespace Go.Proofs.YtegimepmccilfaaGreatDoor
open Go.RowKit
set_option linter.unusedVariables false
set_option linter.unusedSimpArgs false
abbrev h1V : HV := ⟨0, 2, 2, 0, 9, 1000⟩
abbrev h2V : HV := ⟨1, 3, 1, 12, 0, 0⟩
theorem ex_check (b d : Nat) : checkB 2 (exP b d) = true := rfl
theorem ex_h1 (b d : Nat) : hitB (exP b d 0) h1V = true := rfl
theorem ex_h2 (b d : Nat) : hitB (exP b d 1) h2V = true := rfl
theorem ex_n1 (b d : Nat) : gateN (exP b d 0) h1V = 1 := rfl
theorem ex_n2 (b d : Nat) : gateN (exP b d 1) h2V = 2 := rfl
theorem ex_f1 (b d : Nat) : gateF (exP b d 0) h1V 0 = ⟨0, 293, 308⟩ := rfl
theorem ex_f2 (b d : Nat) : gateF (exP b d 1) h2V 0 = ⟨500, 300, 340⟩ := rfl
theorem ex_f3 (b d : Nat) : gateF (exP b d 1) h2V 1 = ⟨500, 360, 400⟩ := rfl
theorem ex_tl (b d : Nat) : timeLo (exP b d 0) h1V = 976 := rfl
theorem ex_th (b d : Nat) : timeHi (exP b d 0) h1V = 994 := rfl
theorem ex_must (b d : Nat) : seesMust (exP b d 0) 390 410 = false := rfl
theorem ex_can (b d : Nat) : seesCan (exP b d 0) 390 410 = true := rfl
theorem gates_1 (b d : Nat) {B : Nat} {w : World} {a : Option Addr} (h : GatesAt B w a (gateN (exP b d 0) h1V) (gateF (exP b d 0) h1V)) : GatesAt B w a 1 (fun _ => ⟨0, 293, 308⟩) := by
  rcases h with h | ⟨x, o, ha, hB, hc⟩
  · rw [ex_n1] at h; cases h
  · refine .inr ⟨x, o, ha, hB, fun i hi => ?_⟩
    obtain rfl : i = 0 := by omega
    have := hc 0 (by rw [ex_n1]; decide)
    rwa [ex_f1] at this
def two2 (i : Nat) : GV := if i = 0 then ⟨500, 300, 340⟩ else ⟨500, 360, 400⟩
theorem gates_2 (b d : Nat) {B : Nat} {w : World} {a : Option Addr} (h : GatesAt B w a (gateN (exP b d 1) h2V) (gateF (exP b d 1) h2V)) : GatesAt B w a 2 two2 := by
  rcases h with h | ⟨x, o, ha, hB, hc⟩
  · rw [ex_n2] at h; cases h
  · refine .inr ⟨x, o, ha, hB, fun i hi => ?_⟩
    by_cases e : i = 0
    · subst e
      have := hc 0 (by rw [ex_n2]; decide)
      rwa [ex_f2] at this
    · obtain rfl : i = 1 := by omega
      have := hc 1 (by rw [ex_n2]; decide)
      rwa [ex_f3] at this
theorem step_in {w X Y : World} (h : Below w.heap.size w X) (hb : Below X.heap.size X Y) : Below w.heap.size w Y := h.trans (hb.mono h.size)
theorem old_gates {X : World} {o : Obj} {g : Option Addr} {n : Nat} {f : Nat → GV} (h : GatesAt X.heap.size X g n f) : GatesAt (X.alloc o).heap.size (X.alloc o) g n f :=
  (h.below ((Below.refl _ _).alloc (Nat.le_refl _) _)).up (by simp)
theorem new_gates1 {X : World} {t : TypeId} {g : GV} : GatesAt (X.alloc (.cells #[.int .i64 g.z, .int .i64 g.lo, .int .i64 g.hi] t)).heap.size (X.alloc (.cells #[.int .i64 g.z, .int .i64 g.lo, .int .i64 g.hi] t)) (some ⟨X.heap.size, 0, none⟩) 1 (fun _ => g) := by
  refine .inr ⟨X.heap.size, 0, rfl, by simp, fun i hi => ?_⟩
  obtain rfl : i = 0 := by omega
  have hc := fun j => cell_of_row _ X.heap.size j _ _ _ (heapQ_new (w := X) (o := .cells #[.int .i64 g.z, .int .i64 g.lo, .int .i64 g.hi] t) rfl)
  exact ⟨hc 0, hc 1, hc 2⟩
theorem new_gates2 {X : World} {t : TypeId} : GatesAt (X.alloc (.cells #[.int .i64 500, .int .i64 300, .int .i64 340, .int .i64 500, .int .i64 360, .int .i64 400] t)).heap.size (X.alloc (.cells #[.int .i64 500, .int .i64 300, .int .i64 340, .int .i64 500, .int .i64 360, .int .i64 400] t)) (some ⟨X.heap.size, 0, none⟩) 2 two2 := by
  refine .inr ⟨X.heap.size, 0, rfl, by simp, fun i hi => ?_⟩
  have hc := fun j => cell_of_row _ X.heap.size j _ _ _ (heapQ_new (w := X) (o := .cells #[.int .i64 500, .int .i64 300, .int .i64 340, .int .i64 500, .int .i64 360, .int .i64 400] t) rfl)
  by_cases e : i = 0
  · subst e; exact ⟨hc 0, hc 1, hc 2⟩
  · obtain rfl : i = 1 := by omega
    exact ⟨hc 3, hc 4, hc 5⟩
set_option maxRecDepth 100000 in
set_option maxHeartbeats 2000000 in
theorem lawKnown_any (w : World) :
    Calls Tryz.prog 6 #[] w fun e w' => e = .returned (.bool true) ∧ Below w.heap.size w w' := by
  have hB := Below.refl w.heap.size w
  go_enter Tryz.func6, Tryz.ntmps6
  go_upto_region 1 with (fail)
  go_cut [1, 2] from 10 to 15 (fun s1 s2 wx => ∃ ga gc, s1 = .slice ga 1 gc ∧ s2 = .int .i64 0 ∧ Hid (GatesAt wx.heap.size wx ga 1 (fun _ => ⟨0, 293, 308⟩)) ∧ Below w.heap.size w wx)
  case first =>
    go_wp2_with (first | (go_at_call 14; refine (Example_any _).mono ?_; rintro e wE ⟨b, d, a, rfl, hPl, hbE⟩; have hB := step_in hB hbE; have HPl := Lib.hid hPl; clear hPl hbE) | (go_at_call 13; refine (Gates_ok a 2 2 (exP b d) h1V _ _ (Nat.le_refl _) HPl.out (ex_check b d) 0 (by decide) rfl (ex_h1 b d)).mono ?_; rintro e wG ⟨ga, gc, rfl, hGA, hbG⟩; have hB := step_in hB hbG; have HG := Lib.hid (gates_1 b d hGA); clear hGA hbG; rw [ex_n1, show gateE (exP b d 0) h1V = 0 from rfl]))
    go_meet
    exact ⟨ga, gc, rfl, rfl, HG, hB⟩
  clear hB
  obtain ⟨g1, c1, rfl, rfl, HG1, hB⟩ := hcut
  go_upto_region 2 with (fail)
  go_cut [3, 4] from 16 to 21 (fun s3 s4 wx => ∃ ga gc, s3 = .slice ga 2 gc ∧ s4 = .int .i64 0 ∧ Hid (GatesAt wx.heap.size wx ga 2 two2) ∧ Hid (GatesAt wx.heap.size wx g1 1 (fun _ => ⟨0, 293, 308⟩)) ∧ Below w.heap.size w wx)
  case first =>
    have hB0 := Below.refl wc.heap.size wc
    go_wp2_with (first | (go_at_call 14; refine (Example_any _).mono ?_; rintro e wE ⟨b, d, a, rfl, hPl, hbE⟩; have hB := step_in hB hbE; have hB0 := step_in hB0 hbE; have HPl := Lib.hid hPl; clear hPl hbE) | (go_at_call 13; refine (Gates_ok a 2 2 (exP b d) h2V _ _ (Nat.le_refl _) HPl.out (ex_check b d) 1 (by decide) rfl (ex_h2 b d)).mono ?_; rintro e wG ⟨ga, gc, rfl, hGA, hbG⟩; have hB := step_in hB hbG; have hB0 := step_in hB0 hbG; have HG := Lib.hid (gates_2 b d hGA); clear hGA hbG; rw [ex_n2, show gateE (exP b d 1) h2V = 0 from rfl]))
    go_meet
    exact ⟨ga, gc, rfl, rfl, HG, Lib.hid ((HG1.out.below hB0).up hB0.size), hB⟩
  clear hB HG1
  rename_i wc1
  obtain ⟨g2, c2, rfl, rfl, HG2, HG1, hB⟩ := hcut
  go_upto_region 3 with (fail)
  go_cut [5, 6] from 22 to 27 (fun s5 s6 wx => ∃ x, s5 = .pointer (some ⟨x, 0, none⟩) ∧ s6 = .int .i64 0 ∧ x < wx.heap.size ∧ wx.cell? ⟨x, 0, none⟩ = some (.int .i64 976) ∧ wx.cell? ⟨x, 1, none⟩ = some (.int .i64 994) ∧ Hid (GatesAt wx.heap.size wx g2 2 two2) ∧ Hid (GatesAt wx.heap.size wx g1 1 (fun _ => ⟨0, 293, 308⟩)) ∧ Below w.heap.size w wx)
  case first =>
    have hB0 := Below.refl wc.heap.size wc
    go_wp2_with (first | (go_at_call 14; refine (Example_any _).mono ?_; rintro e wE ⟨b, d, a, rfl, hPl, hbE⟩; have hB := step_in hB hbE; have hB0 := step_in hB0 hbE; have HPl := Lib.hid hPl; clear hPl hbE) | (go_at_call 15; refine (Times_ok a 2 2 (exP b d) h1V _ _ (Nat.le_refl _) HPl.out (ex_check b d) 0 (by decide) rfl (ex_h1 b d)).mono ?_; rintro e wG ⟨rfl, hbG⟩; have hB := step_in hB hbG; have hB0 := step_in hB0 hbG; clear hbG; rw [ex_tl, ex_th]))
    go_meet
    have hB0' := hB0.alloc hB0.size (.cells #[.int .i64 976, .int .i64 994] 38)
    exact ⟨_, rfl, rfl, by simp, by go_simp, by go_simp, Lib.hid ((HG2.out.below hB0').up hB0'.size), Lib.hid ((HG1.out.below hB0').up hB0'.size), hB.alloc hB.size _⟩
  clear hB HG1 HG2
  obtain ⟨x, rfl, rfl, hx, x0, x1, HG2, HG1, hB⟩ := hcut
  go_upto_region 4 with (fail)
  go_cut [7, 8, 9] from 28 to 34 (fun s7 s8 s9 wx => s7 = .bool false ∧ s8 = .bool true ∧ s9 = .int .i64 0 ∧ x < wx.heap.size ∧ wx.cell? ⟨x, 0, none⟩ = some (.int .i64 976) ∧ wx.cell? ⟨x, 1, none⟩ = some (.int .i64 994) ∧ Hid (GatesAt wx.heap.size wx g2 2 two2) ∧ Hid (GatesAt wx.heap.size wx g1 1 (fun _ => ⟨0, 293, 308⟩)) ∧ Below w.heap.size w wx)
  case first =>
    have hB0 := Below.refl wc.heap.size wc
    go_wp2_with (first | (go_at_call 14; refine (Example_any _).mono ?_; rintro e wE ⟨b, d, a, rfl, hPl, hbE⟩; have hB := step_in hB hbE; have hB0 := step_in hB0 hbE; have HPl := Lib.hid hPl; clear hPl hbE) | (go_at_call 16; refine (Sees_ok a 2 2 (exP b d) 390 410 _ _ (Nat.le_refl _) HPl.out (ex_check b d) 0 (by decide) rfl).mono ?_; rintro e wG ⟨rfl, hbG⟩; have hB := step_in hB hbG; have hB0 := step_in hB0 hbG; clear hbG; rw [ex_must, ex_can]))
    go_meet
    have hc := (bcell hB0).1
    exact ⟨rfl, rfl, rfl, Nat.lt_of_lt_of_le hx hB0.size, (hc _ _ hx).trans x0, (hc _ _ hx).trans x1, Lib.hid ((HG2.out.below hB0).up hB0.size), Lib.hid ((HG1.out.below hB0).up hB0.size), hB⟩
  clear hB HG1 HG2 x0 x1 hx
  obtain ⟨rfl, rfl, rfl, hx, x0, x1, HG2, HG1, hB⟩ := hcut
  go_upto_region 7 with (fail)
  have HFirst : Hid True := Lib.hid trivial
  go_wp2_with (first | (go_at_call 17; have hq := HFirst; clear hq HFirst; refine (SameGates_any g1 _ 1 1 c1 1 (fun _ => ⟨0, 293, 308⟩) (fun _ => ⟨0, 293, 308⟩) _ _ (Nat.le_refl _) (old_gates HG1.out) (new_gates1 (g := ⟨0, 293, 308⟩)) (by decide) (by decide)).mono ?_; rintro e wS ⟨rfl, hbS⟩; rw [sameGatesB_refl (fun _ _ => rfl)]; have hB := step_in (hB.alloc hB.size _) hbS; have HG2 := Lib.hid (((old_gates HG2.out).below hbS).up hbS.size); clear hbS) | (go_at_call 17; refine (SameGates_any g2 _ 2 2 c2 2 two2 two2 _ _ (Nat.le_refl _) (old_gates HG2.out) new_gates2 (by decide) (by decide)).mono ?_; rintro e wT ⟨rfl, hbT⟩; rw [sameGatesB_refl (fun _ _ => rfl)]; have hB := step_in (hB.alloc hB.size _) hbT; clear hbT))
  go_ret
  exact ⟨rfl, hB⟩
end Go.Proofs.YtegimepmccilfaaGreatDoor
