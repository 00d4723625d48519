/- The statement PlaneSees: its walk. -/
import Derived.Test.YtgcepjminlapiaaKnown
import Derived.Test.YtgcepjminlapiaaSeesB
import Derived.Test.YtgcepjminlapiaaSeesC
import Derived.Test.YtgcepjminlapiaaPlaneJ
import Derived.Test.YtgcepjminlapiaaPlaneO
namespace Go.Proofs.Ytgcepjminlapiaa
open Go.RowKit
set_option linter.unusedVariables false
set_option linter.unusedSimpArgs false
/-- the boxes of a setup and two spans, in a world later on -/
abbrev LS (a : Option Addr) (n c : Nat) (lo hi plo phi : Int) (w wx : World) : Prop := wx.cell? ⟨w.heap.size, 0, none⟩ = some (.slice a n c) ∧ wx.cell? ⟨w.heap.size + 1, 0, none⟩ = some (.int .i64 lo) ∧ wx.cell? ⟨w.heap.size + 1, 1, none⟩ = some (.int .i64 hi) ∧ wx.cell? ⟨w.heap.size + 2, 0, none⟩ = some (.int .i64 plo) ∧ wx.cell? ⟨w.heap.size + 2, 1, none⟩ = some (.int .i64 phi) ∧ w.heap.size + 3 ≤ wx.heap.size ∧ w.heap.size < wx.heap.size ∧ w.heap.size + 1 < wx.heap.size ∧ w.heap.size + 2 < wx.heap.size ∧ Below w.heap.size w wx
theorem LS_step {a : Option Addr} {n c : Nat} {lo hi plo phi : Int} {w W wy : World} (hL : LS a n c lo hi plo phi w W) (hb : Below W.heap.size W wy) : LS a n c lo hi plo phi w wy := by
  obtain ⟨l0, l1, l2, l3, l4, l5, l6, l7, l8, l9⟩ := hL
  have hc := (bcell hb).1
  have hs := hb.size
  exact ⟨(hc _ _ l6).trans l0, (hc _ _ l7).trans l1, (hc _ _ l7).trans l2, (hc _ _ l8).trans l3, (hc _ _ l8).trans l4, by omega, by omega, by omega, by omega, l9.trans (hb.mono (by omega))⟩
theorem LS_start {a : Option Addr} {n c : Nat} {lo hi plo phi : Int} {w : World} {t t' t'' : TypeId} : LS a n c lo hi plo phi w (((w.alloc (.cells #[.slice a n c] t)).alloc (.cells #[.int .i64 lo, .int .i64 hi] t')).alloc (.cells #[.int .i64 plo, .int .i64 phi] t'')) := by
  have h0 := fun j => cell_of_row (((w.alloc (.cells #[.slice a n c] t)).alloc (.cells #[.int .i64 lo, .int .i64 hi] t')).alloc (.cells #[.int .i64 plo, .int .i64 phi] t'')) w.heap.size j _ _ _ ((heapQ_old (by simp; omega)).trans (heapQ_2_0 _ _ _))
  have h1 := fun j => cell_of_row (((w.alloc (.cells #[.slice a n c] t)).alloc (.cells #[.int .i64 lo, .int .i64 hi] t')).alloc (.cells #[.int .i64 plo, .int .i64 phi] t'')) (w.heap.size + 1) j _ _ _ ((heapQ_old (by simp)).trans (heapQ_2_1 _ _ _))
  have h2 := fun j => cell_of_row (((w.alloc (.cells #[.slice a n c] t)).alloc (.cells #[.int .i64 lo, .int .i64 hi] t')).alloc (.cells #[.int .i64 plo, .int .i64 phi] t'')) (w.heap.size + 2) j _ _ _ (heapQ_new (by simp))
  exact ⟨h0 0, h1 0, h1 1, h2 0, h2 1, by simp, (by simp <;> omega), (by simp <;> omega), (by simp <;> omega), (((Below.refl _ _).alloc (Nat.le_refl _) _).alloc (by simp) _).alloc (by simp; omega) _⟩
set_option maxRecDepth 100000 in
set_option maxHeartbeats 2000000 in
theorem PS_bad (a : Option Addr) (n c : Nat) (ps : Nat → PR) (k lo hi plo phi : Int) (w : World) (B : Nat) (hBw : B ≤ w.heap.size) (hP : Planes B w a n ps) (hs : smallB n ps = true) (hB : seesB n ps k lo hi = false) :
    Calls Try.prog 5 #[setupV a n c, .int .i64 k, .agg #[.int .i64 lo, .int .i64 hi], .agg #[.int .i64 plo, .int .i64 phi]] w fun e w' => e = .returned (.bool true) ∧ Below w.heap.size w w' := by
  have hn : n ≤ 9223372036854775807 := hP.1
  have HP := Lib.hid hP
  have HB := Lib.hid hB
  clear hP
  unfold seesB at hB
  cases hC : checkB n ps
  · clear hB
    go_enter Try.func5, Try.ntmps5
    go_wp2_with (first | (go_at_call 15; refine (small_any a n c ps _ B (by simp; omega) (HP.out.below ((((Below.refl B w).alloc hBw _).alloc (by simp; omega) _).alloc (by simp; omega) _))).mono ?_; rintro e wy ⟨rfl, hby⟩; rw [hs]; obtain ⟨l0, l1, l2, l3, l4, l5, l6, l7, l8, l9⟩ := LS_step LS_start hby; clear hby) | (go_at_call 26; refine (Sees_bad a n c ps k lo hi _ B (by omega) (HP.out.below (l9.mono hBw)) HB.out).mono ?_; rintro e wy ⟨rfl, hby⟩; have hL := LS_step ⟨l0, l1, l2, l3, l4, l5, l6, l7, l8, l9⟩ hby; clear l0 l1 l2 l3 l4 l5 l6 l7 l8 l9 hby; obtain ⟨l0, l1, l2, l3, l4, l5, l6, l7, l8, l9⟩ := hL) | (go_at_call 19; refine (refSetup_any a n c ps _ B (by omega) (HP.out.below (l9.mono hBw))).mono ?_; rintro e wy ⟨rfl, hby⟩; rw [hC]; have hL := LS_step ⟨l0, l1, l2, l3, l4, l5, l6, l7, l8, l9⟩ hby; clear l0 l1 l2 l3 l4 l5 l6 l7 l8 l9 hby; obtain ⟨l0, l1, l2, l3, l4, l5, l6, l7, l8, l9⟩ := hL) | (go_at_call 16; refine (lawKnown_any _).mono ?_; rintro e wy ⟨rfl, hby⟩; have hL := LS_step ⟨l0, l1, l2, l3, l4, l5, l6, l7, l8, l9⟩ hby; clear l0 l1 l2 l3 l4 l5 l6 l7 l8 l9 hby; obtain ⟨l0, l1, l2, l3, l4, l5, l6, l7, l8, l9⟩ := hL))
    go_ret
    exact ⟨rfl, l9⟩
  · cases hW : withinB k 0 ((n : Int) - 1)
    · clear hB
      go_enter Try.func5, Try.ntmps5
      go_wp2_with (first | (go_at_call 15; refine (small_any a n c ps _ B (by simp; omega) (HP.out.below ((((Below.refl B w).alloc hBw _).alloc (by simp; omega) _).alloc (by simp; omega) _))).mono ?_; rintro e wy ⟨rfl, hby⟩; rw [hs]; obtain ⟨l0, l1, l2, l3, l4, l5, l6, l7, l8, l9⟩ := LS_step LS_start hby; clear hby) | (go_at_call 26; refine (Sees_bad a n c ps k lo hi _ B (by omega) (HP.out.below (l9.mono hBw)) HB.out).mono ?_; rintro e wy ⟨rfl, hby⟩; have hL := LS_step ⟨l0, l1, l2, l3, l4, l5, l6, l7, l8, l9⟩ hby; clear l0 l1 l2 l3 l4 l5 l6 l7 l8 l9 hby; obtain ⟨l0, l1, l2, l3, l4, l5, l6, l7, l8, l9⟩ := hL) | (go_at_call 19; refine (refSetup_any a n c ps _ B (by omega) (HP.out.below (l9.mono hBw))).mono ?_; rintro e wy ⟨rfl, hby⟩; rw [hC]; have hL := LS_step ⟨l0, l1, l2, l3, l4, l5, l6, l7, l8, l9⟩ hby; clear l0 l1 l2 l3 l4 l5 l6 l7 l8 l9 hby; obtain ⟨l0, l1, l2, l3, l4, l5, l6, l7, l8, l9⟩ := hL) | (go_at_call 24; refine (refIn_any _ _ _ _).mono ?_; rintro e w' ⟨rfl, rfl⟩; rw [hW]) | (go_at_call 16; refine (lawKnown_any _).mono ?_; rintro e wy ⟨rfl, hby⟩; have hL := LS_step ⟨l0, l1, l2, l3, l4, l5, l6, l7, l8, l9⟩ hby; clear l0 l1 l2 l3 l4 l5 l6 l7 l8 l9 hby; obtain ⟨l0, l1, l2, l3, l4, l5, l6, l7, l8, l9⟩ := hL))
      go_ret
      exact ⟨rfl, l9⟩
    · have hO : orderedB lo hi 1000000 = false := by simpa [hC, hW] using hB
      clear hB
      go_enter Try.func5, Try.ntmps5
      go_wp2_with (first | (go_at_call 15; refine (small_any a n c ps _ B (by simp; omega) (HP.out.below ((((Below.refl B w).alloc hBw _).alloc (by simp; omega) _).alloc (by simp; omega) _))).mono ?_; rintro e wy ⟨rfl, hby⟩; rw [hs]; obtain ⟨l0, l1, l2, l3, l4, l5, l6, l7, l8, l9⟩ := LS_step LS_start hby; clear hby) | (go_at_call 26; refine (Sees_bad a n c ps k lo hi _ B (by omega) (HP.out.below (l9.mono hBw)) HB.out).mono ?_; rintro e wy ⟨rfl, hby⟩; have hL := LS_step ⟨l0, l1, l2, l3, l4, l5, l6, l7, l8, l9⟩ hby; clear l0 l1 l2 l3 l4 l5 l6 l7 l8 l9 hby; obtain ⟨l0, l1, l2, l3, l4, l5, l6, l7, l8, l9⟩ := hL) | (go_at_call 19; refine (refSetup_any a n c ps _ B (by omega) (HP.out.below (l9.mono hBw))).mono ?_; rintro e wy ⟨rfl, hby⟩; rw [hC]; have hL := LS_step ⟨l0, l1, l2, l3, l4, l5, l6, l7, l8, l9⟩ hby; clear l0 l1 l2 l3 l4 l5 l6 l7 l8 l9 hby; obtain ⟨l0, l1, l2, l3, l4, l5, l6, l7, l8, l9⟩ := hL) | (go_at_call 24; refine (refIn_any _ _ _ _).mono ?_; rintro e w' ⟨rfl, rfl⟩; rw [hW]) | (go_at_call 27; refine (span_any lo hi _).mono ?_; rintro e wy ⟨rfl, hby⟩; rw [spanB_ordered, hO]; have hL := LS_step ⟨l0, l1, l2, l3, l4, l5, l6, l7, l8, l9⟩ hby; clear l0 l1 l2 l3 l4 l5 l6 l7 l8 l9 hby; obtain ⟨l0, l1, l2, l3, l4, l5, l6, l7, l8, l9⟩ := hL) | (go_at_call 16; refine (lawKnown_any _).mono ?_; rintro e wy ⟨rfl, hby⟩; have hL := LS_step ⟨l0, l1, l2, l3, l4, l5, l6, l7, l8, l9⟩ hby; clear l0 l1 l2 l3 l4 l5 l6 l7 l8 l9 hby; obtain ⟨l0, l1, l2, l3, l4, l5, l6, l7, l8, l9⟩ := hL))
      go_ret
      exact ⟨rfl, l9⟩
set_option maxRecDepth 100000 in
set_option maxHeartbeats 2000000 in
theorem PS_ok (a : Option Addr) (n c : Nat) (ps : Nat → PR) (k : Nat) (lo hi plo phi : Int) (w : World) (B : Nat) (hBw : B ≤ w.heap.size) (hP : Planes B w a n ps) (hs : smallB n ps = true) (hC : checkB n ps = true) (hk : k < n) (hO : orderedB lo hi 1000000 = true) :
    Calls Try.prog 5 #[setupV a n c, .int .i64 k, .agg #[.int .i64 lo, .int .i64 hi], .agg #[.int .i64 plo, .int .i64 phi]] w fun e w' => e = .returned (.bool true) ∧ Below w.heap.size w w' := by
  obtain ⟨b, off, rfl, hbB, hat, hm⟩ := hP.get hk
  have hN := checkB_n hC
  have hSh := properB_shaped (checkB_plane hC hk)
  obtain ⟨p1, p2, p3⟩ := orderedB_iff.1 hO
  have hW : withinB (k : Int) 0 ((n : Int) - 1) = true := withinB_yes (by omega) (by omega)
  have HC := Lib.hid hC
  have HP := Lib.hid hP
  have HAT := Lib.hid hat
  have HM := Lib.hid hm
  have HO := Lib.hid hO
  have HSh := Lib.hid hSh
  obtain ⟨M, hM⟩ : ∃ M, M = seesMust (ps k) lo hi := ⟨_, rfl⟩
  obtain ⟨C, hCn⟩ : ∃ C, C = seesCan (ps k) lo hi := ⟨_, rfl⟩
  obtain ⟨X, hX⟩ : ∃ X, X = seesMust (ps k) plo phi := ⟨_, rfl⟩
  obtain ⟨Y, hY⟩ : ∃ Y, Y = seesCan (ps k) plo phi := ⟨_, rfl⟩
  have hR : refMust (ps k) lo hi = M := by rw [hM, refMust_is hSh p2]
  have hMC : M = true → C = true := fun h => by rw [hCn]; exact refMust_can hSh p2 (hM ▸ h)
  have hMX : plo ≤ phi → lo ≤ plo → phi ≤ hi → M = true → X = true := fun h1 h2 h3 h => by rw [hX]; exact seesMust_part hSh p2 h1 h2 h3 (hM ▸ h)
  have hYC : lo ≤ plo → phi ≤ hi → Y = true → C = true := fun h2 h3 h => by rw [hCn]; exact seesCan_part h2 h3 (hY ▸ h)
  have HMn := Lib.hid hM
  have HCn := Lib.hid hCn
  have HX := Lib.hid hX
  have HY := Lib.hid hY
  have HR := Lib.hid hR
  have HMC := Lib.hid hMC
  have HMX := Lib.hid hMX
  have HYC := Lib.hid hYC
  have HRS := Lib.hid (show ∀ W', B ≤ W'.heap.size → (ps k).mem B W' → Calls Try.prog 28 #[(ps k).plane, .agg #[.int .i64 lo, .int .i64 hi]] W' (fun e w' => e = .returned (.tuple #[.bool M, .bool C]) ∧ Below W'.heap.size W' w') from fun W' hB' hm' => by
    have := refSees_any (ps k) lo hi W' B hB' hm' hSh ⟨by omega, by omega⟩ ⟨by omega, by omega⟩
    rw [hR, ← hCn] at this
    exact this)
  clear hP hat hm hSh hM hCn hX hY hR hMC hMX hYC
  generalize hga : (some ⟨b, off, none⟩ : Option Addr) = a at *
  have HA := Lib.hid hga
  clear hga
  go_enter Try.func5, Try.ntmps5
  go_upto_region 6 with (first | (go_at_call 15; refine (small_any a n c ps _ B (by simp; omega) (HP.out.below ((((Below.refl B w).alloc hBw _).alloc (by simp; omega) _).alloc (by simp; omega) _))).mono ?_; rintro e wy ⟨rfl, hby⟩; rw [hs]; obtain ⟨l0, l1, l2, l3, l4, l5, l6, l7, l8, l9⟩ := LS_step LS_start hby; clear hby) | (go_at_call 26; refine (Sees_ok a n c ps lo hi _ B (by omega) (HP.out.below (l9.mono hBw)) HC.out k hk HO.out).mono ?_; rintro e wy ⟨rfl, hby⟩; rw [← HMn.out, ← HCn.out]; have hL := LS_step ⟨l0, l1, l2, l3, l4, l5, l6, l7, l8, l9⟩ hby; clear l0 l1 l2 l3 l4 l5 l6 l7 l8 l9 hby; obtain ⟨l0, l1, l2, l3, l4, l5, l6, l7, l8, l9⟩ := hL) | (go_at_call 19; refine (refSetup_any a n c ps _ B (by omega) (HP.out.below (l9.mono hBw))).mono ?_; rintro e wy ⟨rfl, hby⟩; rw [hC]; have hL := LS_step ⟨l0, l1, l2, l3, l4, l5, l6, l7, l8, l9⟩ hby; clear l0 l1 l2 l3 l4 l5 l6 l7 l8 l9 hby; obtain ⟨l0, l1, l2, l3, l4, l5, l6, l7, l8, l9⟩ := hL) | (go_at_call 24; refine (refIn_any _ _ _ _).mono ?_; rintro e w' ⟨rfl, rfl⟩; rw [hW]) | (go_at_call 27; refine (span_any lo hi _).mono ?_; rintro e wy ⟨rfl, hby⟩; rw [spanB_ordered, hO]; have hL := LS_step ⟨l0, l1, l2, l3, l4, l5, l6, l7, l8, l9⟩ hby; clear l0 l1 l2 l3 l4 l5 l6 l7 l8 l9 hby; obtain ⟨l0, l1, l2, l3, l4, l5, l6, l7, l8, l9⟩ := hL))
  obtain ⟨c0, c1, c2, c3, c4, c5, c6, c7, c8, c9, c10, c11, c12, c13, c14⟩ := HAT.out.below l9 (by omega)
  have hbz : b < wy.heap.size := by omega
  obtain rfl := HA.out
  go_cut [12, 13] from 59 to 68 (fun s12 s13 wx => s12 = .bool M ∧ s13 = .bool C ∧ LS (some ⟨b, off, none⟩) n c lo hi plo phi w wx)
  case first =>
    (refine wp_region_calm (wy.heap.size) (by kernel_rfl) (by kernel_rfl) ?_; (repeat (first | go_big_quiet_step ((go_at_call 28; refine Calls.calm_of (Nat.le_refl _) (HRS.out _ ?_ ?_); (· (have := Below.size (Calm.below (by assumption)); omega)); (· exact (HM.out.below (l9.mono hBw)).below (Below.mono (Calm.below _) (by omega))))) | quiet_step ((go_at_call 28; refine Calls.calm_of (Nat.le_refl _) (HRS.out _ ?_ ?_); (· (have := Below.size (Calm.below (by assumption)); omega)); (· exact (HM.out.below (l9.mono hBw)).below (Below.mono (Calm.below _) (by omega))))))); refine wpQuiet_nil ?_; intro _ hw'; obtain ⟨xq, hw''⟩ := hw'; subst hw'')
    go_wp2_with fail
    go_meet
    exact ⟨rfl, rfl, LS_step ⟨l0, l1, l2, l3, l4, l5, l6, l7, l8, l9⟩ xq.below⟩
  clear l0 l1 l2 l3 l4 l5 l6 l7 l8 l9 c0 c1 c2 c3 c4 c5 c6 c7 c8 c9 c10 c11 c12 c13 c14 hbz
  obtain ⟨rfl, rfl, l0, l1, l2, l3, l4, l5, l6, l7, l8, l9⟩ := hcut
  generalize hga : (some ⟨b, off, none⟩ : Option Addr) = a at *
  have HA := Lib.hid hga
  clear hga
  by_cases hsp : spanB plo phi = true
  · have hOp : orderedB plo phi 1000000 = true := by rw [← spanB_ordered]; exact hsp
    obtain ⟨r1, r2, r3⟩ := orderedB_iff.1 hOp
    by_cases hq1 : plo < lo
    · (cases M; (· (cases C; (· (go_wp2_with (first | (go_at_call 27; refine (span_any plo phi _).mono ?_; rintro e wy ⟨rfl, hby⟩; rw [hsp]; have hL := LS_step ⟨l0, l1, l2, l3, l4, l5, l6, l7, l8, l9⟩ hby; clear l0 l1 l2 l3 l4 l5 l6 l7 l8 l9 hby; obtain ⟨l0, l1, l2, l3, l4, l5, l6, l7, l8, l9⟩ := hL) | (go_at_call 16; refine (lawKnown_any _).mono ?_; rintro e wy ⟨rfl, hby⟩; have hL := LS_step ⟨l0, l1, l2, l3, l4, l5, l6, l7, l8, l9⟩ hby; clear l0 l1 l2 l3 l4 l5 l6 l7 l8 l9 hby; obtain ⟨l0, l1, l2, l3, l4, l5, l6, l7, l8, l9⟩ := hL)); go_ret; exact ⟨rfl, l9⟩)); (· (go_wp2_with (first | (go_at_call 27; refine (span_any plo phi _).mono ?_; rintro e wy ⟨rfl, hby⟩; rw [hsp]; have hL := LS_step ⟨l0, l1, l2, l3, l4, l5, l6, l7, l8, l9⟩ hby; clear l0 l1 l2 l3 l4 l5 l6 l7 l8 l9 hby; obtain ⟨l0, l1, l2, l3, l4, l5, l6, l7, l8, l9⟩ := hL) | (go_at_call 16; refine (lawKnown_any _).mono ?_; rintro e wy ⟨rfl, hby⟩; have hL := LS_step ⟨l0, l1, l2, l3, l4, l5, l6, l7, l8, l9⟩ hby; clear l0 l1 l2 l3 l4 l5 l6 l7 l8 l9 hby; obtain ⟨l0, l1, l2, l3, l4, l5, l6, l7, l8, l9⟩ := hL)); go_ret; exact ⟨rfl, l9⟩)))); (· (obtain rfl := HMC.out rfl; go_wp2_with (first | (go_at_call 27; refine (span_any plo phi _).mono ?_; rintro e wy ⟨rfl, hby⟩; rw [hsp]; have hL := LS_step ⟨l0, l1, l2, l3, l4, l5, l6, l7, l8, l9⟩ hby; clear l0 l1 l2 l3 l4 l5 l6 l7 l8 l9 hby; obtain ⟨l0, l1, l2, l3, l4, l5, l6, l7, l8, l9⟩ := hL) | (go_at_call 16; refine (lawKnown_any _).mono ?_; rintro e wy ⟨rfl, hby⟩; have hL := LS_step ⟨l0, l1, l2, l3, l4, l5, l6, l7, l8, l9⟩ hby; clear l0 l1 l2 l3 l4 l5 l6 l7 l8 l9 hby; obtain ⟨l0, l1, l2, l3, l4, l5, l6, l7, l8, l9⟩ := hL)); go_ret; exact ⟨rfl, l9⟩)))
    · by_cases hq2 : hi < phi
      · (cases M; (· (cases C; (· (go_wp2_with (first | (go_at_call 27; refine (span_any plo phi _).mono ?_; rintro e wy ⟨rfl, hby⟩; rw [hsp]; have hL := LS_step ⟨l0, l1, l2, l3, l4, l5, l6, l7, l8, l9⟩ hby; clear l0 l1 l2 l3 l4 l5 l6 l7 l8 l9 hby; obtain ⟨l0, l1, l2, l3, l4, l5, l6, l7, l8, l9⟩ := hL) | (go_at_call 16; refine (lawKnown_any _).mono ?_; rintro e wy ⟨rfl, hby⟩; have hL := LS_step ⟨l0, l1, l2, l3, l4, l5, l6, l7, l8, l9⟩ hby; clear l0 l1 l2 l3 l4 l5 l6 l7 l8 l9 hby; obtain ⟨l0, l1, l2, l3, l4, l5, l6, l7, l8, l9⟩ := hL)); go_ret; exact ⟨rfl, l9⟩)); (· (go_wp2_with (first | (go_at_call 27; refine (span_any plo phi _).mono ?_; rintro e wy ⟨rfl, hby⟩; rw [hsp]; have hL := LS_step ⟨l0, l1, l2, l3, l4, l5, l6, l7, l8, l9⟩ hby; clear l0 l1 l2 l3 l4 l5 l6 l7 l8 l9 hby; obtain ⟨l0, l1, l2, l3, l4, l5, l6, l7, l8, l9⟩ := hL) | (go_at_call 16; refine (lawKnown_any _).mono ?_; rintro e wy ⟨rfl, hby⟩; have hL := LS_step ⟨l0, l1, l2, l3, l4, l5, l6, l7, l8, l9⟩ hby; clear l0 l1 l2 l3 l4 l5 l6 l7 l8 l9 hby; obtain ⟨l0, l1, l2, l3, l4, l5, l6, l7, l8, l9⟩ := hL)); go_ret; exact ⟨rfl, l9⟩)))); (· (obtain rfl := HMC.out rfl; go_wp2_with (first | (go_at_call 27; refine (span_any plo phi _).mono ?_; rintro e wy ⟨rfl, hby⟩; rw [hsp]; have hL := LS_step ⟨l0, l1, l2, l3, l4, l5, l6, l7, l8, l9⟩ hby; clear l0 l1 l2 l3 l4 l5 l6 l7 l8 l9 hby; obtain ⟨l0, l1, l2, l3, l4, l5, l6, l7, l8, l9⟩ := hL) | (go_at_call 16; refine (lawKnown_any _).mono ?_; rintro e wy ⟨rfl, hby⟩; have hL := LS_step ⟨l0, l1, l2, l3, l4, l5, l6, l7, l8, l9⟩ hby; clear l0 l1 l2 l3 l4 l5 l6 l7 l8 l9 hby; obtain ⟨l0, l1, l2, l3, l4, l5, l6, l7, l8, l9⟩ := hL)); go_ret; exact ⟨rfl, l9⟩)))
      · have hmx := HMX.out r2 (by omega) (by omega)
        have hyc := HYC.out (by omega) (by omega)
        have HOp := Lib.hid hOp
        clear hOp
        (cases M; (· (cases C; (· (obtain rfl : Y = false := (by cases hy : Y; rfl; exact absurd (hyc hy) (by decide)); (go_wp2_with (first | (go_at_call 27; refine (span_any plo phi _).mono ?_; rintro e wy ⟨rfl, hby⟩; rw [hsp]; have hL := LS_step ⟨l0, l1, l2, l3, l4, l5, l6, l7, l8, l9⟩ hby; clear l0 l1 l2 l3 l4 l5 l6 l7 l8 l9 hby; obtain ⟨l0, l1, l2, l3, l4, l5, l6, l7, l8, l9⟩ := hL) | (go_at_call 26; refine (Sees_ok a n c ps plo phi _ B (by omega) (HP.out.below (l9.mono hBw)) HC.out k hk HOp.out).mono ?_; rintro e wy ⟨rfl, hby⟩; rw [← HX.out, ← HY.out]; have hL := LS_step ⟨l0, l1, l2, l3, l4, l5, l6, l7, l8, l9⟩ hby; clear l0 l1 l2 l3 l4 l5 l6 l7 l8 l9 hby; obtain ⟨l0, l1, l2, l3, l4, l5, l6, l7, l8, l9⟩ := hL) | (go_at_call 16; refine (lawKnown_any _).mono ?_; rintro e wy ⟨rfl, hby⟩; have hL := LS_step ⟨l0, l1, l2, l3, l4, l5, l6, l7, l8, l9⟩ hby; clear l0 l1 l2 l3 l4 l5 l6 l7 l8 l9 hby; obtain ⟨l0, l1, l2, l3, l4, l5, l6, l7, l8, l9⟩ := hL)); go_ret; exact ⟨rfl, l9⟩))); (· (cases Y; (· (go_wp2_with (first | (go_at_call 27; refine (span_any plo phi _).mono ?_; rintro e wy ⟨rfl, hby⟩; rw [hsp]; have hL := LS_step ⟨l0, l1, l2, l3, l4, l5, l6, l7, l8, l9⟩ hby; clear l0 l1 l2 l3 l4 l5 l6 l7 l8 l9 hby; obtain ⟨l0, l1, l2, l3, l4, l5, l6, l7, l8, l9⟩ := hL) | (go_at_call 26; refine (Sees_ok a n c ps plo phi _ B (by omega) (HP.out.below (l9.mono hBw)) HC.out k hk HOp.out).mono ?_; rintro e wy ⟨rfl, hby⟩; rw [← HX.out, ← HY.out]; have hL := LS_step ⟨l0, l1, l2, l3, l4, l5, l6, l7, l8, l9⟩ hby; clear l0 l1 l2 l3 l4 l5 l6 l7 l8 l9 hby; obtain ⟨l0, l1, l2, l3, l4, l5, l6, l7, l8, l9⟩ := hL) | (go_at_call 16; refine (lawKnown_any _).mono ?_; rintro e wy ⟨rfl, hby⟩; have hL := LS_step ⟨l0, l1, l2, l3, l4, l5, l6, l7, l8, l9⟩ hby; clear l0 l1 l2 l3 l4 l5 l6 l7 l8 l9 hby; obtain ⟨l0, l1, l2, l3, l4, l5, l6, l7, l8, l9⟩ := hL)); go_ret; exact ⟨rfl, l9⟩)); (· (go_wp2_with (first | (go_at_call 27; refine (span_any plo phi _).mono ?_; rintro e wy ⟨rfl, hby⟩; rw [hsp]; have hL := LS_step ⟨l0, l1, l2, l3, l4, l5, l6, l7, l8, l9⟩ hby; clear l0 l1 l2 l3 l4 l5 l6 l7 l8 l9 hby; obtain ⟨l0, l1, l2, l3, l4, l5, l6, l7, l8, l9⟩ := hL) | (go_at_call 26; refine (Sees_ok a n c ps plo phi _ B (by omega) (HP.out.below (l9.mono hBw)) HC.out k hk HOp.out).mono ?_; rintro e wy ⟨rfl, hby⟩; rw [← HX.out, ← HY.out]; have hL := LS_step ⟨l0, l1, l2, l3, l4, l5, l6, l7, l8, l9⟩ hby; clear l0 l1 l2 l3 l4 l5 l6 l7 l8 l9 hby; obtain ⟨l0, l1, l2, l3, l4, l5, l6, l7, l8, l9⟩ := hL) | (go_at_call 16; refine (lawKnown_any _).mono ?_; rintro e wy ⟨rfl, hby⟩; have hL := LS_step ⟨l0, l1, l2, l3, l4, l5, l6, l7, l8, l9⟩ hby; clear l0 l1 l2 l3 l4 l5 l6 l7 l8 l9 hby; obtain ⟨l0, l1, l2, l3, l4, l5, l6, l7, l8, l9⟩ := hL)); go_ret; exact ⟨rfl, l9⟩)))))); (· (obtain rfl := HMC.out rfl; obtain rfl := hmx rfl; cases Y; (· (go_wp2_with (first | (go_at_call 27; refine (span_any plo phi _).mono ?_; rintro e wy ⟨rfl, hby⟩; rw [hsp]; have hL := LS_step ⟨l0, l1, l2, l3, l4, l5, l6, l7, l8, l9⟩ hby; clear l0 l1 l2 l3 l4 l5 l6 l7 l8 l9 hby; obtain ⟨l0, l1, l2, l3, l4, l5, l6, l7, l8, l9⟩ := hL) | (go_at_call 26; refine (Sees_ok a n c ps plo phi _ B (by omega) (HP.out.below (l9.mono hBw)) HC.out k hk HOp.out).mono ?_; rintro e wy ⟨rfl, hby⟩; rw [← HX.out, ← HY.out]; have hL := LS_step ⟨l0, l1, l2, l3, l4, l5, l6, l7, l8, l9⟩ hby; clear l0 l1 l2 l3 l4 l5 l6 l7 l8 l9 hby; obtain ⟨l0, l1, l2, l3, l4, l5, l6, l7, l8, l9⟩ := hL) | (go_at_call 16; refine (lawKnown_any _).mono ?_; rintro e wy ⟨rfl, hby⟩; have hL := LS_step ⟨l0, l1, l2, l3, l4, l5, l6, l7, l8, l9⟩ hby; clear l0 l1 l2 l3 l4 l5 l6 l7 l8 l9 hby; obtain ⟨l0, l1, l2, l3, l4, l5, l6, l7, l8, l9⟩ := hL)); go_ret; exact ⟨rfl, l9⟩)); (· (go_wp2_with (first | (go_at_call 27; refine (span_any plo phi _).mono ?_; rintro e wy ⟨rfl, hby⟩; rw [hsp]; have hL := LS_step ⟨l0, l1, l2, l3, l4, l5, l6, l7, l8, l9⟩ hby; clear l0 l1 l2 l3 l4 l5 l6 l7 l8 l9 hby; obtain ⟨l0, l1, l2, l3, l4, l5, l6, l7, l8, l9⟩ := hL) | (go_at_call 26; refine (Sees_ok a n c ps plo phi _ B (by omega) (HP.out.below (l9.mono hBw)) HC.out k hk HOp.out).mono ?_; rintro e wy ⟨rfl, hby⟩; rw [← HX.out, ← HY.out]; have hL := LS_step ⟨l0, l1, l2, l3, l4, l5, l6, l7, l8, l9⟩ hby; clear l0 l1 l2 l3 l4 l5 l6 l7 l8 l9 hby; obtain ⟨l0, l1, l2, l3, l4, l5, l6, l7, l8, l9⟩ := hL) | (go_at_call 16; refine (lawKnown_any _).mono ?_; rintro e wy ⟨rfl, hby⟩; have hL := LS_step ⟨l0, l1, l2, l3, l4, l5, l6, l7, l8, l9⟩ hby; clear l0 l1 l2 l3 l4 l5 l6 l7 l8 l9 hby; obtain ⟨l0, l1, l2, l3, l4, l5, l6, l7, l8, l9⟩ := hL)); go_ret; exact ⟨rfl, l9⟩)))))
  · rw [Bool.not_eq_true] at hsp
    (cases M; (· (cases C; (· (go_wp2_with (first | (go_at_call 27; refine (span_any plo phi _).mono ?_; rintro e wy ⟨rfl, hby⟩; rw [hsp]; have hL := LS_step ⟨l0, l1, l2, l3, l4, l5, l6, l7, l8, l9⟩ hby; clear l0 l1 l2 l3 l4 l5 l6 l7 l8 l9 hby; obtain ⟨l0, l1, l2, l3, l4, l5, l6, l7, l8, l9⟩ := hL) | (go_at_call 16; refine (lawKnown_any _).mono ?_; rintro e wy ⟨rfl, hby⟩; have hL := LS_step ⟨l0, l1, l2, l3, l4, l5, l6, l7, l8, l9⟩ hby; clear l0 l1 l2 l3 l4 l5 l6 l7 l8 l9 hby; obtain ⟨l0, l1, l2, l3, l4, l5, l6, l7, l8, l9⟩ := hL)); go_ret; exact ⟨rfl, l9⟩)); (· (go_wp2_with (first | (go_at_call 27; refine (span_any plo phi _).mono ?_; rintro e wy ⟨rfl, hby⟩; rw [hsp]; have hL := LS_step ⟨l0, l1, l2, l3, l4, l5, l6, l7, l8, l9⟩ hby; clear l0 l1 l2 l3 l4 l5 l6 l7 l8 l9 hby; obtain ⟨l0, l1, l2, l3, l4, l5, l6, l7, l8, l9⟩ := hL) | (go_at_call 16; refine (lawKnown_any _).mono ?_; rintro e wy ⟨rfl, hby⟩; have hL := LS_step ⟨l0, l1, l2, l3, l4, l5, l6, l7, l8, l9⟩ hby; clear l0 l1 l2 l3 l4 l5 l6 l7 l8 l9 hby; obtain ⟨l0, l1, l2, l3, l4, l5, l6, l7, l8, l9⟩ := hL)); go_ret; exact ⟨rfl, l9⟩)))); (· (obtain rfl := HMC.out rfl; go_wp2_with (first | (go_at_call 27; refine (span_any plo phi _).mono ?_; rintro e wy ⟨rfl, hby⟩; rw [hsp]; have hL := LS_step ⟨l0, l1, l2, l3, l4, l5, l6, l7, l8, l9⟩ hby; clear l0 l1 l2 l3 l4 l5 l6 l7 l8 l9 hby; obtain ⟨l0, l1, l2, l3, l4, l5, l6, l7, l8, l9⟩ := hL) | (go_at_call 16; refine (lawKnown_any _).mono ?_; rintro e wy ⟨rfl, hby⟩; have hL := LS_step ⟨l0, l1, l2, l3, l4, l5, l6, l7, l8, l9⟩ hby; clear l0 l1 l2 l3 l4 l5 l6 l7 l8 l9 hby; obtain ⟨l0, l1, l2, l3, l4, l5, l6, l7, l8, l9⟩ := hL)); go_ret; exact ⟨rfl, l9⟩)))
theorem PlaneSees_any (a : Option Addr) (n c : Nat) (ps : Nat → PR) (k lo hi plo phi : Int) (w : World) (B : Nat) (hBw : B ≤ w.heap.size) (hP : Planes B w a n ps) (hk : (Lit.int .i64 k).wf = true) :
    Calls Try.prog 5 #[setupV a n c, .int .i64 k, .agg #[.int .i64 lo, .int .i64 hi], .agg #[.int .i64 plo, .int .i64 phi]] w fun e w' => e = .returned (.bool true) ∧ Below w.heap.size w w' := by
  cases hs : smallB n ps
  · have HP := Lib.hid hP
    clear hP
    go_enter Try.func5, Try.ntmps5
    go_wp2_with (first | (go_at_call 15; refine (small_any a n c ps _ B (by simp; omega) (HP.out.below ((((Below.refl B w).alloc hBw _).alloc (by simp; omega) _).alloc (by simp; omega) _))).mono ?_; rintro e wy ⟨rfl, hby⟩; rw [hs]; obtain ⟨l0, l1, l2, l3, l4, l5, l6, l7, l8, l9⟩ := LS_step LS_start hby; clear hby) | (go_at_call 16; refine (lawKnown_any _).mono ?_; rintro e wy ⟨rfl, hby⟩; have hL := LS_step ⟨l0, l1, l2, l3, l4, l5, l6, l7, l8, l9⟩ hby; clear l0 l1 l2 l3 l4 l5 l6 l7 l8 l9 hby; obtain ⟨l0, l1, l2, l3, l4, l5, l6, l7, l8, l9⟩ := hL))
    go_ret
    exact ⟨rfl, l9⟩
  · cases hB : seesB n ps k lo hi
    · exact PS_bad a n c ps k lo hi plo phi w B hBw hP hs hB
    · simp only [seesB, Bool.and_eq_true, withinB_iff] at hB
      obtain ⟨hC, ⟨h1, h2⟩, hO⟩ := hB
      obtain ⟨m, rfl⟩ := Int.eq_ofNat_of_zero_le h1
      exact PS_ok a n c ps m lo hi plo phi w B hBw hP hs hC (by omega) hO
end Go.Proofs.Ytgcepjminlapiaa
