/- The reference's Territory and Sees; the statements' span. -/
import Derived.Test.YtgcepjminlapiaaSees
import Derived.Test.YtgcepjminlapiaaPlaneE
import Derived.Test.YtgcepjminlapiaaPlaneJ3
namespace Go.Proofs.Ytgcepjminlapiaa
open Go.RowKit
set_option linter.unusedVariables false
set_option linter.unusedSimpArgs false
set_option maxRecDepth 100000 in
set_option maxHeartbeats 1000000 in
theorem terr_any (p : PR) (c : Nat) (w : World) (hS : Shaped p) (hc : (c : Int) < p.strips) :
    Calls Try.prog 60 #[p.plane, .int .i64 c] w fun e w' => e = .returned (.tuple #[.int .i64 (terF p c), .int .i64 (terF p c + p.pitch - 1)]) ∧ Below w.heap.size w w' := by
  obtain ⟨hst1, hst2⟩ := hS.strips
  obtain ⟨g1, g2⟩ := hS.first
  obtain ⟨b1, b2⟩ := hS.pitch
  obtain ⟨m1, m2⟩ := mul_bounds (x := (c : Int)) (q := p.pitch) (by omega) (by omega) b1 b2
  have hT : terF p c = p.first + (c : Int) * p.pitch - half p := rfl
  clear hS
  by_cases hk : p.kind = 2
  · have hk' : (p.kind == 2) = true := by simp [hk]
    have hh : half p = p.pitch / 2 := by rw [half, if_pos hk]
    rw [hT, hh]
    clear hT hh hk
    obtain ⟨kind, view, z, first, pitch, strips, spill, olo, ohi, clo, chi, jitter, least, da, dn, dc, ea, en, ec, ds, es⟩ := p
    dsimp only at *
    go_enter Try.func60, Try.ntmps60
    go_wp2
    go_quiet (fail)
    go_wp2
    go_ret2
    exact ⟨rfl, below_drewN ((Below.refl _ _).alloc (Nat.le_refl _) _) _⟩
  · have hk' : (p.kind == 2) = false := by simp [hk]
    have hh : half p = 0 := by rw [half, if_neg hk]
    rw [hT, hh, Int.sub_zero]
    clear hT hh hk
    obtain ⟨kind, view, z, first, pitch, strips, spill, olo, ohi, clo, chi, jitter, least, da, dn, dc, ea, en, ec, ds, es⟩ := p
    dsimp only at *
    go_enter Try.func60, Try.ntmps60
    go_wp2
    go_quiet (fail)
    go_wp2
    go_ret2
    exact ⟨rfl, below_drewN ((Below.refl _ _).alloc (Nat.le_refl _) _) _⟩
def spanB (lo hi : Int) : Bool := decide (lo ≤ hi) && (decide (-1000000 ≤ lo) && decide (hi ≤ 1000000))
theorem spanB_ordered (lo hi : Int) : spanB lo hi = orderedB lo hi 1000000 := by
  rw [Bool.eq_iff_iff, orderedB_iff]; simp [spanB]; omega
set_option maxHeartbeats 400000 in
theorem span_any (lo hi : Int) (w : World) :
    Calls Try.prog 27 #[.agg #[.int .i64 lo, .int .i64 hi]] w fun e w' => e = .returned (.bool (spanB lo hi)) ∧ Below w.heap.size w w' := by
  unfold spanB
  by_cases h1 : lo ≤ hi
  · by_cases h2 : -1000000 ≤ lo
    · go_enter Try.func27, Try.ntmps27
      go_wp2
      go_ret
      exact ⟨ret_bool (by (try simp [h1, h2]); (try omega)), (Below.refl _ _).alloc (Nat.le_refl _) _⟩
    · go_enter Try.func27, Try.ntmps27
      go_wp2
      go_ret
      exact ⟨ret_bool (by (try simp [h1, h2]); (try omega)), (Below.refl _ _).alloc (Nat.le_refl _) _⟩
  · go_enter Try.func27, Try.ntmps27
    go_wp2
    go_ret
    exact ⟨ret_bool (by (try simp [h1]); (try omega)), (Below.refl _ _).alloc (Nat.le_refl _) _⟩
def refMust (p : PR) (lo hi : Int) : Bool := mustG (terF p) p.pitch (fun c => deadIs p c) (lo - p.ohi) (hi - p.olo) (decide (terF p 0 ≤ lo - p.ohi) && decide (hi - p.olo ≤ terF p (p.strips.toNat - 1) + p.pitch - 1)) p.strips.toNat
theorem refMust_is {p : PR} {lo hi : Int} (hS : Shaped p) (h : lo ≤ hi) : seesMust p lo hi = refMust p lo hi := by
  obtain ⟨hst1, hst2⟩ := hS.strips
  obtain ⟨b1, b2⟩ := hS.pitch
  obtain ⟨o1, o2, o3⟩ := hS.off
  exact must_is (by omega) (terF_succ p) (by omega) (by omega)
theorem refMust_can {p : PR} {lo hi : Int} (hS : Shaped p) (h : lo ≤ hi) (hm : seesMust p lo hi = true) : seesCan p lo hi = true := by
  obtain ⟨hst1, hst2⟩ := hS.strips
  obtain ⟨b1, b2⟩ := hS.pitch
  obtain ⟨s1, s2⟩ := hS.spill
  obtain ⟨o1, o2, o3⟩ := hS.off
  rw [refMust_is hS h] at hm
  exact must_can s1 (terF_succ p) (by omega) (by omega) hm
theorem seesMust_part {p : PR} {lo hi lo' hi' : Int} (hS : Shaped p) (h : lo ≤ hi) (h' : lo' ≤ hi') (h1 : lo ≤ lo') (h2 : hi' ≤ hi) (hm : seesMust p lo hi = true) : seesMust p lo' hi' = true := by
  rw [refMust_is hS h] at hm
  rw [refMust_is hS h']
  exact must_part (by omega) (by omega) hm
theorem seesCan_part {p : PR} {lo hi lo' hi' : Int} (h1 : lo ≤ lo') (h2 : hi' ≤ hi) (hm : seesCan p lo' hi' = true) : seesCan p lo hi = true :=
  can_part (by omega) (by omega) hm
set_option maxRecDepth 100000 in
set_option maxHeartbeats 3000000 in
theorem refSees_any (p : PR) (lo hi : Int) (w : World) (B : Nat) (hBw : B ≤ w.heap.size) (hm : p.mem B w) (hS : Shaped p) (h1 : -1000000 ≤ lo ∧ lo ≤ 1000000) (h2 : -1000000 ≤ hi ∧ hi ≤ 1000000) :
    Calls Try.prog 28 #[p.plane, .agg #[.int .i64 lo, .int .i64 hi]] w fun e w' => e = .returned (.tuple #[.bool (refMust p lo hi), .bool (seesCan p lo hi)]) ∧ Below w.heap.size w w' := by
  obtain ⟨hst1, hst2⟩ := hS.strips
  obtain ⟨g1, g2⟩ := hS.first
  obtain ⟨b1, b2⟩ := hS.pitch
  obtain ⟨s1, s2⟩ := hS.spill
  obtain ⟨o1, o2, o3⟩ := hS.off
  obtain ⟨l1, l2⟩ := h1
  obtain ⟨l3, l4⟩ := h2
  obtain ⟨N, hN⟩ := Int.eq_ofNat_of_zero_le (show 0 ≤ p.strips by omega)
  have hTb := fun (c : Nat) (hc : c < N) => terF_bounds hS (c := c) (by omega)
  have TE0 := fun (c : Nat) (w' : World) (hc : c < N) => terr_any p c w' hS (by omega)
  have DE0 := fun (c : Nat) (w' : World) (hB : B ≤ w'.heap.size) (hm' : p.mem B w') => refDead_any p c w' B hB hm'
  have hC0 : canG (terF p) p.pitch p.spill (fun c => deadIs p c) (lo - p.ohi) (hi - p.olo) 0 = false := rfl
  have hCs : ∀ c, canG (terF p) p.pitch p.spill (fun c => deadIs p c) (lo - p.ohi) (hi - p.olo) (c + 1) = if deadIs p c = true then canG (terF p) p.pitch p.spill (fun c => deadIs p c) (lo - p.ohi) (hi - p.olo) c else canG (terF p) p.pitch p.spill (fun c => deadIs p c) (lo - p.ohi) (hi - p.olo) c || (decide (terF p c - p.spill ≤ hi - p.olo) && decide (lo - p.ohi ≤ terF p c + p.pitch - 1 + p.spill)) := fun _ => rfl
  obtain ⟨m0, hm0⟩ : ∃ m0, m0 = (decide (terF p 0 ≤ lo - p.ohi) && decide (hi - p.olo ≤ terF p (N - 1) + p.pitch - 1)) := ⟨_, rfl⟩
  have hM0 : mustG (terF p) p.pitch (fun c => deadIs p c) (lo - p.ohi) (hi - p.olo) m0 0 = m0 := rfl
  have hMs : ∀ c, mustG (terF p) p.pitch (fun c => deadIs p c) (lo - p.ohi) (hi - p.olo) m0 (c + 1) = if deadIs p c = true ∧ terF p c ≤ hi - p.olo ∧ lo - p.ohi ≤ terF p c + p.pitch - 1 then false else mustG (terF p) p.pitch (fun c => deadIs p c) (lo - p.ohi) (hi - p.olo) m0 c := fun _ => rfl
  rw [refMust, seesCan, hN, Int.toNat_natCast, ← hm0]
  generalize mustG (terF p) p.pitch (fun c => deadIs p c) (lo - p.ohi) (hi - p.olo) m0 = MG at *
  generalize canG (terF p) p.pitch p.spill (fun c => deadIs p c) (lo - p.ohi) (hi - p.olo) = CG at *
  generalize terF p = TF at *
  generalize deadIs p = DI at *
  have HM := Lib.hid hm
  have TE := Lib.hid TE0
  have DE := Lib.hid DE0
  have HC0 := Lib.hid hC0
  have HCs := Lib.hid hCs
  have HM0 := Lib.hid hM0
  have HMs := Lib.hid hMs
  have HTb := Lib.hid hTb
  have Hm0 := Lib.hid hm0
  clear hm hS TE0 DE0 hC0 hCs hM0 hMs hm0 hTb
  obtain ⟨kind, view, z, first, pitch, strips, spill, olo, ohi, clo, chi, jitter, least, da, dn, dc, ea, en, ec, ds, es⟩ := p
  dsimp only at *
  subst hN
  have TA := Lib.hid (fun w' => TE.out 0 w' (by omega))
  have TB := Lib.hid (show ∀ w', Calls Try.prog 60 #[PR.plane ⟨kind, view, z, first, pitch, (N : Int), spill, olo, ohi, clo, chi, jitter, least, da, dn, dc, ea, en, ec, ds, es⟩, .int .i64 ((N : Int) - 1)] w' (fun e w'' => e = .returned (.tuple #[.int .i64 (TF (N - 1)), .int .i64 (TF (N - 1) + pitch - 1)]) ∧ Below w'.heap.size w' w'') from fun w' => by have := TE.out (N - 1) w' (by omega); rwa [show ((N - 1 : Nat) : Int) = (N : Int) - 1 by omega] at this)
  go_enter Try.func28, Try.ntmps28
  go_upto_region 1 with (fail)
  go_cut [6, 7] from 17 to 28 (fun s6 s7 wx => s6 = .int .i64 (lo - ohi) ∧ s7 = .int .i64 (hi - olo) ∧ QS w.heap.size (#[.int .i64 kind, .int .i64 view, .int .i64 z, .int .i64 first, .int .i64 pitch, .int .i64 (N : Int), .int .i64 spill, .int .i64 olo, .int .i64 ohi, .int .i64 clo, .int .i64 chi, .int .i64 jitter, .int .i64 least, .slice da dn dc, .slice ea en ec] : Array Value) w wx)
  case first =>
    have a1 : IntKind.i64.wrap (lo - ohi) = lo - ohi := IntWalk.i64_in _ (by omega)
    have a2 : IntKind.i64.wrap (hi - olo) = hi - olo := IntWalk.i64_in _ (by omega)
    go_quiet (fail)
    go_wp2_with fail
    go_meet
    exact ⟨rfl, rfl, fun j => by rw [World.cell?_drewN]; exact cell_of_row _ _ _ _ _ _ (heapQ_2_0 _ _ _), by simp, below_drewN (((Below.refl _ _).alloc (Nat.le_refl _) _).alloc (by simp) _) _⟩
  obtain ⟨rfl, rfl, hp, hz, hB⟩ := hcut
  go_upto_region 3 with (go_at_call 60; refine (TA.out _).mono ?_; rintro e wy ⟨rfl, hby⟩; have hsy := QS_step ⟨hp, hz, hB⟩ hby; clear hp hz hB hby; obtain ⟨hp, hz, hB⟩ := hsy)
  go_upto_region 4 with (go_at_call 60; refine (TB.out _).mono ?_; rintro e wy ⟨rfl, hby⟩; have hsy := QS_step ⟨hp, hz, hB⟩ hby; clear hp hz hB hby; obtain ⟨hp, hz, hB⟩ := hsy)
  go_cut [12, 13] from 42 to 49 (fun s12 s13 wx => s12 = .bool m0 ∧ s13 = .bool false ∧ QS w.heap.size (#[.int .i64 kind, .int .i64 view, .int .i64 z, .int .i64 first, .int .i64 pitch, .int .i64 (N : Int), .int .i64 spill, .int .i64 olo, .int .i64 ohi, .int .i64 clo, .int .i64 chi, .int .i64 jitter, .int .i64 least, .slice da dn dc, .slice ea en ec] : Array Value) w wx)
  case first =>
    by_cases q1 : TF 0 ≤ lo - ohi
    · have HM1 := Lib.hid (show m0 = decide (hi - olo ≤ TF (N - 1) + pitch - 1) by rw [Hm0.out]; simp [q1])
      go_wp2_with fail
      go_meet
      exact ⟨by rw [HM1.out], rfl, hp, hz, hB⟩
    · have HM1 := Lib.hid (show m0 = false by rw [Hm0.out]; simp [q1])
      go_wp2_with fail
      go_meet
      exact ⟨by rw [HM1.out], rfl, hp, hz, hB⟩
  clear hp hz hB
  obtain ⟨rfl, rfl, hp, hz, hB⟩ := hcut
  go_wp2
  go_loopw [14, 12, 13] (fun t s12 s13 wr => ∃ c : Nat, c ≤ N ∧ t = .int .i64 c ∧ s12 = .bool (MG c) ∧ s13 = .bool (CG c) ∧ QS w.heap.size (#[.int .i64 kind, .int .i64 view, .int .i64 z, .int .i64 first, .int .i64 pitch, .int .i64 (N : Int), .int .i64 spill, .int .i64 olo, .int .i64 ohi, .int .i64 clo, .int .i64 chi, .int .i64 jitter, .int .i64 least, .slice da dn dc, .slice ea en ec] : Array Value) w wr) (fun t _ _ _ => N - (intOf t).toNat)
  case atStart => exact ⟨0, Nat.zero_le _, rfl, by rw [HM0.out], by rw [HC0.out], hp, hz, hB⟩
  case round =>
    clear hp hz hB
    obtain ⟨c, hc, rfl, rfl, rfl, hp, hz, hB⟩ := hrel
    by_cases hlt : c < N
    · have hms := HMs.out c
      have hcs := HCs.out c
      obtain ⟨q1, q2⟩ := HTb.out c hlt
      have TC := Lib.hid (fun w' => TE.out c w' hlt)
      have TD := Lib.hid (fun w' hB' hm' => DE.out c w' hB' hm')
      generalize TF c = T at *
      generalize MG c = MV at *
      generalize CG c = CV at *
      generalize DI c = D at *
      have HMS := Lib.hid hms
      have HCS := Lib.hid hcs
      clear hms hcs
      cases D
      · by_cases hc1 : T - spill ≤ hi - olo
        · by_cases hc2 : lo - ohi ≤ T + pitch - 1 + spill
          · go_wp2_with (first | (go_at_call 60; refine (TC.out _).mono ?_; rintro e wy ⟨rfl, hby⟩; have hsy := QS_step ⟨hp, hz, hB⟩ hby; clear hp hz hB hby; obtain ⟨hp, hz, hB⟩ := hsy) | (go_at_call 54; refine (TD.out _ (by omega) (HM.out.below (hB.mono hBw))).mono ?_; rintro e wy ⟨rfl, hby⟩; have hsy := QS_step ⟨hp, hz, hB⟩ hby; clear hp hz hB hby; obtain ⟨hp, hz, hB⟩ := hsy)); go_roundw
            case rel => exact ⟨c + 1, by omega, by go_num, by rw [HMS.out]; simp, by rw [HCS.out]; simp [hc1, hc2], hp, hz, hB⟩
            case measure => simp [intOf]; omega
          · go_wp2_with (first | (go_at_call 60; refine (TC.out _).mono ?_; rintro e wy ⟨rfl, hby⟩; have hsy := QS_step ⟨hp, hz, hB⟩ hby; clear hp hz hB hby; obtain ⟨hp, hz, hB⟩ := hsy) | (go_at_call 54; refine (TD.out _ (by omega) (HM.out.below (hB.mono hBw))).mono ?_; rintro e wy ⟨rfl, hby⟩; have hsy := QS_step ⟨hp, hz, hB⟩ hby; clear hp hz hB hby; obtain ⟨hp, hz, hB⟩ := hsy)); go_roundw
            case rel => exact ⟨c + 1, by omega, by go_num, by rw [HMS.out]; simp, by rw [HCS.out, decide_eq_false (show ¬ (lo - ohi ≤ T + pitch - 1 + spill) by omega)]; simp, hp, hz, hB⟩
            case measure => simp [intOf]; omega
        · go_wp2_with (first | (go_at_call 60; refine (TC.out _).mono ?_; rintro e wy ⟨rfl, hby⟩; have hsy := QS_step ⟨hp, hz, hB⟩ hby; clear hp hz hB hby; obtain ⟨hp, hz, hB⟩ := hsy) | (go_at_call 54; refine (TD.out _ (by omega) (HM.out.below (hB.mono hBw))).mono ?_; rintro e wy ⟨rfl, hby⟩; have hsy := QS_step ⟨hp, hz, hB⟩ hby; clear hp hz hB hby; obtain ⟨hp, hz, hB⟩ := hsy)); go_roundw
          case rel => exact ⟨c + 1, by omega, by go_num, by rw [HMS.out]; simp, by rw [HCS.out, decide_eq_false (show ¬ (T - spill ≤ hi - olo) by omega)]; simp, hp, hz, hB⟩
          case measure => simp [intOf]; omega
      · by_cases hc1 : T ≤ hi - olo
        · by_cases hc2 : lo - ohi ≤ T + pitch - 1
          · go_wp2_with (first | (go_at_call 60; refine (TC.out _).mono ?_; rintro e wy ⟨rfl, hby⟩; have hsy := QS_step ⟨hp, hz, hB⟩ hby; clear hp hz hB hby; obtain ⟨hp, hz, hB⟩ := hsy) | (go_at_call 54; refine (TD.out _ (by omega) (HM.out.below (hB.mono hBw))).mono ?_; rintro e wy ⟨rfl, hby⟩; have hsy := QS_step ⟨hp, hz, hB⟩ hby; clear hp hz hB hby; obtain ⟨hp, hz, hB⟩ := hsy)); go_roundw
            case rel => exact ⟨c + 1, by omega, by go_num, by rw [HMS.out]; simp [hc1, hc2], by rw [HCS.out]; simp, hp, hz, hB⟩
            case measure => simp [intOf]; omega
          · go_wp2_with (first | (go_at_call 60; refine (TC.out _).mono ?_; rintro e wy ⟨rfl, hby⟩; have hsy := QS_step ⟨hp, hz, hB⟩ hby; clear hp hz hB hby; obtain ⟨hp, hz, hB⟩ := hsy) | (go_at_call 54; refine (TD.out _ (by omega) (HM.out.below (hB.mono hBw))).mono ?_; rintro e wy ⟨rfl, hby⟩; have hsy := QS_step ⟨hp, hz, hB⟩ hby; clear hp hz hB hby; obtain ⟨hp, hz, hB⟩ := hsy)); go_roundw
            case rel => exact ⟨c + 1, by omega, by go_num, by rw [HMS.out]; simp [hc1, hc2], by rw [HCS.out]; simp, hp, hz, hB⟩
            case measure => simp [intOf]; omega
        · go_wp2_with (first | (go_at_call 60; refine (TC.out _).mono ?_; rintro e wy ⟨rfl, hby⟩; have hsy := QS_step ⟨hp, hz, hB⟩ hby; clear hp hz hB hby; obtain ⟨hp, hz, hB⟩ := hsy) | (go_at_call 54; refine (TD.out _ (by omega) (HM.out.below (hB.mono hBw))).mono ?_; rintro e wy ⟨rfl, hby⟩; have hsy := QS_step ⟨hp, hz, hB⟩ hby; clear hp hz hB hby; obtain ⟨hp, hz, hB⟩ := hsy)); go_roundw
          case rel => exact ⟨c + 1, by omega, by go_num, by rw [HMS.out]; simp [hc1], by rw [HCS.out]; simp, hp, hz, hB⟩
          case measure => simp [intOf]; omega
    · obtain rfl : c = N := by omega
      go_wp2
      go_ret2
      exact ⟨rfl, hB⟩
end Go.Proofs.Ytgcepjminlapiaa
