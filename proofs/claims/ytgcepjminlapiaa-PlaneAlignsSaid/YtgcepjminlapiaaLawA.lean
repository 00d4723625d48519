/- The statement PlaneGates: its walk. -/
import Derived.Test.YtgcepjminlapiaaKnown
import Derived.Test.YtgcepjminlapiaaPlaneJ3
import Derived.Test.YtgcepjminlapiaaPlaneJ
import Derived.Test.YtgcepjminlapiaaPlaneN
import Derived.Test.YtgcepjminlapiaaPlaneO
namespace Go.Proofs.Ytgcepjminlapiaa
open Go.RowKit
set_option linter.unusedVariables false
set_option linter.unusedSimpArgs false
/-- the boxes of a setup and a hit, in a world later on -/
abbrev LB (a : Option Addr) (n c : Nat) (h : HV) (w wx : World) : Prop := wx.cell? ⟨w.heap.size, 0, none⟩ = some (.slice a n c) ∧ (∀ j, wx.cell? ⟨w.heap.size + 1, j, none⟩ = (#[.int .i64 h.plane, .int .i64 h.channel, .int .i64 h.many, .int .i64 h.drift, .int .i64 h.charge, .int .i64 h.time] : Array Value)[j]?) ∧ w.heap.size + 2 ≤ wx.heap.size ∧ w.heap.size < wx.heap.size ∧ w.heap.size + 1 < wx.heap.size ∧ Below w.heap.size w wx
theorem LB_step {a : Option Addr} {n c : Nat} {h : HV} {w W wy : World} (hL : LB a n c h w W) (hb : Below W.heap.size W wy) : LB a n c h w wy := by
  obtain ⟨l0, l1, l2, l3, l4, l5⟩ := hL
  have hc := (bcell hb).1
  have hs := hb.size
  exact ⟨(hc _ _ l3).trans l0, fun j => (hc _ _ l4).trans (l1 j), by omega, by omega, by omega, l5.trans (hb.mono (by omega))⟩
theorem LB_alloc {a : Option Addr} {n c : Nat} {h : HV} {w W : World} (hL : LB a n c h w W) (o : Obj) : LB a n c h w (W.alloc o) := LB_step hL ((Below.refl _ _).alloc (Nat.le_refl _) _)
theorem LB_drewN {a : Option Addr} {n c : Nat} {h : HV} {w W : World} (hL : LB a n c h w W) (q : Nat) : LB a n c h w (W.drewN q) := by
  obtain ⟨l0, l1, l2, l3, l4, l5⟩ := hL
  exact ⟨by simpa using l0, fun j => by simpa using l1 j, by simpa using l2, by simpa using l3, by simpa using l4, below_drewN l5 q⟩
theorem LB_start {a : Option Addr} {n c : Nat} {h : HV} {w : World} {t t' : TypeId} : LB a n c h w ((w.alloc (.cells #[.slice a n c] t)).alloc (.cells #[.int .i64 h.plane, .int .i64 h.channel, .int .i64 h.many, .int .i64 h.drift, .int .i64 h.charge, .int .i64 h.time] t')) :=
  ⟨cell_of_row _ _ _ _ _ _ (heapQ_2_0 _ _ _), fun j => cell_of_row _ _ _ _ _ _ (heapQ_2_1 _ _ _), by simp, by simp; omega, by simp, ((Below.refl _ _).alloc (Nat.le_refl _) _).alloc (by simp) _⟩
theorem LB_x {W wy : World} {x : Nat} {u v : Value} (hx : x < W.heap.size) (h0 : W.cell? ⟨x, 0, none⟩ = some u) (h1 : W.cell? ⟨x, 1, none⟩ = some v) (hb : Below W.heap.size W wy) : x < wy.heap.size ∧ wy.cell? ⟨x, 0, none⟩ = some u ∧ wy.cell? ⟨x, 1, none⟩ = some v :=
  ⟨Nat.lt_of_lt_of_le hx hb.size, ((bcell hb).1 _ _ hx).trans h0, ((bcell hb).1 _ _ hx).trans h1⟩
set_option maxRecDepth 100000 in
set_option maxHeartbeats 2000000 in
theorem PG_large (a : Option Addr) (n c : Nat) (ps : Nat → PR) (h : HV) (w : World) (B : Nat) (hBw : B ≤ w.heap.size) (hP : Planes B w a n ps) (hs : smallB n ps = false) :
    Calls Try.prog 3 #[setupV a n c, h.val] w fun e w' => e = .returned (.bool true) ∧ Below w.heap.size w w' := by
  have HP := Lib.hid hP
  clear hP
  go_enter Try.func3, Try.ntmps3
  go_wp2_with (first | (go_at_call 15; refine (small_any a n c ps _ B (by simp; omega) (HP.out.below (((Below.refl B w).alloc hBw _).alloc (by simp; omega) _))).mono ?_; rintro e wy ⟨rfl, hby⟩; rw [hs]; obtain ⟨l0, l1, l2, l3, l4, l5⟩ := LB_step (LB_start (h := h)) hby; clear hby) | (go_at_call 16; refine (lawKnown_any _).mono ?_; rintro e wy ⟨rfl, hby⟩; have hL := LB_step ⟨l0, l1, l2, l3, l4, l5⟩ hby; clear l0 l1 l2 l3 l4 l5; obtain ⟨l0, l1, l2, l3, l4, l5⟩ := hL; clear hby))
  go_ret
  exact ⟨rfl, l5⟩
set_option maxRecDepth 100000 in
set_option maxHeartbeats 2000000 in
theorem PG_bad (a : Option Addr) (n c : Nat) (ps : Nat → PR) (h : HV) (w : World) (B : Nat) (hBw : B ≤ w.heap.size) (hP : Planes B w a n ps) (hs : smallB n ps = true) (hC : (checkB n ps && ofB n ps h) = false) :
    Calls Try.prog 3 #[setupV a n c, h.val] w fun e w' => e = .returned (.bool true) ∧ Below w.heap.size w w' := by
  have HP := Lib.hid hP
  have HC := Lib.hid hC
  clear hP hC
  go_enter Try.func3, Try.ntmps3
  go_upto_region 4 with (first | (go_at_call 15; refine (small_any a n c ps _ B (by simp; omega) (HP.out.below (((Below.refl B w).alloc hBw _).alloc (by simp; omega) _))).mono ?_; rintro e wy ⟨rfl, hby⟩; rw [hs]; obtain ⟨l0, l1, l2, l3, l4, l5⟩ := LB_step (LB_start (h := h)) hby; clear hby) | (go_at_call 17; refine (Gates_bad a n c ps h _ B (by omega) (HP.out.below (l5.mono hBw)) HC.out).mono ?_; rintro e wy ⟨rfl, hby⟩; have hL := LB_step ⟨l0, l1, l2, l3, l4, l5⟩ hby; clear l0 l1 l2 l3 l4 l5; obtain ⟨l0, l1, l2, l3, l4, l5⟩ := hL; clear hby))
  go_cut [7, 8] from 20 to 25 (fun s7 s8 wx => ∃ x, s7 = .pointer (some ⟨x, 0, none⟩) ∧ s8 = .int .i64 2 ∧ (x < wx.heap.size ∧ wx.cell? ⟨x, 0, none⟩ = some (.int .i64 0) ∧ wx.cell? ⟨x, 1, none⟩ = some (.int .i64 0)) ∧ LB a n c h w wx)
  case first =>
    go_wp2_with (go_at_call 18; refine (Times_bad a n c ps h _ B (by omega) (HP.out.below (l5.mono hBw)) HC.out).mono ?_; rintro e wy ⟨rfl, hby⟩; have hL := LB_step ⟨l0, l1, l2, l3, l4, l5⟩ hby; clear l0 l1 l2 l3 l4 l5; obtain ⟨l0, l1, l2, l3, l4, l5⟩ := hL; clear hby)
    go_meet
    exact ⟨_, rfl, rfl, ⟨by simp, by go_simp, by go_simp⟩, LB_alloc ⟨l0, l1, l2, l3, l4, l5⟩ _⟩
  clear l0 l1 l2 l3 l4 l5
  obtain ⟨x, rfl, rfl, ⟨hx, x0, x1⟩, l0, l1, l2, l3, l4, l5⟩ := hcut
  by_cases hC : checkB n ps = true
  · have hO : ofB n ps h = false := by have := HC.out; simpa [hC] using this
    have HCt := Lib.hid hC
    go_wp2_with (first | (go_at_call 19; refine (refSetup_any a n c ps _ B (by omega) (HP.out.below (l5.mono hBw))).mono ?_; rintro e wy ⟨rfl, hby⟩; rw [hC]; (have hX := LB_x hx x0 x1 hby; have hL := LB_step ⟨l0, l1, l2, l3, l4, l5⟩ hby; clear l0 l1 l2 l3 l4 l5 hx x0 x1; obtain ⟨l0, l1, l2, l3, l4, l5⟩ := hL; obtain ⟨hx, x0, x1⟩ := hX); clear hby) | (go_at_call 20; refine (refHit_any a n c ps h _ B (by omega) (HP.out.below (l5.mono hBw)) HCt.out).mono ?_; rintro e wy ⟨rfl, hby⟩; rw [hO]; (have hX := LB_x hx x0 x1 hby; have hL := LB_step ⟨l0, l1, l2, l3, l4, l5⟩ hby; clear l0 l1 l2 l3 l4 l5 hx x0 x1; obtain ⟨l0, l1, l2, l3, l4, l5⟩ := hL; obtain ⟨hx, x0, x1⟩ := hX); clear hby) | (go_at_call 16; refine (lawKnown_any _).mono ?_; rintro e wy ⟨rfl, hby⟩; have hL := LB_step ⟨l0, l1, l2, l3, l4, l5⟩ hby; clear l0 l1 l2 l3 l4 l5; obtain ⟨l0, l1, l2, l3, l4, l5⟩ := hL; clear hby))
    go_ret
    exact ⟨rfl, l5⟩
  · rw [Bool.not_eq_true] at hC
    go_wp2_with (first | (go_at_call 19; refine (refSetup_any a n c ps _ B (by omega) (HP.out.below (l5.mono hBw))).mono ?_; rintro e wy ⟨rfl, hby⟩; rw [hC]; (have hX := LB_x hx x0 x1 hby; have hL := LB_step ⟨l0, l1, l2, l3, l4, l5⟩ hby; clear l0 l1 l2 l3 l4 l5 hx x0 x1; obtain ⟨l0, l1, l2, l3, l4, l5⟩ := hL; obtain ⟨hx, x0, x1⟩ := hX); clear hby) | (go_at_call 16; refine (lawKnown_any _).mono ?_; rintro e wy ⟨rfl, hby⟩; have hL := LB_step ⟨l0, l1, l2, l3, l4, l5⟩ hby; clear l0 l1 l2 l3 l4 l5; obtain ⟨l0, l1, l2, l3, l4, l5⟩ := hL; clear hby))
    go_ret
    exact ⟨rfl, l5⟩
theorem refTimes_tt {a : Option Addr} {n c : Nat} {ps : Nat → PR} {h : HV} {w : World} {B : Nat} {k : Nat} {tl th : Int} (htl : tl = timeLo (ps k) h) (hth : th = timeHi (ps k) h) (hBw : B ≤ w.heap.size) (hP : Planes B w a n ps) (hn : n ≤ 16) (hk : k < n) (hhp : h.plane = k) (hS : Shaped (ps k)) (ht : -1000000000 ≤ h.time ∧ h.time ≤ 1000000000) :
    Calls Try.prog 21 #[setupV a n c, h.val] w fun e w' => e = .returned (.agg #[.int .i64 tl, .int .i64 th]) ∧ Below w.heap.size w w' := by
  subst htl; subst hth
  exact refTimes_any a n c ps h w B hBw hP hn k hk hhp hS ht
set_option maxRecDepth 100000 in
set_option maxHeartbeats 2000000 in
theorem PG_ok (a : Option Addr) (n c : Nat) (ps : Nat → PR) (h : HV) (w : World) (B : Nat) (hBw : B ≤ w.heap.size) (hP : Planes B w a n ps) (hs : smallB n ps = true) (hC : checkB n ps = true) (k : Nat) (hk : k < n) (hh : h.plane = k) (hH : hitB (ps k) h = true) :
    Calls Try.prog 3 #[setupV a n c, h.val] w fun e w' => e = .returned (.bool true) ∧ Below w.heap.size w w' := by
  have HP := Lib.hid hP
  have HC := Lib.hid hC
  have HHp := Lib.hid hh
  have HHt := Lib.hid hH
  have hO : ofB n ps h = true := by rw [ofB_in hk hh, hH]
  have HSh := Lib.hid (properB_shaped (checkB_plane hC hk))
  have HTm := Lib.hid (hitB_pre' hH).2.2.2
  have HN := Lib.hid (checkB_n hC).2
  obtain ⟨gn, hgn⟩ : ∃ g, g = gateN (ps k) h := ⟨_, rfl⟩
  have hg2 : gn ≤ 2 := by rw [hgn, gateN]; split <;> split <;> omega
  have HGN := Lib.hid hgn
  obtain ⟨ge, hge⟩ : ∃ g, g = gateE (ps k) h := ⟨_, rfl⟩
  have HGE := Lib.hid hge
  have HGv := Lib.hid (show ge = if gn = 0 then 5 else 0 by rw [hge, gateE, hgn])
  obtain ⟨tl, htl⟩ : ∃ t, t = timeLo (ps k) h := ⟨_, rfl⟩
  obtain ⟨th, hth⟩ : ∃ t, t = timeHi (ps k) h := ⟨_, rfl⟩
  have HTL := Lib.hid htl
  have HTH := Lib.hid hth
  clear hP hh hH hgn hge htl hth
  go_enter Try.func3, Try.ntmps3
  go_upto_region 4 with (first | (go_at_call 15; refine (small_any a n c ps _ B (by simp; omega) (HP.out.below (((Below.refl B w).alloc hBw _).alloc (by simp; omega) _))).mono ?_; rintro e wy ⟨rfl, hby⟩; rw [hs]; obtain ⟨l0, l1, l2, l3, l4, l5⟩ := LB_step (LB_start (h := h)) hby; clear hby) | (go_at_call 17; refine (Gates_ok a n c ps h _ B (by omega) (HP.out.below (l5.mono hBw)) HC.out k hk HHp.out HHt.out).mono ?_; rintro e wy ⟨ga, gc, rfl, hGA, hby⟩; rw [← HGE.out, ← HGN.out]; rw [← HGN.out] at hGA; have HG := Lib.hid hGA; have hL := LB_step ⟨l0, l1, l2, l3, l4, l5⟩ hby; clear l0 l1 l2 l3 l4 l5; obtain ⟨l0, l1, l2, l3, l4, l5⟩ := hL; clear hby hGA))
  go_cut [7, 8] from 20 to 25 (fun s7 s8 wx => ∃ x, s7 = .pointer (some ⟨x, 0, none⟩) ∧ s8 = .int .i64 0 ∧ (x < wx.heap.size ∧ wx.cell? ⟨x, 0, none⟩ = some (.int .i64 tl) ∧ wx.cell? ⟨x, 1, none⟩ = some (.int .i64 th)) ∧ Hid (GatesAt wx.heap.size wx ga gn (gateF (ps k) h)) ∧ LB a n c h w wx)
  case first =>
    go_wp2_with (go_at_call 18; refine (Times_ok a n c ps h _ B (by omega) (HP.out.below (l5.mono hBw)) HC.out k hk HHp.out HHt.out).mono ?_; rintro e wy ⟨rfl, hby⟩; rw [← HTL.out, ← HTH.out]; have HG := Lib.hid ((HG.out.below hby).up hby.size); have hL := LB_step ⟨l0, l1, l2, l3, l4, l5⟩ hby; clear l0 l1 l2 l3 l4 l5; obtain ⟨l0, l1, l2, l3, l4, l5⟩ := hL; clear hby)
    go_meet
    exact ⟨_, rfl, rfl, ⟨by simp, by go_simp, by go_simp⟩, Lib.hid (old_gates HG.out), LB_alloc ⟨l0, l1, l2, l3, l4, l5⟩ _⟩
  clear l0 l1 l2 l3 l4 l5 HG
  obtain ⟨x, rfl, rfl, ⟨hx, x0, x1⟩, HG, l0, l1, l2, l3, l4, l5⟩ := hcut
  go_upto_region 7 with (first | (go_at_call 19; refine (refSetup_any a n c ps _ B (by omega) (HP.out.below (l5.mono hBw))).mono ?_; rintro e wy ⟨rfl, hby⟩; rw [hC]; have HG := Lib.hid ((HG.out.below hby).up hby.size); (have hX := LB_x hx x0 x1 hby; have hL := LB_step ⟨l0, l1, l2, l3, l4, l5⟩ hby; clear l0 l1 l2 l3 l4 l5 hx x0 x1; obtain ⟨l0, l1, l2, l3, l4, l5⟩ := hL; obtain ⟨hx, x0, x1⟩ := hX); clear hby) | (go_at_call 20; refine (refHit_any a n c ps h _ B (by omega) (HP.out.below (l5.mono hBw)) HC.out).mono ?_; rintro e wy ⟨rfl, hby⟩; rw [hO]; have HG := Lib.hid ((HG.out.below hby).up hby.size); (have hX := LB_x hx x0 x1 hby; have hL := LB_step ⟨l0, l1, l2, l3, l4, l5⟩ hby; clear l0 l1 l2 l3 l4 l5 hx x0 x1; obtain ⟨l0, l1, l2, l3, l4, l5⟩ := hL; obtain ⟨hx, x0, x1⟩ := hX); clear hby))
  (refine wp_region_calm (wy.heap.size) (by kernel_rfl) (by kernel_rfl) ?_; (repeat (first | go_big_quiet_step ((go_at_call 21; refine Calls.calm_of (Nat.le_refl _) (refTimes_tt (B := B) HTL.out HTH.out ?_ ?_ HN.out hk HHp.out HSh.out HTm.out); (· (have := Below.size (Calm.below (by assumption)); omega)); (· exact (HP.out.below (l5.mono hBw)).below (Below.mono (Calm.below _) (by omega))))) | quiet_step ((go_at_call 21; refine Calls.calm_of (Nat.le_refl _) (refTimes_tt (B := B) HTL.out HTH.out ?_ ?_ HN.out hk HHp.out HSh.out HTm.out); (· (have := Below.size (Calm.below (by assumption)); omega)); (· exact (HP.out.below (l5.mono hBw)).below (Below.mono (Calm.below _) (by omega))))))); refine wpQuiet_nil ?_; intro _ hw'; obtain ⟨xq, hw''⟩ := hw'; subst hw'')
  have hby := xq.below
  have HG := Lib.hid ((HG.out.below hby).up hby.size)
  have hL := LB_step ⟨l0, l1, l2, l3, l4, l5⟩ hby
  clear l0 l1 l2 l3 l4 l5 hx x0 x1 hby
  obtain ⟨l0, l1, l2, l3, l4, l5⟩ := hL
  by_cases hg0 : gn = 0
  · have hge : ge = 5 := by rw [HGv.out, if_pos hg0]
    subst hge
    subst hg0
    go_wp2_with (first | (go_at_call 22; refine (refGates_any a n c ps h _ B (by omega) (HP.out.below (l5.mono hBw)) HC.out k hk HHp.out HHt.out).mono ?_; rintro e wy ⟨gb, gd, rfl, hgz, hGB, hby⟩; rw [← HGN.out] at hGB; rw [← HGN.out]; have HGB := Lib.hid hGB; have HG := Lib.hid ((HG.out.below hby).up hby.size); have hL := LB_step ⟨l0, l1, l2, l3, l4, l5⟩ hby; clear l0 l1 l2 l3 l4 l5; obtain ⟨l0, l1, l2, l3, l4, l5⟩ := hL; clear hby hGB hgz) | (go_at_call 16; refine (lawKnown_any _).mono ?_; rintro e wy ⟨rfl, hby⟩; have hL := LB_step ⟨l0, l1, l2, l3, l4, l5⟩ hby; clear l0 l1 l2 l3 l4 l5; obtain ⟨l0, l1, l2, l3, l4, l5⟩ := hL; clear hby))
    go_ret
    exact ⟨rfl, l5⟩
  · have hge : ge = 0 := by rw [HGv.out, if_neg hg0]
    subst hge
    have hg1 : ¬ (gn : Int) = 0 := by omega
    have hg1' : ((gn : Int) == 0) = false := by simpa using hg0
    have hgm : gn ≤ maxLen := by unfold maxLen; omega
    go_wp2_with (first | (go_at_call 22; refine (refGates_any a n c ps h _ B (by omega) (HP.out.below (l5.mono hBw)) HC.out k hk HHp.out HHt.out).mono ?_; rintro e wy ⟨gb, gd, rfl, hgz, hGB, hby⟩; rw [← HGN.out] at hGB; rw [← HGN.out]; have HGB := Lib.hid hGB; have HG := Lib.hid ((HG.out.below hby).up hby.size); have hL := LB_step ⟨l0, l1, l2, l3, l4, l5⟩ hby; clear l0 l1 l2 l3 l4 l5; obtain ⟨l0, l1, l2, l3, l4, l5⟩ := hL; clear hby hGB hgz) | (go_at_call 23; refine (SameGates_any ga gb gn gn gc gd _ _ _ _ (Nat.le_refl _) HG.out HGB.out hgm hgm).mono ?_; rintro e wy ⟨rfl, hby⟩; rw [sameGatesB_refl (fun _ _ => rfl)]; have hL := LB_step ⟨l0, l1, l2, l3, l4, l5⟩ hby; clear l0 l1 l2 l3 l4 l5; obtain ⟨l0, l1, l2, l3, l4, l5⟩ := hL; clear hby) | (go_at_call 16; refine (lawKnown_any _).mono ?_; rintro e wy ⟨rfl, hby⟩; have hL := LB_step ⟨l0, l1, l2, l3, l4, l5⟩ hby; clear l0 l1 l2 l3 l4 l5; obtain ⟨l0, l1, l2, l3, l4, l5⟩ := hL; clear hby))
    go_ret
    exact ⟨rfl, l5⟩
theorem PlaneGates_any (a : Option Addr) (n c : Nat) (ps : Nat → PR) (h : HV) (w : World) (B : Nat) (hBw : B ≤ w.heap.size) (hP : Planes B w a n ps) :
    Calls Try.prog 3 #[setupV a n c, h.val] w fun e w' => e = .returned (.bool true) ∧ Below w.heap.size w w' := by
  cases hs : smallB n ps
  · exact PG_large a n c ps h w B hBw hP hs
  · cases hC : (checkB n ps && ofB n ps h)
    · exact PG_bad a n c ps h w B hBw hP hs hC
    · rw [Bool.and_eq_true] at hC
      obtain ⟨k, hk, hh, hH⟩ := ofB_yes hC.2
      exact PG_ok a n c ps h w B hBw hP hs hC.1 k hk hh hH
end Go.Proofs.Ytgcepjminlapiaa
