/- The walk of gates. -/
import Derived.Test.YtegimepmccilfaaGreatDoorPlaneP
import Derived.Test.YtegimepmccilfaaGreatDoorPlaneM
import Derived.Deep.RegionHeld3
namespace Go.Proofs.YtegimepmccilfaaGreatDoor
open Go.RowKit
set_option linter.unusedVariables false
set_option linter.unusedSimpArgs false
theorem heapQ_old {w : World} {o : Obj} {i : Nat} (h : i < w.heap.size) : (w.alloc o).heap[i]? = w.heap[i]? := Below.heap_alloc w o i h
theorem heapQ_new {w : World} {o : Obj} {i : Nat} (h : i = w.heap.size) : (w.alloc o).heap[i]? = some o := by subst h; exact heap_alloc_new w o
theorem heapQ_2_0 (w : World) (a b : Obj) : ((w.alloc a).alloc b).heap[w.heap.size]? = some a := by
  rw [heapQ_old (by simp), heapQ_new rfl]
theorem heapQ_2_1 (w : World) (a b : Obj) : ((w.alloc a).alloc b).heap[w.heap.size + 1]? = some b := heapQ_new (by simp)
abbrev QS (b : Nat) (A : Array Value) (w w' : World) : Prop := (∀ j, w'.cell? ⟨b, j, none⟩ = A[j]?) ∧ b + 2 ≤ w'.heap.size ∧ Below b w w'
theorem QS_step {b : Nat} {A : Array Value} {w W wy : World} (h : QS b A w W) (hb : Below W.heap.size W wy) : QS b A w wy :=
  ⟨fun j => (hb.cell (p := ⟨b, j, none⟩) (by show b < _; have := h.2.1; omega)).trans (h.1 j), by have := h.2.1; have := hb.size; omega, h.2.2.trans (hb.mono (by have := h.2.1; omega))⟩
theorem QS_drew {b : Nat} {A : Array Value} {w W : World} (h : QS b A w W) : QS b A w W.drew := ⟨h.1, h.2.1, h.2.2.drew⟩
theorem QS_lt {W wy : World} (h : Below W.heap.size W wy) : ∀ b, b < W.heap.size → b < wy.heap.size := fun b hb => Nat.lt_of_lt_of_le hb h.size
theorem QS_lt1 {X wy : World} {o : Obj} (h : Below (X.alloc o).heap.size (X.alloc o) wy) : X.heap.size < wy.heap.size := by have := h.size; simp at this; omega
theorem QS_lt2 {X wy : World} {o o' : Obj} (h : Below ((X.alloc o).alloc o').heap.size ((X.alloc o).alloc o') wy) : X.heap.size < wy.heap.size := by have := h.size; simp at this; omega
theorem QS_end {b : Nat} {A : Array Value} {w W : World} {v : Value} (h : QS b A w W) (hv : A[2]? = some v) : W.cell? ⟨b, 2, none⟩ = some v ∧ b < W.heap.size ∧ Below b w W := ⟨(h.1 2).trans hv, by have := h.2.1; omega, h.2.2⟩
theorem QS_alloc {b : Nat} {A : Array Value} {w W : World} (h : QS b A w W) (o : Obj) : QS b A w (W.alloc o) :=
  QS_step h ((Below.refl _ _).alloc (Nat.le_refl _) _)
theorem QS_set {b x j : Nat} {A : Array Value} {w W : World} {v : Value} (h : QS b A w W) (hx : b < x) : QS b A w (W.setCell ⟨x, j, none⟩ v) := by
  obtain ⟨h1, h2, h3⟩ := h
  exact ⟨fun i => by rw [set_other (by omega)]; exact h1 i, by simpa using h2, h3.setCell (p := ⟨_, _, _⟩) (by simp; omega) _⟩
theorem QS_sz {b : Nat} {A : Array Value} {w W : World} (h : QS b A w W) : b < W.heap.size := by have := h.2.1; omega
set_option maxRecDepth 100000 in
set_option maxHeartbeats 9000000 in
theorem gates_any (p : PR) (ix : Int) (h : HV) (w : World) (B : Nat) (hBw : B ≤ w.heap.size) (hm : p.mem B w) (hPr : properB p = true) (hH : hitB p h = true) :
    Calls Tryz.prog 34 #[p.placed ix, h.val] w (GatesRes w p h) := by
  have hS := properB_shaped hPr
  have hpre := hitB_bounds hH
  have HT : Hid (p.kind = 2 → tubesB p.pitch p.dn p.ds = true ∧ 0 ≤ h.drift ∧ h.drift ≤ 1000000) := Lib.hid (fun e => ⟨properB_tubes hPr e, hitB_drift hH e⟩)
  clear hH hPr
  obtain ⟨hpl, channel, many, drift, charge, time⟩ := h
  dsimp only at hpre
  obtain ⟨hst1, hst2⟩ := hS.strips
  obtain ⟨g1, g2⟩ := hS.first
  obtain ⟨b1, b2⟩ := hS.pitch
  obtain ⟨s1, s2⟩ := hS.spill
  obtain ⟨o1, o2, o3⟩ := hS.off
  obtain ⟨⟨q1, q2⟩, ⟨q3, q4⟩, _, _⟩ := hpre
  obtain ⟨m1, m2⟩ := mul_bounds (x := channel + many - 1) (q := p.pitch) (by omega) (by omega) b1 b2
  obtain ⟨m3, m4⟩ := mul_bounds (x := channel + 1) (q := p.pitch) (by omega) (by omega) b1 b2
  obtain ⟨m5, m6⟩ := mul_bounds (x := channel) (q := p.pitch) (by omega) (by omega) b1 b2
  have HS := Lib.hid hS
  have HM := Lib.hid hm
  clear hS hm
  obtain ⟨kind, view, z, first, pitch, strips, spill, olo, ohi, clo, chi, jitter, least, da, dn, dc, ea, en, ec, ds, es⟩ := p
  dsimp only at *
  go_enter Tryz.func34, Tryz.ntmps34
  go_upto_region 1 with (fail)
  go_cut [15] from 12 to 14 (fun s15 wx => s15 = .bool (kind != 2) ∧ (∀ j, wx.cell? ⟨w.heap.size, j, none⟩ = (#[.int .i64 kind, .int .i64 view, .int .i64 z, .int .i64 first, .int .i64 pitch, .int .i64 strips, .int .i64 spill, .int .i64 olo, .int .i64 ohi, .int .i64 clo, .int .i64 chi, .int .i64 jitter, .int .i64 least, .slice da dn dc, .slice ea en ec, .int .i64 ix] : Array Value)[j]?) ∧ (∀ j, wx.cell? ⟨w.heap.size + 1, j, none⟩ = (#[.int .i64 hpl, .int .i64 channel, .int .i64 many, .int .i64 drift, .int .i64 charge, .int .i64 time] : Array Value)[j]?) ∧ w.heap.size + 2 ≤ wx.heap.size ∧ Below w.heap.size w wx)
  case first =>
    go_wp2_with fail
    go_meet
    refine ⟨rfl, fun j => ?_, fun j => ?_, ?_, ?_⟩
    · exact cell_of_row _ _ _ _ _ _ (heapQ_2_0 _ _ _)
    · exact cell_of_row _ _ _ _ _ _ (heapQ_2_1 _ _ _)
    · simp
    · exact ((Below.refl _ _).alloc (Nat.le_refl _) _).alloc (by simp) _
  obtain ⟨rfl, hp, hh, hz, hbx⟩ := hcut
  have hz1 : w.heap.size < wc.heap.size := by omega
  have hz2 : w.heap.size + 1 < wc.heap.size := by omega
  by_cases hk2 : kind = 2
  case neg =>
    have e1 : (kind != 2) = true := by simp [hk2]
    rw [e1]
    have HK := Lib.hid hk2
    clear hk2 e1
    have a1 : IntKind.i64.wrap (channel + many) = channel + many := IntWalk.i64_in _ (by omega)
    have a2 : IntKind.i64.wrap (channel + many - 1) = channel + many - 1 := IntWalk.i64_in _ (by omega)
    have a3 : IntKind.i64.wrap ((channel + many - 1) * pitch) = (channel + many - 1) * pitch := IntWalk.i64_in _ (by omega)
    have a4 : IntKind.i64.wrap (first + (channel + many - 1) * pitch) = first + (channel + many - 1) * pitch := IntWalk.i64_in _ (by omega)
    have a5 : IntKind.i64.wrap (first + (channel + many - 1) * pitch - spill) = first + (channel + many - 1) * pitch - spill := IntWalk.i64_in _ (by omega)
    have a6 : IntKind.i64.wrap (channel + 1) = channel + 1 := IntWalk.i64_in _ (by omega)
    have a7 : IntKind.i64.wrap ((channel + 1) * pitch) = (channel + 1) * pitch := IntWalk.i64_in _ (by omega)
    have a8 : IntKind.i64.wrap (first + (channel + 1) * pitch) = first + (channel + 1) * pitch := IntWalk.i64_in _ (by omega)
    have a9 : IntKind.i64.wrap (first + (channel + 1) * pitch + spill) = first + (channel + 1) * pitch + spill := IntWalk.i64_in _ (by omega)
    go_wp2_with fail
    go_quiet (fail)
    clear a1 a2 a3 a4 a5 a6 a7 a8 a9
    by_cases hg : first + (channel + 1) * pitch + spill < first + (channel + many - 1) * pitch - spill
    · go_wp2
      go_ret
      have e0 : gateN ⟨kind, view, z, first, pitch, strips, spill, olo, ohi, clo, chi, jitter, least, da, dn, dc, ea, en, ec, ds, es⟩ ⟨hpl, channel, many, drift, charge, time⟩ = 0 := gateN_none HK.out hg
      exact ⟨none, 0, by rw [e0]; rfl, fun _ => ⟨rfl, rfl⟩, .inl e0, below_drewN hbx _⟩
    · go_wp2_with (go_at_call 57; refine (gate_any ⟨kind, view, z, first, pitch, strips, spill, olo, ohi, clo, chi, jitter, least, da, dn, dc, ea, en, ec, ds, es⟩ ix _ _ _ ⟨by omega, by omega⟩ ⟨by omega, by omega⟩ ⟨by show _ ≤ olo; omega, by show olo ≤ _; omega⟩ ⟨by show _ ≤ ohi; omega, by show ohi ≤ _; omega⟩).mono ?_; rintro e w2 ⟨rfl, hb2⟩; have hB2 : Below w.heap.size w w2 := (below_drewN hbx _).trans (hb2.mono (by simp; omega)))
      go_ret
      have e0 : gateN ⟨kind, view, z, first, pitch, strips, spill, olo, ohi, clo, chi, jitter, least, da, dn, dc, ea, en, ec, ds, es⟩ ⟨hpl, channel, many, drift, charge, time⟩ = 1 := gateN_strip HK.out (by show ¬ first + (channel + 1) * pitch + spill < first + (channel + many - 1) * pitch - spill; omega)
      refine ⟨some ⟨w2.heap.size, 0, none⟩, 1, by rw [e0]; rfl, fun h => by omega, ?_, hB2.alloc hB2.size _⟩
      rw [e0]
      refine .inr ⟨w2.heap.size, 0, rfl, by simp, fun i hi => ?_⟩
      obtain rfl : i = 0 := by omega
      rw [gateF_strip HK.out]
      simp [gA, gB]
  obtain ⟨HTb, d1, d2⟩ := HT.out hk2
  obtain ⟨r, hr⟩ : ∃ r, r = radLo ⟨kind, view, z, first, pitch, strips, spill, olo, ohi, clo, chi, jitter, least, da, dn, dc, ea, en, ec, ds, es⟩ drift dn := ⟨_, rfl⟩
  obtain ⟨f, hf⟩ : ∃ f, f = radHi ⟨kind, view, z, first, pitch, strips, spill, olo, ohi, clo, chi, jitter, least, da, dn, dc, ea, en, ec, ds, es⟩ drift dn := ⟨_, rfl⟩
  have r1 : 0 ≤ r ∧ r ≤ 50000 := by rw [hr]; exact radLo_bounds (p := ⟨kind, view, z, first, pitch, strips, spill, olo, ohi, clo, chi, jitter, least, da, dn, dc, ea, en, ec, ds, es⟩) HTb b2 b1 dn (Nat.le_refl _)
  have f1 : 0 ≤ f ∧ f ≤ 50000 := by rw [hf]; exact radHi_bounds (p := ⟨kind, view, z, first, pitch, strips, spill, olo, ohi, clo, chi, jitter, least, da, dn, dc, ea, en, ec, ds, es⟩) HTb b2 b1 dn (Nat.le_refl _)
  obtain ⟨r1, r2⟩ := r1
  obtain ⟨f1, f2⟩ := f1
  have HR := Lib.hid hr
  have HFf := Lib.hid hf
  have e1 : (kind != 2) = false := by simp [hk2]
  rw [e1]
  have HK := Lib.hid hk2
  clear hk2 hr hf HTb m1 m2 m3 m4 e1
  go_upto_region 8 with (go_at_call 58; refine (radii_any ⟨kind, view, z, first, pitch, strips, spill, olo, ohi, clo, chi, jitter, least, da, dn, dc, ea, en, ec, ds, es⟩ ix drift _ B (by omega) (HM.out.below (hbx.mono hBw)) HS.out ⟨d1, d2⟩).mono ?_; rintro e w2 ⟨rfl, hb2⟩; rw [← HR.out, ← HFf.out]; have hp2 := fun j => (hb2.cell (p := ⟨w.heap.size, j, none⟩) (by show w.heap.size < _; omega)).trans (hp j); have hB2 : Below w.heap.size w w2 := hbx.trans (hb2.mono (by omega)); have hz3 : w.heap.size + 2 ≤ w2.heap.size := (by have := hb2.size; omega); have hz4 : w.heap.size < w2.heap.size := (by omega); clear hh hp hb2)
  have a1 : IntKind.i64.wrap (first + channel * pitch - f) = first + channel * pitch - f := IntWalk.i64_in _ (by omega)
  have a2 : IntKind.i64.wrap (first + channel * pitch - r) = first + channel * pitch - r := IntWalk.i64_in _ (by omega)
  have a3 : IntKind.i64.wrap (first + channel * pitch + r) = first + channel * pitch + r := IntWalk.i64_in _ (by omega)
  have a4 : IntKind.i64.wrap (first + channel * pitch + f) = first + channel * pitch + f := IntWalk.i64_in _ (by omega)
  go_cut [10, 11] from 74 to 89 (fun s10 s11 wx => ∃ x y, s10 = .pointer (some ⟨x, 0, none⟩) ∧ s11 = .pointer (some ⟨y, 0, none⟩) ∧ (wx.cell? ⟨x, 0, none⟩ = some (.int .i64 z) ∧ wx.cell? ⟨x, 1, none⟩ = some (.int .i64 (first + channel * pitch - f + olo)) ∧ wx.cell? ⟨x, 2, none⟩ = some (.int .i64 (first + channel * pitch - r + ohi))) ∧ (wx.cell? ⟨y, 0, none⟩ = some (.int .i64 z) ∧ wx.cell? ⟨y, 1, none⟩ = some (.int .i64 (first + channel * pitch + r + olo)) ∧ wx.cell? ⟨y, 2, none⟩ = some (.int .i64 (first + channel * pitch + f + ohi))) ∧ wx.cell? ⟨w.heap.size, 2, none⟩ = some (.int .i64 z) ∧ w.heap.size < wx.heap.size ∧ Below w.heap.size w wx)
  case first =>
    have hS0 : QS w.heap.size _ w w2 := ⟨hp2, hz3, hB2⟩
    clear hp2 hz3 hB2
    go_region_held3 (fun w' => (∀ j, w'.cell? ⟨w.heap.size, j, none⟩ = (#[.int .i64 kind, .int .i64 view, .int .i64 z, .int .i64 first, .int .i64 pitch, .int .i64 strips, .int .i64 spill, .int .i64 olo, .int .i64 ohi, .int .i64 clo, .int .i64 chi, .int .i64 jitter, .int .i64 least, .slice da dn dc, .slice ea en ec, .int .i64 ix] : Array Value)[j]?) ∧ w.heap.size + 2 ≤ w'.heap.size ∧ Below w.heap.size w w') (first | (repeat (first | (with_reducible assumption) | (with_reducible refine QS_drew ?_) | (with_reducible refine QS_alloc ?_ _) | (with_reducible refine QS_set ?_ (QS_sz (by with_reducible assumption))) | (with_reducible refine QS_set ?_ (Nat.lt_succ_of_lt (QS_sz (by with_reducible assumption)))))))  (first | (go_at_call 57; refine (gate_any ⟨kind, view, z, first, pitch, strips, spill, olo, ohi, clo, chi, jitter, least, da, dn, dc, ea, en, ec, ds, es⟩ ix _ _ _ ⟨by omega, by omega⟩ ⟨by omega, by omega⟩ ⟨by show _ ≤ olo; omega, by show olo ≤ _; omega⟩ ⟨by show _ ≤ ohi; omega, by show ohi ≤ _; omega⟩).mono ?_; rintro e wy ⟨rfl, hby⟩; have hsy := QS_step (by with_reducible assumption) hby; obtain ⟨hcy, hfy⟩ := bcell hby; have hly := QS_lt hby; (try have hk1 := QS_lt1 hby); (try have hk2 := QS_lt2 hby); (try have hq1 : w2.heap.size < wy.heap.size := (hly _ (by first | assumption | omega | (simp; done) | (simp; omega)))); (try have hq2 : w2.heap.size + 1 < wy.heap.size := (hly _ (by first | assumption | omega | (simp; done) | (simp; omega)))); clear hby hly))
    all_goals (go_wp2_with fail)
    all_goals go_meet
    all_goals (refine ⟨_, _, rfl, rfl, ⟨?_, ?_, ?_⟩, ⟨?_, ?_, ?_⟩, QS_end (by with_reducible assumption) rfl⟩)
    all_goals (try go_simp)
    all_goals (refine World.cell?_setCell_same' _ _ _ ?_; go_simp)
  clear a1 a2 a3 a4 hp2 hB2 hz3 hz4 hbx hz hz1 hz2
  obtain ⟨x, y, rfl, rfl, ⟨x0, x1, x2⟩, ⟨y0, y1, y2⟩, hzc, hzs, hB2⟩ := hcut
  by_cases ho : first + channel * pitch + r + olo ≤ first + channel * pitch - r + ohi
  · have e2 : oneB ⟨kind, view, z, first, pitch, strips, spill, olo, ohi, clo, chi, jitter, least, da, dn, dc, ea, en, ec, ds, es⟩ ⟨hpl, channel, many, drift, charge, time⟩ = true := oneB_yes HR.out ho
    have HE2 := Lib.hid e2
    have e0 : gateN ⟨kind, view, z, first, pitch, strips, spill, olo, ohi, clo, chi, jitter, least, da, dn, dc, ea, en, ec, ds, es⟩ ⟨hpl, channel, many, drift, charge, time⟩ = 1 := gateN_one HK.out e2
    clear e2
    have HE0 := Lib.hid e0
    clear e0
    go_wp2
    go_ret
    refine ⟨some ⟨wc.heap.size, 0, none⟩, 1, by rw [HE0.out]; rfl, (fun h => by rw [HE0.out] at h; cases h), ?_, hB2.alloc (by omega) _⟩
    rw [HE0.out]
    refine .inr ⟨wc.heap.size, 0, rfl, by simp, fun i hi => ?_⟩
    obtain rfl : i = 0 := by omega
    rw [gateF_one HFf.out HK.out HE2.out]
    exact ⟨(cell_of_row _ _ _ _ _ _ (heapQ_new (by simp))).trans (by simp [gW]), (cell_of_row _ _ _ _ _ _ (heapQ_new (by simp))).trans (by simp [gW]), (cell_of_row _ _ _ _ _ _ (heapQ_new (by simp))).trans (by simp [gW])⟩
  · have e2 : ¬ oneB ⟨kind, view, z, first, pitch, strips, spill, olo, ohi, clo, chi, jitter, least, da, dn, dc, ea, en, ec, ds, es⟩ ⟨hpl, channel, many, drift, charge, time⟩ = true := oneB_no HR.out ho
    have HE2 := Lib.hid e2
    have e0 : gateN ⟨kind, view, z, first, pitch, strips, spill, olo, ohi, clo, chi, jitter, least, da, dn, dc, ea, en, ec, ds, es⟩ ⟨hpl, channel, many, drift, charge, time⟩ = 2 := gateN_two HK.out e2
    clear e2
    have HE0 := Lib.hid e0
    clear e0
    go_wp2
    go_ret
    refine ⟨some ⟨wc.heap.size, 0, none⟩, 2, by rw [HE0.out]; rfl, (fun h => by rw [HE0.out] at h; cases h), ?_, hB2.alloc (by omega) _⟩
    rw [HE0.out]
    refine .inr ⟨wc.heap.size, 0, rfl, by simp, fun i hi => ?_⟩
    by_cases hi0 : i = 0
    · subst hi0
      rw [gateF_left HR.out HFf.out HK.out HE2.out]
      exact ⟨(cell_of_row _ _ _ _ _ _ (heapQ_new (by simp))).trans (by simp [gW]), (cell_of_row _ _ _ _ _ _ (heapQ_new (by simp))).trans (by simp [gW]), (cell_of_row _ _ _ _ _ _ (heapQ_new (by simp))).trans (by simp [gW])⟩
    · obtain rfl : i = 1 := by omega
      rw [gateF_right HR.out HFf.out HK.out HE2.out]
      exact ⟨(cell_of_row _ _ _ _ _ _ (heapQ_new (by simp))).trans (by simp [gW]), (cell_of_row _ _ _ _ _ _ (heapQ_new (by simp))).trans (by simp [gW]), (cell_of_row _ _ _ _ _ _ (heapQ_new (by simp))).trans (by simp [gW])⟩
end Go.Proofs.YtegimepmccilfaaGreatDoor
