/- The statement PlaneFired: its walk. -/
import Derived.Test.YtgcepjminlapiaaKnown
import Derived.Test.YtgcepjminlapiaaSeesC
import Derived.Test.YtgcepjminlapiaaPlaneJ
import Derived.Test.YtgcepjminlapiaaPlaneO
import Derived.Test.YtgcepjminlapiaaPlaneH
namespace Go.Proofs.Ytgcepjminlapiaa
open Go.RowKit
set_option linter.unusedVariables false
set_option linter.unusedSimpArgs false
/-- a place that a plane must see lies at a channel that is not dead -/
theorem fired_law {p : PR} (hS : Shaped p) (hk : ¬ p.kind = 2) {x o : Int} (hm : seesMust p x x = true) (h1 : p.olo ≤ o) (h2 : o ≤ p.ohi) :
    0 ≤ x - o - p.first ∧ ∃ q : Nat, (x - o - p.first) / p.pitch = q ∧ (q : Int) < p.strips ∧ deadIs p q = false ∧ (q : Int) * p.pitch ≤ x - o - p.first ∧ x - o - p.first < ((q : Int) + 1) * p.pitch := by
  obtain ⟨t1, t2⟩ := hS.strips
  obtain ⟨b1, b2⟩ := hS.pitch
  rw [refMust_is hS (Int.le_refl _), refMust, mustG_iff] at hm
  simp only [Bool.and_eq_true, decide_eq_true_eq] at hm
  obtain ⟨⟨m1, m2⟩, m3⟩ := hm
  have hh : half p = 0 := by rw [half, if_neg hk]
  have hT : ∀ c, terF p c = p.first + (c : Int) * p.pitch := fun c => by rw [terF, hh, Int.sub_zero]
  rw [hT] at m1 m2
  have hN : ((p.strips.toNat - 1 : Nat) : Int) = p.strips - 1 := by omega
  rw [hN] at m2
  have e0 : (p.strips - 1) * p.pitch = p.strips * p.pitch - p.pitch := by rw [Int.sub_mul, Int.one_mul]
  have hy0 : 0 ≤ x - o - p.first := by simp at m1; omega
  obtain ⟨q, hq⟩ := Int.eq_ofNat_of_zero_le (Int.ediv_nonneg hy0 (show 0 ≤ p.pitch by omega))
  have hq1 : (q : Int) * p.pitch ≤ x - o - p.first := by rw [← hq]; exact Int.ediv_mul_le _ (by omega)
  have hq2 : x - o - p.first < ((q : Int) + 1) * p.pitch := by rw [← hq]; exact Int.lt_ediv_add_one_mul_self _ (by omega)
  have e1 : ((q : Int) + 1) * p.pitch = (q : Int) * p.pitch + p.pitch := by rw [Int.add_mul, Int.one_mul]
  have hqs : (q : Int) < p.strips := by
    by_cases h : (q : Int) < p.strips
    · exact h
    · have := Int.mul_le_mul_of_nonneg_right (show p.strips ≤ (q : Int) by omega) (show 0 ≤ p.pitch by omega)
      omega
  refine ⟨hy0, q, hq, hqs, ?_, hq1, hq2⟩
  cases hd : deadIs p q
  · rfl
  · refine absurd ?_ (m3 q (by omega) hd)
    rw [hT]
    constructor <;> omega
theorem fired_hit {p : PR} (hS : Shaped p) (hk : ¬ p.kind = 2) {k q ch : Int} (h1 : 0 ≤ q) (h2 : q < p.strips) (hd : deadIs p q = false) (c1 : p.least ≤ ch) (c2 : ch ≤ 1000000) : hitB p ⟨k, q, 1, 0, ch, 0⟩ = true := by
  have a1 : hitPre p ⟨k, q, 1, 0, ch, 0⟩ = true := hitPre_iff.2 ⟨⟨h1, by show q ≤ p.strips - 1; omega⟩, ⟨(show (1 : Int) ≤ 1 by decide), by show 1 ≤ p.strips - q; omega⟩, ⟨c1, c2⟩, (show (-1000000000 : Int) ≤ 0 by decide), (show (0 : Int) ≤ 1000000000 by decide)⟩
  have a2 : allUpto p.en (noDeadAt p ⟨k, q, 1, 0, ch, 0⟩) = true := allUpto_true fun j hj => by
    have : ¬ p.es j = q := fun e => by
      have := deadIs_iff.2 ⟨j, hj, e⟩
      rw [hd] at this; cases this
    have hw : withinB (p.es j) q (q + 1 - 1) = false := withinB_no (by omega)
    show (!withinB (p.es j) q (q + 1 - 1)) = true
    rw [hw]; rfl
  have a3 : hitKind p ⟨k, q, 1, 0, ch, 0⟩ = true := by simp [hitKind, hk]
  rw [hitB, a1, a2, a3]; rfl
abbrev LF (a : Option Addr) (n c : Nat) (w wx : World) : Prop := wx.cell? ⟨w.heap.size, 0, none⟩ = some (.slice a n c) ∧ w.heap.size + 1 ≤ wx.heap.size ∧ w.heap.size < wx.heap.size ∧ Below w.heap.size w wx
theorem LF_step {a : Option Addr} {n c : Nat} {w W wy : World} (hL : LF a n c w W) (hb : Below W.heap.size W wy) : LF a n c w wy := by
  obtain ⟨l0, l1, l2, l3⟩ := hL
  have hs := hb.size
  exact ⟨((bcell hb).1 _ _ l2).trans l0, by omega, by omega, l3.trans (hb.mono (by omega))⟩
theorem LF_start {a : Option Addr} {n c : Nat} {w : World} {t : TypeId} : LF a n c w (w.alloc (.cells #[.slice a n c] t)) :=
  ⟨cell_of_row _ _ _ _ _ _ (heapQ_new rfl), by simp, by simp, (Below.refl _ _).alloc (Nat.le_refl _) _⟩
theorem row_step {W wy : World} {x : Nat} {A : Array Value} (hx : x < W.heap.size) (h : ∀ j, W.cell? ⟨x, j, none⟩ = A[j]?) (hb : Below W.heap.size W wy) : x < wy.heap.size ∧ ∀ j, wy.cell? ⟨x, j, none⟩ = A[j]? :=
  ⟨Nat.lt_of_lt_of_le hx hb.size, fun j => ((bcell hb).1 _ _ hx).trans (h j)⟩
set_option maxRecDepth 100000 in
set_option maxHeartbeats 2000000 in
theorem PF_out (a : Option Addr) (n c : Nat) (ps : Nat → PR) (k x o ch : Int) (w : World) (B : Nat) (hBw : B ≤ w.heap.size) (hP : Planes B w a n ps) (hB : (smallB n ps && (checkB n ps && (withinB k 0 ((n : Int) - 1) && withinB x (-1000000) 1000000))) = false) :
    Calls Try.prog 6 #[setupV a n c, .int .i64 k, .int .i64 x, .int .i64 o, .int .i64 ch] w fun e w' => e = .returned (.bool true) ∧ Below w.heap.size w w' := by
  have hn : n ≤ 9223372036854775807 := hP.1
  have HP := Lib.hid hP
  clear hP
  cases hs : smallB n ps
  · clear hB
    go_enter Try.func6, Try.ntmps6
    go_wp2_with (first | (go_at_call 15; refine (small_any a n c ps _ B (by simp; omega) (HP.out.below ((Below.refl B w).alloc hBw _))).mono ?_; rintro e wy ⟨rfl, hby⟩; rw [hs]; obtain ⟨l0, l1, l2, l3⟩ := LF_step LF_start hby; clear hby) | (go_at_call 16; refine (lawKnown_any _).mono ?_; rintro e wy ⟨rfl, hby⟩; have hL := LF_step ⟨l0, l1, l2, l3⟩ hby; clear l0 l1 l2 l3; obtain ⟨l0, l1, l2, l3⟩ := hL; clear hby))
    go_ret
    exact ⟨rfl, l3⟩
  · cases hC : checkB n ps
    · clear hB
      go_enter Try.func6, Try.ntmps6
      go_wp2_with (first | (go_at_call 15; refine (small_any a n c ps _ B (by simp; omega) (HP.out.below ((Below.refl B w).alloc hBw _))).mono ?_; rintro e wy ⟨rfl, hby⟩; rw [hs]; obtain ⟨l0, l1, l2, l3⟩ := LF_step LF_start hby; clear hby) | (go_at_call 19; refine (refSetup_any a n c ps _ B (by omega) (HP.out.below (l3.mono hBw))).mono ?_; rintro e wy ⟨rfl, hby⟩; rw [hC]; have hL := LF_step ⟨l0, l1, l2, l3⟩ hby; clear l0 l1 l2 l3; obtain ⟨l0, l1, l2, l3⟩ := hL; clear hby) | (go_at_call 16; refine (lawKnown_any _).mono ?_; rintro e wy ⟨rfl, hby⟩; have hL := LF_step ⟨l0, l1, l2, l3⟩ hby; clear l0 l1 l2 l3; obtain ⟨l0, l1, l2, l3⟩ := hL; clear hby))
      go_ret
      exact ⟨rfl, l3⟩
    · cases hW : withinB k 0 ((n : Int) - 1)
      · clear hB
        go_enter Try.func6, Try.ntmps6
        go_wp2_with (first | (go_at_call 15; refine (small_any a n c ps _ B (by simp; omega) (HP.out.below ((Below.refl B w).alloc hBw _))).mono ?_; rintro e wy ⟨rfl, hby⟩; rw [hs]; obtain ⟨l0, l1, l2, l3⟩ := LF_step LF_start hby; clear hby) | (go_at_call 19; refine (refSetup_any a n c ps _ B (by omega) (HP.out.below (l3.mono hBw))).mono ?_; rintro e wy ⟨rfl, hby⟩; rw [hC]; have hL := LF_step ⟨l0, l1, l2, l3⟩ hby; clear l0 l1 l2 l3; obtain ⟨l0, l1, l2, l3⟩ := hL; clear hby) | (go_at_call 24; refine (refIn_any _ _ _ _).mono ?_; rintro e w' ⟨rfl, rfl⟩) | (go_at_call 16; refine (lawKnown_any _).mono ?_; rintro e wy ⟨rfl, hby⟩; have hL := LF_step ⟨l0, l1, l2, l3⟩ hby; clear l0 l1 l2 l3; obtain ⟨l0, l1, l2, l3⟩ := hL; clear hby))
        go_ret
        exact ⟨rfl, l3⟩
      · have hX : withinB x (-1000000) 1000000 = false := by simpa [hs, hC, hW] using hB
        clear hB
        go_enter Try.func6, Try.ntmps6
        go_wp2_with (first | (go_at_call 15; refine (small_any a n c ps _ B (by simp; omega) (HP.out.below ((Below.refl B w).alloc hBw _))).mono ?_; rintro e wy ⟨rfl, hby⟩; rw [hs]; obtain ⟨l0, l1, l2, l3⟩ := LF_step LF_start hby; clear hby) | (go_at_call 19; refine (refSetup_any a n c ps _ B (by omega) (HP.out.below (l3.mono hBw))).mono ?_; rintro e wy ⟨rfl, hby⟩; rw [hC]; have hL := LF_step ⟨l0, l1, l2, l3⟩ hby; clear l0 l1 l2 l3; obtain ⟨l0, l1, l2, l3⟩ := hL; clear hby) | (go_at_call 24; refine (refIn_any _ _ _ _).mono ?_; rintro e w' ⟨rfl, rfl⟩) | (go_at_call 16; refine (lawKnown_any _).mono ?_; rintro e wy ⟨rfl, hby⟩; have hL := LF_step ⟨l0, l1, l2, l3⟩ hby; clear l0 l1 l2 l3; obtain ⟨l0, l1, l2, l3⟩ := hL; clear hby))
        go_ret
        exact ⟨rfl, l3⟩
set_option maxRecDepth 100000 in
set_option maxHeartbeats 2000000 in
theorem PF_in (a : Option Addr) (n c : Nat) (ps : Nat → PR) (k : Nat) (x o ch : Int) (w : World) (B : Nat) (hBw : B ≤ w.heap.size) (hP : Planes B w a n ps) (hs : smallB n ps = true) (hC : checkB n ps = true) (hk : k < n) (hX : withinB x (-1000000) 1000000 = true) :
    Calls Try.prog 6 #[setupV a n c, .int .i64 k, .int .i64 x, .int .i64 o, .int .i64 ch] w fun e w' => e = .returned (.bool true) ∧ Below w.heap.size w w' := by
  obtain ⟨b, off, rfl, hbB, hat, hm⟩ := hP.get hk
  have hN := checkB_n hC
  have hSh := properB_shaped (checkB_plane hC hk)
  obtain ⟨p1, p2⟩ := withinB_iff.1 hX
  have hW : withinB (k : Int) 0 ((n : Int) - 1) = true := withinB_yes (by omega) (by omega)
  have hO : orderedB x x 1000000 = true := orderedB_iff.2 ⟨by omega, by omega, by omega⟩
  have HC := Lib.hid hC
  have HP := Lib.hid hP
  have HAT := Lib.hid hat
  have HO := Lib.hid hO
  have HSh := Lib.hid hSh
  obtain ⟨M, hM⟩ : ∃ M, M = seesMust (ps k) x x := ⟨_, rfl⟩
  obtain ⟨C, hCn⟩ : ∃ C, C = seesCan (ps k) x x := ⟨_, rfl⟩
  have HMn := Lib.hid hM
  have HCn := Lib.hid hCn
  clear hP hat hm hSh hM hCn hO
  go_enter Try.func6, Try.ntmps6
  generalize hga : (some ⟨b, off, none⟩ : Option Addr) = a at *
  have HA := Lib.hid hga
  clear hga
  go_upto_region 3 with (first | (go_at_call 15; refine (small_any a n c ps _ B (by simp; omega) (HP.out.below ((Below.refl B w).alloc hBw _))).mono ?_; rintro e wy ⟨rfl, hby⟩; rw [hs]; obtain ⟨l0, l1, l2, l3⟩ := LF_step LF_start hby; clear hby) | (go_at_call 19; refine (refSetup_any a n c ps _ B (by omega) (HP.out.below (l3.mono hBw))).mono ?_; rintro e wy ⟨rfl, hby⟩; rw [hC]; have hL := LF_step ⟨l0, l1, l2, l3⟩ hby; clear l0 l1 l2 l3; obtain ⟨l0, l1, l2, l3⟩ := hL; clear hby) | (go_at_call 24; refine (refIn_any _ _ _ _).mono ?_; rintro e w' ⟨rfl, rfl⟩))
  obtain ⟨c0, c1, c2, c3, c4, c5, c6, c7, c8, c9, c10, c11, c12, c13, c14⟩ := HAT.out.below l3 (by omega)
  have hbz : b < wy.heap.size := by omega
  obtain rfl := HA.out
  generalize hpp : ps k = p at c0 c1 c2 c3 c4 c5 c6 c7 c8 c9 c10 c11 c12 c13 c14 HSh HMn HCn
  have HPP := Lib.hid hpp
  clear hpp
  obtain ⟨kind, view, z, first, pitch, strips, spill, olo, ohi, clo, chi, jitter, least, da, dn, dc, ea, en, ec, ds, es⟩ := p
  dsimp only at c0 c1 c2 c3 c4 c5 c6 c7 c8 c9 c10 c11 c12 c13 c14
  go_cut [11] from 42 to 46 (fun s11 wx => ∃ x11, s11 = .pointer (some ⟨x11, 0, none⟩) ∧ (x11 < wx.heap.size ∧ ∀ j, wx.cell? ⟨x11, j, none⟩ = (#[.int .i64 kind, .int .i64 view, .int .i64 z, .int .i64 first, .int .i64 pitch, .int .i64 strips, .int .i64 spill, .int .i64 olo, .int .i64 ohi, .int .i64 clo, .int .i64 chi, .int .i64 jitter, .int .i64 least, .slice da dn dc, .slice ea en ec] : Array Value)[j]?) ∧ LF (some ⟨b, off, none⟩) n c w wx)
  case first =>
    go_wp2_with fail
    go_meet
    exact ⟨wy.heap.size, rfl, ⟨by simp, fun j => cell_of_row _ _ _ _ _ _ (heapQ_new rfl)⟩, LF_step ⟨l0, l1, l2, l3⟩ ((Below.refl _ _).alloc (Nat.le_refl _) _)⟩
  clear l0 l1 l2 l3 c0 c1 c2 c3 c4 c5 c6 c7 c8 c9 c10 c11 c12 c13 c14 hbz
  obtain ⟨x11, rfl, ⟨hx, hp⟩, l0, l1, l2, l3⟩ := hcut
  generalize hga : (some ⟨b, off, none⟩ : Option Addr) = a at *
  have HA := Lib.hid hga
  clear hga
  go_upto_region 7 with (go_at_call 26; refine (Sees_ok a n c ps x x _ B (by omega) (HP.out.below (l3.mono hBw)) HC.out k hk HO.out).mono ?_; rintro e wy ⟨rfl, hby⟩; rw [HPP.out, ← HMn.out, ← HCn.out]; (have hXX := row_step hx hp hby; have hL := LF_step ⟨l0, l1, l2, l3⟩ hby; clear l0 l1 l2 l3; obtain ⟨l0, l1, l2, l3⟩ := hL; clear hx hp; obtain ⟨hx, hp⟩ := hXX; clear hby))
  cases M
  · go_wp2_with (first | (go_at_call 24; refine (refIn_any _ _ _ _).mono ?_; rintro e w' ⟨rfl, rfl⟩) | (go_at_call 16; refine (lawKnown_any _).mono ?_; rintro e wy ⟨rfl, hby⟩; have hL := LF_step ⟨l0, l1, l2, l3⟩ hby; clear l0 l1 l2 l3; obtain ⟨l0, l1, l2, l3⟩ := hL; clear hby))
    go_ret
    exact ⟨rfl, l3⟩
  · by_cases hk2 : kind = 2
    · have e2 : (kind == 2) = true := by simp [hk2]
      clear hk2
      go_wp2_with (first | (go_at_call 24; refine (refIn_any _ _ _ _).mono ?_; rintro e w' ⟨rfl, rfl⟩) | (go_at_call 16; refine (lawKnown_any _).mono ?_; rintro e wy ⟨rfl, hby⟩; have hL := LF_step ⟨l0, l1, l2, l3⟩ hby; clear l0 l1 l2 l3; obtain ⟨l0, l1, l2, l3⟩ := hL; clear hby))
      go_ret
      exact ⟨rfl, l3⟩
    · have e2 : (kind == 2) = false := by simp [hk2]
      have HK2 := Lib.hid hk2
      clear hk2
      cases hof : withinB o olo ohi
      · go_wp2_with (first | (go_at_call 24; refine (refIn_any _ _ _ _).mono ?_; rintro e w' ⟨rfl, rfl⟩) | (go_at_call 16; refine (lawKnown_any _).mono ?_; rintro e wy ⟨rfl, hby⟩; have hL := LF_step ⟨l0, l1, l2, l3⟩ hby; clear l0 l1 l2 l3; obtain ⟨l0, l1, l2, l3⟩ := hL; clear hby))
        go_ret
        exact ⟨rfl, l3⟩
      · cases hch : withinB ch least 1000000
        · go_wp2_with (first | (go_at_call 24; refine (refIn_any _ _ _ _).mono ?_; rintro e w' ⟨rfl, rfl⟩) | (go_at_call 16; refine (lawKnown_any _).mono ?_; rintro e wy ⟨rfl, hby⟩; have hL := LF_step ⟨l0, l1, l2, l3⟩ hby; clear l0 l1 l2 l3; obtain ⟨l0, l1, l2, l3⟩ := hL; clear hby))
          go_ret
          exact ⟨rfl, l3⟩
        · obtain ⟨o1, o2⟩ := withinB_iff.1 hof
          obtain ⟨ch1, ch2⟩ := withinB_iff.1 hch
          have hoff := HSh.out.off
          have hfir := HSh.out.first
          have hpit := HSh.out.pitch
          have hspl := HSh.out.spill
          dsimp only at hoff hfir hpit hspl
          obtain ⟨hy0, q, hq, hqs, hqd, hq1, hq2⟩ := fired_law HSh.out HK2.out HMn.out.symm o1 o2
          dsimp only at hy0 hq hqs hq1 hq2
          have hH : hitB ⟨kind, view, z, first, pitch, strips, spill, olo, ohi, clo, chi, jitter, least, da, dn, dc, ea, en, ec, ds, es⟩ ⟨(k : Int), (q : Int), 1, 0, ch, 0⟩ = true := fired_hit HSh.out HK2.out (by omega) hqs hqd ch1 ch2
          have HH := Lib.hid hH
          have HQD := Lib.hid hqd
          clear hH hqd
          have hgn : gateN (ps k) ⟨(k : Int), (q : Int), 1, 0, ch, 0⟩ = 1 := by rw [HPP.out]; exact gateN_strip HK2.out (by show ¬ first + ((q : Int) + 1) * pitch + spill < first + ((q : Int) + 1 - 1) * pitch - spill; rw [show (q : Int) + 1 - 1 = q by omega]; omega)
          have hge : gateE (ps k) ⟨(k : Int), (q : Int), 1, 0, ch, 0⟩ = 0 := by rw [gateE, hgn]; rfl
          have hgf : gateF (ps k) ⟨(k : Int), (q : Int), 1, 0, ch, 0⟩ 0 = ⟨z, first + (q : Int) * pitch - spill + olo, first + ((q : Int) + 1) * pitch + spill + ohi⟩ := by rw [HPP.out, gateF_strip HK2.out]; show (⟨z, first + ((q : Int) + 1 - 1) * pitch - spill + olo, _⟩ : GV) = _; rw [show (q : Int) + 1 - 1 = q by omega]; rfl
          have hkn : checkE (checkB n ps && ofB n ps ⟨(k : Int), (q : Int), 1, 0, ch, 0⟩) = 0 := by rw [HC.out, ofB_in hk rfl, HPP.out, HH.out]; rfl
          have hHH : hitB (ps k) ⟨(k : Int), (q : Int), 1, 0, ch, 0⟩ = true := by rw [HPP.out]; exact HH.out
          have HGN := Lib.hid hgn
          have HGE := Lib.hid hge
          have HGF := Lib.hid hgf
          have HKN := Lib.hid hkn
          have HHH := Lib.hid hHH
          have q3 : first + (q : Int) * pitch - spill + olo ≤ x := by omega
          have q4 : x ≤ first + ((q : Int) + 1) * pitch + spill + ohi := by omega
          clear hgn hge hgf hkn hHH
          go_upto_region 12 with (first | (go_at_call 24; refine (refIn_any _ _ _ _).mono ?_; rintro e w' ⟨rfl, rfl⟩))
          go_cut [16] from 93 to 99 (fun s16 wx => ∃ x16, s16 = .pointer (some ⟨x16, 0, none⟩) ∧ (x16 < wx.heap.size ∧ ∀ j, wx.cell? ⟨x16, j, none⟩ = (#[.int .i64 (k : Int), .int .i64 (q : Int), .int .i64 1, .int .i64 0, .int .i64 ch, .int .i64 0] : Array Value)[j]?) ∧ LF a n c w wx)
          case first =>
            go_wp2_with fail
            go_meet
            exact ⟨wy.heap.size, rfl, ⟨by simp, fun j => cell_of_row _ _ _ _ _ _ (heapQ_new rfl)⟩, LF_step ⟨l0, l1, l2, l3⟩ ((Below.refl _ _).alloc (Nat.le_refl _) _)⟩
          clear l0 l1 l2 l3 hx hp
          obtain ⟨x16, rfl, ⟨hx, hp⟩, l0, l1, l2, l3⟩ := hcut
          generalize hglo : first + (q : Int) * pitch - spill + olo = glo at *
          generalize hghi : first + ((q : Int) + 1) * pitch + spill + ohi = ghi at *
          clear hglo hghi hq1 hq2 hq hqs hy0
          go_upto_region 16 with (first | (go_at_call 29; refine (Known_any a n c ps ⟨(k : Int), (q : Int), 1, 0, ch, 0⟩ _ B (by omega) (HP.out.below (l3.mono hBw))).mono ?_; rintro e wy ⟨rfl, hby⟩; rw [HKN.out]; (have hXX := row_step hx hp hby; have hL := LF_step ⟨l0, l1, l2, l3⟩ hby; clear l0 l1 l2 l3; obtain ⟨l0, l1, l2, l3⟩ := hL; clear hx hp; obtain ⟨hx, hp⟩ := hXX; clear hby)) | (go_at_call 17; refine (Gates_ok a n c ps ⟨(k : Int), (q : Int), 1, 0, ch, 0⟩ _ B (by omega) (HP.out.below (l3.mono hBw)) HC.out k hk rfl HHH.out).mono ?_; rintro e wy ⟨ga, gc, rfl, hGA, hby⟩; rw [HGN.out, HGE.out]; rw [HGN.out] at hGA; have HG := Lib.hid hGA; clear hGA; (have hXX := row_step hx hp hby; have hL := LF_step ⟨l0, l1, l2, l3⟩ hby; clear l0 l1 l2 l3; obtain ⟨l0, l1, l2, l3⟩ := hL; clear hx hp; obtain ⟨hx, hp⟩ := hXX; clear hby)))
          rcases HG.out with h0 | ⟨gb, go, rfl, hgB, hgc⟩
          · cases h0
          obtain ⟨_, g1, g2⟩ := hgc 0 (by decide)
          rw [HGF.out] at g1 g2
          simp only [Nat.zero_mul, Nat.add_zero] at g1 g2
          clear hgc
          go_wp2_with (go_at_call 16; refine (lawKnown_any _).mono ?_; rintro e wy ⟨rfl, hby⟩; have hL := LF_step ⟨l0, l1, l2, l3⟩ hby; clear l0 l1 l2 l3; obtain ⟨l0, l1, l2, l3⟩ := hL; clear hby)
          go_ret
          exact ⟨rfl, l3⟩
theorem PlaneFired_any (a : Option Addr) (n c : Nat) (ps : Nat → PR) (k x o ch : Int) (w : World) (B : Nat) (hBw : B ≤ w.heap.size) (hP : Planes B w a n ps) (h1 : (Lit.int .i64 k).wf = true) (h2 : (Lit.int .i64 x).wf = true) (h3 : (Lit.int .i64 o).wf = true) (h4 : (Lit.int .i64 ch).wf = true) :
    Calls Try.prog 6 #[setupV a n c, .int .i64 k, .int .i64 x, .int .i64 o, .int .i64 ch] w fun e w' => e = .returned (.bool true) ∧ Below w.heap.size w w' := by
  cases hB : (smallB n ps && (checkB n ps && (withinB k 0 ((n : Int) - 1) && withinB x (-1000000) 1000000)))
  · exact PF_out a n c ps k x o ch w B hBw hP hB
  · simp only [Bool.and_eq_true] at hB
    obtain ⟨hs, hC, hW, hX⟩ := hB
    obtain ⟨w1, w2⟩ := withinB_iff.1 hW
    obtain ⟨m, rfl⟩ := Int.eq_ofNat_of_zero_le w1
    exact PF_in a n c ps m x o ch w B hBw hP hs hC (by omega) hX
end Go.Proofs.Ytgcepjminlapiaa
