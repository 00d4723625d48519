/- The statement PlaneTrue: its walk. -/
import Derived.Test.YtgcepjminlapiaaLawA
import Derived.Test.YtgcepjminlapiaaLawD
import Derived.Test.YtgcepjminlapiaaTrueLaw
namespace Go.Proofs.Ytgcepjminlapiaa
open Go.RowKit
set_option linter.unusedVariables false
set_option linter.unusedSimpArgs false
set_option maxRecDepth 100000 in
set_option maxHeartbeats 2000000 in
theorem PT_out (a : Option Addr) (n c : Nat) (ps : Nat → PR) (h : HV) (x o : Int) (w : World) (B : Nat) (hBw : B ≤ w.heap.size) (hP : Planes B w a n ps) (hB : (smallB n ps && (checkB n ps && (ofB n ps h && withinB x (-4000000) 4000000))) = false) :
    Calls Try.prog 4 #[setupV a n c, h.val, .int .i64 x, .int .i64 o] w fun e w' => e = .returned (.bool true) ∧ Below w.heap.size w w' := by
  have HP := Lib.hid hP
  clear hP
  cases hs : smallB n ps
  · clear hB
    go_enter Try.func4, Try.ntmps4
    go_wp2_with (first | (go_at_call 15; refine (small_any a n c ps _ B (by simp; omega) (HP.out.below (((Below.refl B w).alloc hBw _).alloc (by simp; omega) _))).mono ?_; rintro e wy ⟨rfl, hby⟩; rw [hs]; obtain ⟨l0, l1, l2, l3, l4, l5⟩ := LB_step (LB_start (h := h)) hby; clear hby) | (go_at_call 16; refine (lawKnown_any _).mono ?_; rintro e wy ⟨rfl, hby⟩; have hL := LB_step ⟨l0, l1, l2, l3, l4, l5⟩ hby; clear l0 l1 l2 l3 l4 l5; obtain ⟨l0, l1, l2, l3, l4, l5⟩ := hL; clear hby))
    go_ret
    exact ⟨rfl, l5⟩
  · cases hC : checkB n ps
    · clear hB
      go_enter Try.func4, Try.ntmps4
      go_wp2_with (first | (go_at_call 15; refine (small_any a n c ps _ B (by simp; omega) (HP.out.below (((Below.refl B w).alloc hBw _).alloc (by simp; omega) _))).mono ?_; rintro e wy ⟨rfl, hby⟩; rw [hs]; obtain ⟨l0, l1, l2, l3, l4, l5⟩ := LB_step (LB_start (h := h)) hby; clear hby) | (go_at_call 19; refine (refSetup_any a n c ps _ B (by omega) (HP.out.below (l5.mono hBw))).mono ?_; rintro e wy ⟨rfl, hby⟩; rw [hC]; have hL := LB_step ⟨l0, l1, l2, l3, l4, l5⟩ hby; clear l0 l1 l2 l3 l4 l5; obtain ⟨l0, l1, l2, l3, l4, l5⟩ := hL; clear hby) | (go_at_call 16; refine (lawKnown_any _).mono ?_; rintro e wy ⟨rfl, hby⟩; have hL := LB_step ⟨l0, l1, l2, l3, l4, l5⟩ hby; clear l0 l1 l2 l3 l4 l5; obtain ⟨l0, l1, l2, l3, l4, l5⟩ := hL; clear hby))
      go_ret
      exact ⟨rfl, l5⟩
    · have HC := Lib.hid hC
      cases hO : ofB n ps h
      · clear hB
        go_enter Try.func4, Try.ntmps4
        go_wp2_with (first | (go_at_call 15; refine (small_any a n c ps _ B (by simp; omega) (HP.out.below (((Below.refl B w).alloc hBw _).alloc (by simp; omega) _))).mono ?_; rintro e wy ⟨rfl, hby⟩; rw [hs]; obtain ⟨l0, l1, l2, l3, l4, l5⟩ := LB_step (LB_start (h := h)) hby; clear hby) | (go_at_call 19; refine (refSetup_any a n c ps _ B (by omega) (HP.out.below (l5.mono hBw))).mono ?_; rintro e wy ⟨rfl, hby⟩; rw [hC]; have hL := LB_step ⟨l0, l1, l2, l3, l4, l5⟩ hby; clear l0 l1 l2 l3 l4 l5; obtain ⟨l0, l1, l2, l3, l4, l5⟩ := hL; clear hby) | (go_at_call 20; refine (refHit_any a n c ps h _ B (by omega) (HP.out.below (l5.mono hBw)) HC.out).mono ?_; rintro e wy ⟨rfl, hby⟩; rw [hO]; have hL := LB_step ⟨l0, l1, l2, l3, l4, l5⟩ hby; clear l0 l1 l2 l3 l4 l5; obtain ⟨l0, l1, l2, l3, l4, l5⟩ := hL; clear hby) | (go_at_call 16; refine (lawKnown_any _).mono ?_; rintro e wy ⟨rfl, hby⟩; have hL := LB_step ⟨l0, l1, l2, l3, l4, l5⟩ hby; clear l0 l1 l2 l3 l4 l5; obtain ⟨l0, l1, l2, l3, l4, l5⟩ := hL; clear hby))
        go_ret
        exact ⟨rfl, l5⟩
      · have hX : withinB x (-4000000) 4000000 = false := by simpa [hs, hC, hO] using hB
        clear hB
        go_enter Try.func4, Try.ntmps4
        go_wp2_with (first | (go_at_call 15; refine (small_any a n c ps _ B (by simp; omega) (HP.out.below (((Below.refl B w).alloc hBw _).alloc (by simp; omega) _))).mono ?_; rintro e wy ⟨rfl, hby⟩; rw [hs]; obtain ⟨l0, l1, l2, l3, l4, l5⟩ := LB_step (LB_start (h := h)) hby; clear hby) | (go_at_call 19; refine (refSetup_any a n c ps _ B (by omega) (HP.out.below (l5.mono hBw))).mono ?_; rintro e wy ⟨rfl, hby⟩; rw [hC]; have hL := LB_step ⟨l0, l1, l2, l3, l4, l5⟩ hby; clear l0 l1 l2 l3 l4 l5; obtain ⟨l0, l1, l2, l3, l4, l5⟩ := hL; clear hby) | (go_at_call 20; refine (refHit_any a n c ps h _ B (by omega) (HP.out.below (l5.mono hBw)) HC.out).mono ?_; rintro e wy ⟨rfl, hby⟩; rw [hO]; have hL := LB_step ⟨l0, l1, l2, l3, l4, l5⟩ hby; clear l0 l1 l2 l3 l4 l5; obtain ⟨l0, l1, l2, l3, l4, l5⟩ := hL; clear hby) | (go_at_call 24; refine (refIn_any _ _ _ _).mono ?_; rintro e w' ⟨rfl, rfl⟩) | (go_at_call 16; refine (lawKnown_any _).mono ?_; rintro e wy ⟨rfl, hby⟩; have hL := LB_step ⟨l0, l1, l2, l3, l4, l5⟩ hby; clear l0 l1 l2 l3 l4 l5; obtain ⟨l0, l1, l2, l3, l4, l5⟩ := hL; clear hby))
        go_ret
        exact ⟨rfl, l5⟩
theorem gates_row {W : World} {B n : Nat} {ga : Option Addr} {f : Nat → GV} (h : GatesAt B W ga n f) {i : Nat} (hi : i < n) : ∃ gb go, ga = some ⟨gb, go, none⟩ ∧ W.cell? ⟨gb, go + i * 3 + 1, none⟩ = some (.int .i64 (f i).lo) ∧ W.cell? ⟨gb, go + i * 3 + 2, none⟩ = some (.int .i64 (f i).hi) := by
  rcases h with h | ⟨gb, go, ha, _, hc⟩
  · omega
  · exact ⟨gb, go, ha, (hc i hi).2.1, (hc i hi).2.2⟩
set_option maxRecDepth 100000 in
set_option maxHeartbeats 3000000 in
theorem PT_in (a : Option Addr) (n c : Nat) (ps : Nat → PR) (h : HV) (x o : Int) (w : World) (B : Nat) (hBw : B ≤ w.heap.size) (hP : Planes B w a n ps) (hs : smallB n ps = true) (hC : checkB n ps = true) (k : Nat) (hk : k < n) (hh : h.plane = k) (hH : hitB (ps k) h = true) (hX : withinB x (-4000000) 4000000 = true) :
    Calls Try.prog 4 #[setupV a n c, h.val, .int .i64 x, .int .i64 o] w fun e w' => e = .returned (.bool true) ∧ Below w.heap.size w w' := by
  obtain ⟨b, off, rfl, hbB, hat, hm⟩ := hP.get hk
  have hN := checkB_n hC
  have hPr := checkB_plane hC hk
  have hSh := properB_shaped hPr
  have hO : ofB n ps h = true := by rw [ofB_in hk hh, hH]
  have HX := Lib.hid (withinB_iff.1 hX)
  have HP := Lib.hid hP
  have HC := Lib.hid hC
  have HHp := Lib.hid hh
  have HHt := Lib.hid hH
  have HAT := Lib.hid hat
  obtain ⟨gn, hgn⟩ : ∃ g, g = gateN (ps k) h := ⟨_, rfl⟩
  have hg2 : gn ≤ 2 := by rw [hgn, gateN]; split <;> split <;> omega
  have HGN := Lib.hid hgn
  obtain ⟨ge, hge⟩ : ∃ g, g = gateE (ps k) h := ⟨_, rfl⟩
  have HGE := Lib.hid hge
  have hgv : ge = 0 ∨ ge = 5 := by rw [hge, gateE]; split <;> omega
  have HT1 := Lib.hid (show (ps k).olo ≤ o → o ≤ (ps k).ohi → firesB (ps k) h (x - o) = true → inG (ps k) h x gn = true by rw [hgn]; exact true_1 hPr hH)
  have HT2 := Lib.hid (show inG (ps k) h x gn = true → ∃ o, (ps k).olo ≤ o ∧ o ≤ (ps k).ohi ∧ firesB (ps k) h (x - o) = true by rw [hgn]; exact true_2 hPr hH)
  have HIs := Lib.hid (fun i => show inG (ps k) h x (i + 1) = (inG (ps k) h x i || (decide ((gateF (ps k) h i).lo ≤ x) && decide (x ≤ (gateF (ps k) h i).hi))) from rfl)
  have HI0 := Lib.hid (show inG (ps k) h x 0 = false from rfl)
  generalize inG (ps k) h x = IN at *
  have HOf := Lib.hid hSh.off
  clear hP hh hH hat hm hgn hge hPr hSh
  generalize hga : (some ⟨b, off, none⟩ : Option Addr) = a at *
  have HA := Lib.hid hga
  clear hga
  go_enter Try.func4, Try.ntmps4
  go_upto_region 4 with (first | (go_at_call 15; refine (small_any a n c ps _ B (by simp; omega) (HP.out.below (((Below.refl B w).alloc hBw _).alloc (by simp; omega) _))).mono ?_; rintro e wy ⟨rfl, hby⟩; rw [hs]; obtain ⟨l0, l1, l2, l3, l4, l5⟩ := LB_step (LB_start (h := h)) hby; clear hby) | (go_at_call 19; refine (refSetup_any a n c ps _ B (by omega) (HP.out.below (l5.mono hBw))).mono ?_; rintro e wy ⟨rfl, hby⟩; rw [hC]; have hL := LB_step ⟨l0, l1, l2, l3, l4, l5⟩ hby; clear l0 l1 l2 l3 l4 l5; obtain ⟨l0, l1, l2, l3, l4, l5⟩ := hL; clear hby) | (go_at_call 20; refine (refHit_any a n c ps h _ B (by omega) (HP.out.below (l5.mono hBw)) HC.out).mono ?_; rintro e wy ⟨rfl, hby⟩; rw [hO]; have hL := LB_step ⟨l0, l1, l2, l3, l4, l5⟩ hby; clear l0 l1 l2 l3 l4 l5; obtain ⟨l0, l1, l2, l3, l4, l5⟩ := hL; clear hby) | (go_at_call 24; refine (refIn_any _ _ _ _).mono ?_; rintro e w' ⟨rfl, rfl⟩) | (go_at_call 17; refine (Gates_ok a n c ps h _ B (by omega) (HP.out.below (l5.mono hBw)) HC.out k hk HHp.out HHt.out).mono ?_; rintro e wy ⟨ga, gc, rfl, hGA, hby⟩; rw [← HGE.out, ← HGN.out]; rw [← HGN.out] at hGA; have HG := Lib.hid hGA; have hL := LB_step ⟨l0, l1, l2, l3, l4, l5⟩ hby; clear l0 l1 l2 l3 l4 l5; obtain ⟨l0, l1, l2, l3, l4, l5⟩ := hL; clear hby hGA))
  have hg3 : ¬ (2 : Int) < (gn : Int) := by omega
  go_cut [51] from 41 to 50 (fun s51 wx => s51 = .bool false ∧ Hid (GatesAt wx.heap.size wx ga gn (gateF (ps k) h)) ∧ LB a n c h w wx)
  case first =>
    rcases hgv with rfl | rfl
    · go_wp2_with fail
      go_meet
      exact ⟨rfl, HG, l0, l1, l2, l3, l4, l5⟩
    · go_wp2_with fail
      go_meet
      exact ⟨rfl, HG, l0, l1, l2, l3, l4, l5⟩
  clear l0 l1 l2 l3 l4 l5 HG hgv
  obtain ⟨rfl, HG, l0, l1, l2, l3, l4, l5⟩ := hcut
  go_wp2
  go_loopw [12, 11] (fun t s11 wr => ∃ i : Nat, i ≤ gn ∧ t = .int .i64 i ∧ s11 = .bool (IN i) ∧ wr = wc) (fun t _ _ => gn - (intOf t).toNat)
  case atStart => exact ⟨0, Nat.zero_le _, rfl, by rw [HI0.out], rfl⟩
  case round =>
    obtain ⟨i, hi, rfl, rfl, rfl⟩ := hrel
    by_cases hlt : i < gn
    · obtain ⟨gb, go, hgaE, y1, y2⟩ := gates_row HG.out hlt
      have his := HIs.out i
      generalize (gateF (ps k) h i).lo = glo at *
      generalize (gateF (ps k) h i).hi = ghi at *
      generalize IN i = V at *
      have HIS := Lib.hid his
      clear his
      subst hgaE
      cases V
      · by_cases hc1 : glo ≤ x
        · by_cases hc2 : x ≤ ghi
          · go_wp2
            go_roundw
            case rel => exact ⟨i + 1, by omega, by go_num, by rw [HIS.out]; simp [hc1, hc2], by trivial⟩
            case measure => simp [intOf]; omega
          · go_wp2
            go_roundw
            case rel => exact ⟨i + 1, by omega, by go_num, by rw [HIS.out, decide_eq_false (show ¬ x ≤ ghi by omega)]; simp, by trivial⟩
            case measure => simp [intOf]; omega
        · go_wp2
          go_roundw
          case rel => exact ⟨i + 1, by omega, by go_num, by rw [HIS.out, decide_eq_false (show ¬ glo ≤ x by omega)]; simp, by trivial⟩
          case measure => simp [intOf]; omega
      · go_wp2
        go_roundw
        case rel => exact ⟨i + 1, by omega, by go_num, by rw [HIS.out]; simp, by trivial⟩
        case measure => simp [intOf]; omega
    · obtain rfl : i = gn := by omega
      go_upto_region 11 with (fail)
      generalize IN i = IV at *
      obtain ⟨c0, c1, c2, c3, c4, c5, c6, c7, c8, c9, c10, c11, c12, c13, c14⟩ := HAT.out.below l5 (by omega)
      have hbz : b < wr.heap.size := by omega
      have hkk : 0 ≤ h.plane := by have := HHp.out; omega
      have hkk2 : h.plane < (n : Int) := by have := HHp.out; omega
      have hkt : k = h.plane.toNat := by have := HHp.out; omega
      obtain rfl := HA.out
      generalize hpp : ps k = p at c0 c1 c2 c3 c4 c5 c6 c7 c8 c9 c10 c11 c12 c13 c14 HOf HT1 HT2
      have HPP := Lib.hid hpp
      clear hpp
      obtain ⟨kind, view, z, first, pitch, strips, spill, olo, ohi, clo, chi, jitter, least, da, dn, dc, ea, en, ec, ds, es⟩ := p
      dsimp only at c0 c1 c2 c3 c4 c5 c6 c7 c8 c9 c10 c11 c12 c13 c14 HOf HT1 HT2
      rw [hkt] at c0 c1 c2 c3 c4 c5 c6 c7 c8 c9 c10 c11 c12 c13 c14
      clear hkt
      go_cut [13] from 77 to 82 (fun s13 wx => ∃ x13, s13 = .pointer (some ⟨x13, 0, none⟩) ∧ (x13 < wx.heap.size ∧ ∀ j, wx.cell? ⟨x13, j, none⟩ = (#[.int .i64 kind, .int .i64 view, .int .i64 z, .int .i64 first, .int .i64 pitch, .int .i64 strips, .int .i64 spill, .int .i64 olo, .int .i64 ohi, .int .i64 clo, .int .i64 chi, .int .i64 jitter, .int .i64 least, .slice da dn dc, .slice ea en ec] : Array Value)[j]?) ∧ LB (some ⟨b, off, none⟩) n c h w wx)
      case first =>
        go_wp2_with fail
        go_meet
        exact ⟨wr.heap.size, rfl, ⟨by simp, fun j => cell_of_row _ _ _ _ _ _ (heapQ_new rfl)⟩, LB_alloc ⟨l0, l1, l2, l3, l4, l5⟩ _⟩
      clear l0 l1 l2 l3 l4 l5 c0 c1 c2 c3 c4 c5 c6 c7 c8 c9 c10 c11 c12 c13 c14 hbz hkk hkk2 HG
      obtain ⟨x13, rfl, ⟨hx, hp⟩, l0, l1, l2, l3, l4, l5⟩ := hcut
      generalize hga : (some ⟨b, off, none⟩ : Option Addr) = a at *
      have HA := Lib.hid hga
      clear hga
      obtain ⟨f1, f2, f3⟩ := HOf.out
      go_upto_region 12 with (fail)
      go_cut [97] from 83 to 96 (fun s97 wx => ∃ fv, s97 = .bool fv ∧ (fv = true → IV = true) ∧ (x13 < wx.heap.size ∧ ∀ j, wx.cell? ⟨x13, j, none⟩ = (#[.int .i64 kind, .int .i64 view, .int .i64 z, .int .i64 first, .int .i64 pitch, .int .i64 strips, .int .i64 spill, .int .i64 olo, .int .i64 ohi, .int .i64 clo, .int .i64 chi, .int .i64 jitter, .int .i64 least, .slice da dn dc, .slice ea en ec] : Array Value)[j]?) ∧ LB a n c h w wx)
      case first =>
        cases hof : withinB o olo ohi
        · go_wp2_with (go_at_call 24; refine (refIn_any _ _ _ _).mono ?_; rintro e w' ⟨rfl, rfl⟩)
          go_meet
          exact ⟨false, rfl, (fun e => by cases e), ⟨hx, hp⟩, l0, l1, l2, l3, l4, l5⟩
        · obtain ⟨e1, e2⟩ := withinB_iff.1 hof
          have HT1' := HT1.out e1 e2
          generalize hfv : firesB ⟨kind, view, z, first, pitch, strips, spill, olo, ohi, clo, chi, jitter, least, da, dn, dc, ea, en, ec, ds, es⟩ h (x - o) = FV at HT1'
          have HT1'' := Lib.hid HT1'
          clear HT1'
          go_wp2_with (first | (go_at_call 25; refine (refFires_any a n c ps h x o _ B (by omega) (HP.out.below (l5.mono hBw)) HC.out k hk HHp.out HHt.out HX.out ⟨by omega, by omega⟩).mono ?_; rintro e wy ⟨rfl, hby⟩; rw [HPP.out, hfv]; (have hXX := row_step hx hp hby; have hL := LB_step ⟨l0, l1, l2, l3, l4, l5⟩ hby; clear l0 l1 l2 l3 l4 l5; obtain ⟨l0, l1, l2, l3, l4, l5⟩ := hL; clear hx hp; obtain ⟨hx, hp⟩ := hXX; clear hby)) | (go_at_call 24; refine (refIn_any _ _ _ _).mono ?_; rintro e w' ⟨rfl, rfl⟩))
          go_meet
          exact ⟨FV, rfl, HT1''.out, ⟨hx, hp⟩, l0, l1, l2, l3, l4, l5⟩
      clear l0 l1 l2 l3 l4 l5 hx hp
      obtain ⟨fv, rfl, hfI, ⟨hx, hp⟩, l0, l1, l2, l3, l4, l5⟩ := hcut
      cases fv
      · clear hfI
        cases IV
        · go_wp2_with (go_at_call 16; refine (lawKnown_any _).mono ?_; rintro e wy ⟨rfl, hby⟩; have hL := LB_step ⟨l0, l1, l2, l3, l4, l5⟩ hby; clear l0 l1 l2 l3 l4 l5; obtain ⟨l0, l1, l2, l3, l4, l5⟩ := hL; clear hby)
          go_ret
          exact ⟨rfl, l5⟩
        · by_cases hw3 : (3000 : Int) < ohi - olo
          · go_wp2_with (go_at_call 16; refine (lawKnown_any _).mono ?_; rintro e wy ⟨rfl, hby⟩; have hL := LB_step ⟨l0, l1, l2, l3, l4, l5⟩ hby; clear l0 l1 l2 l3 l4 l5; obtain ⟨l0, l1, l2, l3, l4, l5⟩ := hL; clear hby)
            go_ret
            exact ⟨rfl, l5⟩
          · obtain ⟨os, os1, os2, os3⟩ := HT2.out rfl
            have HOS := Lib.hid os3
            clear os3
            go_wp2
            go_loopw [14] (fun t wr => ∃ oo : Int, t = .int .i64 oo ∧ olo ≤ oo ∧ oo ≤ os ∧ (x13 < wr.heap.size ∧ ∀ j, wr.cell? ⟨x13, j, none⟩ = (#[.int .i64 kind, .int .i64 view, .int .i64 z, .int .i64 first, .int .i64 pitch, .int .i64 strips, .int .i64 spill, .int .i64 olo, .int .i64 ohi, .int .i64 clo, .int .i64 chi, .int .i64 jitter, .int .i64 least, .slice da dn dc, .slice ea en ec] : Array Value)[j]?) ∧ LB a n c h w wr) (fun t _ => (os - intOf t).toNat)
            case atStart => exact ⟨olo, rfl, by omega, by omega, ⟨hx, hp⟩, l0, l1, l2, l3, l4, l5⟩
            case round =>
              clear l0 l1 l2 l3 l4 l5 hx hp
              obtain ⟨oo, rfl, oo1, oo2, ⟨hx, hp⟩, l0, l1, l2, l3, l4, l5⟩ := hrel
              have oo3 : oo ≤ ohi := by omega
              cases hfv : firesB ⟨kind, view, z, first, pitch, strips, spill, olo, ohi, clo, chi, jitter, least, da, dn, dc, ea, en, ec, ds, es⟩ h (x - oo)
              · have hne : ¬ oo = os := fun e => by
                  have := HOS.out
                  rw [← e, hfv] at this
                  cases this
                go_wp2_with (go_at_call 25; refine (refFires_any a n c ps h x oo _ B (by omega) (HP.out.below (l5.mono hBw)) HC.out k hk HHp.out HHt.out HX.out ⟨by omega, by omega⟩).mono ?_; rintro e wy ⟨rfl, hby⟩; rw [HPP.out, hfv]; (have hXX := row_step hx hp hby; have hL := LB_step ⟨l0, l1, l2, l3, l4, l5⟩ hby; clear l0 l1 l2 l3 l4 l5; obtain ⟨l0, l1, l2, l3, l4, l5⟩ := hL; clear hx hp; obtain ⟨hx, hp⟩ := hXX; clear hby))
                go_roundw
                case rel => exact ⟨oo + 1, by go_num, by omega, by omega, ⟨hx, hp⟩, l0, l1, l2, l3, l4, l5⟩
                case measure => simp [intOf]; omega
              · go_wp2_with (first | (go_at_call 25; refine (refFires_any a n c ps h x oo _ B (by omega) (HP.out.below (l5.mono hBw)) HC.out k hk HHp.out HHt.out HX.out ⟨by omega, by omega⟩).mono ?_; rintro e wy ⟨rfl, hby⟩; rw [HPP.out, hfv]; (have hXX := row_step hx hp hby; have hL := LB_step ⟨l0, l1, l2, l3, l4, l5⟩ hby; clear l0 l1 l2 l3 l4 l5; obtain ⟨l0, l1, l2, l3, l4, l5⟩ := hL; clear hx hp; obtain ⟨hx, hp⟩ := hXX; clear hby)) | (go_at_call 16; refine (lawKnown_any _).mono ?_; rintro e wy ⟨rfl, hby⟩; have hL := LB_step ⟨l0, l1, l2, l3, l4, l5⟩ hby; clear l0 l1 l2 l3 l4 l5; obtain ⟨l0, l1, l2, l3, l4, l5⟩ := hL; clear hby))
                go_ret
                exact ⟨rfl, l5⟩
      · obtain rfl := hfI rfl
        go_wp2_with (go_at_call 16; refine (lawKnown_any _).mono ?_; rintro e wy ⟨rfl, hby⟩; have hL := LB_step ⟨l0, l1, l2, l3, l4, l5⟩ hby; clear l0 l1 l2 l3 l4 l5; obtain ⟨l0, l1, l2, l3, l4, l5⟩ := hL; clear hby)
        go_ret
        exact ⟨rfl, l5⟩
theorem PlaneTrue_any (a : Option Addr) (n c : Nat) (ps : Nat → PR) (h : HV) (x o : Int) (w : World) (B : Nat) (hBw : B ≤ w.heap.size) (hP : Planes B w a n ps) (h1 : (Lit.int .i64 x).wf = true) (h2 : (Lit.int .i64 o).wf = true) :
    Calls Try.prog 4 #[setupV a n c, h.val, .int .i64 x, .int .i64 o] w fun e w' => e = .returned (.bool true) ∧ Below w.heap.size w w' := by
  cases hB : (smallB n ps && (checkB n ps && (ofB n ps h && withinB x (-4000000) 4000000)))
  · exact PT_out a n c ps h x o w B hBw hP hB
  · simp only [Bool.and_eq_true] at hB
    obtain ⟨hs, hC, hO, hX⟩ := hB
    obtain ⟨k, hk, hh, hH⟩ := ofB_yes hO
    exact PT_in a n c ps h x o w B hBw hP hs hC k hk hh hH hX
end Go.Proofs.Ytgcepjminlapiaa
