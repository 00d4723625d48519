/- The walk of plane.Aligned. -/
import Derived.Test.YtgcepjminlapiaaAlignB
import Derived.Test.YtgcepjminlapiaaClone
import Derived.Test.YtgcepjminlapiaaPlaneD
import Derived.Deep.RegionWith
import Derived.RegionTactic
namespace Go.Proofs.Ytgcepjminlapiaa
open Go.RowKit
set_option linter.unusedVariables false
set_option linter.unusedSimpArgs false
theorem info_plane : (Try.prog.info? 49).map (fun i => (i.zero, i.size, i.bytes)) = some (some (.agg #[.int .i64 0, .int .i64 0, .int .i64 0, .int .i64 0, .int .i64 0, .int .i64 0, .int .i64 0, .int .i64 0, .int .i64 0, .int .i64 0, .int .i64 0, .int .i64 0, .int .i64 0, .slice none 0 0, .slice none 0 0]), 15, 152) := by kernel_rfl
def pF (p : PR) (j : Nat) : Value := p.cells.getD j undef
theorem pF_row {w : World} {p : PR} {t : TypeId} : (w.alloc (.cells #[.int .i64 p.kind, .int .i64 p.view, .int .i64 p.z, .int .i64 p.first, .int .i64 p.pitch, .int .i64 p.strips, .int .i64 p.spill, .int .i64 p.olo, .int .i64 p.ohi, .int .i64 p.clo, .int .i64 p.chi, .int .i64 p.jitter, .int .i64 p.least, .slice p.da p.dn p.dc, .slice p.ea p.en p.ec] t)).rowIs w.heap.size t 15 (pF p) :=
  World.rowIs_alloc w _ t (pF p) (fun i hi => by
    match i, hi with
    | 0, _ | 1, _ | 2, _ | 3, _ | 4, _ | 5, _ | 6, _ | 7, _ | 8, _ | 9, _ | 10, _ | 11, _ | 12, _ | 13, _ | 14, _ => rfl)
theorem row_drewN {w : World} {b : Nat} {t : TypeId} {n : Nat} {f : Nat → Value} (h : w.rowIs b t n f) (m : Nat) : (w.drewN m).rowIs b t n f := h.of_block (by simp)
theorem row_spans {w : World} {b : Nat} {t : TypeId} {p : PR} {o c : SV} (h : w.rowIs b t 15 (pF p)) :
    ((((w.setCell ⟨b, 7, none⟩ (.int .i64 o.lo)).setCell ⟨b, 8, none⟩ (.int .i64 o.hi)).setCell ⟨b, 9, none⟩ (.int .i64 c.lo)).setCell ⟨b, 10, none⟩ (.int .i64 c.hi)).rowIs b t 15 (pF (alnPR p o c (p.da, p.dc, p.ea, p.ec))) :=
  ((((h.set 7 _).set 8 _).set 9 _).set 10 _).congr fun i hi => by
    match i, hi with
    | 0, _ | 1, _ | 2, _ | 3, _ | 4, _ | 5, _ | 6, _ | 7, _ | 8, _ | 9, _ | 10, _ | 11, _ | 12, _ | 13, _ | 14, _ => rfl
theorem row_slices {w : World} {b : Nat} {t : TypeId} {p : PR} {o c : SV} {A : Option Addr × Nat × Option Addr × Nat} {a1 : Option Addr} {c1 : Nat} {a2 : Option Addr} {c2 : Nat} (h : w.rowIs b t 15 (pF (alnPR p o c A))) :
    ((w.setCell ⟨b, 13, none⟩ (.slice a1 p.dn c1)).setCell ⟨b, 14, none⟩ (.slice a2 p.en c2)).rowIs b t 15 (pF (alnPR p o c (a1, c1, a2, c2))) :=
  ((h.set 13 _).set 14 _).congr fun i hi => by
    match i, hi with
    | 0, _ | 1, _ | 2, _ | 3, _ | 4, _ | 5, _ | 6, _ | 7, _ | 8, _ | 9, _ | 10, _ | 11, _ | 12, _ | 13, _ | 14, _ => rfl
set_option maxRecDepth 100000 in
set_option maxHeartbeats 4000000 in
theorem Aligned_any (a : Option Addr) (n c : Nat) (ps : Nat → PR) (oa : Option Addr) (on od : Nat) (os : Nat → SV) (ca : Option Addr) (cn cd : Nat) (cs : Nat → SV) (w : World) (B : Nat) (hBw : B ≤ w.heap.size) (hP : Planes B w a n ps) (hO : Spans B w oa on os) (hK : Spans B w ca cn cs) (E : Int) (hE : E = if checkB n ps = true then alignE n ps on os cn cs else 2) :
    Calls Try.prog 32 #[setupV a n c, .slice oa on od, .slice ca cn cd] w (AlignedRes w n (alnQ ps os cs) E) := by
  have hn := hP.1
  have hon := hO.1
  have hcn := hK.1
  unfold maxLen at hn hon hcn
  have HP := Lib.hid hP
  have HO := Lib.hid hO
  have HK := Lib.hid hK
  have HE := Lib.hid hE
  clear hP hO hK hE
  cases hC : checkB n ps
  · have HE2 := Lib.hid (show E = 2 by rw [HE.out, hC]; rfl)
    go_enter Try.func32, Try.ntmps32
    go_wp2_with (go_at_call 56; refine (check_any a n c ps _ B (by simp; omega) (HP.out.below (((Below.refl B w).alloc hBw _).alloc (by simp; omega) _))).mono ?_; rintro e wy ⟨rfl, hby⟩; rw [hC]; obtain ⟨l0, l1, l2, l3, l4, l5⟩ := AB_step AB_start hby; clear hby)
    (refine bodyPost_ret (v := .tuple #[.agg #[.slice none 0 0], .int .i64 2]) ?_ rfl ?_; (· simp [results, Try.results32, go_sem, l1]))
    exact aligned_err HE2.out (by decide) (l5.setCell (p := ⟨_, _, _⟩) (by simp) _)
  have HC := Lib.hid hC
  by_cases hon' : on = n
  case neg =>
    have HE2 := Lib.hid (show E = 2 by rw [HE.out, if_pos hC, alignE, if_neg (fun h => hon' h.1)])
    have h1 : ((on : Int) != (n : Int)) = true := by simp; omega
    clear hon'
    go_enter Try.func32, Try.ntmps32
    go_wp2_with (go_at_call 56; refine (check_any a n c ps _ B (by simp; omega) (HP.out.below (((Below.refl B w).alloc hBw _).alloc (by simp; omega) _))).mono ?_; rintro e wy ⟨rfl, hby⟩; rw [hC]; obtain ⟨l0, l1, l2, l3, l4, l5⟩ := AB_step AB_start hby; clear hby)
    (refine bodyPost_ret (v := .tuple #[.agg #[.slice none 0 0], .int .i64 2]) ?_ rfl ?_; (· simp [results, Try.results32, go_sem, l1]))
    exact aligned_err HE2.out (by decide) (l5.setCell (p := ⟨_, _, _⟩) (by simp) _)
  by_cases hcn' : cn = n
  case neg =>
    have HE2 := Lib.hid (show E = 2 by rw [HE.out, if_pos hC, alignE, if_neg (fun h => hcn' h.2)])
    have h1 : ((cn : Int) != (n : Int)) = true := by simp; omega
    clear hcn'
    obtain rfl : n = on := hon'.symm
    go_enter Try.func32, Try.ntmps32
    go_wp2_with (go_at_call 56; refine (check_any a n c ps _ B (by simp; omega) (HP.out.below (((Below.refl B w).alloc hBw _).alloc (by simp; omega) _))).mono ?_; rintro e wy ⟨rfl, hby⟩; rw [hC]; obtain ⟨l0, l1, l2, l3, l4, l5⟩ := AB_step AB_start hby; clear hby)
    (refine bodyPost_ret (v := .tuple #[.agg #[.slice none 0 0], .int .i64 2]) ?_ rfl ?_; (· simp [results, Try.results32, go_sem, l1]))
    exact aligned_err HE2.out (by decide) (l5.setCell (p := ⟨_, _, _⟩) (by simp) _)
  obtain rfl : n = on := hon'.symm
  obtain rfl : n = cn := hcn'.symm
  have HE2 := Lib.hid (show E = if checkB n (alnQ ps os cs) = true then (if narB ps os cs n = true then 0 else 7) else 2 by rw [HE.out, if_pos hC, alignE, if_pos ⟨rfl, rfl⟩])
  have hn16 := (checkB_n hC).2
  have HN0 := Lib.hid (show narB ps os cs 0 = true from rfl)
  have HNS := Lib.hid (fun k => show narB ps os cs (k + 1) = (narB ps os cs k && narAt (ps k) (os k) (cs k)) from rfl)
  clear HE
  generalize narB ps os cs = NB at *
  go_enter Try.func32, Try.ntmps32
  go_wp2_with (go_at_call 56; refine (check_any a n c ps _ B (by simp; omega) (HP.out.below (((Below.refl B w).alloc hBw _).alloc (by simp; omega) _))).mono ?_; rintro e wy ⟨rfl, hby⟩; rw [hC]; obtain ⟨l0, l1, l2, l3, l4, l5⟩ := AB_step AB_start hby; clear hby)
  go_loopw [9, 35] (fun s9 t wr => ∃ k : Nat, k ≤ n ∧ t = .int .i64 (k : Int) ∧ s9 = .bool (NB k) ∧ AB a n c w wr ∧ ∃ v A, AL ps os cs 49 108 3 wy.heap.size k v A wr) (fun _ t _ => n - (intOf t).toNat)
  case atStart => exact ⟨0, Nat.zero_le _, rfl, by rw [HN0.out], AB_step ⟨l0, l1, l2, l3, l4, l5⟩ ((Below.refl _ _).alloc (Nat.le_refl _) _), _, fun _ => (none, 0, none, 0), AL.start _⟩
  case round =>
    have hx2 : w.heap.size + 2 ≤ wy.heap.size := by omega
    clear l0 l1 l2 l3 l4 l5
    obtain ⟨k, hk, rfl, rfl, ⟨l0, l1, l2, l3, l4, l5⟩, v, A, hAL⟩ := hrel
    have HAL := Lib.hid hAL
    have hx8 := hAL.lt
    have hbox := hAL.box
    have hfree := hAL.free
    clear hAL
    by_cases hlt : k < n
    · obtain ⟨b, off, rfl, hbB, ⟨c0, c1, c2, c3, c4, c5, c6, c7, c8, c9, c10, c11, c12, c13, c14⟩, hm⟩ := (HP.out.below (l5.mono hBw)).get hlt
      obtain ⟨ob, oo, rfl, hoB, o0, o1⟩ := (HO.out.below (l5.mono hBw)).get hlt
      obtain ⟨kb, ko, rfl, hkB, k0, k1⟩ := (HK.out.below (l5.mono hBw)).get hlt
      have hbz : b < wr.heap.size := by omega
      have hoz : ob < wr.heap.size := by omega
      have hkz : kb < wr.heap.size := by omega
      have hNS := HNS.out k
      have hpr := properB_dn (checkB_plane HC.out hlt)
      have HM := Lib.hid hm
      generalize hp : ps k = p at *
      have HPK := Lib.hid hp
      generalize hso : os k = o at *
      have HOK := Lib.hid hso
      generalize hsc : cs k = q at *
      have HCK := Lib.hid hsc
      have HNK := Lib.hid hNS
      clear hNS hp hso hsc hm
      generalize NB k = N0 at *
      go_upto_region 8 with (fail)
      go_cut [9] from 40 to 84 (fun s9 wx => s9 = .bool (NB (k + 1)) ∧ wx.rowIs wr.heap.size 49 15 (pF p) ∧ Below wr.heap.size wr wx)
      case first =>
        have HR := Lib.hid (pF_row (w := wr) (p := p) (t := 49))
        cases N0
        · go_quiet (fail)
          go_wp2_with fail
          go_meet
          exact ⟨by rw [HNK.out]; rfl, row_drewN HR.out _, below_drewN ((Below.refl _ _).alloc (Nat.le_refl _) _) _⟩
        · by_cases h1 : p.olo ≤ o.lo
          · have h1' : decide (p.olo ≤ o.lo) = true := decide_eq_true h1
            by_cases h2 : o.hi ≤ p.ohi
            · have h2' : decide (o.hi ≤ p.ohi) = true := decide_eq_true h2
              by_cases h3 : p.clo ≤ q.lo
              · have h3' : decide (p.clo ≤ q.lo) = true := decide_eq_true h3
                have HNA := Lib.hid (show narAt p o q = decide (q.hi ≤ p.chi) by rw [narAt, h1', h2', h3']; rfl)
                go_quiet (fail)
                go_wp2_with fail
                go_meet
                exact ⟨by rw [HNK.out, HNA.out]; first | rfl | simp, row_drewN HR.out _, below_drewN ((Below.refl _ _).alloc (Nat.le_refl _) _) _⟩
              · have h3' : decide (p.clo ≤ q.lo) = false := decide_eq_false h3
                have HNA := Lib.hid (show narAt p o q = false by rw [narAt, h1', h2', h3']; rfl)
                go_quiet (fail)
                go_wp2_with fail
                go_meet
                exact ⟨by rw [HNK.out, HNA.out]; rfl, row_drewN HR.out _, below_drewN ((Below.refl _ _).alloc (Nat.le_refl _) _) _⟩
            · have h2' : decide (o.hi ≤ p.ohi) = false := decide_eq_false h2
              have HNA := Lib.hid (show narAt p o q = false by rw [narAt, h1', h2']; rfl)
              go_quiet (fail)
              go_wp2_with fail
              go_meet
              exact ⟨by rw [HNK.out, HNA.out]; rfl, row_drewN HR.out _, below_drewN ((Below.refl _ _).alloc (Nat.le_refl _) _) _⟩
          · have h1' : decide (p.olo ≤ o.lo) = false := decide_eq_false h1
            have HNA := Lib.hid (show narAt p o q = false by rw [narAt, h1']; rfl)
            go_quiet (fail)
            go_wp2_with fail
            go_meet
            exact ⟨by rw [HNK.out, HNA.out]; rfl, row_drewN HR.out _, below_drewN ((Below.refl _ _).alloc (Nat.le_refl _) _) _⟩
      obtain ⟨rfl, hR, hBc⟩ := hcut
      obtain ⟨hcc, hfc⟩ := bcell hBc
      have HR := Lib.hid hR
      have hszc := hR.lt
      have q7 := hR.cell (i := 7) (by omega)
      have q8 := hR.cell (i := 8) (by omega)
      have q9 := hR.cell (i := 9) (by omega)
      have q10 := hR.cell (i := 10) (by omega)
      have g7 := hR.frozen 7
      have g8 := hR.frozen 8
      have g9 := hR.frozen 9
      have g10 := hR.frozen 10
      clear c0 c1 c2 c3 c4 c5 c6 c7 c8 c9 c10 c11 c12 c13 c14 hR
      go_upto_region 9 with (fail)
      go_cut [] from 85 to 94 (fun wx => wx.rowIs wr.heap.size 49 15 (pF (alnPR p o q (p.da, p.dc, p.ea, p.ec))) ∧ Below wr.heap.size wr wx)
      case first =>
        go_region
        all_goals (go_wp2_with fail)
        all_goals go_meet
        exact ⟨(row_spans HR.out).drew, ((((hBc.setCell (p := ⟨_, _, _⟩) (by simp) _).setCell (p := ⟨_, _, _⟩) (by simp) _).setCell (p := ⟨_, _, _⟩) (by simp) _).setCell (p := ⟨_, _, _⟩) (by simp) _).drew⟩
      clear q7 q8 q9 q10 g7 g8 g9 g10 HR hcc hfc hBc hszc o0 o1 k0 k1
      obtain ⟨hR, hBc⟩ := hcut
      obtain ⟨hcc, hfc⟩ := bcell hBc
      have HR := Lib.hid hR
      have hszc := hR.lt
      have q13 : _ = some (Value.slice p.da p.dn p.dc) := hR.cell (i := 13) (by omega)
      have q14 : _ = some (Value.slice p.ea p.en p.ec) := hR.cell (i := 14) (by omega)
      have g13 := hR.frozen 13
      have g14 := hR.frozen 14
      have hle : B ≤ wr.heap.size := by omega
      have hle2 : B ≤ wc.heap.size := by omega
      have hmn : p.dn ≤ 1000 ∧ p.en ≤ 1000 := ⟨by omega, by omega⟩
      obtain ⟨hmn1, hmn2⟩ := hmn
      have HD := Lib.hid (HM.out.2.2.1.below (hBc.mono hle))
      have HI := Lib.hid (HM.out.2.2.2.below (hBc.mono hle))
      have HNd := Lib.hid (show p.da = none → p.dn = 0 from fun e => by rcases HM.out.2.2.1 with h | ⟨_, _, h, _⟩; exact h; rw [e] at h; cases h)
      have HNe := Lib.hid (show p.ea = none → p.en = 0 from fun e => by rcases HM.out.2.2.2 with h | ⟨_, _, h, _⟩; exact h; rw [e] at h; cases h)
      clear hR
      go_upto_region 10 with (fail)
      go_cut [] from 95 to 102 (fun wx => ∃ B4 : Option Addr × Nat × Option Addr × Nat, wx.rowIs wr.heap.size 49 15 (pF (alnPR p o q B4)) ∧ wx.ownsRow (wy.heap.size + 1) 108 3 (.slice B4.1 p.dn B4.2.1) p.dn (dCells p.ds p.dn) ∧ wx.ownsRow (wy.heap.size + 1) 3 1 (.slice B4.2.2.1 p.en B4.2.2.2) p.en (iCells p.es p.en) ∧ Below wr.heap.size wr wx)
      case first =>
        have hWd : Below wc.heap.size wc wc.drew := (Below.refl _ _).drew
        go_region_with (first
          | (go_at_call 61; refine (cloneD_any p.da p.dn p.dc p.ds _ B (Nat.le_trans hle2 (Below.size (by first | (with_reducible exact hW2) | (with_reducible exact hWd)))) (HD.out.below (Below.mono (by first | (with_reducible exact hW2) | (with_reducible exact hWd)) hle2)) hmn1 HNd.out).mono ?_; rintro e w1 ⟨a1, d1, rfl, own1, hb1⟩; have hW1 := Below.trans (by first | (with_reducible exact hW2) | (with_reducible exact hWd)) (hb1.mono (Below.size (by first | (with_reducible exact hW2) | (with_reducible exact hWd)))); have own1 := own_base own1 (Below.size (by first | (with_reducible exact hW2) | (with_reducible exact hWd))); (try have own2 := own_below own2 hb1); obtain ⟨hc1, hf1⟩ := bcell hW1; have hz1 := hW1.size; clear hb1)
          | (go_at_call 62; refine (cloneI_any p.ea p.en p.ec p.es _ B (Nat.le_trans hle2 (Below.size (by first | (with_reducible exact hW1) | (with_reducible exact hWd)))) (HI.out.below (Below.mono (by first | (with_reducible exact hW1) | (with_reducible exact hWd)) hle2)) hmn2 HNe.out).mono ?_; rintro e w2 ⟨a2, d2, rfl, own2, hb2⟩; have hW2 := Below.trans (by first | (with_reducible exact hW1) | (with_reducible exact hWd)) (hb2.mono (Below.size (by first | (with_reducible exact hW1) | (with_reducible exact hWd)))); have own2 := own_base own2 (Below.size (by first | (with_reducible exact hW1) | (with_reducible exact hWd))); (try have own1 := own_below own1 hb2); obtain ⟨hc2, hf2⟩ := bcell hW2; have hz2 := hW2.size; clear hb2))
        all_goals (go_wp2_with fail)
        all_goals go_meet
        all_goals exact ⟨(a1, d1, a2, d2), row_slices (HR.out.of_block (hW2.block _ hszc)), own_base (ownsRow_setCell_below (ownsRow_setCell_below own1 (by exact hszc) _) (by exact hszc) _) (by omega), own_base (ownsRow_setCell_below (ownsRow_setCell_below own2 (by exact hszc) _) (by exact hszc) _) (by omega), ((hBc.trans (hW2.mono (by omega))).setCell (p := ⟨_, _, _⟩) (by simp) _).setCell (p := ⟨_, _, _⟩) (by simp) _⟩
      clear q13 q14 g13 g14 HR hcc hfc hBc hszc hle2 HD HI HNd HNe hbox hfree
      obtain ⟨B4, hR, hd, he, hBc⟩ := hcut
      have hszc := hR.lt
      have r0 : _ = some (Value.int .i64 p.kind) := hR.cell (i := 0) (by omega)
      have r1 : _ = some (Value.int .i64 p.view) := hR.cell (i := 1) (by omega)
      have r2 : _ = some (Value.int .i64 p.z) := hR.cell (i := 2) (by omega)
      have r3 : _ = some (Value.int .i64 p.first) := hR.cell (i := 3) (by omega)
      have r4 : _ = some (Value.int .i64 p.pitch) := hR.cell (i := 4) (by omega)
      have r5 : _ = some (Value.int .i64 p.strips) := hR.cell (i := 5) (by omega)
      have r6 : _ = some (Value.int .i64 p.spill) := hR.cell (i := 6) (by omega)
      have r7 : _ = some (Value.int .i64 o.lo) := hR.cell (i := 7) (by omega)
      have r8 : _ = some (Value.int .i64 o.hi) := hR.cell (i := 8) (by omega)
      have r9 : _ = some (Value.int .i64 q.lo) := hR.cell (i := 9) (by omega)
      have r10 : _ = some (Value.int .i64 q.hi) := hR.cell (i := 10) (by omega)
      have r11 : _ = some (Value.int .i64 p.jitter) := hR.cell (i := 11) (by omega)
      have r12 : _ = some (Value.int .i64 p.least) := hR.cell (i := 12) (by omega)
      have r13 : _ = some (Value.slice B4.1 p.dn B4.2.1) := hR.cell (i := 13) (by omega)
      have r14 : _ = some (Value.slice B4.2.2.1 p.en B4.2.2.2) := hR.cell (i := 14) (by omega)
      have hbx8 : wc.cell? ⟨wy.heap.size, 0, none⟩ = some v := (hBc.cell (p := ⟨wy.heap.size, 0, none⟩) hx8).trans HAL.out.box
      have hxc : wy.heap.size < wc.heap.size := by omega
      have hown := own_below HAL.out.row hBc
      have HAB := Lib.hid (show AB _ n c w wr from ⟨l0, l1, l2, l3, l4, l5⟩)
      clear hR l0 l1 l2 l3 l4 l5
      obtain ⟨i0, hi, hz0, hz1, hz2⟩ := info_parts info_plane
      go_wp2_with (at_builtin; refine wpList_append_own _ rfl _ _ 22 rfl (wy.heap.size + 1) 49 i0 _ 15 152 Try.underlying22 hi hz0 hz1 hz2 rfl (by decide) _ k _ rfl (hown.alloc _) ⟨wc.heap.size, 0, none⟩ 1 1 (alnPR p o q B4).cells rfl rfl cells_new pcells_one (by unfold maxLen; omega) (by omega) (by simp; omega) ?_; intro v' w6 hown6 hgrow6 hnil6; obtain ⟨a6, c6, rfl⟩ := own_len hown6; obtain ⟨y0, y1, y2, y3⟩ := HAL.out.at6 hBc _ hgrow6)
      go_roundw
      case rel =>
        refine ⟨k + 1, by omega, by go_num, rfl, AB_low HAB.out ((y3.mono hx2).setCell (p := ⟨_, _, _⟩) (by simp; omega) _), _, _, HAL.out.step (by decide) (by decide) B4 hBc _ ?_ ?_ hgrow6 ?_⟩
        · rw [HPK.out]; exact hd
        · rw [HPK.out]; exact he
        · rw [HPK.out, HOK.out, HCK.out]; exact hown6
      case measure => simp [intOf]; omega
    · obtain rfl : n = k := by omega
      obtain ⟨va, vc, rfl, hPl⟩ := HAL.out.planes (by unfold maxLen; omega) (fun i hi => by have := properB_dn (checkB_plane HC.out hi); unfold maxLen; omega)
      have HPl := Lib.hid hPl
      clear hPl
      have HQA := Lib.hid (checkB_A n ps os cs A)
      have HQs := Lib.hid (fun i => alnA_same ps os cs A i)
      cases hQ : checkB n (alnQ ps os cs)
      · have HE3 := Lib.hid (show E = 2 by rw [HE2.out, hQ]; rfl)
        go_wp2_with (go_at_call 56; refine (check_any va n vc (alnA ps os cs A) _ _ (Nat.le_refl _) HPl.out).mono ?_; rintro e wz ⟨rfl, hbz⟩; rw [HQA.out, hQ]; obtain ⟨l0, l1, l2, l3, l4, l5⟩ := AB_step ⟨l0, l1, l2, l3, l4, l5⟩ hbz; obtain ⟨hcz, hfz⟩ := bcell hbz; clear hbz)
        (refine bodyPost_ret (v := .tuple #[.agg #[.slice none 0 0], .int .i64 2]) ?_ rfl ?_; (· simp [results, Try.results32, go_sem, l1]))
        exact aligned_err HE3.out (by decide) (l5.setCell (p := ⟨_, _, _⟩) (by simp) _)
      · cases hN : NB n
        · have HE3 := Lib.hid (show E = 7 by rw [HE2.out, hQ, hN]; rfl)
          go_wp2_with (go_at_call 56; refine (check_any va n vc (alnA ps os cs A) _ _ (Nat.le_refl _) HPl.out).mono ?_; rintro e wz ⟨rfl, hbz⟩; rw [HQA.out, hQ]; obtain ⟨l0, l1, l2, l3, l4, l5⟩ := AB_step ⟨l0, l1, l2, l3, l4, l5⟩ hbz; obtain ⟨hcz, hfz⟩ := bcell hbz; clear hbz)
          (refine bodyPost_ret (v := .tuple #[.agg #[.slice none 0 0], .int .i64 7]) ?_ rfl ?_; (· simp [results, Try.results32, go_sem, l1]))
          exact aligned_err HE3.out (by decide) (l5.setCell (p := ⟨_, _, _⟩) (by simp) _)
        · have HE3 := Lib.hid (show E = 0 by rw [HE2.out, hQ, hN]; rfl)
          go_wp2_with (go_at_call 56; refine (check_any va n vc (alnA ps os cs A) _ _ (Nat.le_refl _) HPl.out).mono ?_; rintro e wz ⟨rfl, hbz⟩; rw [HQA.out, hQ]; obtain ⟨l0, l1, l2, l3, l4, l5⟩ := AB_step ⟨l0, l1, l2, l3, l4, l5⟩ hbz; obtain ⟨hcz, hfz⟩ := bcell hbz; have HBZ := Lib.hid hbz; have hx8z := hbz.size; clear hbz)
          refine bodyPost_ret (v := .tuple #[.agg #[.slice va n vc], .int .i64 0]) ?_ rfl ?_
          · simp [results, Try.results32, go_sem, l1]
          · refine ⟨n, va, vc, alnA ps os cs A, by rw [HE3.out], fun _ => ⟨rfl, ?_, fun i hi => HQs.out i⟩, fun h => absurd HE3.out h, l5.setCell (p := ⟨_, _, _⟩) (by simp) _⟩
            exact HAL.out.planesS (by unfold maxLen; omega) (fun i hi => by have := properB_dn (checkB_plane HC.out hi); unfold maxLen; omega) HBZ.out (by show w.heap.size + 1 < wy.heap.size + 1; omega) _
end Go.Proofs.Ytgcepjminlapiaa
