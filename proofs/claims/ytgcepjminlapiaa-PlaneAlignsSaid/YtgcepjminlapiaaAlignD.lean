/- The walk of the reference's Aligned. -/
import Derived.Test.YtgcepjminlapiaaAlignC
import Derived.Test.YtgcepjminlapiaaPlaneJ
namespace Go.Proofs.Ytgcepjminlapiaa
open Go.RowKit
set_option linter.unusedVariables false
set_option linter.unusedSimpArgs false
/-- the planes that lie in 'out' after k rounds, their slices shared -/
structure AR (ps : Nat → PR) (os cs : Nat → SV) (tp : TypeId) (x8 k : Nat) (v : Value) (wr : World) : Prop where
  lt : x8 < wr.heap.size
  box : wr.cell? ⟨x8, 0, none⟩ = some v
  free : wr.frozen? ⟨x8, 0, none⟩ = false
  row : wr.ownsRow (x8 + 1) tp 15 v k (pCells (alnQ ps os cs) k)
theorem AR.at6 {ps : Nat → PR} {os cs : Nat → SV} {tp : TypeId} {x8 k : Nat} {v : Value} {wr wx w6 : World} (h : AR ps os cs tp x8 k v wr) (hb : Below wr.heap.size wr wx) (o : Obj) (hg : (wx.alloc o).grownBy w6 v.ownBlock) :
    w6.cell? ⟨x8, 0, none⟩ = some v ∧ w6.frozen? ⟨x8, 0, none⟩ = false ∧ x8 < w6.heap.size ∧ Below x8 wr w6 := by
  have hx : x8 < wx.heap.size := Nat.lt_of_lt_of_le h.lt hb.size
  have hrow : wx.ownsRow (x8 + 1) tp 15 v k (pCells (alnQ ps os cs) k) := own_below h.row hb
  have hv : ∀ g, v.ownBlock = some g → x8 + 1 ≤ g := fun g hg => (hrow.lt g hg).1
  have hne : some x8 ≠ v.ownBlock := fun e => by have := hv x8 e.symm; omega
  have hsz : wx.heap.size + 1 ≤ w6.heap.size := by have := hg.size; simpa using this
  have hx8 : w6.heap[x8]? = wx.heap[x8]? := (hg.block x8 (by simp; omega) hne).trans (Below.heap_alloc wx o x8 hx)
  have hx8' : w6.heap[x8]? = wr.heap[x8]? := hx8.trans (hb.block x8 h.lt)
  refine ⟨?_, ?_, by omega, ((hb.mono (Nat.le_of_lt h.lt)).alloc (by omega) o).grown hg (by simp; omega) (fun g hg => by have := hv g hg; omega)⟩
  · rw [World.cell?_of_block (w := wr) (a := ⟨x8, 0, none⟩) hx8', h.box]
  · rw [World.frozen?_of_block (w := wr) (a := ⟨x8, 0, none⟩) hx8']; exact h.free
theorem AR.step {ps : Nat → PR} {os cs : Nat → SV} {tp : TypeId} {x8 k : Nat} {v' u : Value} {w6 : World} (h1 : w6.cell? ⟨x8, 0, none⟩ = some u) (h2 : w6.frozen? ⟨x8, 0, none⟩ = false) (h3 : x8 < w6.heap.size)
    (hr : w6.ownsRow (x8 + 1) tp 15 v' (k + 1) (pCells (alnQ ps os cs) k ++ (alnQ ps os cs k).cells)) : AR ps os cs tp x8 (k + 1) v' (w6.setCell ⟨x8, 0, none⟩ v') :=
  ⟨by simpa [World.setCell] using h3, World.cell?_setCell_same' _ _ _ (by rw [h1]; rfl), by rw [World.frozen?_setCell]; exact h2, ownsRow_setCell_below hr (by show x8 < x8 + 1; omega) _⟩
theorem AR.start {ps : Nat → PR} {os cs : Nat → SV} {tp t : TypeId} {w : World} : AR ps os cs tp w.heap.size 0 (.slice none 0 0) (w.alloc (.cells #[.slice none 0 0] t)) :=
  ⟨by simp, by go_simp, by go_simp, World.ownsRow_nil _ _ _ _⟩
theorem AR.low {ps : Nat → PR} {os cs : Nat → SV} {tp : TypeId} {x8 k : Nat} {v : Value} {wr wz : World} (h : AR ps os cs tp x8 k v wr) (hb : Below wr.heap.size wr wz) : AR ps os cs tp x8 k v wz :=
  ⟨Nat.lt_of_lt_of_le h.lt hb.size, (hb.cell (p := ⟨x8, 0, none⟩) h.lt).trans h.box, (hb.frozen (p := ⟨x8, 0, none⟩) h.lt).trans h.free, own_below h.row hb⟩
theorem AR.planes {ps : Nat → PR} {os cs : Nat → SV} {tp : TypeId} {x8 k m c : Nat} {a : Option Addr} {wr : World} (h : AR ps os cs tp x8 k (.slice a m c) wr) (hk : k ≤ maxLen) {B : Nat} (hB : B ≤ wr.heap.size) (hn : ∀ i, i < k → (ps i).mem B wr) : Planes wr.heap.size wr a k (alnQ ps os cs) :=
  (own_planes h.row hk (fun i hi => ⟨(hn i hi).1, (hn i hi).2.1, (hn i hi).2.2.1.up hB, (hn i hi).2.2.2.up hB⟩)).2
theorem AR.planesS {ps : Nat → PR} {os cs : Nat → SV} {tp : TypeId} {x8 k m c : Nat} {a : Option Addr} {wr : World} (h : AR ps os cs tp x8 k (.slice a m c) wr) (hk : k ≤ maxLen) {B : Nat} (hB : B ≤ wr.heap.size) (hn : ∀ i, i < k → (ps i).mem B wr) {p : Addr} (hp : p.block < x8 + 1) (hpB : B ≤ p.block) (u : Value) : Planes (wr.setCell p u).heap.size (wr.setCell p u) a k (alnQ ps os cs) := by
  refine (own_planes (ownsRow_setCell_below h.row hp u) hk (fun i hi => ?_)).2
  have hb : Below B wr (wr.setCell p u) := (Below.refl _ _).setCell hpB u
  have := (hn i hi).below hb
  exact this.up (by simpa [World.setCell] using hB)
theorem inside_val (a b c d : Int) (r : Bool) (w : World) (h : (decide (c ≤ a) && decide (b ≤ d)) = r) :
    Calls Try.prog 64 #[.agg #[.int .i64 a, .int .i64 b], .agg #[.int .i64 c, .int .i64 d]] w fun e w' => e = .returned (.bool r) ∧ Below w.heap.size w w' := by
  subst h; exact inside_any a b c d w
set_option maxRecDepth 100000 in
set_option maxHeartbeats 4000000 in
theorem refAligned_any (a : Option Addr) (n c : Nat) (ps : Nat → PR) (oa : Option Addr) (on od : Nat) (os : Nat → SV) (ca : Option Addr) (cn cd : Nat) (cs : Nat → SV) (w : World) (B : Nat) (hBw : B ≤ w.heap.size) (hP : Planes B w a n ps) (hO : Spans B w oa on os) (hK : Spans B w ca cn cs) (hC : checkB n ps = true) (E : Int) (hE : E = alignE n ps on os cn cs) :
    Calls Try.prog 34 #[setupV a n c, .slice oa on od, .slice ca cn cd] w (AlignedRes w n (alnQ ps os cs) E) := by
  have hn := hP.1
  have hon := hO.1
  have hcn := hK.1
  unfold maxLen at hn hon hcn
  have HP := Lib.hid hP
  have HO := Lib.hid hO
  have HK := Lib.hid hK
  have HE := Lib.hid hE
  have HC := Lib.hid hC
  clear hP hO hK hE
  obtain ⟨l0, l1, l2, l3, l4, l5⟩ := AB_start (a := a) (n := n) (c := c) (w := w) (t := 24) (t' := 24)
  have HAB := Lib.hid (AB_start (a := a) (n := n) (c := c) (w := w) (t := 24) (t' := 24))
  by_cases hon' : on = n
  case neg =>
    have HE2 := Lib.hid (show E = 2 by rw [HE.out, alignE, if_neg (fun h => hon' h.1)])
    have h1 : ((on : Int) != (n : Int)) = true := by simp; omega
    clear hon' hC
    go_enter Try.func34, Try.ntmps34
    go_wp2
    (refine bodyPost_ret (v := .tuple #[.agg #[.slice none 0 0], .int .i64 2]) ?_ rfl ?_; (· simp [results, Try.results34, go_sem, l1]))
    exact aligned_err HE2.out (by decide) (((Below.refl _ _).alloc (Nat.le_refl _) _).alloc (by simp) _)
  by_cases hcn' : cn = n
  case neg =>
    have HE2 := Lib.hid (show E = 2 by rw [HE.out, alignE, if_neg (fun h => hcn' h.2)])
    have h1 : ((cn : Int) != (n : Int)) = true := by simp; omega
    clear hcn' hC
    obtain rfl : n = on := hon'.symm
    go_enter Try.func34, Try.ntmps34
    go_wp2
    (refine bodyPost_ret (v := .tuple #[.agg #[.slice none 0 0], .int .i64 2]) ?_ rfl ?_; (· simp [results, Try.results34, go_sem, l1]))
    exact aligned_err HE2.out (by decide) (((Below.refl _ _).alloc (Nat.le_refl _) _).alloc (by simp) _)
  obtain rfl : n = on := hon'.symm
  obtain rfl : n = cn := hcn'.symm
  have HE2 := Lib.hid (show E = if checkB n (alnQ ps os cs) = true then (if narB ps os cs n = true then 0 else 7) else 2 by rw [HE.out, alignE, if_pos ⟨rfl, rfl⟩])
  have hn16 := (checkB_n hC).2
  have HNY := Lib.hid (fun (h : ∀ i, i < n → narAt (ps i) (os i) (cs i) = true) => (narB_iff (ps := ps) (os := os) (cs := cs) (n := n)).2 h)
  have HNN := Lib.hid (fun i (hi : i < n) (h : narAt (ps i) (os i) (cs i) = false) => narB_no (ps := ps) (os := os) (cs := cs) hi h)
  clear HE hC l0 l1 l2 l3 l4 l5
  generalize narB ps os cs n = NB at *
  go_enter Try.func34, Try.ntmps34
  go_wp2
  go_loopw [9] (fun t wr => ∃ k : Nat, k ≤ n ∧ t = .int .i64 (k : Int) ∧ AB a n c w wr ∧ ∃ v, AR ps os cs 49 (w.heap.size + 1 + 1) k v wr) (fun t _ => n - (intOf t).toNat)
  case atStart => exact ⟨0, Nat.zero_le _, rfl, AB_step HAB.out ((Below.refl _ _).alloc (Nat.le_refl _) _), _, by rw [show w.heap.size + 1 + 1 = ((w.alloc (.cells #[.slice a n c] 24)).alloc (.cells #[.slice none 0 0] 24)).heap.size by simp]; exact AR.start⟩
  case round =>
    clear HAB
    obtain ⟨k, hk, rfl, ⟨l0, l1, l2, l3, l4, l5⟩, v, hAL⟩ := hrel
    have HAL := Lib.hid hAL
    have hx8 := hAL.lt
    have hbox := hAL.box
    have hfree := hAL.free
    clear hAL
    by_cases hlt : k < n
    · obtain ⟨b, off, rfl, hbB, ⟨c0, c1, c2, c3, c4, c5, c6, c7, c8, c9, c10, c11, c12, c13, c14⟩, hm⟩ := (HP.out.below (l5.mono hBw)).get hlt
      obtain ⟨ob, oo, rfl, hoB, o0, o1⟩ := (HO.out.below (l5.mono hBw)).get hlt
      obtain ⟨kb, ko, rfl, hkB, k0, k1⟩ := (HK.out.below (l5.mono hBw)).get hlt
      have hbz : b < wr.heap.size := by omega
      have hoz : ob < wr.heap.size := by omega
      have hkz : kb < wr.heap.size := by omega
      clear hm
      have HQK := Lib.hid (show alnQ ps os cs k = alnPR (ps k) (os k) (cs k) ((ps k).da, (ps k).dc, (ps k).ea, (ps k).ec) from rfl)
      generalize hp : ps k = p at *
      generalize hso : os k = o at *
      generalize hsc : cs k = q at *
      clear hp hso hsc
      go_upto_region 8 with (fail)
      go_cut [] from 39 to 48 (fun wx => wx.rowIs wr.heap.size 49 15 (pF (alnPR p o q (p.da, p.dc, p.ea, p.ec))) ∧ Below wr.heap.size wr wx)
      case first =>
        have hR := pF_row (w := wr) (p := p) (t := 49)
        have HR := Lib.hid hR
        have HB1 := Lib.hid ((Below.refl _ _).alloc (Nat.le_refl _) _ : Below wr.heap.size wr (wr.alloc (.cells #[.int .i64 p.kind, .int .i64 p.view, .int .i64 p.z, .int .i64 p.first, .int .i64 p.pitch, .int .i64 p.strips, .int .i64 p.spill, .int .i64 p.olo, .int .i64 p.ohi, .int .i64 p.clo, .int .i64 p.chi, .int .i64 p.jitter, .int .i64 p.least, .slice p.da p.dn p.dc, .slice p.ea p.en p.ec] 49)))
        obtain ⟨hcc, hfc⟩ := bcell HB1.out
        have hszc := hR.lt
        have q7 := hR.cell (i := 7) (by omega)
        have q8 := hR.cell (i := 8) (by omega)
        have q9 := hR.cell (i := 9) (by omega)
        have q10 := hR.cell (i := 10) (by omega)
        have g7 := hR.frozen 7
        have g8 := hR.frozen 8
        have g9 := hR.frozen 9
        have g10 := hR.frozen 10
        clear hR c0 c1 c2 c3 c4 c5 c6 c7 c8 c9 c10 c11 c12 c13 c14
        generalize wr.alloc (.cells #[.int .i64 p.kind, .int .i64 p.view, .int .i64 p.z, .int .i64 p.first, .int .i64 p.pitch, .int .i64 p.strips, .int .i64 p.spill, .int .i64 p.olo, .int .i64 p.ohi, .int .i64 p.clo, .int .i64 p.chi, .int .i64 p.jitter, .int .i64 p.least, .slice p.da p.dn p.dc, .slice p.ea p.en p.ec] 49) = wv at *
        go_region
        all_goals (go_wp2_with fail)
        all_goals go_meet
        exact ⟨(row_spans HR.out).drew, ((((HB1.out.setCell (p := ⟨_, _, _⟩) (by simp) _).setCell (p := ⟨_, _, _⟩) (by simp) _).setCell (p := ⟨_, _, _⟩) (by simp) _).setCell (p := ⟨_, _, _⟩) (by simp) _).drew⟩
      clear hbox hfree o0 o1 k0 k1 c0 c1 c2 c3 c4 c5 c6 c7 c8 c9 c10 c11 c12 c13 c14
      obtain ⟨hR, hBc⟩ := hcut
      have hszc := hR.lt
      have r0 : _ = some (Value.int .i64 p.kind) := hR.cell (i := 0) (by omega)
      have r1 : _ = some (Value.int .i64 p.view) := hR.cell (i := 1) (by omega)
      have r2 : _ = some (Value.int .i64 p.z) := hR.cell (i := 2) (by omega)
      have r3 : _ = some (Value.int .i64 p.first) := hR.cell (i := 3) (by omega)
      have r4 : _ = some (Value.int .i64 p.pitch) := hR.cell (i := 4) (by omega)
      have r5 : _ = some (Value.int .i64 p.strips) := hR.cell (i := 5) (by omega)
      have r6 : _ = some (Value.int .i64 p.spill) := hR.cell (i := 6) (by omega)
      have r7 : _ = some (Value.int .i64 o.lo) := hR.cell (i := 7) (by omega)
      have r8 : _ = some (Value.int .i64 o.hi) := hR.cell (i := 8) (by omega)
      have r9 : _ = some (Value.int .i64 q.lo) := hR.cell (i := 9) (by omega)
      have r10 : _ = some (Value.int .i64 q.hi) := hR.cell (i := 10) (by omega)
      have r11 : _ = some (Value.int .i64 p.jitter) := hR.cell (i := 11) (by omega)
      have r12 : _ = some (Value.int .i64 p.least) := hR.cell (i := 12) (by omega)
      have r13 : _ = some (Value.slice p.da p.dn p.dc) := hR.cell (i := 13) (by omega)
      have r14 : _ = some (Value.slice p.ea p.en p.ec) := hR.cell (i := 14) (by omega)
      have hbx8 : wc.cell? ⟨w.heap.size + 1 + 1, 0, none⟩ = some v := (hBc.cell (p := ⟨w.heap.size + 1 + 1, 0, none⟩) hx8).trans HAL.out.box
      have hxc : w.heap.size + 1 + 1 < wc.heap.size := by omega
      have hown := own_below HAL.out.row hBc
      have HAB := Lib.hid (show AB _ n c w wr from ⟨l0, l1, l2, l3, l4, l5⟩)
      clear hR l0 l1 l2 l3 l4 l5
      obtain ⟨i0, hi, hz0, hz1, hz2⟩ := info_parts info_plane
      go_wp2_with (at_builtin; refine wpList_append_own _ rfl _ _ 22 rfl (w.heap.size + 1 + 1 + 1) 49 i0 _ 15 152 Try.underlying22 hi hz0 hz1 hz2 rfl (by decide) _ k _ rfl (hown.alloc _) ⟨wc.heap.size, 0, none⟩ 1 1 (alnPR p o q (p.da, p.dc, p.ea, p.ec)).cells rfl rfl cells_new pcells_one (by unfold maxLen; omega) (by omega) (by simp; omega) ?_; intro v' w6 hown6 hgrow6 hnil6; obtain ⟨a6, c6, rfl⟩ := own_len hown6; obtain ⟨y0, y1, y2, y3⟩ := HAL.out.at6 hBc _ hgrow6)
      go_roundw
      case rel => exact ⟨k + 1, by omega, by go_num, AB_low HAB.out ((y3.mono (by omega)).setCell (p := ⟨_, _, _⟩) (by simp) _), _, AR.step y0 y1 y2 (by rw [HQK.out]; exact hown6)⟩
      case measure => simp [intOf]; omega
    · obtain rfl : n = k := by omega
      obtain ⟨va, vc, rfl⟩ := own_len HAL.out.row
      have HMM := Lib.hid (show ∀ i, i < n → (ps i).mem B w from fun i hi => by obtain ⟨b, off, _, _, _, hm⟩ := HP.out.get hi; exact hm)
      have HPl := Lib.hid (HAL.out.planes (by unfold maxLen; omega) (show B ≤ wr.heap.size by omega) (fun i hi => (HMM.out i hi).below (l5.mono hBw)))
      cases hQ : checkB n (alnQ ps os cs)
      · have HE3 := Lib.hid (show E = 2 by rw [HE2.out, hQ]; rfl)
        go_wp2_with (go_at_call 19; refine (refSetup_any va n vc (alnQ ps os cs) _ _ (Nat.le_refl _) HPl.out).mono ?_; rintro e wz ⟨rfl, hbz⟩; rw [hQ]; obtain ⟨l0, l1, l2, l3, l4, l5⟩ := AB_step ⟨l0, l1, l2, l3, l4, l5⟩ hbz; obtain ⟨hcz, hfz⟩ := bcell hbz; clear hbz)
        (refine bodyPost_ret (v := .tuple #[.agg #[.slice none 0 0], .int .i64 2]) ?_ rfl ?_; (· simp [results, Try.results34, go_sem, l1]))
        exact aligned_err HE3.out (by decide) (l5.setCell (p := ⟨_, _, _⟩) (by simp) _)
      · have HE3 := Lib.hid (show E = if NB = true then 0 else 7 by rw [HE2.out, hQ]; rfl)
        go_wp2_with (go_at_call 19; refine (refSetup_any va n vc (alnQ ps os cs) _ _ (Nat.le_refl _) HPl.out).mono ?_; rintro e wz ⟨rfl, hbz⟩; rw [hQ]; have HL2 := Lib.hid (AB_step ⟨l0, l1, l2, l3, l4, l5⟩ hbz); have HAR := Lib.hid (HAL.out.low hbz); clear hbz l0 l1 l2 l3 l4 l5 hbox hfree)
        go_loopw [11] (fun t wr => ∃ i : Nat, i ≤ n ∧ t = .int .i64 (i : Int) ∧ Hid (∀ j, j < i → narAt (ps j) (os j) (cs j) = true) ∧ AB a n c w wr ∧ AR ps os cs 49 (w.heap.size + 1 + 1) n (.slice va n vc) wr) (fun t _ => n - (intOf t).toNat)
        case atStart => exact ⟨0, Nat.zero_le _, rfl, Lib.hid (fun j hj => by omega), HL2.out, HAR.out⟩
        case round =>
          clear HL2 HAR HAL hlt HPl
          rename_i wr0 _
          obtain ⟨i, hi, rfl, HALL, ⟨l0, l1, l2, l3, l4, l5⟩, hAR⟩ := hrel
          have HAR := Lib.hid hAR
          clear hAR
          by_cases hlt : i < n
          · obtain ⟨b, off, rfl, hbB, ⟨c0, c1, c2, c3, c4, c5, c6, c7, c8, c9, c10, c11, c12, c13, c14⟩, hm⟩ := (HP.out.below (l5.mono hBw)).get hlt
            obtain ⟨ob, oo, rfl, hoB, o0, o1⟩ := (HO.out.below (l5.mono hBw)).get hlt
            obtain ⟨kb, ko, rfl, hkB, k0, k1⟩ := (HK.out.below (l5.mono hBw)).get hlt
            have hbz : b < wr.heap.size := by omega
            have hoz : ob < wr.heap.size := by omega
            have hkz : kb < wr.heap.size := by omega
            have HNi := Lib.hid (HNN.out i hlt)
            have HY := Lib.hid (show narAt (ps i) (os i) (cs i) = ((decide ((ps i).olo ≤ (os i).lo) && decide ((os i).hi ≤ (ps i).ohi)) && (decide ((ps i).clo ≤ (cs i).lo) && decide ((cs i).hi ≤ (ps i).chi))) by simp [narAt, Bool.and_assoc])
            clear hm c0 c1 c2 c3 c4 c5 c6 c11 c12 c13 c14
            have HAB := Lib.hid (show AB _ n c w wr from ⟨l0, l1, l2, l3, l4, l5⟩)
            have HST := Lib.hid (fun (h : narAt (ps i) (os i) (cs i) = true) => show ∀ j, j < i + 1 → narAt (ps j) (os j) (cs j) = true from fun j hj => by (by_cases e : j = i; subst e; exact h; exact HALL.out j (by omega)))
            clear HALL
            generalize narAt (ps i) (os i) (cs i) = V at HNi HY HST
            generalize ps i = p at *
            generalize os i = o at *
            generalize cs i = q at *
            cases h1 : (decide (p.olo ≤ o.lo) && decide (o.hi ≤ p.ohi))
            · have HV := Lib.hid (HNi.out (by rw [HY.out, h1]; rfl))
              have HE4 := Lib.hid (show E = 7 by rw [HE3.out, HV.out]; rfl)
              have H1 := Lib.hid h1
              clear h1
              go_upto_region 15 with (fail)
              (refine wp_region_calm (wr.heap.size) (by kernel_rfl) (by kernel_rfl) ?_; (repeat (first | go_big_quiet_step ((go_at_call 64; exact Calls.calm_of (Nat.le_refl _) (inside_val _ _ _ _ false _ H1.out))) | quiet_step ((go_at_call 64; exact Calls.calm_of (Nat.le_refl _) (inside_val _ _ _ _ false _ H1.out))))); refine wpQuiet_nil ?_; intro _ hw'; obtain ⟨xq, hw''⟩ := hw'; subst hw'')
              obtain ⟨l0, l1, l2, l3, l4, l5⟩ := AB_step HAB.out xq.below
              go_wp2
              (refine bodyPost_ret (v := .tuple #[.agg #[.slice none 0 0], .int .i64 7]) ?_ rfl ?_; (· simp [results, Try.results34, go_sem, l1]))
              exact aligned_err HE4.out (by decide) (l5.setCell (p := ⟨_, _, _⟩) (by simp) _)
            · cases h2 : (decide (p.clo ≤ q.lo) && decide (q.hi ≤ p.chi))
              · have HV := Lib.hid (HNi.out (by rw [HY.out, h1, h2]; rfl))
                have HE4 := Lib.hid (show E = 7 by rw [HE3.out, HV.out]; rfl)
                have H1 := Lib.hid h1
                have H2 := Lib.hid h2
                clear h1 h2
                go_upto_region 15 with (fail)
                (refine wp_region_calm (wr.heap.size) (by kernel_rfl) (by kernel_rfl) ?_; (repeat (first | go_big_quiet_step ((go_at_call 64; first | (exact Calls.calm_of (Nat.le_refl _) (inside_val _ _ _ _ true _ H1.out)) | (exact Calls.calm_of (Nat.le_refl _) (inside_val _ _ _ _ false _ H2.out)))) | quiet_step ((go_at_call 64; first | (exact Calls.calm_of (Nat.le_refl _) (inside_val _ _ _ _ true _ H1.out)) | (exact Calls.calm_of (Nat.le_refl _) (inside_val _ _ _ _ false _ H2.out)))))); refine wpQuiet_nil ?_; intro _ hw'; obtain ⟨xq, hw''⟩ := hw'; subst hw'')
                obtain ⟨l0, l1, l2, l3, l4, l5⟩ := AB_step HAB.out xq.below
                go_wp2
                (refine bodyPost_ret (v := .tuple #[.agg #[.slice none 0 0], .int .i64 7]) ?_ rfl ?_; (· simp [results, Try.results34, go_sem, l1]))
                exact aligned_err HE4.out (by decide) (l5.setCell (p := ⟨_, _, _⟩) (by simp) _)
              · have HV := Lib.hid (show V = true by rw [HY.out, h1, h2]; rfl)
                have H1 := Lib.hid h1
                have H2 := Lib.hid h2
                clear h1 h2
                go_upto_region 15 with (fail)
                (refine wp_region_calm (wr.heap.size) (by kernel_rfl) (by kernel_rfl) ?_; (repeat (first | go_big_quiet_step ((go_at_call 64; first | (exact Calls.calm_of (Nat.le_refl _) (inside_val _ _ _ _ true _ H1.out)) | (exact Calls.calm_of (Nat.le_refl _) (inside_val _ _ _ _ true _ H2.out)))) | quiet_step ((go_at_call 64; first | (exact Calls.calm_of (Nat.le_refl _) (inside_val _ _ _ _ true _ H1.out)) | (exact Calls.calm_of (Nat.le_refl _) (inside_val _ _ _ _ true _ H2.out)))))); refine wpQuiet_nil ?_; intro _ hw'; obtain ⟨xq, hw''⟩ := hw'; subst hw'')
                go_wp2
                go_roundw
                case rel => exact ⟨i + 1, by omega, by go_num, Lib.hid (HST.out HV.out), AB_step HAB.out xq.below, HAR.out.low xq.below⟩
                case measure => simp [intOf]; omega
          · obtain rfl : n = i := by omega
            have HE4 := Lib.hid (show E = 0 by rw [HE3.out, HNY.out HALL.out]; rfl)
            have hbox := HAR.out.box
            have hx8' := HAR.out.lt
            go_wp2
            refine bodyPost_ret (v := .tuple #[.agg #[.slice va n vc], .int .i64 0]) ?_ rfl ?_
            · simp [results, Try.results34, go_sem, l1]
            · exact ⟨n, va, vc, alnQ ps os cs, by rw [HE4.out], fun _ => ⟨rfl, HAR.out.planesS (by unfold maxLen; omega) (show B ≤ wr.heap.size by omega) (fun i hi => (HMM.out i hi).below (l5.mono hBw)) (by show w.heap.size + 1 < w.heap.size + 1 + 1 + 1; omega) (by show B ≤ w.heap.size + 1; omega) _, fun i hi => ⟨rfl, rfl, rfl, rfl, rfl, rfl, rfl, rfl, rfl, rfl, rfl, rfl, rfl, rfl, rfl, rfl, rfl⟩⟩, fun h => absurd HE4.out h, l5.setCell (p := ⟨_, _, _⟩) (by simp) _⟩
end Go.Proofs.Ytgcepjminlapiaa
