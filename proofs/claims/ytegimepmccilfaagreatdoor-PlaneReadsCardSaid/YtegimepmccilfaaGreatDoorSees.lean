/- The walk of plane.Sees. -/
import Derived.Test.YtegimepmccilfaaGreatDoorIterB
import Derived.Test.YtegimepmccilfaaGreatDoorPlaneP
import Derived.Test.YtegimepmccilfaaGreatDoorPlaneQ
import Derived.Test.YtegimepmccilfaaGreatDoorPlaneD
namespace Go.Proofs.YtegimepmccilfaaGreatDoor
open Go.RowKit Go.Shelf
set_option linter.unusedVariables false
set_option linter.unusedSimpArgs false
attribute [local go_sem] Oper.semAt_some
def canL {N : Nat} (p : PR) (low high : Int) : List (Fin N) → Bool := List.foldl (fun s c => s || (decide (terF p c.val - p.spill ≤ high) && decide (low ≤ terF p c.val + p.pitch - 1 + p.spill))) false
def nextL {N : Nat} (p : PR) (low : Int) : List (Fin N) → Int := List.foldl (fun s c => if terF p c.val ≤ s ∧ s ≤ terF p c.val + p.pitch - 1 then terF p c.val + p.pitch - 1 + 1 else s) low
theorem canL_snoc {N : Nat} (p : PR) (low high : Int) (pre : List (Fin N)) (c : Fin N) : canL p low high (pre ++ [c]) = (canL p low high pre || (decide (terF p c.val - p.spill ≤ high) && decide (low ≤ terF p c.val + p.pitch - 1 + p.spill))) := by simp [canL]
theorem nextL_snoc {N : Nat} (p : PR) (low : Int) (pre : List (Fin N)) (c : Fin N) : nextL p low (pre ++ [c]) = if terF p c.val ≤ nextL p low pre ∧ nextL p low pre ≤ terF p c.val + p.pitch - 1 then terF p c.val + p.pitch - 1 + 1 else nextL p low pre := by simp [nextL]
def seesCan (p : PR) (lo hi : Int) : Bool := canG (terF p) p.pitch p.spill (fun c => deadIs p c) (lo - p.ohi) (hi - p.olo) p.strips.toNat
def seesMust (p : PR) (lo hi : Int) : Bool := decide (hi - p.olo < nextG (terF p) p.pitch (fun c => deadIs p c) (lo - p.ohi) p.strips.toNat)
theorem canL_alive {N : Nat} {p : PR} {low high : Int} : ∀ k, k ≤ N → canL p low high (alive N p k) = canG (terF p) p.pitch p.spill (fun c => deadIs p c) low high k
  | 0, _ => rfl
  | k + 1, h => by
    have ih := canL_alive (p := p) (low := low) (high := high) k (Nat.le_of_succ_le h)
    by_cases hd : deadIs p k = true
    · rw [alive_dead h hd, ih, canG, if_pos hd]
    · rw [alive_not h hd, canL_snoc, ih, canG, if_neg hd]
theorem nextL_alive {N : Nat} {p : PR} {low : Int} : ∀ k, k ≤ N → nextL p low (alive N p k) = nextG (terF p) p.pitch (fun c => deadIs p c) low k
  | 0, _ => rfl
  | k + 1, h => by
    have ih := nextL_alive (p := p) (low := low) k (Nat.le_of_succ_le h)
    by_cases hd : deadIs p k = true
    · rw [alive_dead h hd, ih, nextG, if_pos hd]
    · rw [alive_not h hd, nextL_snoc, ih, nextG, if_neg hd]
theorem terF_bounds {p : PR} (hS : Shaped p) {c : Nat} (hc : (c : Int) < p.strips) : -1100000 ≤ terF p c ∧ terF p c ≤ 202100000 := by
  obtain ⟨hst1, hst2⟩ := hS.strips
  obtain ⟨g1, g2⟩ := hS.first
  obtain ⟨b1, b2⟩ := hS.pitch
  obtain ⟨m1, m2⟩ := mul_bounds (x := (c : Int)) (q := p.pitch) (by omega) (by omega) b1 b2
  unfold terF half
  split <;> omega
theorem properB_deads {p : PR} (h : properB p = true) : Rising p.en p.es ∧ p.en ≤ 100 := by
  simp only [properB, deadsB, Bool.and_eq_true, allUpto_iff, decide_eq_true_eq] at h
  obtain ⟨h1, h2⟩ := h.2.2.2
  refine ⟨?_, by omega⟩
  have step : ∀ k, k + 1 < p.en → p.es k < p.es (k + 1) := fun k hk => by
    have := (deadAt_iff.1 (h1 (k + 1) hk)).2
    rcases this with h | h
    · omega
    · simpa using h
  intro i j hij hj
  induction j with
  | zero => omega
  | succ j ih =>
    have := step j hj
    by_cases e : i = j
    · subst e; exact this
    · have := ih (by omega) (by omega)
      omega
abbrev SS (x b : Nat) (A : Array Value) (u v : Value) (w w' : World) : Prop := (∀ j, w'.cell? ⟨x, j, none⟩ = A[j]?) ∧ w'.cell? ⟨b + 1, 0, none⟩ = some u ∧ w'.cell? ⟨b + 1, 1, none⟩ = some v ∧ (x < w'.heap.size ∧ b + 1 < x) ∧ Below b w w'
theorem SS_drew {x b : Nat} {A : Array Value} {u v : Value} {w W : World} (h : SS x b A u v w W) : SS x b A u v w W.drew := ⟨h.1, h.2.1, h.2.2.1, h.2.2.2.1, h.2.2.2.2.drew⟩
theorem SS_alloc {x b : Nat} {A : Array Value} {u v : Value} {w W : World} (h : SS x b A u v w W) (o : Obj) : SS x b A u v w (W.alloc o) := by
  obtain ⟨h1, h2, h3, ⟨h4, h5⟩, h6⟩ := h
  exact ⟨fun j => (alloc_cell (by omega)).trans (h1 j), (alloc_cell (by omega)).trans h2, (alloc_cell (by omega)).trans h3, ⟨by simp; omega, h5⟩, h6.alloc (by omega) _⟩
theorem SS_end {x b y z : Nat} {A : Array Value} {u v : Value} {w W : World} (h : SS x b A u v w W) (hy : b ≤ y) (hz : b ≤ z) : x < W.heap.size ∧ b ≤ y ∧ b ≤ z ∧ (∀ j, W.cell? ⟨x, j, none⟩ = A[j]?) ∧ Below b w W := ⟨h.2.2.2.1.1, hy, hz, h.1, h.2.2.2.2⟩
def SI (x y x9 c : Nat) (low high spill : Int) (cv : Bool) (nv : Int) (W : World) : Prop := W.cell? ⟨x, 0, none⟩ = some (.int .i64 low) ∧ W.cell? ⟨y, 0, none⟩ = some (.int .i64 high) ∧ W.cell? ⟨x9, 6, none⟩ = some (.int .i64 spill) ∧ W.cell? ⟨c, 0, none⟩ = some (.bool cv) ∧ W.frozen? ⟨c, 0, none⟩ = false ∧ W.cell? ⟨c + 1, 0, none⟩ = some (.int .i64 nv) ∧ W.frozen? ⟨c + 1, 0, none⟩ = false ∧ c + 2 < W.heap.size
theorem SI_kept {x y x9 c : Nat} {low high spill nv : Int} {cv : Bool} {A B : World} {row : Option Nat} (h : SI x y x9 c low high spill cv nv A) (hg : A.grownBy B row) (hr : ∀ r, row = some r → ∃ o : Obj, A.heap[r]? = some o ∧ o.isCells = false) : SI x y x9 c low high spill cv nv B := by
  obtain ⟨i1, i2, i3, i4, i5, i6, i7, i8⟩ := h
  exact ⟨cell_kept i1 hg hr, cell_kept i2 hg hr, cell_kept i3 hg hr, cell_kept i4 hg hr, (frozen_kept i4 hg hr).trans i5, cell_kept i6 hg hr, (frozen_kept i6 hg hr).trans i7, Nat.lt_of_lt_of_le i8 hg.size⟩
theorem SI_own {α : Type} {x y x9 c : Nat} {low high spill : Int} (CL : α → Bool) (NL : α → Int) : Own (fun (pre : α) W => SI x y x9 c low high spill (CL pre) (NL pre) W) := fun s A B row hs hg hr => SI_kept hs hg hr
theorem SI_alloc {x y x9 c : Nat} {low high spill nv : Int} {cv : Bool} {W : World} {o : Obj} (hx : x < c) (hy : y < c) (h9 : x9 < c) (h : SI x y x9 c low high spill cv nv W) : SI x y x9 c low high spill cv nv (W.alloc o) := by
  obtain ⟨i1, i2, i3, i4, i5, i6, i7, i8⟩ := h
  exact ⟨(alloc_cell (by omega)).trans i1, (alloc_cell (by omega)).trans i2, (alloc_cell (by omega)).trans i3, (alloc_cell (by omega)).trans i4, (alloc_frozen (by omega)).trans i5, (alloc_cell (by omega)).trans i6, (alloc_frozen (by omega)).trans i7, by simp; omega⟩
theorem SI_can {x y x9 c : Nat} {low high spill nv : Int} {cv cv' : Bool} {W : World} (hx : x < c) (hy : y < c) (h9 : x9 < c) (h : SI x y x9 c low high spill cv nv W) : SI x y x9 c low high spill cv' nv (W.setCell ⟨c, 0, none⟩ (.bool cv')) := by
  obtain ⟨i1, i2, i3, i4, i5, i6, i7, i8⟩ := h
  exact ⟨(set_other (by omega)).trans i1, (set_other (by omega)).trans i2, (set_other (by omega)).trans i3, World.cell?_setCell_same' _ _ _ (by rw [i4]; rfl), by rw [World.frozen?_setCell]; exact i5, (set_other (by omega)).trans i6, by rw [World.frozen?_setCell]; exact i7, by simpa [World.setCell] using i8⟩
theorem SI_next {x y x9 c : Nat} {low high spill nv nv' : Int} {cv : Bool} {W : World} (hx : x < c) (hy : y < c) (h9 : x9 < c) (h : SI x y x9 c low high spill cv nv W) : SI x y x9 c low high spill cv nv' (W.setCell ⟨c + 1, 0, none⟩ (.int .i64 nv')) := by
  obtain ⟨i1, i2, i3, i4, i5, i6, i7, i8⟩ := h
  exact ⟨(set_other (by omega)).trans i1, (set_other (by omega)).trans i2, (set_other (by omega)).trans i3, (set_other (by omega)).trans i4, by rw [World.frozen?_setCell]; exact i5, World.cell?_setCell_same' _ _ _ (by rw [i6]; rfl), by rw [World.frozen?_setCell]; exact i7, by simpa [World.setCell] using i8⟩
set_option maxRecDepth 100000 in
set_option maxHeartbeats 3000000 in
theorem Sees_ok (a : Option Addr) (n c : Nat) (ps : Nat → PR) (lo hi : Int) (w : World) (B : Nat) (hBw : B ≤ w.heap.size) (hP : Planes B w a n ps) (hC : checkB n ps = true) (k : Nat) (hk : k < n) (hO : orderedB lo hi 1000000 = true) :
    Calls Tryz.prog 16 #[setupV a n c, .int .i64 k, .agg #[.int .i64 lo, .int .i64 hi]] w fun e w' => e = .returned (.tuple #[.bool (seesMust (ps k) lo hi), .bool (seesCan (ps k) lo hi), .int .i64 0]) ∧ Below w.heap.size w w' := by
  obtain ⟨b, off, rfl, hbB, ⟨c0, c1, c2, c3, c4, c5, c6, c7, c8, c9, c10, c11, c12, c13, c14⟩, hm⟩ := hP.get hk
  have hN := checkB_n hC
  have hPr := checkB_plane hC hk
  have hS := properB_shaped hPr
  obtain ⟨hRi, hen⟩ := properB_deads hPr
  have hkw : withinB (k : Int) 0 ((n : Int) - 1) = true := withinB_yes (by omega) (by omega)
  obtain ⟨l1, l2, l3⟩ := orderedB_iff.1 hO
  obtain ⟨o1, o2, o3⟩ := hS.off
  obtain ⟨t1, t2⟩ := hS.strips
  obtain ⟨s1, s2⟩ := hS.spill
  obtain ⟨b1, b2⟩ := hS.pitch
  obtain ⟨N, hNs⟩ := Int.eq_ofNat_of_zero_le (show 0 ≤ (ps k).strips by omega)
  have HT0 := Lib.hid (fun (c : Fin N) => terF_bounds hS (c := c.val) (by omega))
  have HTS := fun (w' : World) Bs hBs (hB' : w.heap.size ≤ w'.heap.size) hc hm' => ter_stops 5 (by decide) Bs w.heap.size N (ps k) k hNs hS hRi hen w' hBs hB' hc hm'
  have HTS := Lib.hid HTS
  have HCa := Lib.hid (show canL (ps k) (lo - (ps k).ohi) (hi - (ps k).olo) (alive N (ps k) N) = seesCan (ps k) lo hi by rw [canL_alive N (Nat.le_refl _), seesCan, hNs, Int.toNat_natCast])
  have HMu := Lib.hid (show decide (hi - (ps k).olo < nextL (ps k) (lo - (ps k).ohi) (alive N (ps k) N)) = seesMust (ps k) lo hi by rw [nextL_alive N (Nat.le_refl _), seesMust, hNs, Int.toNat_natCast])
  have HCLs0 := Lib.hid (canL_snoc (N := N) (ps k) (lo - (ps k).ohi) (hi - (ps k).olo))
  have HNLs0 := Lib.hid (nextL_snoc (N := N) (ps k) (lo - (ps k).ohi))
  have HCL0 := Lib.hid (show canL (N := N) (ps k) (lo - (ps k).ohi) (hi - (ps k).olo) [] = false from rfl)
  have HNL0 := Lib.hid (show nextL (N := N) (ps k) (lo - (ps k).ohi) [] = lo - (ps k).ohi from rfl)
  generalize canL (N := N) (ps k) (lo - (ps k).ohi) (hi - (ps k).olo) = CL at HCLs0 HCL0 HCa
  generalize nextL (N := N) (ps k) (lo - (ps k).ohi) = NL at HNLs0 HNL0 HMu
  obtain ⟨TF, hTF⟩ : ∃ TF : Fin N → Int, TF = fun xx => terF (ps k) xx.val := ⟨_, rfl⟩
  have HTF := Lib.hid hTF
  have HT := Lib.hid (show ∀ xx, -1100000 ≤ TF xx ∧ TF xx ≤ 202100000 by intro xx; rw [hTF]; exact HT0.out xx)
  have HCLs := Lib.hid (show ∀ pre xx, CL (pre ++ [xx]) = (CL pre || (decide (TF xx - (ps k).spill ≤ hi - (ps k).olo) && decide (lo - (ps k).ohi ≤ TF xx + (ps k).pitch - 1 + (ps k).spill))) by intro pre xx; rw [hTF]; exact HCLs0.out pre xx)
  have HNLs := Lib.hid (show ∀ pre xx, NL (pre ++ [xx]) = if TF xx ≤ NL pre ∧ NL pre ≤ TF xx + (ps k).pitch - 1 then TF xx + (ps k).pitch - 1 + 1 else NL pre by intro pre xx; rw [hTF]; exact HNLs0.out pre xx)
  clear HT0 HCLs0 HNLs0 hTF
  have HP := Lib.hid hP
  have HM := Lib.hid hm
  have HS := Lib.hid hS
  have HC := Lib.hid (check_any (some ⟨b, off, none⟩) n c ps)
  have hbz0 : b < w.heap.size := by omega
  have HNs := Lib.hid hNs
  clear hP hm hS hPr hRi hen hNs
  rw [← HCa.out, ← HMu.out]
  clear HCa HMu
  generalize ps k = p at *
  obtain ⟨kind, view, z, first, pitch, strips, spill, olo, ohi, clo, chi, jitter, least, da, dn, dc, ea, en, ec, ds, es⟩ := p
  dsimp only at *
  refine (callsIn_wide (n := 6)).1 ?_
  refine callsIn_of_wp_marks Tryz.func16 rfl trivial ?_ rfl
  simp only [Tryz.ntmps16, List.size_toArray, List.length_cons, List.length_nil, Nat.reduceAdd, Nat.reduceSub, Array.replicate_succ, Array.replicate_zero, List.push_toArray, List.append_toArray, List.nil_append, List.cons_append]
  refine wpIn_wide.2 ?_
  go_upto_region 3 with (first | (go_at_call 18; refine (HC.out _ B (by simp; omega) (HP.out.below (((Below.refl B w).alloc hBw _).alloc (by simp; omega) _))).mono ?_; rintro e w1 ⟨rfl, hb⟩; have hz1 : w.heap.size + 2 ≤ w1.heap.size := (by have := hb.size; simp at this; omega); have hz2 : w.heap.size + 1 < w1.heap.size := (by omega); have hbz1 : b < w1.heap.size := (by omega); have hB1 : Below w.heap.size w w1 := (((((Below.refl _ _).alloc (Nat.le_refl _) _).alloc (by simp) _)).trans (hb.mono (by simp; omega))); have hX := hb.mono (B' := w.heap.size + 2) (by simp); obtain ⟨hcx, hfx⟩ := bcell hX; clear hb; rw [hC]) | (go_at_call 36; refine (within_any _ _ _ _).mono ?_; rintro e w' ⟨rfl, rfl⟩) | (go_at_call 37; refine (ordered_any _ _ _ _ (by decide) (by decide)).mono ?_; rintro e w2 ⟨rfl, hb2⟩; rw [hO]; have hz3 : w.heap.size + 2 ≤ w2.heap.size := (by have := hb2.size; omega); have hz4 : w.heap.size + 1 < w2.heap.size := (by omega); have hbz2 : b < w2.heap.size := (by omega); have hB2 : Below w.heap.size w w2 := hB1.trans (hb2.mono (by omega)); have hX2 := hX.trans (hb2.mono (by omega)); clear hcx hfx hX hb2; obtain ⟨hcx, hfx⟩ := bcell hX2))
  go_cut [9] from 33 to 39 (fun s9 wx => (∃ x, s9 = .pointer (some ⟨x, 0, none⟩) ∧ w.heap.size + 2 ≤ x ∧ x < wx.heap.size ∧ (∀ j, wx.cell? ⟨x, j, none⟩ = (#[.int .i64 kind, .int .i64 view, .int .i64 z, .int .i64 first, .int .i64 pitch, .int .i64 strips, .int .i64 spill, .int .i64 olo, .int .i64 ohi, .int .i64 clo, .int .i64 chi, .int .i64 jitter, .int .i64 least, .slice da dn dc, .slice ea en ec, .int .i64 k] : Array Value)[j]?) ∧ wx.cell? ⟨w.heap.size + 1, 0, none⟩ = some (.int .i64 lo) ∧ wx.cell? ⟨w.heap.size + 1, 1, none⟩ = some (.int .i64 hi) ∧ Below w.heap.size w wx))
  case first =>
    have k0 : w2.cell? ⟨w.heap.size + 1, 0, none⟩ = some (.int .i64 lo) := by rw [hcx _ _ (by omega)]; go_simp
    have k1 : w2.cell? ⟨w.heap.size + 1, 1, none⟩ = some (.int .i64 hi) := by rw [hcx _ _ (by omega)]; go_simp
    have k2 : w2.cell? ⟨w.heap.size, 0, none⟩ = some (.slice (some ⟨b, off, none⟩) n c) := by rw [hcx _ _ (by omega)]; go_simp
    clear hcx hfx
    obtain ⟨hcw, hfw⟩ := bcell hB2
    go_wp2_with fail
    go_meet
    refine ⟨w2.heap.size, rfl, by omega, by simp, fun j => cell_of_row _ _ _ _ _ _ (heapQ_new rfl), ?_, ?_, hB2.alloc (by omega) _⟩
    · rw [alloc_cell (by omega)]; exact k0
    · rw [alloc_cell (by omega)]; exact k1
  clear hcx hfx hX2 hB2 hz3 hz4 hbz2 hbz1 hz1 hz2 hbz0 c0 c1 c2 c3 c4 c5 c6 c7 c8 c9 c10 c11 c12 c13 c14
  obtain ⟨x9, rfl, hx1, hx2, hp, k0, k1, hbx⟩ := hcut
  go_upto_region 4 with (fail)
  go_cut [10, 11] from 40 to 53 (fun s10 s11 wx => ∃ x y, s10 = .pointer (some ⟨x, 0, none⟩) ∧ s11 = .pointer (some ⟨y, 0, none⟩) ∧ wx.cell? ⟨x, 0, none⟩ = some (.int .i64 (lo - ohi)) ∧ wx.cell? ⟨y, 0, none⟩ = some (.int .i64 (hi - olo)) ∧ x < wx.heap.size ∧ y < wx.heap.size ∧ x9 < wx.heap.size ∧ w.heap.size ≤ x ∧ w.heap.size ≤ y ∧ (∀ j, wx.cell? ⟨x9, j, none⟩ = (#[.int .i64 kind, .int .i64 view, .int .i64 z, .int .i64 first, .int .i64 pitch, .int .i64 strips, .int .i64 spill, .int .i64 olo, .int .i64 ohi, .int .i64 clo, .int .i64 chi, .int .i64 jitter, .int .i64 least, .slice da dn dc, .slice ea en ec, .int .i64 k] : Array Value)[j]?) ∧ Below w.heap.size w wx)
  case first =>
    have a1 : IntKind.i64.wrap (lo - ohi) = lo - ohi := IntWalk.i64_in _ (by omega)
    have a2 : IntKind.i64.wrap (hi - olo) = hi - olo := IntWalk.i64_in _ (by omega)
    have hS0 : SS x9 w.heap.size _ _ _ w wc := ⟨hp, k0, k1, ⟨hx2, by omega⟩, hbx⟩
    have hws := hbx.size
    clear hp k0 k1 hx1 hx2 hbx
    go_region_held3 (fun w' => (∀ j, w'.cell? ⟨x9, j, none⟩ = (#[.int .i64 kind, .int .i64 view, .int .i64 z, .int .i64 first, .int .i64 pitch, .int .i64 strips, .int .i64 spill, .int .i64 olo, .int .i64 ohi, .int .i64 clo, .int .i64 chi, .int .i64 jitter, .int .i64 least, .slice da dn dc, .slice ea en ec, .int .i64 k] : Array Value)[j]?) ∧ w'.cell? ⟨w.heap.size + 1, 0, none⟩ = some (.int .i64 lo) ∧ w'.cell? ⟨w.heap.size + 1, 1, none⟩ = some (.int .i64 hi) ∧ (x9 < w'.heap.size ∧ w.heap.size + 1 < x9) ∧ Below w.heap.size w w') (first | (repeat (first | (with_reducible assumption) | (with_reducible refine SS_drew ?_) | (with_reducible refine SS_alloc ?_ _)))) (fail)
    all_goals (go_wp2_with fail)
    all_goals go_meet
    all_goals (refine ⟨_, _, rfl, rfl, ?_, ?_, ?_, ?_, SS_end (by with_reducible assumption) ?_ ?_⟩)
    all_goals (try go_simp)
    all_goals omega
  clear hp k0 k1 hx1 hx2 hbx
  obtain ⟨x, y, rfl, rfl, v0, v1, hx3, hy3, hx9, hxw, hyw, hp2, hB⟩ := hcut
  go_wp2_with (go_at_call 38; refine (ter_any ⟨kind, view, z, first, pitch, strips, spill, olo, ohi, clo, chi, jitter, least, da, dn, dc, ea, en, ec, ds, es⟩ k _).mono ?_; rintro e w' ⟨rfl, rfl⟩)
  have hwc := hB.size
  have hB3 : Below w.heap.size w (((wc.alloc (.cells #[.bool false] 4)).alloc (.cells #[.int .i64 (lo - ohi)] 3)).alloc (.cells #[.int .i64 kind, .int .i64 view, .int .i64 z, .int .i64 first, .int .i64 pitch, .int .i64 strips, .int .i64 spill, .int .i64 olo, .int .i64 ohi, .int .i64 clo, .int .i64 chi, .int .i64 jitter, .int .i64 least, .slice da dn dc, .slice ea en ec, .int .i64 k] 84)) := ((hB.alloc (by omega) _).alloc (by simp; omega) _).alloc (by simp; omega) _
  have hTS := HTS.out (((wc.alloc (.cells #[.bool false] 4)).alloc (.cells #[.int .i64 (lo - ohi)] 3)).alloc (.cells #[.int .i64 kind, .int .i64 view, .int .i64 z, .int .i64 first, .int .i64 pitch, .int .i64 strips, .int .i64 spill, .int .i64 olo, .int .i64 ohi, .int .i64 clo, .int .i64 chi, .int .i64 jitter, .int .i64 least, .slice da dn dc, .slice ea en ec, .int .i64 k] 84)) (wc.heap.size + 1 + 1) (by simp) (by simp; omega) (fun j => cell_of_row _ _ _ _ _ _ (heapQ_new (by simp))) ((HM.out.up hBw).below hB3)
  have hE : (encT (N := N) ⟨kind, view, z, first, pitch, strips, spill, olo, ohi, clo, chi, jitter, least, da, dn, dc, ea, en, ec, ds, es⟩) = fun xx => #[.int .i64 ((xx.val : Nat) : Int), .agg #[.int .i64 (TF xx), .int .i64 (TF xx + pitch - 1)]] := by funext xx; rw [HTF.out]
  rw [hE] at hTS
  clear hE
  refine (wpIn_wide (n := 6)).1 ?_
  refine wpIn_rangeFunc_ownH (α := Fin N) (F := Fence.wide) (n := 6) rfl (by decide) (gf := 59) (lb := #[.pointer (some ⟨wc.heap.size + 1 + 1, 0, none⟩)]) rfl trivial (enters_of Tryz.func59 (by kernel_rfl) rfl)
    hTS KeepsP.trans ?hKb (Below.refl _ _) (fun _ => rfl)
    (fun pre W => SI x y x9 wc.heap.size (lo - ohi) (hi - olo) spill (CL pre) (NL pre) W ∧ Below w.heap.size w W)
    (fun _ _ _ => False)
    (OwnFrom.and ((SI_own CL NL).from _) (ownFrom_below (Nat.le_refl _) (by simp; omega)))
    (fun _ _ _ _ _ hs _ _ => hs)
    ?h0 (fun xx a' W => ∃ Bx, (wc.heap.size + 3 ≤ Bx ∧ W.cell? ⟨Bx, 0, none⟩ = some (.int .i64 (TF xx)) ∧ W.cell? ⟨Bx, 1, none⟩ = some (.int .i64 (TF xx + pitch - 1))) ∧ a' = { tmps := #[setupV (some ⟨b, off, none⟩) n c, .int .i64 k, .agg #[.int .i64 lo, .int .i64 hi], .pointer (some ⟨w.heap.size, 0, none⟩), undef, .pointer (some ⟨w.heap.size + 1, 0, none⟩), .bool false, .bool false, .int .i64 0, .pointer (some ⟨x9, 0, none⟩), .pointer (some ⟨x, 0, none⟩), .pointer (some ⟨y, 0, none⟩), .pointer (some ⟨wc.heap.size, 0, none⟩), .pointer (some ⟨wc.heap.size + 1, 0, none⟩), undef, .pointer (some ⟨Bx, 0, none⟩), .agg #[.slice (some ⟨b, off, none⟩) n c], .bool true, .bool false, .bool false, .int .i64 k, .pointer (some ⟨w.heap.size, 0, none⟩), .slice (some ⟨b, off, none⟩) n c, .int .i64 n, .int .i64 ((n : Int) - 1), .bool true, .bool false, .bool false, .bool false, .agg #[.int .i64 lo, .int .i64 hi], .bool true, .bool false, .bool false, u33, u34, u35, u36, u37, u38, u39, u40, u41, u42, u43, u44, u45, u46, u47, u48, u49, u50, u51, u52, u53, .int .i64 (lo - ohi), .agg #[.int .i64 kind, .int .i64 view, .int .i64 z, .int .i64 first, .int .i64 pitch, .int .i64 strips, .int .i64 spill, .int .i64 olo, .int .i64 ohi, .int .i64 clo, .int .i64 chi, .int .i64 jitter, .int .i64 least, .slice da dn dc, .slice ea en ec, .int .i64 k], .func (.func 59) #[] #[.pointer (some ⟨wc.heap.size + 1 + 1, 0, none⟩)], .int .i64 ((xx.val : Nat) : Int), .agg #[.int .i64 (TF xx), .int .i64 (TF xx + pitch - 1)], undef, undef, undef, undef, undef, undef, undef, undef, undef, undef, undef, undef, undef, undef, undef, undef, undef, undef, undef, undef, undef, undef, undef, undef, undef, undef, undef, undef, undef, undef, undef, undef, undef, undef, undef, undef, undef, undef], defers := [] })
    (fun x a' => Own.from (fun s A B row hs hg hr => by obtain ⟨Bx, ⟨h1, h2, h3⟩, he⟩ := hs; exact ⟨Bx, ⟨h1, cell_kept h2 hg hr, cell_kept h3 hg hr⟩, he⟩) _) ?assign ?body ?done ?stop
  case hKb =>
    intro W l o o' hl ho h1 h2
    have hne : wc.heap.size + 1 + 1 ≠ l := by simp at hl; omega
    exact ⟨belowK_b (w := w) (Nat.le_refl _) W l o o' (by simp at hl; omega) ho h1 h2, fun j => put_other hne⟩
  case h0 => exact ⟨⟨((alloc_cell (by simp; omega)).trans ((alloc_cell (by simp; omega)).trans (alloc_cell (by omega)))).trans v0, ((alloc_cell (by simp; omega)).trans ((alloc_cell (by simp; omega)).trans (alloc_cell (by omega)))).trans v1, ((alloc_cell (by simp; omega)).trans ((alloc_cell (by simp; omega)).trans (alloc_cell (by omega)))).trans (hp2 6), by rw [HCL0.out]; go_simp, by go_simp, by rw [HNL0.out]; go_simp, by go_simp, by simp⟩, hB3⟩
  case assign =>
    rintro l pre xx W K ⟨hI, hBW⟩ hK
    gi_wp2
    have hsz := hI.2.2.2.2.2.2.2
    exact hK _ _ ((KeepsOthers.alloc _ _).from _) ⟨(Below.refl _ W).alloc hBW.size _, fun j => alloc_cell hsz⟩ ⟨SI_alloc (by omega) (by omega) (by omega) hI, hBW.alloc hBW.size _⟩ ⟨W.heap.size, ⟨by omega, by simp, by simp⟩, rfl⟩
  case body =>
    rintro l pre xx a' W hl hloop ⟨hI, hBW⟩ ⟨Bx, ⟨x1, x2, x3⟩, rfl⟩ hlt
    have HI := Lib.hid hI
    have hsz : wc.heap.size + 2 < W.heap.size := hI.2.2.2.2.2.2.2
    have HBW := Lib.hid hBW
    obtain ⟨i1, i2, i3, i4, i5, i6, i7, i8⟩ := hI
    have hcs := HCLs.out pre xx
    have hns := HNLs.out pre xx
    obtain ⟨q1, q2⟩ := HT.out xx
    clear hl hloop hlt hBW hTS hB3
    generalize TF xx = T at *
    generalize CL pre = CV at *
    generalize NL pre = NV at *
    have HQ := Lib.hid (show T ≤ NV ∧ NV ≤ T + pitch - 1 ∨ ¬ (T ≤ NV ∧ NV ≤ T + pitch - 1) from Classical.em _)
    rcases HQ.out with hq | hq
    · rw [if_pos hq] at hns
      obtain ⟨hq1, hq2⟩ := hq
      have HNS := Lib.hid hns
      clear hns HQ
      cases CV
      · by_cases hc1 : T - spill ≤ hi - olo
        · by_cases hc2 : lo - ohi ≤ T + pitch - 1 + spill
          · have HCS := Lib.hid (show CL (pre ++ [xx]) = true by rw [hcs]; simp [hc1, hc2])
            clear hcs
            gi_wp2
            exact ⟨((KeepsOthers.setCell _ _ _).from _).trans ((KeepsOthers.setCell _ _ _).from _), ⟨((Below.refl w.heap.size W).setCell (p := ⟨_, _, _⟩) (by simp; omega) _).setCell (p := ⟨_, _, _⟩) (by simp; omega) _, fun j => (set_other (by omega)).trans (set_other (by omega))⟩, by rw [HCS.out, HNS.out, Int.sub_add_cancel]; exact SI_next hx3 hy3 hx9 (SI_can hx3 hy3 hx9 HI.out), (HBW.out.setCell (p := ⟨_, _, _⟩) (by simp; omega) _).setCell (p := ⟨_, _, _⟩) (by simp; omega) _⟩
          · have HCS := Lib.hid (show CL (pre ++ [xx]) = false by rw [hcs]; simp [hc1, hc2])
            clear hcs
            gi_wp2
            exact ⟨((KeepsOthers.setCell _ _ _).from _).trans ((KeepsOthers.setCell _ _ _).from _), ⟨((Below.refl w.heap.size W).setCell (p := ⟨_, _, _⟩) (by simp; omega) _).setCell (p := ⟨_, _, _⟩) (by simp; omega) _, fun j => (set_other (by omega)).trans (set_other (by omega))⟩, by rw [HCS.out, HNS.out, Int.sub_add_cancel]; exact SI_next hx3 hy3 hx9 (SI_can hx3 hy3 hx9 HI.out), (HBW.out.setCell (p := ⟨_, _, _⟩) (by simp; omega) _).setCell (p := ⟨_, _, _⟩) (by simp; omega) _⟩
        · have HCS := Lib.hid (show CL (pre ++ [xx]) = false by rw [hcs]; simp [hc1])
          clear hcs
          gi_wp2
          exact ⟨((KeepsOthers.setCell _ _ _).from _).trans ((KeepsOthers.setCell _ _ _).from _), ⟨((Below.refl w.heap.size W).setCell (p := ⟨_, _, _⟩) (by simp; omega) _).setCell (p := ⟨_, _, _⟩) (by simp; omega) _, fun j => (set_other (by omega)).trans (set_other (by omega))⟩, by rw [HCS.out, HNS.out, Int.sub_add_cancel]; exact SI_next hx3 hy3 hx9 (SI_can hx3 hy3 hx9 HI.out), (HBW.out.setCell (p := ⟨_, _, _⟩) (by simp; omega) _).setCell (p := ⟨_, _, _⟩) (by simp; omega) _⟩
      · have HCS := Lib.hid (show CL (pre ++ [xx]) = true by rw [hcs]; simp)
        clear hcs
        gi_wp2
        exact ⟨((KeepsOthers.setCell _ _ _).from _).trans ((KeepsOthers.setCell _ _ _).from _), ⟨((Below.refl w.heap.size W).setCell (p := ⟨_, _, _⟩) (by simp; omega) _).setCell (p := ⟨_, _, _⟩) (by simp; omega) _, fun j => (set_other (by omega)).trans (set_other (by omega))⟩, by rw [HCS.out, HNS.out, Int.sub_add_cancel]; exact SI_next hx3 hy3 hx9 (SI_can hx3 hy3 hx9 HI.out), (HBW.out.setCell (p := ⟨_, _, _⟩) (by simp; omega) _).setCell (p := ⟨_, _, _⟩) (by simp; omega) _⟩
    · rw [if_neg hq] at hns
      have HNS := Lib.hid hns
      clear hns HQ
      by_cases hq1 : T ≤ NV
      · have hq2 : ¬ NV ≤ T + pitch - 1 := fun h => hq ⟨hq1, h⟩
        clear hq
        cases CV
        · by_cases hc1 : T - spill ≤ hi - olo
          · by_cases hc2 : lo - ohi ≤ T + pitch - 1 + spill
            · have HCS := Lib.hid (show CL (pre ++ [xx]) = true by rw [hcs]; simp [hc1, hc2])
              clear hcs
              gi_wp2
              exact ⟨(KeepsOthers.setCell _ _ _).from _, ⟨(Below.refl w.heap.size W).setCell (p := ⟨_, _, _⟩) (by simp; omega) _, fun j => set_other (by omega)⟩, by rw [HCS.out, HNS.out]; exact SI_can hx3 hy3 hx9 HI.out, HBW.out.setCell (p := ⟨_, _, _⟩) (by simp; omega) _⟩
            · have HCS := Lib.hid (show CL (pre ++ [xx]) = false by rw [hcs]; simp [hc1, hc2])
              clear hcs
              gi_wp2
              exact ⟨(KeepsOthers.setCell _ _ _).from _, ⟨(Below.refl w.heap.size W).setCell (p := ⟨_, _, _⟩) (by simp; omega) _, fun j => set_other (by omega)⟩, by rw [HCS.out, HNS.out]; exact SI_can hx3 hy3 hx9 HI.out, HBW.out.setCell (p := ⟨_, _, _⟩) (by simp; omega) _⟩
          · have HCS := Lib.hid (show CL (pre ++ [xx]) = false by rw [hcs]; simp [hc1])
            clear hcs
            gi_wp2
            exact ⟨(KeepsOthers.setCell _ _ _).from _, ⟨(Below.refl w.heap.size W).setCell (p := ⟨_, _, _⟩) (by simp; omega) _, fun j => set_other (by omega)⟩, by rw [HCS.out, HNS.out]; exact SI_can hx3 hy3 hx9 HI.out, HBW.out.setCell (p := ⟨_, _, _⟩) (by simp; omega) _⟩
        · have HCS := Lib.hid (show CL (pre ++ [xx]) = true by rw [hcs]; simp)
          clear hcs
          gi_wp2
          exact ⟨(KeepsOthers.setCell _ _ _).from _, ⟨(Below.refl w.heap.size W).setCell (p := ⟨_, _, _⟩) (by simp; omega) _, fun j => set_other (by omega)⟩, by rw [HCS.out, HNS.out]; exact SI_can hx3 hy3 hx9 HI.out, HBW.out.setCell (p := ⟨_, _, _⟩) (by simp; omega) _⟩
      · clear hq
        cases CV
        · by_cases hc1 : T - spill ≤ hi - olo
          · by_cases hc2 : lo - ohi ≤ T + pitch - 1 + spill
            · have HCS := Lib.hid (show CL (pre ++ [xx]) = true by rw [hcs]; simp [hc1, hc2])
              clear hcs
              gi_wp2
              exact ⟨(KeepsOthers.setCell _ _ _).from _, ⟨(Below.refl w.heap.size W).setCell (p := ⟨_, _, _⟩) (by simp; omega) _, fun j => set_other (by omega)⟩, by rw [HCS.out, HNS.out]; exact SI_can hx3 hy3 hx9 HI.out, HBW.out.setCell (p := ⟨_, _, _⟩) (by simp; omega) _⟩
            · have HCS := Lib.hid (show CL (pre ++ [xx]) = false by rw [hcs]; simp [hc1, hc2])
              clear hcs
              gi_wp2
              exact ⟨(KeepsOthers.setCell _ _ _).from _, ⟨(Below.refl w.heap.size W).setCell (p := ⟨_, _, _⟩) (by simp; omega) _, fun j => set_other (by omega)⟩, by rw [HCS.out, HNS.out]; exact SI_can hx3 hy3 hx9 HI.out, HBW.out.setCell (p := ⟨_, _, _⟩) (by simp; omega) _⟩
          · have HCS := Lib.hid (show CL (pre ++ [xx]) = false by rw [hcs]; simp [hc1])
            clear hcs
            gi_wp2
            exact ⟨(KeepsOthers.setCell _ _ _).from _, ⟨(Below.refl w.heap.size W).setCell (p := ⟨_, _, _⟩) (by simp; omega) _, fun j => set_other (by omega)⟩, by rw [HCS.out, HNS.out]; exact SI_can hx3 hy3 hx9 HI.out, HBW.out.setCell (p := ⟨_, _, _⟩) (by simp; omega) _⟩
        · have HCS := Lib.hid (show CL (pre ++ [xx]) = true by rw [hcs]; simp)
          clear hcs
          gi_wp2
          exact ⟨(KeepsOthers.setCell _ _ _).from _, ⟨(Below.refl w.heap.size W).setCell (p := ⟨_, _, _⟩) (by simp; omega) _, fun j => set_other (by omega)⟩, by rw [HCS.out, HNS.out]; exact SI_can hx3 hy3 hx9 HI.out, HBW.out.setCell (p := ⟨_, _, _⟩) (by simp; omega) _⟩
  case done =>
    rintro D ys W hD rfl ⟨⟨i1, i2, i3, i4, i5, i6, i7, i8⟩, hBW⟩ hK
    clear hTS hB3
    go_wp2
    go_quiet (fail)
    go_wp2
    have hK' : (W.drewN nq).heap[D]? = some (.deferred (some [])) := hK
    refine ⟨by simp, .inl ⟨_, _, rfl, run_takeDeferred hK', ?_⟩⟩
    exact ⟨_, by simp [results, Tryz.results16, go_sem], rfl, (below_drewN hBW nq).trans (belowK_b (w := w) (Nat.le_refl _) (W.drewN nq) D _ _ (by simp at hD; omega) hK' rfl rfl)⟩
  case stop =>
    rintro D c pre W _ _ h _
    exact h.elim
end Go.Proofs.YtegimepmccilfaaGreatDoor
