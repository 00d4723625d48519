/- The walk of radii. -/
import Derived.Test.YtegimepmccilfaaGreatDoorIter
import Derived.Test.YtegimepmccilfaaGreatDoorWide2
namespace Go.Proofs.YtegimepmccilfaaGreatDoor
open Go.RowKit Go.Shelf
set_option linter.unusedVariables false
set_option linter.unusedSimpArgs false
attribute [local go_sem] Oper.semAt_some
theorem alloc_cell {W : World} {o : Obj} {b j : Nat} (h : b < W.heap.size) : (W.alloc o).cell? ⟨b, j, none⟩ = W.cell? ⟨b, j, none⟩ := World.cell?_of_block (Below.heap_alloc W o b h)
theorem alloc_frozen {W : World} {o : Obj} {b j : Nat} (h : b < W.heap.size) : (W.alloc o).frozen? ⟨b, j, none⟩ = W.frozen? ⟨b, j, none⟩ := World.frozen?_of_block (Below.heap_alloc W o b h)
theorem set_other {W : World} {v : Value} {b b' i j : Nat} (h : b' ≠ b) : (W.setCell ⟨b, j, none⟩ v).cell? ⟨b', i, none⟩ = W.cell? ⟨b', i, none⟩ := World.cell?_of_block (Below.heap_setCell W ⟨b, j, none⟩ v b' h)
theorem put_other {W : World} {o : Obj} {l b j : Nat} (h : b ≠ l) : (W.putObj l o).cell? ⟨b, j, none⟩ = W.cell? ⟨b, j, none⟩ := World.cell?_of_block (by simp [World.putObj]; rw [Array.getElem?_setIfInBounds_ne (by omega)])
def hiOf (t h : Int) : List (Nat × DV) → Int := List.foldl (fun s x => if t ≤ x.2.time then x.2.hi else s) h
theorem hiOf_snoc (t h : Int) (pre : List (Nat × DV)) (x : Nat × DV) : hiOf t h (pre ++ [x]) = if t ≤ x.2.time then x.2.hi else hiOf t h pre := by simp [hiOf]
set_option maxRecDepth 100000 in
set_option maxHeartbeats 2000000 in
theorem radii_any (p : PR) (ix drift : Int) (w : World) (B : Nat) (hBw : B ≤ w.heap.size) (hm : p.mem B w) (hS : Shaped p) (hd : 0 ≤ drift ∧ drift ≤ 1000000) :
    Calls Tryz.prog 58 #[p.placed ix, .int .i64 drift] w fun e w' => e = .returned (.tuple #[.int .i64 (radLo p drift p.dn), .int .i64 (radHi p drift p.dn)]) ∧ Below w.heap.size w w' := by
  obtain ⟨hdn, hen, hD, hI⟩ := hm
  obtain ⟨d1, d2⟩ := hd
  obtain ⟨j1, j2⟩ := hS.jitter
  obtain ⟨b1, b2⟩ := hS.pitch
  have HD := Lib.hid hD
  have hL : ∀ k, radLo p drift (k + 1) = if (p.ds k).time ≤ drift - p.jitter then (p.ds k).lo else radLo p drift k := fun _ => rfl
  have hL0 : radLo p drift 0 = 0 := rfl
  have hH : ∀ m, radHi p drift (m + 1) = if drift + p.jitter ≤ (p.ds (p.dn - 1 - m)).time then (p.ds (p.dn - 1 - m)).hi else radHi p drift m := fun _ => rfl
  have hH0 : radHi p drift 0 = p.pitch / 2 := rfl
  generalize radLo p drift = RL at *
  generalize radHi p drift = RH at *
  have HL := Lib.hid hL
  have HL0 := Lib.hid hL0
  have HH := Lib.hid hH
  have HH0 := Lib.hid hH0
  clear hD hI hen hS hL hL0 hH hH0
  unfold maxLen at hdn
  obtain ⟨kind, view, z, first, pitch, strips, spill, olo, ohi, clo, chi, jitter, least, da, dn, dc, ea, en, ec, ds, es⟩ := p
  dsimp only at *
  refine (callsIn_wide (n := 6)).1 ?_
  refine callsIn_of_wp_marks Tryz.func58 rfl trivial ?_ rfl
  simp only [Tryz.ntmps58, List.size_toArray, List.length_cons, List.length_nil, Nat.reduceAdd, Nat.reduceSub, Array.replicate_succ, Array.replicate_zero, List.push_toArray, List.append_toArray, List.nil_append, List.cons_append]
  refine wpIn_wide.2 ?_
  go_wp2
  go_region
  go_wp2
  go_loopw [20, 6, 9] (fun t lo _ wr => ∃ k : Nat, k ≤ dn ∧ t = .int .i64 k ∧ lo = .int .i64 (RL k) ∧ wr.cell? ⟨w.heap.size, 11, none⟩ = some (.int .i64 jitter) ∧ wr.cell? ⟨w.heap.size, 13, none⟩ = some (.slice da dn dc) ∧ wr.cell? ⟨w.heap.size + 1, 0, none⟩ = some (.int .i64 drift) ∧ wr.cell? ⟨w.heap.size + 2, 0, none⟩ = some (.int .i64 (pitch / 2)) ∧ wr.frozen? ⟨w.heap.size + 2, 0, none⟩ = false ∧ w.heap.size + 3 ≤ wr.heap.size ∧ Below w.heap.size w wr) (fun t _ _ _ => dn - (intOf t).toNat)
  case atStart => exact ⟨0, Nat.zero_le _, rfl, by rw [HL0.out], by go_simp, by go_simp, by go_simp, by go_simp, by go_simp, by simp, Below.drew ((((Below.refl _ _).alloc (Nat.le_refl _) _).alloc (by simp) _).alloc (by simp; omega) _)⟩
  case round =>
    obtain ⟨k, hk, rfl, rfl, v0, v1, v2, v3, v4, hz, hbx⟩ := hrel
    by_cases hlt : k < dn
    · rcases HD.out with hd | ⟨b, off, rfl, hbs, hcell⟩
      · omega
      obtain ⟨c0, c1, c2⟩ := hcell k hlt
      have k0 := (hbx.cell (p := ⟨b, off + k * 3, none⟩) (by show b < _; omega)).trans c0
      have k1 := (hbx.cell (p := ⟨b, off + k * 3 + 1, none⟩) (by show b < _; omega)).trans c1
      have k2 := (hbx.cell (p := ⟨b, off + k * 3 + 2, none⟩) (by show b < _; omega)).trans c2
      have hz1 : w.heap.size < wr.heap.size := by omega
      have hz2 : w.heap.size + 1 < wr.heap.size := by omega
      have hz3 : w.heap.size + 2 < wr.heap.size := by omega
      clear hcell c0 c1 c2
      by_cases ht : (ds k).time ≤ drift - jitter
      · have HR := Lib.hid (show RL (k + 1) = (ds k).lo by rw [HL.out, if_pos ht])
        go_wp2
        go_roundw
        case rel => exact ⟨k + 1, by omega, by go_num, by rw [HR.out], by go_simp, by go_simp, by go_simp, by go_simp, by go_simp, by simp; omega, hbx.alloc (by omega) _⟩
        case measure => simp [intOf]; omega
      · have HR := Lib.hid (show RL (k + 1) = RL k by rw [HL.out, if_neg ht])
        go_wp2
        go_roundw
        case rel => exact ⟨k + 1, by omega, by go_num, by rw [HR.out], by go_simp, by go_simp, by go_simp, by go_simp, by go_simp, by simp; omega, hbx.alloc (by omega) _⟩
        case measure => simp [intOf]; omega
    · obtain rfl : k = dn := by omega
      clear hlt
      go_wp2_with (go_at_call 77; refine (back_any _ _ _ _).mono ?_; rintro e w' ⟨rfl, rfl⟩)
      refine (wpIn_wide (n := 6)).1 ?_
      refine wpIn_rangeFunc_ownH (α := Nat × DV) (F := Fence.wide) (n := 6) rfl (by decide) (gf := 100) (lb := #[.pointer (some ⟨wr.heap.size, 0, none⟩)]) rfl trivial (enters_of Tryz.func100 (by kernel_rfl) rfl)
        (back_stops (6 - 1) (by decide) wr.heap.size w.heap.size da k dc ds (by omega) (wr.alloc (.cells #[.slice da k dc] 39)) (by simp) (by simp; omega) (by simp) ((HD.out.up hBw).below (hbx.alloc (by omega) _))) KeepsBox.trans ?hKb (Below.refl _ _) (fun _ => rfl)
        (fun pre W => (W.cell? ⟨w.heap.size, 11, none⟩ = some (.int .i64 jitter) ∧ W.cell? ⟨w.heap.size + 1, 0, none⟩ = some (.int .i64 drift) ∧ W.cell? ⟨w.heap.size + 2, 0, none⟩ = some (.int .i64 (hiOf (drift + jitter) (pitch / 2) pre)) ∧ W.frozen? ⟨w.heap.size + 2, 0, none⟩ = false ∧ wr.heap.size < W.heap.size) ∧ Below w.heap.size w W)
        (fun _ _ _ => False)
        (OwnFrom.and (Own.from (fun s A B row hs hg hr => ⟨cell_kept hs.1 hg hr, cell_kept hs.2.1 hg hr, cell_kept hs.2.2.1 hg hr, (frozen_kept hs.2.2.1 hg hr).trans hs.2.2.2.1, Nat.lt_of_lt_of_le hs.2.2.2.2 hg.size⟩) _) (ownFrom_below (Nat.le_refl _) (by simp; omega)))
        (fun _ _ _ _ _ hs _ _ => hs)
        ?h0 (fun x a' W => ∃ Bx, (w.heap.size + 3 ≤ Bx ∧ W.cell? ⟨Bx, 0, none⟩ = some (.int .i64 x.2.time) ∧ W.cell? ⟨Bx, 1, none⟩ = some (.int .i64 x.2.lo) ∧ W.cell? ⟨Bx, 2, none⟩ = some (.int .i64 x.2.hi)) ∧ a' = { tmps := #[PR.placed ⟨kind, view, z, first, pitch, strips, spill, olo, ohi, clo, chi, jitter, least, da, k, dc, ea, en, ec, ds, es⟩ ix, .int .i64 drift, .pointer (some ⟨w.heap.size, 0, none⟩), .pointer (some ⟨w.heap.size + 1, 0, none⟩), .int .i64 0, .int .i64 0, .int .i64 (RL k), .pointer (some ⟨w.heap.size + 1 + 1, 0, none⟩), undef, u9, undef, .pointer (some ⟨Bx, 0, none⟩), .pointer (some ⟨w.heap.size, 0, none⟩), .pointer (some ⟨w.heap.size, 4, none⟩), .int .i64 pitch, .int .i64 (pitch / 2), .pointer (some ⟨w.heap.size, 0, none⟩), .pointer (some ⟨w.heap.size, 13, none⟩), .slice da k dc, .int .i64 k, .int .i64 k, .bool false, u22, u23, u24, u25, u26, u27, u28, u29, u30, u31, u32, u33, u34, u35, .pointer (some ⟨w.heap.size, 0, none⟩), .pointer (some ⟨w.heap.size, 13, none⟩), .slice da k dc, .func (.func 100) #[] #[.pointer (some ⟨wr.heap.size, 0, none⟩)], .int .i64 x.1, .agg #[.int .i64 x.2.time, .int .i64 x.2.lo, .int .i64 x.2.hi], undef, undef, undef, undef, undef, undef, undef, undef, undef, undef, undef, undef, undef], defers := [] })
        (fun x a' => Own.from (fun s A B row hs hg hr => by obtain ⟨Bx, ⟨h1, h2, h3, h4⟩, he⟩ := hs; exact ⟨Bx, ⟨h1, cell_kept h2 hg hr, cell_kept h3 hg hr, cell_kept h4 hg hr⟩, he⟩) _) ?assign ?body ?done ?stop
      case hKb =>
        intro W l o o' hl ho h1 h2
        have hne : wr.heap.size ≠ l := by simp at hl; omega
        exact ⟨belowK_b (w := w) (Nat.le_refl _) W l o o' (by simp at hl; omega) ho h1 h2, put_other hne⟩
      case h0 => exact ⟨⟨(alloc_cell (by omega)).trans v0, (alloc_cell (by omega)).trans v2, (alloc_cell (by omega)).trans v3, (alloc_frozen (by omega)).trans v4, by simp⟩, hbx.alloc (by omega) _⟩
      case assign =>
        rintro l pre x W K ⟨⟨i1, i2, i3, i4, i5⟩, hB⟩ hK
        gi_wp2
        exact hK _ _ ((KeepsOthers.alloc _ _).from _) ⟨(Below.refl _ W).alloc hB.size _, alloc_cell i5⟩
          ⟨⟨(alloc_cell (by omega)).trans i1, (alloc_cell (by omega)).trans i2, (alloc_cell (by omega)).trans i3, (alloc_frozen (by omega)).trans i4, by simp; omega⟩, hB.alloc hB.size _⟩
          ⟨W.heap.size, ⟨by omega, by simp, by simp, by simp⟩, rfl⟩
      case body =>
        rintro l pre x a' W hl hloop ⟨⟨i1, i2, i3, i4, i5⟩, hB⟩ ⟨Bx, ⟨x1, x2, x3, x4⟩, rfl⟩ hlt
        gi_wp2
        · have ht : drift + jitter ≤ x.2.time := by assumption
          exact ⟨(KeepsOthers.setCell _ _ _).from _, ⟨(Below.refl w.heap.size W).setCell (p := ⟨_, _, _⟩) (by simp; omega) _, set_other (by omega)⟩, ⟨(set_other (by omega)).trans i1, (set_other (by omega)).trans i2, by rw [hiOf_snoc, if_pos ht]; exact World.cell?_setCell_same' _ _ _ (by rw [i3]; rfl), by rw [World.frozen?_setCell]; exact i4, by simpa [World.setCell] using i5⟩, hB.setCell (p := ⟨_, _, _⟩) (by simp; omega) _⟩
        · have ht : ¬ drift + jitter ≤ x.2.time := by omega
          exact ⟨KeepsFrom.refl _ _, ⟨Below.refl _ _, rfl⟩, ⟨i1, i2, by rw [hiOf_snoc, if_neg ht]; exact i3, i4, i5⟩, hB⟩
      case done =>
        rintro D ys W hD rfl ⟨⟨i1, i2, i3, i4, i5⟩, hB⟩ hK
        have hv : hiOf (drift + jitter) (pitch / 2) (upto (backAt k ds) k) = RH k := by
          have : ∀ m, hiOf (drift + jitter) (pitch / 2) (upto (backAt k ds) m) = RH m := by
            intro m
            induction m with
            | zero => rw [HH0.out]; rfl
            | succ m ih => rw [upto_succ, hiOf_snoc, ih, HH.out]; rfl
          exact this k
        rw [hv] at i3
        clear hv
        go_wp2
        go_quiet (fail)
        go_wp2
        have hK' : (W.drewN nq).heap[D]? = some (.deferred (some [])) := hK
        refine ⟨by simp, .inl ⟨_, _, rfl, run_takeDeferred hK', ?_⟩⟩
        exact ⟨_, results_tmp2 rfl _ _ _, rfl, (below_drewN hB nq).trans (belowK_b (w := w) (Nat.le_refl _) (W.drewN nq) D _ _ (by simp at hD; omega) hK' rfl rfl)⟩
      case stop =>
        rintro D c pre W _ _ h _
        exact h.elim
end Go.Proofs.YtegimepmccilfaaGreatDoor
