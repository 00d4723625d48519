/- The walk of image.with. -/
import Derived.Test.YtaocbfhokadppaaDoorGhA
import Derived.Deep.RegionLawGrows
namespace Go.Proofs.YtaocbfhokadppaaDoor
open Go.RowKit
set_option linter.unusedVariables false
set_option linter.unusedSimpArgs false
/-- a box that is new, as 'with' hands it back -/
def WithRes (w : World) (n : Nat) (f : Nat → SV) (e : Ending) (w' : World) : Prop := ∃ a c, e = .returned (.slice a n c) ∧ NewSpans w w' a n f ∧ n ≤ c ∧ c ≤ maxLen ∧ Below w.heap.size w w'
theorem with_list (box : Nat → SV) (k n : Nat) (lo hi : Int) (hk : k < n) : sC box k ++ [.int .i64 lo, .int .i64 hi] ++ sC (fun i => box (k + 1 + i)) (n - (k + 1)) = sC (setBox box k ⟨lo, hi⟩) n := by
  have h1 : ([.int .i64 lo, .int .i64 hi] : List Value) = sC (fun _ => ⟨lo, hi⟩) 1 := rfl
  rw [h1, sC_cat, sC_cat, show k + 1 + (n - (k + 1)) = n by omega]
  refine sC_congr (fun i hi => ?_)
  unfold setBox
  by_cases e : i < k + 1
  · rw [if_pos e]
    by_cases e2 : i < k
    · rw [if_pos e2, if_neg (by omega)]
    · rw [if_neg e2, if_pos (by omega)]
  · rw [if_neg e, if_neg (by omega), show k + 1 + (i - (k + 1)) = i by omega]
theorem with_done {w W : World} {base : Nat} {v : Value} {n : Nat} {f : Nat → SV} (h : W.ownsRow base 60 2 v n (sC f n)) (hb : w.heap.size ≤ base) (hn : 0 < n) (hB : Below w.heap.size w W) : WithRes w n f (.returned v) W := by
  obtain ⟨a, c, rfl⟩ := own_len h
  refine ⟨a, c, rfl, own_spans h hb hn, ?_, ?_, hB⟩
  · rcases h.2 with ⟨_, h0⟩ | ⟨g, cap, cur, hv, _, _, hnc, hcm, _⟩
    · omega
    · injection hv with _ _ h3
      omega
  · rcases h.2 with ⟨_, h0⟩ | ⟨g, cap, cur, hv, _, _, hnc, hcm, _⟩
    · omega
    · injection hv with _ _ h3
      omega
set_option maxRecDepth 100000 in
set_option maxHeartbeats 2000000 in
theorem with_any (xa : Option Addr) (n xc : Nat) (box : Nat → SV) (k : Nat) (lo hi : Int) (hk : k < n) (hn : n ≤ 40) (hc : n ≤ xc) (hcm : xc ≤ maxLen) (w : World) (hX : Spans w.heap.size w xa n box) :
    Calls Tryd.prog 67 #[.slice xa n xc, .int .i64 (k : Int), .agg #[.int .i64 lo, .int .i64 hi]] w (WithRes w n (setBox box k ⟨lo, hi⟩)) := by
  obtain ⟨b, off, rfl, hbz, _⟩ := hX.get hk
  have hcell : ∀ i, i < n → w.cell? ⟨b, off + i * 2, none⟩ = some (.int .i64 (box i).lo) ∧ w.cell? ⟨b, off + i * 2 + 1, none⟩ = some (.int .i64 (box i).hi) := by
    rcases hX.2 with h | ⟨b2, off2, h1, _, h3⟩
    · omega
    · injection h1 with h1
      injection h1 with e1 e2
      subst e1 e2
      exact h3
  have HCL := Lib.hid hcell
  have hkn : (k : Int) < (n : Int) := by omega
  have hkc : (k : Int) < (xc : Int) := by omega
  have hcm' := hcm
  unfold maxLen at hcm
  have hkx : k ≤ xc := by omega
  have hk1 : k + 1 ≤ n := hk
  have hk2 : (0 : Int) ≤ (k : Int) + 1 := by omega
  have hk3 : ((k : Int) + 1).toNat = k + 1 := by omega
  have hk4 : (k : Int) + 1 ≤ (n : Int) := by omega
  clear hX hcell
  go_enter Tryd.func67, Tryd.ntmps67
  go_upto_region 1 with (fail)
  have HB1 := Lib.hid (alloc_below w (.cells #[.int .i64 lo, .int .i64 hi] 60))
  have d0 : (w.alloc (.cells #[.int .i64 lo, .int .i64 hi] 60)).drew.cell? ⟨w.heap.size, 0, none⟩ = some (.int .i64 lo) := cell_of_row _ _ _ _ _ _ (heap_alloc_new w _)
  have d1 : (w.alloc (.cells #[.int .i64 lo, .int .i64 hi] 60)).drew.cell? ⟨w.heap.size, 1, none⟩ = some (.int .i64 hi) := cell_of_row _ _ _ _ _ _ (heap_alloc_new w _)
  have HB2 := Lib.hid (show Below w.heap.size w (w.alloc (.cells #[.int .i64 lo, .int .i64 hi] 60)).drew from HB1.out.drew)
  obtain ⟨i0, hi0', hz0, hz1, hz2⟩ := info_parts info_span
  refine wp_region_any (by kernel_rfl) ?_
  change wpAny _ _ _ _ _ _ _ (World.drew (World.alloc w _))
  generalize World.drew (World.alloc w _) = wd at *
  refine any_of_tail 12 12 (fun w' => w'.cell? ⟨w.heap.size, 0, none⟩ = some (.int .i64 lo) ∧ w'.cell? ⟨w.heap.size, 1, none⟩ = some (.int .i64 hi)) (by kernel_rfl) ⟨d0, d1⟩ (fun hS => ?_)
  refine headH_take (i := 0) (v := ?_) rfl (by kernel_rfl) (fun _ _ _ h => h) (Or.inl ⟨by rfl, ?_⟩) (by assumption) ?_; rotate_left; (· intro w' hSw; (try dsimp only at hSw); (try obtain ⟨hSw1, hSw2⟩ := hSw); go_simp; (try with_reducible rfl)); (try dsimp only [Act.put]); (try simp only [List.setIfInBounds_toArray, List.set_cons_zero, List.set_cons_succ])
  refine headH_take (i := 1) (v := ?_) rfl (by kernel_rfl) (fun _ _ _ h => h) (Or.inl ⟨by rfl, ?_⟩) (by assumption) ?_; rotate_left; (· intro w' hSw; (try dsimp only at hSw); (try obtain ⟨hSw1, hSw2⟩ := hSw); go_simp; (try with_reducible rfl)); (try dsimp only [Act.put]); (try simp only [List.setIfInBounds_toArray, List.set_cons_zero, List.set_cons_succ])
  refine headH_take (i := 2) (v := ?_) rfl (by kernel_rfl) (fun _ _ _ h => h) (Or.inl ⟨by rfl, ?_⟩) (by assumption) ?_; rotate_left; (· intro w' hSw; (try dsimp only at hSw); (try obtain ⟨hSw1, hSw2⟩ := hSw); go_simp; (try with_reducible rfl)); (try dsimp only [Act.put]); (try simp only [List.setIfInBounds_toArray, List.set_cons_zero, List.set_cons_succ])
  refine headH_take (i := 3) (v := ?_) rfl (by kernel_rfl) (fun _ _ _ h => h) (Or.inl ⟨by rfl, ?_⟩) (by assumption) ?_; rotate_left; (· intro w' hSw; (try dsimp only at hSw); (try obtain ⟨hSw1, hSw2⟩ := hSw); go_simp; (try with_reducible rfl)); (try dsimp only [Act.put]); (try simp only [List.setIfInBounds_toArray, List.set_cons_zero, List.set_cons_succ])
  refine headH_take (i := 4) (v := ?_) rfl (by kernel_rfl) (fun _ _ _ h => h) (Or.inl ⟨by rfl, ?_⟩) (by assumption) ?_; rotate_left; (· intro w' hSw; (try dsimp only at hSw); (try obtain ⟨hSw1, hSw2⟩ := hSw); go_simp; (try with_reducible rfl)); (try dsimp only [Act.put]); (try simp only [List.setIfInBounds_toArray, List.set_cons_zero, List.set_cons_succ])
  refine headH_take (i := 7) (v := ?_) rfl (by kernel_rfl) (fun _ _ _ h => h) (Or.inl ⟨by rfl, ?_⟩) (by assumption) ?_; rotate_left; (· intro w' hSw; (try dsimp only at hSw); (try obtain ⟨hSw1, hSw2⟩ := hSw); go_simp; (try with_reducible rfl)); (try dsimp only [Act.put]); (try simp only [List.setIfInBounds_toArray, List.set_cons_zero, List.set_cons_succ])
  refine headH_take (i := 8) (v := ?_) rfl (by kernel_rfl) (fun _ _ _ h => h) (Or.inl ⟨by rfl, ?_⟩) (by assumption) ?_; rotate_left; (· intro w' hSw; (try dsimp only at hSw); (try obtain ⟨hSw1, hSw2⟩ := hSw); go_simp; (try with_reducible rfl)); (try dsimp only [Act.put]); (try simp only [List.setIfInBounds_toArray, List.set_cons_zero, List.set_cons_succ])
  have hwr : IntKind.i64.wrap ((k : Int) + 1) = (k : Int) + 1 := IntWalk.i64_in _ (by omega)
  refine headH_take (i := 9) (v := ?_) rfl (by kernel_rfl) (fun _ _ _ h => h) (Or.inl ⟨by rfl, ?_⟩) (by assumption) ?_; rotate_left; (· intro w' hSw; (try dsimp only at hSw); (try obtain ⟨hSw1, hSw2⟩ := hSw); go_simp; (try with_reducible rfl)); (try dsimp only [Act.put]); (try simp only [List.setIfInBounds_toArray, List.set_cons_zero, List.set_cons_succ])
  clear hwr
  refine headH_take (i := 10) (v := ?_) rfl (by kernel_rfl) (fun _ _ _ h => h) (Or.inl ⟨by rfl, ?_⟩) (by assumption) ?_; rotate_left; (· intro w' hSw; (try dsimp only at hSw); (try obtain ⟨hSw1, hSw2⟩ := hSw); go_simp; (try with_reducible rfl)); (try dsimp only [Act.put]); (try simp only [List.setIfInBounds_toArray, List.set_cons_zero, List.set_cons_succ])
  refine headH_all (rs := [5]) (by kernel_rfl) (by simp) (by kernel_rfl) ?_; intro i0 hi0; simp only [List.mem_cons, List.not_mem_nil, or_false] at hi0
  subst hi0
  refine headH_op rfl (fun K hK => ?_)
  go_simp
  have HN := Lib.hid (show ∀ j u, ([.int .i64 lo, .int .i64 hi] : List Value)[j]? = some u → (wd.alloc (.cells #[.int .i64 lo, .int .i64 hi] 60)).cell? ((⟨wd.heap.size, 0, none⟩ : Addr).add j) = some u from cells_new (xs := [.int .i64 lo, .int .i64 hi]))
  have HB3 := Lib.hid (HB2.out.trans ((alloc_below wd (.cells #[.int .i64 lo, .int .i64 hi] 60)).mono HB2.out.size))
  have hwz : w.heap.size < wd.heap.size := World.block_lt_of_cell? wd _ d0
  have e0 := ((bcell (alloc_below wd (.cells #[.int .i64 lo, .int .i64 hi] 60))).1 _ _ hwz).trans d0
  have e1 := ((bcell (alloc_below wd (.cells #[.int .i64 lo, .int .i64 hi] 60))).1 _ _ hwz).trans d1
  have hV1 : w.heap.size < (wd.alloc (.cells #[.int .i64 lo, .int .i64 hi] 60)).heap.size := by simp; omega
  clear HB2 HB1 hS
  generalize World.alloc wd _ = V1 at *
  generalize wd.heap.size = nb at *
  refine hK.out _ _ ⟨e0, e1⟩ (fun hS1 => ?_)
  clear hK K
  (try dsimp only [Act.put]); (try simp only [List.setIfInBounds_toArray, List.set_cons_zero, List.set_cons_succ])
  refine headH_all (rs := [6]) (by kernel_rfl) (by simp) (by kernel_rfl) ?_; intro i0 hi0; simp only [List.mem_cons, List.not_mem_nil, or_false] at hi0
  subst hi0
  refine headH_op rfl (fun K hK => ?_)
  refine step_append_grows rfl _ _ 22 rfl 60 i0 _ 2 16 Tryd.underlying22 hi0' hz0 hz1 hz2 rfl (by decide) (some ⟨b, off, none⟩) k k (sC box k) rfl (fun h => by cases h) sC_len (fun b' hb' => by
    injection hb' with hb'
    subst hb'
    exact spans_cells (fun i hi => ⟨((bcell HB3.out).1 _ _ hbz).trans (HCL.out i (by omega)).1, ((bcell HB3.out).1 _ _ hbz).trans (HCL.out i (by omega)).2⟩)) ⟨nb, 0, none⟩ 1 1 [.int .i64 lo, .int .i64 hi] rfl rfl HN.out (by intro u hu; simp at hu; rcases hu with rfl | rfl <;> rfl) (by omega) (by unfold maxLen; omega) (by omega) ?_
  intro v1 V2 hown1 hgrow1
  have HO1 := Lib.hid hown1
  have HB4 := Lib.hid (show Below w.heap.size w V2 from HB3.out.grown hgrow1 HB3.out.size (fun k e => by cases e))
  have e2 := (World.cell?_of_block (hgrow1.block w.heap.size hV1 (by simp))).trans e0
  have e3 := (World.cell?_of_block (hgrow1.block w.heap.size hV1 (by simp))).trans e1
  have hz4 : V1.heap.size ≤ V2.heap.size := hgrow1.size
  clear hown1 hgrow1 HB3 HN hS1
  refine hK.out _ _ ⟨e2, e3⟩ (fun hS2 => ?_)
  clear hK K
  (try dsimp only [Act.put]); (try simp only [List.setIfInBounds_toArray, List.set_cons_zero, List.set_cons_succ])
  refine headH_all (rs := [11]) (by kernel_rfl) (by simp) (by kernel_rfl) ?_; intro i0 hi0; simp only [List.mem_cons, List.not_mem_nil, or_false] at hi0
  subst hi0
  refine headH_op rfl (fun K hK => ?_)
  refine step_append_src rfl _ _ 22 rfl V1.heap.size 60 i0 _ 2 16 Tryd.underlying22 hi0' hz0 hz1 hz2 rfl (by decide) v1 (k + 1) _ rfl HO1.out _ (n - (k + 1)) _ (sC (fun i => box (k + 1 + i)) (n - (k + 1))) rfl sC_len ?hsrc sC_one (by unfold maxLen; omega) (by omega) hz4 ?_
  case hsrc =>
    by_cases hcap : xc = k + 1
    · left; omega
    right
    refine ⟨⟨b, off + (k + 1) * 2, none⟩, by simp; omega, spans_cells (fun i hi => ?_)⟩
    have h1 := HCL.out (k + 1 + i) (by omega)
    have c := (bcell HB4.out).1
    refine ⟨?_, ?_⟩
    · rw [show off + (k + 1) * 2 + i * 2 = off + (k + 1 + i) * 2 by omega]; exact (c _ _ hbz).trans h1.1
    · rw [show off + (k + 1) * 2 + i * 2 + 1 = off + (k + 1 + i) * 2 + 1 by omega]; exact (c _ _ hbz).trans h1.2
  intro v2 V3 hown2 hgrow2
  rw [with_list box k n lo hi hk, show k + 1 + (n - (k + 1)) = n by omega] at hown2; have HB5 := Lib.hid (show Below w.heap.size w V3 from HB4.out.grown hgrow2 HB4.out.size (fun k e => by have := (HO1.out.lt k e).1; omega)); have HWR := Lib.hid (with_done (w := w) hown2 (by omega) (by omega) HB5.out); have e4 := (World.cell?_of_block (hgrow2.block w.heap.size (by omega) (fun e => by have := (HO1.out.lt w.heap.size e.symm).1; omega))).trans e2; have e5 := (World.cell?_of_block (hgrow2.block w.heap.size (by omega) (fun e => by have := (HO1.out.lt w.heap.size e.symm).1; omega))).trans e3; clear hown2 hgrow2; refine hK.out _ _ ⟨e4, e5⟩ (fun hS3 => ?_); clear hK K; (try dsimp only [Act.put]); (try simp only [List.setIfInBounds_toArray, List.set_cons_zero, List.set_cons_succ]); change tailL _ _ _ _ _ _ _ _; refine ⟨by kernel_rfl, ?_⟩; simp only [List.drop_succ_cons, List.drop_zero]; go_wp2; all_goals (go_ret; exact HWR.out)
end Go.Proofs.YtaocbfhokadppaaDoor
