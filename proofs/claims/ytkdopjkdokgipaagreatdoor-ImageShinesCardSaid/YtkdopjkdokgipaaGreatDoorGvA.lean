/- Texts put together: ImWith, ImPart. -/
import Derived.Test.YtkdopjkdokgipaaGreatDoorGhA
import Derived.Deep.RegionLawGrows
import Derived.Laws.ResultCell
namespace Go.Proofs.YtkdopjkdokgipaaGreatDoor
open Go.RowKit
set_option linter.unusedVariables false
set_option linter.unusedSimpArgs false
/-- a box that is new, as 'with' hands it back -/
def WithRes (w : World) (n : Nat) (f : Nat → SV) (e : Ending) (w' : World) : Prop := ∃ a c, e = .returned (.slice a n c) ∧ NewSpans w w' a n f ∧ n ≤ c ∧ c ≤ maxLen ∧ Below w.heap.size w w'
theorem with_list (box : Nat → SV) (k n : Nat) (lo hi : Int) (hk : k < n) : sC box k ++ [.int .i64 lo, .int .i64 hi] ++ sC (fun i => box (k + 1 + i)) (n - (k + 1)) = sC (setBox box k ⟨lo, hi⟩) n := by
  have h1 : ([.int .i64 lo, .int .i64 hi] : List Value) = sC (fun _ => ⟨lo, hi⟩) 1 := rfl
  rw [h1, sC_cat, sC_cat, show k + 1 + (n - (k + 1)) = n by omega]
  refine sC_congr (fun i hi => ?_)
  unfold setBox
  by_cases e : i < k + 1
  · rw [if_pos e]
    by_cases e2 : i < k
    · rw [if_pos e2, if_neg (by omega)]
    · rw [if_neg e2, if_pos (by omega)]
  · rw [if_neg e, if_neg (by omega), show k + 1 + (i - (k + 1)) = i by omega]
theorem with_done {w W : World} {base : Nat} {v : Value} {n : Nat} {f : Nat → SV} (h : W.ownsRow base 28 2 v n (sC f n)) (hb : w.heap.size ≤ base) (hn : 0 < n) (hB : Below w.heap.size w W) : WithRes w n f (.returned v) W := by
  obtain ⟨a, c, rfl⟩ := own_len h
  refine ⟨a, c, rfl, own_spans h hb hn, ?_, ?_, hB⟩
  · rcases h.2 with ⟨_, h0⟩ | ⟨g, cap, cur, hv, _, _, hnc, hcm, _⟩
    · omega
    · injection hv with _ _ h3
      omega
  · rcases h.2 with ⟨_, h0⟩ | ⟨g, cap, cur, hv, _, _, hnc, hcm, _⟩
    · omega
    · injection hv with _ _ h3
      omega
set_option maxRecDepth 100000 in
set_option maxHeartbeats 2000000 in
theorem with_any (xa : Option Addr) (n xc : Nat) (box : Nat → SV) (k : Nat) (lo hi : Int) (hk : k < n) (hn : n ≤ 40) (hc : n ≤ xc) (hcm : xc ≤ maxLen) (w : World) (hX : Spans w.heap.size w xa n box) :
    Calls Tryz.prog 96 #[.slice xa n xc, .int .i64 (k : Int), .agg #[.int .i64 lo, .int .i64 hi]] w (WithRes w n (setBox box k ⟨lo, hi⟩)) := by
  obtain ⟨b, off, rfl, hbz, _⟩ := hX.get hk
  have hcell : ∀ i, i < n → w.cell? ⟨b, off + i * 2, none⟩ = some (.int .i64 (box i).lo) ∧ w.cell? ⟨b, off + i * 2 + 1, none⟩ = some (.int .i64 (box i).hi) := by
    rcases hX.2 with h | ⟨b2, off2, h1, _, h3⟩
    · omega
    · injection h1 with h1
      injection h1 with e1 e2
      subst e1 e2
      exact h3
  have HCL := Lib.hid hcell
  have hkn : (k : Int) < (n : Int) := by omega
  have hkc : (k : Int) < (xc : Int) := by omega
  have hcm' := hcm
  unfold maxLen at hcm
  have hkx : k ≤ xc := by omega
  have hk1 : k + 1 ≤ n := hk
  have hk2 : (0 : Int) ≤ (k : Int) + 1 := by omega
  have hk3 : ((k : Int) + 1).toNat = k + 1 := by omega
  have hk4 : (k : Int) + 1 ≤ (n : Int) := by omega
  clear hX hcell
  go_enter Tryz.func96, Tryz.ntmps96
  go_upto_region 1 with (fail)
  have HB1 := Lib.hid (alloc_below w (.cells #[.int .i64 lo, .int .i64 hi] 28))
  have d0 : (w.alloc (.cells #[.int .i64 lo, .int .i64 hi] 28)).drew.cell? ⟨w.heap.size, 0, none⟩ = some (.int .i64 lo) := cell_of_row _ _ _ _ _ _ (heap_alloc_new w _)
  have d1 : (w.alloc (.cells #[.int .i64 lo, .int .i64 hi] 28)).drew.cell? ⟨w.heap.size, 1, none⟩ = some (.int .i64 hi) := cell_of_row _ _ _ _ _ _ (heap_alloc_new w _)
  have HB2 := Lib.hid (show Below w.heap.size w (w.alloc (.cells #[.int .i64 lo, .int .i64 hi] 28)).drew from HB1.out.drew)
  obtain ⟨i0, hi0', hz0, hz1, hz2⟩ := info_parts info_span
  refine wp_region_any (by kernel_rfl) ?_
  change wpAny _ _ _ _ _ _ _ (World.drew (World.alloc w _))
  generalize World.drew (World.alloc w _) = wd at *
  refine any_of_tail 12 12 (fun w' => w'.cell? ⟨w.heap.size, 0, none⟩ = some (.int .i64 lo) ∧ w'.cell? ⟨w.heap.size, 1, none⟩ = some (.int .i64 hi)) (by kernel_rfl) ⟨d0, d1⟩ (fun hS => ?_)
  refine headH_take (i := 0) (v := ?_) rfl (by kernel_rfl) (fun _ _ _ h => h) (Or.inl ⟨by rfl, ?_⟩) (by assumption) ?_; rotate_left; (· intro w' hSw; (try dsimp only at hSw); (try obtain ⟨hSw1, hSw2⟩ := hSw); go_simp; (try with_reducible rfl)); (try dsimp only [Act.put]); (try simp only [List.setIfInBounds_toArray, List.set_cons_zero, List.set_cons_succ])
  refine headH_take (i := 1) (v := ?_) rfl (by kernel_rfl) (fun _ _ _ h => h) (Or.inl ⟨by rfl, ?_⟩) (by assumption) ?_; rotate_left; (· intro w' hSw; (try dsimp only at hSw); (try obtain ⟨hSw1, hSw2⟩ := hSw); go_simp; (try with_reducible rfl)); (try dsimp only [Act.put]); (try simp only [List.setIfInBounds_toArray, List.set_cons_zero, List.set_cons_succ])
  refine headH_take (i := 2) (v := ?_) rfl (by kernel_rfl) (fun _ _ _ h => h) (Or.inl ⟨by rfl, ?_⟩) (by assumption) ?_; rotate_left; (· intro w' hSw; (try dsimp only at hSw); (try obtain ⟨hSw1, hSw2⟩ := hSw); go_simp; (try with_reducible rfl)); (try dsimp only [Act.put]); (try simp only [List.setIfInBounds_toArray, List.set_cons_zero, List.set_cons_succ])
  refine headH_take (i := 3) (v := ?_) rfl (by kernel_rfl) (fun _ _ _ h => h) (Or.inl ⟨by rfl, ?_⟩) (by assumption) ?_; rotate_left; (· intro w' hSw; (try dsimp only at hSw); (try obtain ⟨hSw1, hSw2⟩ := hSw); go_simp; (try with_reducible rfl)); (try dsimp only [Act.put]); (try simp only [List.setIfInBounds_toArray, List.set_cons_zero, List.set_cons_succ])
  refine headH_take (i := 4) (v := ?_) rfl (by kernel_rfl) (fun _ _ _ h => h) (Or.inl ⟨by rfl, ?_⟩) (by assumption) ?_; rotate_left; (· intro w' hSw; (try dsimp only at hSw); (try obtain ⟨hSw1, hSw2⟩ := hSw); go_simp; (try with_reducible rfl)); (try dsimp only [Act.put]); (try simp only [List.setIfInBounds_toArray, List.set_cons_zero, List.set_cons_succ])
  refine headH_take (i := 7) (v := ?_) rfl (by kernel_rfl) (fun _ _ _ h => h) (Or.inl ⟨by rfl, ?_⟩) (by assumption) ?_; rotate_left; (· intro w' hSw; (try dsimp only at hSw); (try obtain ⟨hSw1, hSw2⟩ := hSw); go_simp; (try with_reducible rfl)); (try dsimp only [Act.put]); (try simp only [List.setIfInBounds_toArray, List.set_cons_zero, List.set_cons_succ])
  refine headH_take (i := 8) (v := ?_) rfl (by kernel_rfl) (fun _ _ _ h => h) (Or.inl ⟨by rfl, ?_⟩) (by assumption) ?_; rotate_left; (· intro w' hSw; (try dsimp only at hSw); (try obtain ⟨hSw1, hSw2⟩ := hSw); go_simp; (try with_reducible rfl)); (try dsimp only [Act.put]); (try simp only [List.setIfInBounds_toArray, List.set_cons_zero, List.set_cons_succ])
  have hwr : IntKind.i64.wrap ((k : Int) + 1) = (k : Int) + 1 := IntWalk.i64_in _ (by omega)
  refine headH_take (i := 9) (v := ?_) rfl (by kernel_rfl) (fun _ _ _ h => h) (Or.inl ⟨by rfl, ?_⟩) (by assumption) ?_; rotate_left; (· intro w' hSw; (try dsimp only at hSw); (try obtain ⟨hSw1, hSw2⟩ := hSw); go_simp; (try with_reducible rfl)); (try dsimp only [Act.put]); (try simp only [List.setIfInBounds_toArray, List.set_cons_zero, List.set_cons_succ])
  clear hwr
  refine headH_take (i := 10) (v := ?_) rfl (by kernel_rfl) (fun _ _ _ h => h) (Or.inl ⟨by rfl, ?_⟩) (by assumption) ?_; rotate_left; (· intro w' hSw; (try dsimp only at hSw); (try obtain ⟨hSw1, hSw2⟩ := hSw); go_simp; (try with_reducible rfl)); (try dsimp only [Act.put]); (try simp only [List.setIfInBounds_toArray, List.set_cons_zero, List.set_cons_succ])
  refine headH_all (rs := [5]) (by kernel_rfl) (by simp) (by kernel_rfl) ?_; intro i0 hi0; simp only [List.mem_cons, List.not_mem_nil, or_false] at hi0
  subst hi0
  refine headH_op rfl (fun K hK => ?_)
  go_simp
  have HN := Lib.hid (show ∀ j u, ([.int .i64 lo, .int .i64 hi] : List Value)[j]? = some u → (wd.alloc (.cells #[.int .i64 lo, .int .i64 hi] 28)).cell? ((⟨wd.heap.size, 0, none⟩ : Addr).add j) = some u from cells_new (xs := [.int .i64 lo, .int .i64 hi]))
  have HB3 := Lib.hid (HB2.out.trans ((alloc_below wd (.cells #[.int .i64 lo, .int .i64 hi] 28)).mono HB2.out.size))
  have hwz : w.heap.size < wd.heap.size := World.block_lt_of_cell? wd _ d0
  have e0 := ((bcell (alloc_below wd (.cells #[.int .i64 lo, .int .i64 hi] 28))).1 _ _ hwz).trans d0
  have e1 := ((bcell (alloc_below wd (.cells #[.int .i64 lo, .int .i64 hi] 28))).1 _ _ hwz).trans d1
  have hV1 : w.heap.size < (wd.alloc (.cells #[.int .i64 lo, .int .i64 hi] 28)).heap.size := by simp; omega
  clear HB2 HB1 hS
  generalize World.alloc wd _ = V1 at *
  generalize wd.heap.size = nb at *
  refine hK.out _ _ ⟨e0, e1⟩ (fun hS1 => ?_)
  clear hK K
  (try dsimp only [Act.put]); (try simp only [List.setIfInBounds_toArray, List.set_cons_zero, List.set_cons_succ])
  refine headH_all (rs := [6]) (by kernel_rfl) (by simp) (by kernel_rfl) ?_; intro i0 hi0; simp only [List.mem_cons, List.not_mem_nil, or_false] at hi0
  subst hi0
  refine headH_op rfl (fun K hK => ?_)
  refine step_append_grows rfl _ _ 46 rfl 28 i0 _ 2 16 Tryz.underlying46 hi0' hz0 hz1 hz2 rfl (by decide) (some ⟨b, off, none⟩) k k (sC box k) rfl (fun h => by cases h) sC_len (fun b' hb' => by
    injection hb' with hb'
    subst hb'
    exact spans_cells (fun i hi => ⟨((bcell HB3.out).1 _ _ hbz).trans (HCL.out i (by omega)).1, ((bcell HB3.out).1 _ _ hbz).trans (HCL.out i (by omega)).2⟩)) ⟨nb, 0, none⟩ 1 1 [.int .i64 lo, .int .i64 hi] rfl rfl HN.out (by intro u hu; simp at hu; rcases hu with rfl | rfl <;> rfl) (by omega) (by unfold maxLen; omega) (by omega) ?_
  intro v1 V2 hown1 hgrow1
  have HO1 := Lib.hid hown1
  have HB4 := Lib.hid (show Below w.heap.size w V2 from HB3.out.grown hgrow1 HB3.out.size (fun k e => by cases e))
  have e2 := (World.cell?_of_block (hgrow1.block w.heap.size hV1 (by simp))).trans e0
  have e3 := (World.cell?_of_block (hgrow1.block w.heap.size hV1 (by simp))).trans e1
  have hz4 : V1.heap.size ≤ V2.heap.size := hgrow1.size
  clear hown1 hgrow1 HB3 HN hS1
  refine hK.out _ _ ⟨e2, e3⟩ (fun hS2 => ?_)
  clear hK K
  (try dsimp only [Act.put]); (try simp only [List.setIfInBounds_toArray, List.set_cons_zero, List.set_cons_succ])
  refine headH_all (rs := [11]) (by kernel_rfl) (by simp) (by kernel_rfl) ?_; intro i0 hi0; simp only [List.mem_cons, List.not_mem_nil, or_false] at hi0
  subst hi0
  refine headH_op rfl (fun K hK => ?_)
  refine step_append_src rfl _ _ 46 rfl V1.heap.size 28 i0 _ 2 16 Tryz.underlying46 hi0' hz0 hz1 hz2 rfl (by decide) v1 (k + 1) _ rfl HO1.out _ (n - (k + 1)) _ (sC (fun i => box (k + 1 + i)) (n - (k + 1))) rfl sC_len ?hsrc sC_one (by unfold maxLen; omega) (by omega) hz4 ?_
  case hsrc =>
    by_cases hcap : xc = k + 1
    · left; omega
    right
    refine ⟨⟨b, off + (k + 1) * 2, none⟩, by simp; omega, spans_cells (fun i hi => ?_)⟩
    have h1 := HCL.out (k + 1 + i) (by omega)
    have c := (bcell HB4.out).1
    refine ⟨?_, ?_⟩
    · rw [show off + (k + 1) * 2 + i * 2 = off + (k + 1 + i) * 2 by omega]; exact (c _ _ hbz).trans h1.1
    · rw [show off + (k + 1) * 2 + i * 2 + 1 = off + (k + 1 + i) * 2 + 1 by omega]; exact (c _ _ hbz).trans h1.2
  intro v2 V3 hown2 hgrow2
  rw [with_list box k n lo hi hk, show k + 1 + (n - (k + 1)) = n by omega] at hown2; have HB5 := Lib.hid (show Below w.heap.size w V3 from HB4.out.grown hgrow2 HB4.out.size (fun k e => by have := (HO1.out.lt k e).1; omega)); have HWR := Lib.hid (with_done (w := w) hown2 (by omega) (by omega) HB5.out); have e4 := (World.cell?_of_block (hgrow2.block w.heap.size (by omega) (fun e => by have := (HO1.out.lt w.heap.size e.symm).1; omega))).trans e2; have e5 := (World.cell?_of_block (hgrow2.block w.heap.size (by omega) (fun e => by have := (HO1.out.lt w.heap.size e.symm).1; omega))).trans e3; clear hown2 hgrow2; refine hK.out _ _ ⟨e4, e5⟩ (fun hS3 => ?_); clear hK K; (try dsimp only [Act.put]); (try simp only [List.setIfInBounds_toArray, List.set_cons_zero, List.set_cons_succ]); change tailL _ _ _ _ _ _ _ _; refine ⟨by kernel_rfl, ?_⟩; simp only [List.drop_succ_cons, List.drop_zero]; go_wp2; all_goals (go_ret; exact HWR.out)
end Go.Proofs.YtkdopjkdokgipaaGreatDoor
namespace Go.Proofs.YtkdopjkdokgipaaGreatDoor
open Go.RowKit
set_option linter.unusedVariables false
set_option linter.unusedSimpArgs false
theorem NewSpans.step {w W W' : World} {a : Option Addr} {n : Nat} {f : Nat → SV} (h : NewSpans w W a n f) (hb : Below W.heap.size W W') : NewSpans w W' a n f := by
  obtain ⟨b, ha, h1, h2, h3⟩ := h
  have c := (bcell hb).1
  exact ⟨b, ha, h1, Nat.lt_of_lt_of_le h2 hb.size, fun i hi => ⟨(c _ _ h2).trans (h3 i hi).1, (c _ _ h2).trans (h3 i hi).2⟩⟩
theorem NewSpans.up {w0 w W : World} {a : Option Addr} {n : Nat} {f : Nat → SV} (h : NewSpans w W a n f) (hz : w0.heap.size ≤ w.heap.size) : NewSpans w0 W a n f := by
  obtain ⟨b, ha, h1, h2, h3⟩ := h
  exact ⟨b, ha, by omega, h2, h3⟩
theorem NewSpans.set {w W : World} {a : Option Addr} {n : Nat} {f : Nat → SV} (h : NewSpans w W a n f) {x o : Nat} (hx : x < w.heap.size) (v : Value) : NewSpans w (W.setCell ⟨x, o, none⟩ v) a n f := by
  obtain ⟨b, ha, h1, h2, h3⟩ := h
  have k : ∀ j, (W.setCell ⟨x, o, none⟩ v).cell? ⟨b, j, none⟩ = W.cell? ⟨b, j, none⟩ := fun j => World.cell?_of_block (heap_setCell_other W ⟨x, o, none⟩ b v (by show b ≠ x; omega))
  exact ⟨b, ha, h1, by simpa using h2, fun i hi => ⟨(k _).trans (h3 i hi).1, (k _).trans (h3 i hi).2⟩⟩
/-- the two parts of a box -/
def PartsRes (w : World) (n : Nat) (f g : Nat → SV) (e : Ending) (w' : World) : Prop := ∃ a1 c1 a2 c2, e = .returned (.agg #[.slice a1 n c1, .slice a2 n c2]) ∧ NewSpans w w' a1 n f ∧ NewSpans w w' a2 n g ∧ n ≤ c1 ∧ c1 ≤ maxLen ∧ n ≤ c2 ∧ c2 ≤ maxLen ∧ Below w.heap.size w w'
set_option maxRecDepth 100000 in
set_option maxHeartbeats 2000000 in
theorem parts_any (xa : Option Addr) (n xc : Nat) (box : Nat → SV) (k : Nat) (at_ : Int) (hk : k < n) (hn : n ≤ 40) (hc : n ≤ xc) (hcm : xc ≤ maxLen) (ha : 0 ≤ at_ ∧ at_ ≤ 1000) (w : World) (hX : Spans w.heap.size w xa n box) :
    Calls Tryz.prog 65 #[.agg #[.int .i64 (k : Int), .int .i64 at_], .slice xa n xc] w (PartsRes w n (setBox box k ⟨(box k).lo, at_⟩) (setBox box k ⟨at_ + 1, (box k).hi⟩)) := by
  obtain ⟨b, off, rfl, hbz, x0, x1⟩ := hX.get hk
  have HX := Lib.hid hX
  have hkn : (k : Int) < (n : Int) := by omega
  obtain ⟨lo, hlo⟩ : ∃ lo, lo = (box k).lo := ⟨_, rfl⟩
  obtain ⟨hi, hhi⟩ : ∃ hi, hi = (box k).hi := ⟨_, rfl⟩
  rw [← hlo] at x0 ⊢
  rw [← hhi] at x1 ⊢
  clear hX hlo hhi
  go_enter Tryz.func65, Tryz.ntmps65
  go_upto_region 2 with (fail)
  obtain ⟨hVb, hVz, e1, e2, e3⟩ := three_allocs w (.cells #[.int .i64 (k : Int), .int .i64 at_] 129) (.cells #[.slice none 0 0, .slice none 0 0] 130) (.cells #[.int .i64 lo, .int .i64 hi] 28)
  generalize World.alloc (World.alloc (World.alloc w _) _) _ = V at *
  have HBV := Lib.hid hVb.drew
  have HXV := Lib.hid (show Spans V.drew.heap.size V.drew (some ⟨b, off, none⟩) n box from (HX.out.below hVb.drew).up hVb.drew.size)
  have hWz : V.drew.heap.size = w.heap.size + 1 + 1 + 1 := hVz
  have E2 := Lib.hid (show V.drew.heap[w.heap.size + 1]? = _ from e2)
  have d0 : V.drew.cell? ⟨w.heap.size, 0, none⟩ = some (.int .i64 (k : Int)) := cell_of_row _ _ _ _ _ _ e1
  have d1 : V.drew.cell? ⟨w.heap.size, 1, none⟩ = some (.int .i64 at_) := cell_of_row _ _ _ _ _ _ e1
  have d2 : V.drew.cell? ⟨w.heap.size + 1 + 1, 0, none⟩ = some (.int .i64 lo) := cell_of_row _ _ _ _ _ _ e3
  have d3 : V.drew.cell? ⟨w.heap.size + 1 + 1, 1, none⟩ = some (.int .i64 hi) := cell_of_row _ _ _ _ _ _ e3
  clear e1 e2 e3 hVb hVz x0 x1
  refine wp_region_any (by kernel_rfl) ?_
  change wpAny _ _ _ _ _ _ _ (World.drew V)
  generalize World.drew V = Vd at *
  have hwr : IntKind.i64.wrap (at_ + 1) = at_ + 1 := IntWalk.i64_in _ (by omega)
  refine any_of_tail 20 20 (fun w' => w'.cell? ⟨w.heap.size, 0, none⟩ = some (.int .i64 (k : Int)) ∧ w'.cell? ⟨w.heap.size, 1, none⟩ = some (.int .i64 at_) ∧ w'.cell? ⟨w.heap.size + 1 + 1, 0, none⟩ = some (.int .i64 lo) ∧ w'.cell? ⟨w.heap.size + 1 + 1, 1, none⟩ = some (.int .i64 hi)) (by kernel_rfl) ⟨d0, d1, d2, d3⟩ (fun hS => ?_)
  refine headH_take (i := 0) (v := ?_) rfl (by kernel_rfl) (fun _ _ _ h => h) (Or.inl ⟨by rfl, ?_⟩) (by assumption) ?_; rotate_left; (· intro w' hSw; (try dsimp only at hSw); (try obtain ⟨hSw1, hSw2, hSw3, hSw4⟩ := hSw); go_simp; (try with_reducible rfl)); (try dsimp only [Act.put]); (try simp only [List.setIfInBounds_toArray, List.set_cons_zero, List.set_cons_succ])
  refine headH_take (i := 1) (v := ?_) rfl (by kernel_rfl) (fun _ _ _ h => h) (Or.inl ⟨by rfl, ?_⟩) (by assumption) ?_; rotate_left; (· intro w' hSw; (try dsimp only at hSw); (try obtain ⟨hSw1, hSw2, hSw3, hSw4⟩ := hSw); go_simp; (try with_reducible rfl)); (try dsimp only [Act.put]); (try simp only [List.setIfInBounds_toArray, List.set_cons_zero, List.set_cons_succ])
  refine headH_take (i := 2) (v := ?_) rfl (by kernel_rfl) (fun _ _ _ h => h) (Or.inl ⟨by rfl, ?_⟩) (by assumption) ?_; rotate_left; (· intro w' hSw; (try dsimp only at hSw); (try obtain ⟨hSw1, hSw2, hSw3, hSw4⟩ := hSw); go_simp; (try with_reducible rfl)); (try dsimp only [Act.put]); (try simp only [List.setIfInBounds_toArray, List.set_cons_zero, List.set_cons_succ])
  refine headH_take (i := 3) (v := ?_) rfl (by kernel_rfl) (fun _ _ _ h => h) (Or.inl ⟨by rfl, ?_⟩) (by assumption) ?_; rotate_left; (· intro w' hSw; (try dsimp only at hSw); (try obtain ⟨hSw1, hSw2, hSw3, hSw4⟩ := hSw); go_simp; (try with_reducible rfl)); (try dsimp only [Act.put]); (try simp only [List.setIfInBounds_toArray, List.set_cons_zero, List.set_cons_succ])
  refine headH_take (i := 4) (v := ?_) rfl (by kernel_rfl) (fun _ _ _ h => h) (Or.inl ⟨by rfl, ?_⟩) (by assumption) ?_; rotate_left; (· intro w' hSw; (try dsimp only at hSw); (try obtain ⟨hSw1, hSw2, hSw3, hSw4⟩ := hSw); go_simp; (try with_reducible rfl)); (try dsimp only [Act.put]); (try simp only [List.setIfInBounds_toArray, List.set_cons_zero, List.set_cons_succ])
  refine headH_take (i := 5) (v := ?_) rfl (by kernel_rfl) (fun _ _ _ h => h) (Or.inl ⟨by rfl, ?_⟩) (by assumption) ?_; rotate_left; (· intro w' hSw; (try dsimp only at hSw); (try obtain ⟨hSw1, hSw2, hSw3, hSw4⟩ := hSw); go_simp; (try with_reducible rfl)); (try dsimp only [Act.put]); (try simp only [List.setIfInBounds_toArray, List.set_cons_zero, List.set_cons_succ])
  refine headH_take (i := 6) (v := ?_) rfl (by kernel_rfl) (fun _ _ _ h => h) (Or.inl ⟨by rfl, ?_⟩) (by assumption) ?_; rotate_left; (· intro w' hSw; (try dsimp only at hSw); (try obtain ⟨hSw1, hSw2, hSw3, hSw4⟩ := hSw); go_simp; (try with_reducible rfl)); (try dsimp only [Act.put]); (try simp only [List.setIfInBounds_toArray, List.set_cons_zero, List.set_cons_succ])
  refine headH_take (i := 7) (v := ?_) rfl (by kernel_rfl) (fun _ _ _ h => h) (Or.inl ⟨by rfl, ?_⟩) (by assumption) ?_; rotate_left; (· intro w' hSw; (try dsimp only at hSw); (try obtain ⟨hSw1, hSw2, hSw3, hSw4⟩ := hSw); go_simp; (try with_reducible rfl)); (try dsimp only [Act.put]); (try simp only [List.setIfInBounds_toArray, List.set_cons_zero, List.set_cons_succ])
  refine headH_take (i := 9) (v := ?_) rfl (by kernel_rfl) (fun _ _ _ h => h) (Or.inl ⟨by rfl, ?_⟩) (by assumption) ?_; rotate_left; (· intro w' hSw; (try dsimp only at hSw); (try obtain ⟨hSw1, hSw2, hSw3, hSw4⟩ := hSw); go_simp; (try with_reducible rfl)); (try dsimp only [Act.put]); (try simp only [List.setIfInBounds_toArray, List.set_cons_zero, List.set_cons_succ])
  refine headH_take (i := 10) (v := ?_) rfl (by kernel_rfl) (fun _ _ _ h => h) (Or.inl ⟨by rfl, ?_⟩) (by assumption) ?_; rotate_left; (· intro w' hSw; (try dsimp only at hSw); (try obtain ⟨hSw1, hSw2, hSw3, hSw4⟩ := hSw); go_simp; (try with_reducible rfl)); (try dsimp only [Act.put]); (try simp only [List.setIfInBounds_toArray, List.set_cons_zero, List.set_cons_succ])
  refine headH_take (i := 11) (v := ?_) rfl (by kernel_rfl) (fun _ _ _ h => h) (Or.inl ⟨by rfl, ?_⟩) (by assumption) ?_; rotate_left; (· intro w' hSw; (try dsimp only at hSw); (try obtain ⟨hSw1, hSw2, hSw3, hSw4⟩ := hSw); go_simp; (try with_reducible rfl)); (try dsimp only [Act.put]); (try simp only [List.setIfInBounds_toArray, List.set_cons_zero, List.set_cons_succ])
  refine headH_take (i := 12) (v := ?_) rfl (by kernel_rfl) (fun _ _ _ h => h) (Or.inl ⟨by rfl, ?_⟩) (by assumption) ?_; rotate_left; (· intro w' hSw; (try dsimp only at hSw); (try obtain ⟨hSw1, hSw2, hSw3, hSw4⟩ := hSw); go_simp; (try with_reducible rfl)); (try dsimp only [Act.put]); (try simp only [List.setIfInBounds_toArray, List.set_cons_zero, List.set_cons_succ])
  refine headH_take (i := 13) (v := ?_) rfl (by kernel_rfl) (fun _ _ _ h => h) (Or.inl ⟨by rfl, ?_⟩) (by assumption) ?_; rotate_left; (· intro w' hSw; (try dsimp only at hSw); (try obtain ⟨hSw1, hSw2, hSw3, hSw4⟩ := hSw); go_simp; (try with_reducible rfl)); (try dsimp only [Act.put]); (try simp only [List.setIfInBounds_toArray, List.set_cons_zero, List.set_cons_succ])
  refine headH_take (i := 14) (v := ?_) rfl (by kernel_rfl) (fun _ _ _ h => h) (Or.inl ⟨by rfl, ?_⟩) (by assumption) ?_; rotate_left; (· intro w' hSw; (try dsimp only at hSw); (try obtain ⟨hSw1, hSw2, hSw3, hSw4⟩ := hSw); go_simp; (try with_reducible rfl)); (try dsimp only [Act.put]); (try simp only [List.setIfInBounds_toArray, List.set_cons_zero, List.set_cons_succ])
  refine headH_take (i := 15) (v := ?_) rfl (by kernel_rfl) (fun _ _ _ h => h) (Or.inl ⟨by rfl, ?_⟩) (by assumption) ?_; rotate_left; (· intro w' hSw; (try dsimp only at hSw); (try obtain ⟨hSw1, hSw2, hSw3, hSw4⟩ := hSw); go_simp; (try with_reducible rfl)); (try dsimp only [Act.put]); (try simp only [List.setIfInBounds_toArray, List.set_cons_zero, List.set_cons_succ])
  refine headH_take (i := 16) (v := ?_) rfl (by kernel_rfl) (fun _ _ _ h => h) (Or.inl ⟨by rfl, ?_⟩) (by assumption) ?_; rotate_left; (· intro w' hSw; (try dsimp only at hSw); (try obtain ⟨hSw1, hSw2, hSw3, hSw4⟩ := hSw); go_simp; (try with_reducible rfl)); (try dsimp only [Act.put]); (try simp only [List.setIfInBounds_toArray, List.set_cons_zero, List.set_cons_succ])
  refine headH_take (i := 17) (v := ?_) rfl (by kernel_rfl) (fun _ _ _ h => h) (Or.inl ⟨by rfl, ?_⟩) (by assumption) ?_; rotate_left; (· intro w' hSw; (try dsimp only at hSw); (try obtain ⟨hSw1, hSw2, hSw3, hSw4⟩ := hSw); go_simp; (try with_reducible rfl)); (try dsimp only [Act.put]); (try simp only [List.setIfInBounds_toArray, List.set_cons_zero, List.set_cons_succ])
  clear hwr
  refine headH_all (rs := [8]) (by kernel_rfl) (by simp) (by kernel_rfl) ?_; intro i0 hi0; simp only [List.mem_cons, List.not_mem_nil, or_false] at hi0
  subst hi0
  refine headH_op rfl (fun K hK => ?_)
  go_simp
  go_at_call 96
  refine (with_any (some ⟨b, off, none⟩) n xc box k lo at_ hk hn hc hcm Vd HXV.out).mono ?_
  rintro e W2 ⟨a1, c1, rfl, hs1, hc1, hm1, hb1⟩
  dsimp only
  have HS1 := Lib.hid hs1
  have HB1 := Lib.hid hb1
  have HC1 := Lib.hid (And.intro hc1 hm1)
  have HXW := Lib.hid ((HXV.out.below hb1).up hb1.size)
  have HBW := Lib.hid (HBV.out.trans (hb1.mono (by omega)))
  refine hK.out _ _ ⟨((bcell hb1).1 _ _ (by omega)).trans d0, ((bcell hb1).1 _ _ (by omega)).trans d1, ((bcell hb1).1 _ _ (by omega)).trans d2, ((bcell hb1).1 _ _ (by omega)).trans d3⟩ (fun hS1 => ?_)
  have E3 := Lib.hid ((hb1.block (w.heap.size + 1) (by omega)).trans E2.out)
  have hWz2 := hb1.size
  clear hK K hs1 hb1 hc1 hm1 HXV HBV E2 hS d0 d1 d2 d3
  (try dsimp only [Act.put]); (try simp only [List.setIfInBounds_toArray, List.set_cons_zero, List.set_cons_succ])
  refine headH_all (rs := [18]) (by kernel_rfl) (by simp) (by kernel_rfl) ?_; intro i0 hi0; simp only [List.mem_cons, List.not_mem_nil, or_false] at hi0
  subst hi0
  refine headH_op rfl (fun K hK => ?_)
  go_simp
  go_at_call 96
  refine (with_any (some ⟨b, off, none⟩) n xc box k (at_ + 1) hi hk hn hc hcm W2 HXW.out).mono ?_
  rintro e W3 ⟨a2, c2, rfl, hs2, hc2, hm2, hb2⟩
  dsimp only
  have HS2 := Lib.hid hs2
  have HS1' := Lib.hid (HS1.out.step hb2)
  have hV1 : w.heap.size + 1 < Vd.heap.size := by omega
  have hV2 : w.heap.size + 1 < W2.heap.size := by omega
  have HC2 := Lib.hid (And.intro hc2 hm2)
  have HBE := Lib.hid (HBW.out.trans (hb2.mono (by omega)))
  obtain ⟨g0, g1, g2, g3⟩ := hS1
  refine hK.out _ _ ⟨((bcell hb2).1 _ _ (by omega)).trans g0, ((bcell hb2).1 _ _ (by omega)).trans g1, ((bcell hb2).1 _ _ (by omega)).trans g2, ((bcell hb2).1 _ _ (by omega)).trans g3⟩ (fun hS2 => ?_)
  have E4 := Lib.hid ((hb2.block (w.heap.size + 1) (by omega)).trans E3.out)
  have hWz3 := hb2.size
  clear hK K hs2 hb2 hc2 hm2 HXW HBW E3 HS1 g0 g1 g2 g3
  (try dsimp only [Act.put]); (try simp only [List.setIfInBounds_toArray, List.set_cons_zero, List.set_cons_succ])
  refine headH_take (i := 19) (v := ?_) rfl (by kernel_rfl) (fun _ _ _ h => h) (Or.inl ⟨by rfl, ?_⟩) (by assumption) ?_; rotate_left; (· intro w' hSw; (try dsimp only at hSw); (try obtain ⟨hSw1, hSw2, hSw3, hSw4⟩ := hSw); go_simp; (try with_reducible rfl)); (try dsimp only [Act.put]); (try simp only [List.setIfInBounds_toArray, List.set_cons_zero, List.set_cons_succ])
  change tailL _ _ _ _ _ _ _ _
  refine ⟨by kernel_rfl, ?_⟩
  simp only [List.drop_succ_cons, List.drop_zero]
  have m0 : W3.cell? ⟨w.heap.size + 1, 0, none⟩ = some (.slice none 0 0) := cell_of_row _ _ _ _ _ _ E4.out
  have m1 : W3.cell? ⟨w.heap.size + 1, 1, none⟩ = some (.slice none 0 0) := cell_of_row _ _ _ _ _ _ E4.out
  have f0 : W3.frozen? ⟨w.heap.size + 1, 0, none⟩ = false := frozen_of_row _ _ _ _ _ E4.out
  have f1 : W3.frozen? ⟨w.heap.size + 1, 1, none⟩ = false := frozen_of_row _ _ _ _ _ E4.out
  clear hS2
  go_wp2
  have q1 := heap_setCell_same W3 _ 0 _ _ (.slice a1 n c1) E4.out
  have q2 := heap_setCell_same _ _ 1 _ _ (.slice a2 n c2) q1
  have q3 := (HBE.out.setCell (p := ⟨w.heap.size + 1, 0, none⟩) (by show w.heap.size ≤ w.heap.size + 1; omega) (.slice a1 n c1)).setCell (p := ⟨w.heap.size + 1, 1, none⟩) (by show w.heap.size ≤ w.heap.size + 1; omega) (.slice a2 n c2)
  exact bodyPost_ret (results_cell_row rfl _ _ _ _ _ _ _ rfl q2 Tryz.underlying130 rfl (by kernel_rfl)) rfl ⟨a1, c1, a2, c2, rfl, ((HS1'.out.set hV1 _).set hV1 _).up (by omega), ((HS2.out.set hV2 _).set hV2 _).up (by omega), HC1.out.1, HC1.out.2, HC2.out.1, HC2.out.2, q3⟩
set_option maxRecDepth 100000 in
set_option maxHeartbeats 1000000 in
theorem divNode_any (c at_ r : Int) (w : World) :
    Calls Tryz.prog 155 #[.agg #[.int .i64 c, .int .i64 at_], .int .i64 r] w fun e w' => e = .returned (.agg #[.int .i64 c, .int .i64 at_, .int .i64 r, .slice none 0 0]) ∧ Below w.heap.size w w' := by
  go_enter Tryz.func155, Tryz.ntmps155
  go_wp2
  have q0 : ((w.alloc (.cells #[.int .i64 c, .int .i64 at_] 129)).alloc (.cells #[.int .i64 c, .int .i64 at_, .int .i64 r, .slice none 0 0] 76)).heap[w.heap.size + 1]? = some (.cells #[.int .i64 c, .int .i64 at_, .int .i64 r, .slice none 0 0] 76) := by
    have := heap_alloc_new (w.alloc (.cells #[.int .i64 c, .int .i64 at_] 129)) (.cells #[.int .i64 c, .int .i64 at_, .int .i64 r, .slice none 0 0] 76)
    rwa [show (w.alloc (.cells #[.int .i64 c, .int .i64 at_] 129)).heap.size = w.heap.size + 1 by simp] at this
  exact bodyPost_ret (results_cell_row rfl _ _ _ _ _ _ _ rfl q0 Tryz.underlying76 rfl (by kernel_rfl)) rfl ⟨rfl, ((Below.refl _ _).alloc (Nat.le_refl _) _).alloc (by simp) _⟩
set_option maxRecDepth 100000 in
set_option maxHeartbeats 1000000 in
theorem refNode_any (ta : Option Addr) (m tc : Nat) (r : Int) (w : World) :
    Calls Tryz.prog 156 #[.agg #[.slice ta m tc], .int .i64 r] w fun e w' => e = .returned (.agg #[.int .i64 (-1), .int .i64 0, .int .i64 0, .slice ta m tc]) ∧ Below w.heap.size w w' := by
  go_enter Tryz.func156, Tryz.ntmps156
  go_wp2
  have q0 : ((w.alloc (.cells #[.slice ta m tc] 133)).alloc (.cells #[.int .i64 (-1), .int .i64 0, .int .i64 0, .slice ta m tc] 76)).heap[w.heap.size + 1]? = some (.cells #[.int .i64 (-1), .int .i64 0, .int .i64 0, .slice ta m tc] 76) := by
    have := heap_alloc_new (w.alloc (.cells #[.slice ta m tc] 133)) (.cells #[.int .i64 (-1), .int .i64 0, .int .i64 0, .slice ta m tc] 76)
    rwa [show (w.alloc (.cells #[.slice ta m tc] 133)).heap.size = w.heap.size + 1 by simp] at this
  exact bodyPost_ret (results_cell_row rfl _ _ _ _ _ _ _ rfl q0 Tryz.underlying76 rfl (by kernel_rfl)) rfl ⟨rfl, ((Below.refl _ _).alloc (Nat.le_refl _) _).alloc (by simp) _⟩
end Go.Proofs.YtkdopjkdokgipaaGreatDoor
