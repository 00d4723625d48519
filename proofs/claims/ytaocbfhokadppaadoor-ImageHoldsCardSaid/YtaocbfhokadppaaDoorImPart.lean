/- The walks of divide.parts, divide.node, refute.node. -/
import Derived.Test.YtaocbfhokadppaaDoorImWith
import Derived.Laws.ResultCell
namespace Go.Proofs.YtaocbfhokadppaaDoor
open Go.RowKit
set_option linter.unusedVariables false
set_option linter.unusedSimpArgs false
theorem NewSpans.step {w W W' : World} {a : Option Addr} {n : Nat} {f : Nat → SV} (h : NewSpans w W a n f) (hb : Below W.heap.size W W') : NewSpans w W' a n f := by
  obtain ⟨b, ha, h1, h2, h3⟩ := h
  have c := (bcell hb).1
  exact ⟨b, ha, h1, Nat.lt_of_lt_of_le h2 hb.size, fun i hi => ⟨(c _ _ h2).trans (h3 i hi).1, (c _ _ h2).trans (h3 i hi).2⟩⟩
theorem NewSpans.up {w0 w W : World} {a : Option Addr} {n : Nat} {f : Nat → SV} (h : NewSpans w W a n f) (hz : w0.heap.size ≤ w.heap.size) : NewSpans w0 W a n f := by
  obtain ⟨b, ha, h1, h2, h3⟩ := h
  exact ⟨b, ha, by omega, h2, h3⟩
theorem NewSpans.set {w W : World} {a : Option Addr} {n : Nat} {f : Nat → SV} (h : NewSpans w W a n f) {x o : Nat} (hx : x < w.heap.size) (v : Value) : NewSpans w (W.setCell ⟨x, o, none⟩ v) a n f := by
  obtain ⟨b, ha, h1, h2, h3⟩ := h
  have k : ∀ j, (W.setCell ⟨x, o, none⟩ v).cell? ⟨b, j, none⟩ = W.cell? ⟨b, j, none⟩ := fun j => World.cell?_of_block (heap_setCell_other W ⟨x, o, none⟩ b v (by show b ≠ x; omega))
  exact ⟨b, ha, h1, by simpa using h2, fun i hi => ⟨(k _).trans (h3 i hi).1, (k _).trans (h3 i hi).2⟩⟩
/-- the two parts of a box -/
def PartsRes (w : World) (n : Nat) (f g : Nat → SV) (e : Ending) (w' : World) : Prop := ∃ a1 c1 a2 c2, e = .returned (.agg #[.slice a1 n c1, .slice a2 n c2]) ∧ NewSpans w w' a1 n f ∧ NewSpans w w' a2 n g ∧ n ≤ c1 ∧ c1 ≤ maxLen ∧ n ≤ c2 ∧ c2 ≤ maxLen ∧ Below w.heap.size w w'
set_option maxRecDepth 100000 in
set_option maxHeartbeats 2000000 in
theorem parts_any (xa : Option Addr) (n xc : Nat) (box : Nat → SV) (k : Nat) (at_ : Int) (hk : k < n) (hn : n ≤ 40) (hc : n ≤ xc) (hcm : xc ≤ maxLen) (ha : 0 ≤ at_ ∧ at_ ≤ 1000) (w : World) (hX : Spans w.heap.size w xa n box) :
    Calls Tryd.prog 38 #[.agg #[.int .i64 (k : Int), .int .i64 at_], .slice xa n xc] w (PartsRes w n (setBox box k ⟨(box k).lo, at_⟩) (setBox box k ⟨at_ + 1, (box k).hi⟩)) := by
  obtain ⟨b, off, rfl, hbz, x0, x1⟩ := hX.get hk
  have HX := Lib.hid hX
  have hkn : (k : Int) < (n : Int) := by omega
  obtain ⟨lo, hlo⟩ : ∃ lo, lo = (box k).lo := ⟨_, rfl⟩
  obtain ⟨hi, hhi⟩ : ∃ hi, hi = (box k).hi := ⟨_, rfl⟩
  rw [← hlo] at x0 ⊢
  rw [← hhi] at x1 ⊢
  clear hX hlo hhi
  go_enter Tryd.func38, Tryd.ntmps38
  go_upto_region 2 with (fail)
  obtain ⟨hVb, hVz, e1, e2, e3⟩ := three_allocs w (.cells #[.int .i64 (k : Int), .int .i64 at_] 79) (.cells #[.slice none 0 0, .slice none 0 0] 80) (.cells #[.int .i64 lo, .int .i64 hi] 60)
  generalize World.alloc (World.alloc (World.alloc w _) _) _ = V at *
  have HBV := Lib.hid hVb.drew
  have HXV := Lib.hid (show Spans V.drew.heap.size V.drew (some ⟨b, off, none⟩) n box from (HX.out.below hVb.drew).up hVb.drew.size)
  have hWz : V.drew.heap.size = w.heap.size + 1 + 1 + 1 := hVz
  have E2 := Lib.hid (show V.drew.heap[w.heap.size + 1]? = _ from e2)
  have d0 : V.drew.cell? ⟨w.heap.size, 0, none⟩ = some (.int .i64 (k : Int)) := cell_of_row _ _ _ _ _ _ e1
  have d1 : V.drew.cell? ⟨w.heap.size, 1, none⟩ = some (.int .i64 at_) := cell_of_row _ _ _ _ _ _ e1
  have d2 : V.drew.cell? ⟨w.heap.size + 1 + 1, 0, none⟩ = some (.int .i64 lo) := cell_of_row _ _ _ _ _ _ e3
  have d3 : V.drew.cell? ⟨w.heap.size + 1 + 1, 1, none⟩ = some (.int .i64 hi) := cell_of_row _ _ _ _ _ _ e3
  clear e1 e2 e3 hVb hVz x0 x1
  refine wp_region_any (by kernel_rfl) ?_
  change wpAny _ _ _ _ _ _ _ (World.drew V)
  generalize World.drew V = Vd at *
  have hwr : IntKind.i64.wrap (at_ + 1) = at_ + 1 := IntWalk.i64_in _ (by omega)
  refine any_of_tail 20 20 (fun w' => w'.cell? ⟨w.heap.size, 0, none⟩ = some (.int .i64 (k : Int)) ∧ w'.cell? ⟨w.heap.size, 1, none⟩ = some (.int .i64 at_) ∧ w'.cell? ⟨w.heap.size + 1 + 1, 0, none⟩ = some (.int .i64 lo) ∧ w'.cell? ⟨w.heap.size + 1 + 1, 1, none⟩ = some (.int .i64 hi)) (by kernel_rfl) ⟨d0, d1, d2, d3⟩ (fun hS => ?_)
  refine headH_take (i := 0) (v := ?_) rfl (by kernel_rfl) (fun _ _ _ h => h) (Or.inl ⟨by rfl, ?_⟩) (by assumption) ?_; rotate_left; (· intro w' hSw; (try dsimp only at hSw); (try obtain ⟨hSw1, hSw2, hSw3, hSw4⟩ := hSw); go_simp; (try with_reducible rfl)); (try dsimp only [Act.put]); (try simp only [List.setIfInBounds_toArray, List.set_cons_zero, List.set_cons_succ])
  refine headH_take (i := 1) (v := ?_) rfl (by kernel_rfl) (fun _ _ _ h => h) (Or.inl ⟨by rfl, ?_⟩) (by assumption) ?_; rotate_left; (· intro w' hSw; (try dsimp only at hSw); (try obtain ⟨hSw1, hSw2, hSw3, hSw4⟩ := hSw); go_simp; (try with_reducible rfl)); (try dsimp only [Act.put]); (try simp only [List.setIfInBounds_toArray, List.set_cons_zero, List.set_cons_succ])
  refine headH_take (i := 2) (v := ?_) rfl (by kernel_rfl) (fun _ _ _ h => h) (Or.inl ⟨by rfl, ?_⟩) (by assumption) ?_; rotate_left; (· intro w' hSw; (try dsimp only at hSw); (try obtain ⟨hSw1, hSw2, hSw3, hSw4⟩ := hSw); go_simp; (try with_reducible rfl)); (try dsimp only [Act.put]); (try simp only [List.setIfInBounds_toArray, List.set_cons_zero, List.set_cons_succ])
  refine headH_take (i := 3) (v := ?_) rfl (by kernel_rfl) (fun _ _ _ h => h) (Or.inl ⟨by rfl, ?_⟩) (by assumption) ?_; rotate_left; (· intro w' hSw; (try dsimp only at hSw); (try obtain ⟨hSw1, hSw2, hSw3, hSw4⟩ := hSw); go_simp; (try with_reducible rfl)); (try dsimp only [Act.put]); (try simp only [List.setIfInBounds_toArray, List.set_cons_zero, List.set_cons_succ])
  refine headH_take (i := 4) (v := ?_) rfl (by kernel_rfl) (fun _ _ _ h => h) (Or.inl ⟨by rfl, ?_⟩) (by assumption) ?_; rotate_left; (· intro w' hSw; (try dsimp only at hSw); (try obtain ⟨hSw1, hSw2, hSw3, hSw4⟩ := hSw); go_simp; (try with_reducible rfl)); (try dsimp only [Act.put]); (try simp only [List.setIfInBounds_toArray, List.set_cons_zero, List.set_cons_succ])
  refine headH_take (i := 5) (v := ?_) rfl (by kernel_rfl) (fun _ _ _ h => h) (Or.inl ⟨by rfl, ?_⟩) (by assumption) ?_; rotate_left; (· intro w' hSw; (try dsimp only at hSw); (try obtain ⟨hSw1, hSw2, hSw3, hSw4⟩ := hSw); go_simp; (try with_reducible rfl)); (try dsimp only [Act.put]); (try simp only [List.setIfInBounds_toArray, List.set_cons_zero, List.set_cons_succ])
  refine headH_take (i := 6) (v := ?_) rfl (by kernel_rfl) (fun _ _ _ h => h) (Or.inl ⟨by rfl, ?_⟩) (by assumption) ?_; rotate_left; (· intro w' hSw; (try dsimp only at hSw); (try obtain ⟨hSw1, hSw2, hSw3, hSw4⟩ := hSw); go_simp; (try with_reducible rfl)); (try dsimp only [Act.put]); (try simp only [List.setIfInBounds_toArray, List.set_cons_zero, List.set_cons_succ])
  refine headH_take (i := 7) (v := ?_) rfl (by kernel_rfl) (fun _ _ _ h => h) (Or.inl ⟨by rfl, ?_⟩) (by assumption) ?_; rotate_left; (· intro w' hSw; (try dsimp only at hSw); (try obtain ⟨hSw1, hSw2, hSw3, hSw4⟩ := hSw); go_simp; (try with_reducible rfl)); (try dsimp only [Act.put]); (try simp only [List.setIfInBounds_toArray, List.set_cons_zero, List.set_cons_succ])
  refine headH_take (i := 9) (v := ?_) rfl (by kernel_rfl) (fun _ _ _ h => h) (Or.inl ⟨by rfl, ?_⟩) (by assumption) ?_; rotate_left; (· intro w' hSw; (try dsimp only at hSw); (try obtain ⟨hSw1, hSw2, hSw3, hSw4⟩ := hSw); go_simp; (try with_reducible rfl)); (try dsimp only [Act.put]); (try simp only [List.setIfInBounds_toArray, List.set_cons_zero, List.set_cons_succ])
  refine headH_take (i := 10) (v := ?_) rfl (by kernel_rfl) (fun _ _ _ h => h) (Or.inl ⟨by rfl, ?_⟩) (by assumption) ?_; rotate_left; (· intro w' hSw; (try dsimp only at hSw); (try obtain ⟨hSw1, hSw2, hSw3, hSw4⟩ := hSw); go_simp; (try with_reducible rfl)); (try dsimp only [Act.put]); (try simp only [List.setIfInBounds_toArray, List.set_cons_zero, List.set_cons_succ])
  refine headH_take (i := 11) (v := ?_) rfl (by kernel_rfl) (fun _ _ _ h => h) (Or.inl ⟨by rfl, ?_⟩) (by assumption) ?_; rotate_left; (· intro w' hSw; (try dsimp only at hSw); (try obtain ⟨hSw1, hSw2, hSw3, hSw4⟩ := hSw); go_simp; (try with_reducible rfl)); (try dsimp only [Act.put]); (try simp only [List.setIfInBounds_toArray, List.set_cons_zero, List.set_cons_succ])
  refine headH_take (i := 12) (v := ?_) rfl (by kernel_rfl) (fun _ _ _ h => h) (Or.inl ⟨by rfl, ?_⟩) (by assumption) ?_; rotate_left; (· intro w' hSw; (try dsimp only at hSw); (try obtain ⟨hSw1, hSw2, hSw3, hSw4⟩ := hSw); go_simp; (try with_reducible rfl)); (try dsimp only [Act.put]); (try simp only [List.setIfInBounds_toArray, List.set_cons_zero, List.set_cons_succ])
  refine headH_take (i := 13) (v := ?_) rfl (by kernel_rfl) (fun _ _ _ h => h) (Or.inl ⟨by rfl, ?_⟩) (by assumption) ?_; rotate_left; (· intro w' hSw; (try dsimp only at hSw); (try obtain ⟨hSw1, hSw2, hSw3, hSw4⟩ := hSw); go_simp; (try with_reducible rfl)); (try dsimp only [Act.put]); (try simp only [List.setIfInBounds_toArray, List.set_cons_zero, List.set_cons_succ])
  refine headH_take (i := 14) (v := ?_) rfl (by kernel_rfl) (fun _ _ _ h => h) (Or.inl ⟨by rfl, ?_⟩) (by assumption) ?_; rotate_left; (· intro w' hSw; (try dsimp only at hSw); (try obtain ⟨hSw1, hSw2, hSw3, hSw4⟩ := hSw); go_simp; (try with_reducible rfl)); (try dsimp only [Act.put]); (try simp only [List.setIfInBounds_toArray, List.set_cons_zero, List.set_cons_succ])
  refine headH_take (i := 15) (v := ?_) rfl (by kernel_rfl) (fun _ _ _ h => h) (Or.inl ⟨by rfl, ?_⟩) (by assumption) ?_; rotate_left; (· intro w' hSw; (try dsimp only at hSw); (try obtain ⟨hSw1, hSw2, hSw3, hSw4⟩ := hSw); go_simp; (try with_reducible rfl)); (try dsimp only [Act.put]); (try simp only [List.setIfInBounds_toArray, List.set_cons_zero, List.set_cons_succ])
  refine headH_take (i := 16) (v := ?_) rfl (by kernel_rfl) (fun _ _ _ h => h) (Or.inl ⟨by rfl, ?_⟩) (by assumption) ?_; rotate_left; (· intro w' hSw; (try dsimp only at hSw); (try obtain ⟨hSw1, hSw2, hSw3, hSw4⟩ := hSw); go_simp; (try with_reducible rfl)); (try dsimp only [Act.put]); (try simp only [List.setIfInBounds_toArray, List.set_cons_zero, List.set_cons_succ])
  refine headH_take (i := 17) (v := ?_) rfl (by kernel_rfl) (fun _ _ _ h => h) (Or.inl ⟨by rfl, ?_⟩) (by assumption) ?_; rotate_left; (· intro w' hSw; (try dsimp only at hSw); (try obtain ⟨hSw1, hSw2, hSw3, hSw4⟩ := hSw); go_simp; (try with_reducible rfl)); (try dsimp only [Act.put]); (try simp only [List.setIfInBounds_toArray, List.set_cons_zero, List.set_cons_succ])
  clear hwr
  refine headH_all (rs := [8]) (by kernel_rfl) (by simp) (by kernel_rfl) ?_; intro i0 hi0; simp only [List.mem_cons, List.not_mem_nil, or_false] at hi0
  subst hi0
  refine headH_op rfl (fun K hK => ?_)
  go_simp
  go_at_call 67
  refine (with_any (some ⟨b, off, none⟩) n xc box k lo at_ hk hn hc hcm Vd HXV.out).mono ?_
  rintro e W2 ⟨a1, c1, rfl, hs1, hc1, hm1, hb1⟩
  dsimp only
  have HS1 := Lib.hid hs1
  have HB1 := Lib.hid hb1
  have HC1 := Lib.hid (And.intro hc1 hm1)
  have HXW := Lib.hid ((HXV.out.below hb1).up hb1.size)
  have HBW := Lib.hid (HBV.out.trans (hb1.mono (by omega)))
  refine hK.out _ _ ⟨((bcell hb1).1 _ _ (by omega)).trans d0, ((bcell hb1).1 _ _ (by omega)).trans d1, ((bcell hb1).1 _ _ (by omega)).trans d2, ((bcell hb1).1 _ _ (by omega)).trans d3⟩ (fun hS1 => ?_)
  have E3 := Lib.hid ((hb1.block (w.heap.size + 1) (by omega)).trans E2.out)
  have hWz2 := hb1.size
  clear hK K hs1 hb1 hc1 hm1 HXV HBV E2 hS d0 d1 d2 d3
  (try dsimp only [Act.put]); (try simp only [List.setIfInBounds_toArray, List.set_cons_zero, List.set_cons_succ])
  refine headH_all (rs := [18]) (by kernel_rfl) (by simp) (by kernel_rfl) ?_; intro i0 hi0; simp only [List.mem_cons, List.not_mem_nil, or_false] at hi0
  subst hi0
  refine headH_op rfl (fun K hK => ?_)
  go_simp
  go_at_call 67
  refine (with_any (some ⟨b, off, none⟩) n xc box k (at_ + 1) hi hk hn hc hcm W2 HXW.out).mono ?_
  rintro e W3 ⟨a2, c2, rfl, hs2, hc2, hm2, hb2⟩
  dsimp only
  have HS2 := Lib.hid hs2
  have HS1' := Lib.hid (HS1.out.step hb2)
  have hV1 : w.heap.size + 1 < Vd.heap.size := by omega
  have hV2 : w.heap.size + 1 < W2.heap.size := by omega
  have HC2 := Lib.hid (And.intro hc2 hm2)
  have HBE := Lib.hid (HBW.out.trans (hb2.mono (by omega)))
  obtain ⟨g0, g1, g2, g3⟩ := hS1
  refine hK.out _ _ ⟨((bcell hb2).1 _ _ (by omega)).trans g0, ((bcell hb2).1 _ _ (by omega)).trans g1, ((bcell hb2).1 _ _ (by omega)).trans g2, ((bcell hb2).1 _ _ (by omega)).trans g3⟩ (fun hS2 => ?_)
  have E4 := Lib.hid ((hb2.block (w.heap.size + 1) (by omega)).trans E3.out)
  have hWz3 := hb2.size
  clear hK K hs2 hb2 hc2 hm2 HXW HBW E3 HS1 g0 g1 g2 g3
  (try dsimp only [Act.put]); (try simp only [List.setIfInBounds_toArray, List.set_cons_zero, List.set_cons_succ])
  refine headH_take (i := 19) (v := ?_) rfl (by kernel_rfl) (fun _ _ _ h => h) (Or.inl ⟨by rfl, ?_⟩) (by assumption) ?_; rotate_left; (· intro w' hSw; (try dsimp only at hSw); (try obtain ⟨hSw1, hSw2, hSw3, hSw4⟩ := hSw); go_simp; (try with_reducible rfl)); (try dsimp only [Act.put]); (try simp only [List.setIfInBounds_toArray, List.set_cons_zero, List.set_cons_succ])
  change tailL _ _ _ _ _ _ _ _
  refine ⟨by kernel_rfl, ?_⟩
  simp only [List.drop_succ_cons, List.drop_zero]
  have m0 : W3.cell? ⟨w.heap.size + 1, 0, none⟩ = some (.slice none 0 0) := cell_of_row _ _ _ _ _ _ E4.out
  have m1 : W3.cell? ⟨w.heap.size + 1, 1, none⟩ = some (.slice none 0 0) := cell_of_row _ _ _ _ _ _ E4.out
  have f0 : W3.frozen? ⟨w.heap.size + 1, 0, none⟩ = false := frozen_of_row _ _ _ _ _ E4.out
  have f1 : W3.frozen? ⟨w.heap.size + 1, 1, none⟩ = false := frozen_of_row _ _ _ _ _ E4.out
  clear hS2
  go_wp2
  have q1 := heap_setCell_same W3 _ 0 _ _ (.slice a1 n c1) E4.out
  have q2 := heap_setCell_same _ _ 1 _ _ (.slice a2 n c2) q1
  have q3 := (HBE.out.setCell (p := ⟨w.heap.size + 1, 0, none⟩) (by show w.heap.size ≤ w.heap.size + 1; omega) (.slice a1 n c1)).setCell (p := ⟨w.heap.size + 1, 1, none⟩) (by show w.heap.size ≤ w.heap.size + 1; omega) (.slice a2 n c2)
  exact bodyPost_ret (results_cell_row rfl _ _ _ _ _ _ _ rfl q2 Tryd.underlying80 rfl (by kernel_rfl)) rfl ⟨a1, c1, a2, c2, rfl, ((HS1'.out.set hV1 _).set hV1 _).up (by omega), ((HS2.out.set hV2 _).set hV2 _).up (by omega), HC1.out.1, HC1.out.2, HC2.out.1, HC2.out.2, q3⟩
set_option maxRecDepth 100000 in
set_option maxHeartbeats 1000000 in
theorem divNode_any (c at_ r : Int) (w : World) :
    Calls Tryd.prog 113 #[.agg #[.int .i64 c, .int .i64 at_], .int .i64 r] w fun e w' => e = .returned (.agg #[.int .i64 c, .int .i64 at_, .int .i64 r, .slice none 0 0]) ∧ Below w.heap.size w w' := by
  go_enter Tryd.func113, Tryd.ntmps113
  go_wp2
  have q0 : ((w.alloc (.cells #[.int .i64 c, .int .i64 at_] 79)).alloc (.cells #[.int .i64 c, .int .i64 at_, .int .i64 r, .slice none 0 0] 51)).heap[w.heap.size + 1]? = some (.cells #[.int .i64 c, .int .i64 at_, .int .i64 r, .slice none 0 0] 51) := by
    have := heap_alloc_new (w.alloc (.cells #[.int .i64 c, .int .i64 at_] 79)) (.cells #[.int .i64 c, .int .i64 at_, .int .i64 r, .slice none 0 0] 51)
    rwa [show (w.alloc (.cells #[.int .i64 c, .int .i64 at_] 79)).heap.size = w.heap.size + 1 by simp] at this
  exact bodyPost_ret (results_cell_row rfl _ _ _ _ _ _ _ rfl q0 Tryd.underlying51 rfl (by kernel_rfl)) rfl ⟨rfl, ((Below.refl _ _).alloc (Nat.le_refl _) _).alloc (by simp) _⟩
set_option maxRecDepth 100000 in
set_option maxHeartbeats 1000000 in
theorem refNode_any (ta : Option Addr) (m tc : Nat) (r : Int) (w : World) :
    Calls Tryd.prog 112 #[.agg #[.slice ta m tc], .int .i64 r] w fun e w' => e = .returned (.agg #[.int .i64 (-1), .int .i64 0, .int .i64 0, .slice ta m tc]) ∧ Below w.heap.size w w' := by
  go_enter Tryd.func112, Tryd.ntmps112
  go_wp2
  have q0 : ((w.alloc (.cells #[.slice ta m tc] 76)).alloc (.cells #[.int .i64 (-1), .int .i64 0, .int .i64 0, .slice ta m tc] 51)).heap[w.heap.size + 1]? = some (.cells #[.int .i64 (-1), .int .i64 0, .int .i64 0, .slice ta m tc] 51) := by
    have := heap_alloc_new (w.alloc (.cells #[.slice ta m tc] 76)) (.cells #[.int .i64 (-1), .int .i64 0, .int .i64 0, .slice ta m tc] 51)
    rwa [show (w.alloc (.cells #[.slice ta m tc] 76)).heap.size = w.heap.size + 1 by simp] at this
  exact bodyPost_ret (results_cell_row rfl _ _ _ _ _ _ _ rfl q0 Tryd.underlying51 rfl (by kernel_rfl)) rfl ⟨rfl, ((Below.refl _ _).alloc (Nat.le_refl _) _).alloc (by simp) _⟩
end Go.Proofs.YtaocbfhokadppaaDoor
