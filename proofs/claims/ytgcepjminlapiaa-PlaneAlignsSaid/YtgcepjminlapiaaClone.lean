/- The walks of slices.Clone at drift steps and at numbers. -/
import Derived.Test.YtgcepjminlapiaaPlaneT
import Derived.Test.YtgcepjminlapiaaRowOwn
import Derived.Test.YtgcepjminlapiaaPlaneQ
namespace Go.Proofs.Ytgcepjminlapiaa
open Go.RowKit
set_option linter.unusedVariables false
set_option linter.unusedSimpArgs false
theorem info_drift : (Try.prog.info? 108).map (fun i => (i.zero, i.size, i.bytes)) = some (some (.agg #[.int .i64 0, .int .i64 0, .int .i64 0]), 3, 24) := by kernel_rfl
theorem info_int : (Try.prog.info? 3).map (fun i => (i.zero, i.size, i.bytes)) = some (some (.int .i64 0), 1, 8) := by kernel_rfl
def CloneRes (w : World) (t : TypeId) (k n : Nat) (xs : List Value) (e : Ending) (w' : World) : Prop := ∃ a c, e = .returned (.slice a n c) ∧ w'.ownsRow w.heap.size t k (.slice a n c) n xs ∧ Below w.heap.size w w'
theorem clone_done {W w' : World} {t : TypeId} {k n c : Nat} {a : Option Addr} {xs : List Value} (h : w'.ownsRow W.heap.size t k (.slice a n c) n xs) (hb : Below W.heap.size W w') : CloneRes W t k n xs (.returned (.slice a n c)) w' := ⟨a, c, rfl, h, hb⟩
set_option maxRecDepth 100000 in
set_option maxHeartbeats 1000000 in
theorem cloneD_any (a : Option Addr) (n c : Nat) (ds : Nat → DV) (w : World) (B : Nat) (hBw : B ≤ w.heap.size) (hD : Drifts B w a n ds) (hn : n ≤ 1000) (hna : a = none → n = 0) :
    Calls Try.prog 61 #[.slice a n c] w (CloneRes w 108 3 n (dCells ds n)) := by
  have HE := fun (W : World) => Lib.run_eql_slice_nil (P := Try.prog) (w := W)
  cases a with
  | none =>
    obtain rfl := hna rfl
    go_enter Try.func61, Try.ntmps61
    go_wp2
    go_ret
    exact clone_done ⟨rfl, .inl ⟨rfl, rfl⟩⟩ (Below.refl _ _)
  | some ad =>
    have hnews : ∀ j u, (dCells ds n)[j]? = some u → w.cell? (ad.add j) = some u := by
      rcases hD with h0 | ⟨b, off, ha, hb, hc⟩
      · subst h0; intro j u h; simp [dCells, flatN] at h
      · injection ha with ha; subst ha; exact drifts_cells (B := B) hc
    have hlt : ∀ j u, (dCells ds n)[j]? = some u → (w.alloc (.cells #[] 108)).cell? (ad.add j) = some u := by
      intro j u h
      exact (World.cell?_of_block (Below.heap_alloc w _ _ (World.block_lt_of_cell? w _ (hnews j u h)))).trans (hnews j u h)
    have HN := Lib.hid hlt
    clear hnews hlt hD
    obtain ⟨i0, hi, hz0, hz1, hz2⟩ := info_parts info_drift
    go_enter Try.func61, Try.ntmps61
    go_wp2_with (at_builtin; refine wpList_append_own _ rfl _ _ 46 rfl w.heap.size 108 i0 (.agg #[.int .i64 0, .int .i64 0, .int .i64 0]) 3 24 Try.underlying46 hi hz0 hz1 hz2 rfl (by decide) _ 0 [] rfl (World.ownsRow_made _ #[] 0 (Nat.le_refl _) (by decide) rfl) ad n c (dCells ds n) rfl (flatN_length (dCells_len ds) n) HN.out dCells_one (by unfold maxLen; omega) (by omega) (by simp) ?_; intro v' w3 hown hgrow hnil)
    have hb : Below w.heap.size w w3 := ((Below.refl _ _).alloc (Nat.le_refl _) _).grown hgrow (by simp) (fun k hk => by have hk' : some w.heap.size = some k := hk; injection hk' with hk'; omega)
    rw [Nat.zero_add, List.nil_append] at hown
    obtain ⟨a', c', rfl⟩ := own_len hown
    clear hgrow hnil
    go_wp2
    go_ret
    exact clone_done hown hb
set_option maxRecDepth 100000 in
set_option maxHeartbeats 1000000 in
theorem cloneI_any (a : Option Addr) (n c : Nat) (es : Nat → Int) (w : World) (B : Nat) (hBw : B ≤ w.heap.size) (hD : Ints B w a n es) (hn : n ≤ 1000) (hna : a = none → n = 0) :
    Calls Try.prog 62 #[.slice a n c] w (CloneRes w 3 1 n (iCells es n)) := by
  have HE := fun (W : World) => Lib.run_eql_slice_nil (P := Try.prog) (w := W)
  cases a with
  | none =>
    obtain rfl := hna rfl
    go_enter Try.func62, Try.ntmps62
    go_wp2
    go_ret
    exact clone_done ⟨rfl, .inl ⟨rfl, rfl⟩⟩ (Below.refl _ _)
  | some ad =>
    have hnews : ∀ j u, (iCells es n)[j]? = some u → w.cell? (ad.add j) = some u := by
      rcases hD with h0 | ⟨b, off, ha, hb, hc⟩
      · subst h0; intro j u h; simp [iCells, flatN] at h
      · injection ha with ha; subst ha; exact ints_cells hc
    have hlt : ∀ j u, (iCells es n)[j]? = some u → (w.alloc (.cells #[] 3)).cell? (ad.add j) = some u := by
      intro j u h
      exact (World.cell?_of_block (Below.heap_alloc w _ _ (World.block_lt_of_cell? w _ (hnews j u h)))).trans (hnews j u h)
    have HN := Lib.hid hlt
    clear hnews hlt hD
    obtain ⟨i0, hi, hz0, hz1, hz2⟩ := info_parts info_int
    go_enter Try.func62, Try.ntmps62
    go_wp2_with (at_builtin; refine wpList_append_own _ rfl _ _ 47 rfl w.heap.size 3 i0 (.int .i64 0) 1 8 Try.underlying47 hi hz0 hz1 hz2 rfl (by decide) _ 0 [] rfl (World.ownsRow_made _ #[] 0 (Nat.le_refl _) (by decide) rfl) ad n c (iCells es n) rfl (flatN_length (iCells_len es) n) HN.out iCells_one (by unfold maxLen; omega) (by omega) (by simp) ?_; intro v' w3 hown hgrow hnil)
    have hb : Below w.heap.size w w3 := ((Below.refl _ _).alloc (Nat.le_refl _) _).grown hgrow (by simp) (fun k hk => by have hk' : some w.heap.size = some k := hk; injection hk' with hk'; omega)
    rw [Nat.zero_add, List.nil_append] at hown
    obtain ⟨a', c', rfl⟩ := own_len hown
    clear hgrow hnil
    go_wp2
    go_ret
    exact clone_done hown hb
end Go.Proofs.Ytgcepjminlapiaa
