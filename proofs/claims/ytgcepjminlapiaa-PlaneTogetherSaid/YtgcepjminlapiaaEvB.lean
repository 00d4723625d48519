/- The walk of plane.by at numbers. -/
import Derived.Test.YtgcepjminlapiaaEvS
import Derived.OwnWalk
namespace Go.Proofs.Ytgcepjminlapiaa
open Go.RowKit
set_option linter.unusedVariables false
set_option linter.unusedSimpArgs false
theorem info_i64 : (Try.prog.info? 3).map (fun i => (i.zero, i.size, i.bytes)) = some (some (.int .i64 0), 1, 8) := by kernel_rfl
def ByRes (w : World) (m : Nat) (lo : Nat → Int) (e : Ending) (w' : World) : Prop :=
  ∃ g c L, e = .returned (.slice (some ⟨g, 0, none⟩) m c) ∧ Ordered m lo L ∧ (∀ i, i < m → w'.cell? ⟨g, i, none⟩ = some (.int .i64 ((L.getD i 0 : Nat) : Int))) ∧ w.heap.size ≤ g ∧ g < w'.heap.size ∧ Below w.heap.size w w'
theorem ordered_nil (lo : Nat → Int) : Ordered 0 lo [] := ⟨rfl, fun i => by simp, List.Pairwise.nil⟩
set_option maxRecDepth 100000 in
set_option maxHeartbeats 1000000 in
theorem by_any (pb sb m c : Nat) (lo : Nat → Int) (w : World) (hm : m ≤ 2000) (hp : w.cell? ⟨pb, 0, none⟩ = some (.slice (some ⟨sb, 0, none⟩) m c)) (hs : ∀ j, j < m → w.cell? ⟨sb, j * 2, none⟩ = some (.int .i64 (lo j))) (l2 : pb < w.heap.size) (l3 : sb < w.heap.size) :
    Calls Try.prog 74 #[.int .i64 (m : Int), .func (.func 75) #[] #[.pointer (some ⟨pb, 0, none⟩)]] w (ByRes w m lo) := by
  have hmf : ∀ (fn : Fn) (first cap : Array Value) (w : World), (Instr.makeFunc fn first cap).run Try.prog w = .ok (.func fn first cap) w := fun _ _ _ _ => rfl
  obtain ⟨i0, hi, hz0, hz1, hz2⟩ := info_parts info_i64
  have HPS := Lib.hid (And.intro hp hs)
  clear hp hs
  have hb2 : i0.bytes * m ≤ 281474976710656 := by rw [hz2]; omega
  have hb3 : m ≤ maxLen := by unfold maxLen; omega
  go_enter Try.func74, Try.ntmps74
  go_upto_region 2 with (refine wpList_make_full _ rfl _ _ 47 rfl w.heap.size 3 i0 (.int .i64 0) 1 Try.underlying47 hi hz0 hz1 _ _ (m : Int) (m : Int) m rfl rfl rfl rfl hb2 hb3 (by simp) ?_; intro w2 hown hgrow)
  have hb1 : Below w.heap.size w w2 := ((Below.refl _ _).alloc (Nat.le_refl _) _).grown hgrow (by simp) (fun k h => by cases h)
  have hk1 : w2.heap[w.heap.size]? = some (.cells #[.func (.func 75) #[] #[.pointer (some ⟨pb, 0, none⟩)]] 117) := (hgrow.block _ (by simp) (by simp)).trans (heapQ_new rfl)
  have HO := Lib.hid (show w2.ownsRow w.heap.size 3 1 (.slice (some ⟨w.heap.size + 1, 0, none⟩) m m) m (madeCells (Value.int .i64 0).cells (m * 1)).toList from by simpa using hown)
  generalize (madeCells (Value.int .i64 0).cells (m * 1)).toList = xs0 at HO
  have HK1 := Lib.hid hk1
  clear hown hgrow hk1
  go_wp2
  go_loopw [10] (fun t wr => ∃ k : Nat, k ≤ m ∧ t = .int .i64 (k : Int) ∧ (∃ xs, Hid (wr.ownsRow w.heap.size 3 1 (.slice (some ⟨w.heap.size + 1, 0, none⟩) m m) m xs ∧ ∀ j, j < k → xs[j]? = some (.int .i64 (j : Int)))) ∧ Hid (wr.heap[w.heap.size]? = some (.cells #[.func (.func 75) #[] #[.pointer (some ⟨pb, 0, none⟩)]] 117)) ∧ Below w.heap.size w wr) (fun t _ => m - (intOf t).toNat)
  case atStart => exact ⟨0, Nat.zero_le _, rfl, ⟨xs0, Lib.hid ⟨HO.out, fun j h => by omega⟩⟩, HK1, hb1⟩
  case round =>
    clear HO HK1 hb1
    obtain ⟨k, hk, rfl, ⟨xs, HX⟩, HK, hbl⟩ := hrel
    have hxl : xs.length = m := by have := HX.out.1.1; omega
    by_cases hlt : k < m
    · have c0 : ∃ v, wr.cell? ⟨w.heap.size + 1, k, none⟩ = some v := ⟨_, (HX.out.1.cellAt k (by omega)).trans (List.getElem?_eq_getElem (by omega))⟩
      obtain ⟨v0, c0⟩ := c0
      have c1 : wr.frozen? ⟨w.heap.size + 1, k, none⟩ = false := HX.out.1.frozenAt k
      have hlt' : (k : Int) < (m : Int) := by omega
      go_wp2
      go_roundw
      case rel =>
        refine ⟨k + 1, by omega, by go_num, ⟨xs.set k (.int .i64 (k : Int)), Lib.hid ⟨(HX.out.1.stored k _).1, fun j hj => ?_⟩⟩, Lib.hid ((heap_setCell_other _ _ _ _ (by simp)).trans HK.out), hbl.setCell (p := ⟨_, _, _⟩) (by simp) _⟩
        by_cases e : j = k
        · subst e; rw [List.getElem?_set_self (by omega)]
        · rw [List.getElem?_set_ne (by omega)]; exact HX.out.2 j (by omega)
      case measure => simp [intOf]; omega
    · obtain rfl : m = k := by omega
      have l4 : w.heap.size + 1 < wr.heap.size := (HX.out.1.lt _ rfl).2
      by_cases hm0 : m = 0
      · subst hm0
        have HN := Lib.hid (fun (W : World) (p : Option Addr) (cap : Nat) (fv : Value) => show Calls Try.prog 90 #[.slice p 0 cap, fv] W _ from AnyF.slices_SortFunc_none { Try.laysSortFunc with } p cap fv W)
        go_wp2_with (go_at_call 90; refine (HN.out _ _ _ _).mono ?_; rintro e w' ⟨rfl, rfl⟩)
        go_ret
        exact ⟨_, _, [], rfl, ordered_nil lo, fun i hi => by omega, by omega, l4, hbl⟩
      · have HS := Lib.hid (sortBy_any w.heap.size pb sb m c (w.heap.size + 1) m lo wr (by omega) hm (cell_of_row _ _ _ _ _ _ HK.out) (((bcell hbl).1 _ _ l2).trans HPS.out.1) (fun j hj => ((bcell hbl).1 _ _ l3).trans (HPS.out.2 j hj)) (by omega) (by omega) (by omega) l4 (by omega) (by omega) (by omega) (fun j hj => ⟨(HX.out.1.cellAt j (by omega)).trans (HX.out.2 j hj), HX.out.1.frozenAt j⟩))
        go_wp2_with (go_at_call 90; refine HS.out.mono ?_; rintro e w' ⟨rfl, L, hL1, hL2, hL3⟩)
        go_ret
        have hz := hL3.size
        exact ⟨_, _, L, rfl, hL1, hL2, by omega, by omega, hbl.grown hL3 hbl.size (fun g hg => by injection hg with hg; omega)⟩
end Go.Proofs.Ytgcepjminlapiaa
