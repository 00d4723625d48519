/- Events' order: slices.SortFunc by its contract, with by's comparison. -/
import Derived.Test.YtgcepjminlapiaaEvA
import Derived.Test.YtgcepjminlapiaaEventsLaw
import Derived.Test.YtgcepjminlapiaaShelf
import Derived.Shelf.SlSortCmp.Whole1
namespace Go.Proofs.Ytgcepjminlapiaa
open Go.RowKit
set_option linter.unusedVariables false
set_option linter.unusedSimpArgs false
theorem byCmp_before (lo : Nat → Int) (i k : Nat) : byCmp lo i k < 0 ↔ before lo i k := by
  unfold byCmp orI cmpI before
  by_cases h1 : lo i < lo k
  · simp [h1]
  · by_cases h2 : lo k < lo i
    · simp [h1, h2]
      try omega
    · have h3 : lo i = lo k := by omega
      simp [h3]
      by_cases h4 : i < k
      · simp [h4]
      · by_cases h5 : k < i
        · simp [h4, h5]
          try omega
        · have : i = k := by omega
          simp [this]
theorem before_irrefl (lo : Nat → Int) (i : Nat) : ¬ before lo i i := by unfold before; omega
theorem before_total {lo : Nat → Int} {i k : Nat} (h : ¬ before lo i k) (hn : i ≠ k) : before lo k i := by unfold before at *; omega
def cfN (lo : Nat → Int) (m : Nat) (x y : Fin m) : Int := byCmp lo x.val y.val
theorem cfN_lt (lo : Nat → Int) (m : Nat) (x y : Fin m) : ltOf (cfN lo m) x y = true ↔ before lo x.val y.val := by
  unfold ltOf cfN; rw [decide_eq_true_iff]; exact byCmp_before lo x.val y.val
theorem cfN_swo (lo : Nat → Int) (m : Nat) : Go.Sort.SWO (ltOf (cfN lo m)) where
  irrefl x := by rw [Bool.eq_false_iff]; intro h; exact before_irrefl lo _ ((cfN_lt lo m x x).1 h)
  trans x y z h1 h2 := by rw [cfN_lt] at *; unfold before at *; omega
  ntrans x y z h1 h2 := by
    rw [Bool.eq_false_iff] at *
    intro h
    rw [ne_eq, cfN_lt] at h1 h2
    rw [cfN_lt] at h
    unfold before at *; omega
abbrev encN (m : Nat) (x : Fin m) : Value := .int .i64 (x.val : Int)
theorem heap_sorted {m : Nat} [Inhabited (Fin m)] (W : World) (g n : Nat) (dk : Array (Fin m)) (os : Array Obj) (k : Nat) (hk : k < W.heap.size) (hn : k ≠ g) : (sortWorld (encN m) W g 0 n dk os).heap[k]? = W.heap[k]? := by
  unfold sortWorld
  rw [Go.Sort.heap_grow_old _ _ (by simpa [Go.Sort.putRow, Go.Sort.mapBlock, Go.Sort.ahead] using hk)]
  simp [Go.Sort.putRow, Go.Sort.mapBlock, Go.Sort.ahead, Array.getElem?_modify, Ne.symm hn]
theorem size_sorted {m : Nat} [Inhabited (Fin m)] (W : World) (g n : Nat) (dk : Array (Fin m)) (os : Array Obj) : W.heap.size ≤ (sortWorld (encN m) W g 0 n dk os).heap.size := by
  simp [sortWorld, Go.Sort.grow, Go.Sort.putRow, Go.Sort.mapBlock, Go.Sort.ahead]
theorem grown_sorted {m : Nat} [Inhabited (Fin m)] (W : World) (g n : Nat) (dk : Array (Fin m)) (os : Array Obj) : W.grownBy (sortWorld (encN m) W g 0 n dk os) (some g) :=
  ⟨rfl, rfl, rfl, size_sorted W g n dk os, fun k hk hn => heap_sorted W g n dk os k hk (fun e => hn (by rw [e]))⟩
/-- what the order is -/
structure Ordered (m : Nat) (lo : Nat → Int) (L : List Nat) : Prop where
  len : L.length = m
  mem : ∀ i, i ∈ L ↔ i < m
  sorted : L.Pairwise (before lo)
theorem extract_all {α : Type} (a : Array α) (n : Nat) (h : a.size = n) : a.extract 0 n = a := by subst h; simp
theorem ordered_of {m : Nat} [Inhabited (Fin m)] {lo : Nat → Int} {d' : Array (Fin m)} (hp : Go.Sort.PermIn 0 m (List.finRange m).toArray d') (hs : Go.Sort.SortedIn (ltOf (cfN lo m)) 0 m d') (hsz : d'.size = m) : Ordered m lo (d'.toList.map Fin.val) := by
  have hperm : d'.toList.Perm (List.finRange m) := by
    have := hp.2.2
    have e1 : d'.extract 0 m = d' := extract_all d' m hsz
    have e2 : (List.finRange m).toArray.extract 0 m = (List.finRange m).toArray := extract_all _ m (by simp)
    rw [e1, e2] at this
    simpa using this
  have hnd : d'.toList.Nodup := hperm.nodup_iff.2 (List.nodup_finRange m)
  refine ⟨by simp [hsz], fun i => ?_, ?_⟩
  · simp only [List.mem_map]
    constructor
    · rintro ⟨x, _, rfl⟩; exact x.isLt
    · intro hi
      exact ⟨⟨i, hi⟩, hperm.mem_iff.2 (List.mem_finRange _), rfl⟩
  · rw [List.pairwise_map, List.pairwise_iff_getElem]
    intro i j hi hj hij
    have hi' : i < d'.size := by simpa using hi
    have hj' : j < d'.size := by simpa using hj
    have h1 := hs i j (Nat.zero_le _) hij (by omega)
    rw [getElem!_pos d' j hj', getElem!_pos d' i hi', Bool.eq_false_iff, ne_eq, cfN_lt] at h1
    have hne : d'.toList[j] ≠ d'.toList[i] := fun e => by
      have := (List.getElem_inj hnd).1 e
      omega
    refine before_total (by simpa using h1) (fun e => hne (Fin.ext (by simpa using e)))
/-- the order of hits, sorted in place -/
def SortRes (W : World) (g m : Nat) (lo : Nat → Int) (e : Ending) (w' : World) : Prop :=
  e = .returned (.tuple #[]) ∧ ∃ L, Ordered m lo L ∧ (∀ i, i < m → w'.cell? ⟨g, i, none⟩ = some (.int .i64 ((L.getD i 0 : Nat) : Int))) ∧ W.grownBy w' (some g)
set_option maxRecDepth 100000 in
theorem sortBy_any (kb pb sb m c g cap : Nat) (lo : Nat → Int) (W : World) (hm0 : 0 < m) (hm : m ≤ 2000) (hk0 : W.cell? ⟨kb, 0, none⟩ = some (.func (.func 75) #[] #[.pointer (some ⟨pb, 0, none⟩)])) (hp : W.cell? ⟨pb, 0, none⟩ = some (.slice (some ⟨sb, 0, none⟩) m c)) (hs : ∀ j, j < m → W.cell? ⟨sb, j * 2, none⟩ = some (.int .i64 (lo j)))
    (l1 : kb < W.heap.size) (l2 : pb < W.heap.size) (l3 : sb < W.heap.size) (l4 : g < W.heap.size) (n1 : kb ≠ g) (n2 : pb ≠ g) (n3 : sb ≠ g) (hH : ∀ j, j < m → W.cell? ⟨g, j, none⟩ = some (.int .i64 (j : Int)) ∧ W.frozen? ⟨g, j, none⟩ = false) :
    Calls Try.prog 90 #[.slice (some ⟨g, 0, none⟩) m cap, .func (.func 91) #[] #[.pointer (some ⟨kb, 0, none⟩)]] W (SortRes W g m lo) := by
  haveI : Inhabited (Fin m) := ⟨⟨0, hm0⟩⟩
  have hsz : (List.finRange m).toArray.size = m := by simp
  have hget : ∀ j (hj : j < m), (List.finRange m).toArray[j]! = ⟨j, hj⟩ := fun j hj => by rw [getElem!_pos _ j (by rw [hsz]; exact hj)]; simp
  have hHo : Go.Sort.Holds (encN m) W g 0 (List.finRange m).toArray := fun j hj => by
    have hj' : j < m := by rw [hsz] at hj; exact hj
    rw [Nat.zero_add, hget j hj']
    exact hH j hj'
  have eg : ∀ args w, (callFunc 91 args).run Try.prog w = .ok (.enter 91 args) w := enters_of Try.func91 (by kernel_rfl) rfl
  have hcmp : CmpLays1 Try.prog 91 #[.pointer (some ⟨kb, 0, none⟩)] (encN m) (cfN lo m) g 0 (List.finRange m).toArray.size W := by
    intro q os dk hdk x y
    have hb : ∀ k, k < W.heap.size → k ≠ g → ∀ o, (sortWorld (encN m) W g 0 q dk os).cell? ⟨k, o, none⟩ = W.cell? ⟨k, o, none⟩ := fun k hk hn o => World.cell?_of_block (heap_sorted W g q dk os k hk hn)
    have hz := size_sorted W g q dk os
    have := byCmp_any kb pb sb m c lo x.val y.val (sortWorld (encN m) W g 0 q dk os) (by unfold maxLen; omega) ((hb kb l1 n1 0).trans hk0) ((hb pb l2 n2 0).trans hp) (fun j hj => (hb sb l3 n3 _).trans (hs j hj)) x.isLt y.isLt (by omega) (by omega) (by omega)
    exact this.mono fun e w' ⟨he, q', os', hw⟩ => ⟨he, q', os', hw⟩
  have hcon := Any.slices_SortFunc Try.laysSortFunc (encN m) (fun _ => rfl) (cfN lo m) (cfN_swo lo m) 91 #[.pointer (some ⟨kb, 0, none⟩)] g 0 cap (List.finRange m).toArray W eg hcmp hHo l4 (by rw [hsz]; omega)
  rw [hsz] at hcon
  change Calls Try.prog 90 _ _ _ at hcon
  refine hcon.mono fun e w' ⟨he, d', q, os, hp', hs', hw⟩ => ⟨he, d'.toList.map Fin.val, ?_, ?_, ?_⟩
  · exact ordered_of hp' hs' (by rw [hp'.1, hsz])
  · intro i hi
    have hd : d'.size = m := by rw [hp'.1, hsz]
    have := (holds_sortWorld (encN m) W g 0 q (List.finRange m).toArray d' os l4 hHo hp'.1 i (by omega)).1
    rw [Nat.zero_add] at this
    rw [hw, this]
    have hi' : i < d'.size := by omega
    rw [getElem!_pos d' i hi']
    simp [encN, hi']
  · rw [hw]; exact grown_sorted W g q d' os
end Go.Proofs.Ytgcepjminlapiaa
