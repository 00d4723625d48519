/- Texts put together: FxShelf, ToFlxN, ToFlxO, ToFlxP, ToFlxQ. -/
import Derived.Shelf.Sort.Plain
import Derived.Ground.Names2Prog
import Derived.Ground.NamesProg
import Derived.Shelf.Slices.CompactI
import Derived.Shelf.Slices.Cells
import Derived.Shelf.Slices.In.SortNone
import Derived.Test.YtgmpelhphnmknaaGreatProg
import Derived.Test.YtgmpelhphnmknaaGreatQav
import Derived.Lib.OwnBridge
import Derived.Laws.StructEq
import Derived.Test.YtgmpelhphnmknaaGreatQaj
import Derived.Deep.CutBlock
import Derived.WalkMore
import Derived.Deep.AppendLies
set_option maxRecDepth 100000
set_option maxHeartbeats 8000000
set_option linter.unusedVariables false
set_option linter.unusedSimpArgs false
namespace Go.Proofs
open Go.Shelf
def Tryz.lays189_ren : Go.Shelf.Ren := ⟨fun | 189 => 88 | 125 => 94 | 257 => 133 | 128 => 146 | 129 => 147 | 294 => 173 | 295 => 174 | 296 => 175 | 297 => 176 | 298 => 177 | 299 => 178 | 216 => 179 | 300 => 180 | 301 => 181 | 328 => 196 | 329 => 184 | 330 => 185 | 331 => 197 | 332 => 198 | 215 => 95 | 343 => 200 | n => n, fun | 28 => 24 | 3 => 3 | 46 => 190 | 0 => 0 | 51 => 245 | 53 => 247 | 4 => 4 | 183 => 239 | 182 => 238 | 131 => 40 | 5 => 5 | 9 => 9 | 218 => 273 | 222 => 277 | 228 => 285 | 229 => 286 | n => n, fun | n => n⟩
theorem Tryz.lays189 : Go.Proofs.Lays.n189 Tryz.prog Tryz.lays189_ren := {
  mixed := by kernel_rfl
  f125 := Tryz.func94.trans (congrArg some (by kernel_rfl))
  f128 := Tryz.func146.trans (congrArg some (by kernel_rfl))
  f129 := Tryz.func147.trans (congrArg some (by kernel_rfl))
  f189 := Tryz.func88.trans (congrArg some (by kernel_rfl))
  f215 := Tryz.func95.trans (congrArg some (by kernel_rfl))
  f216 := Tryz.func179.trans (congrArg some (by kernel_rfl))
  f257 := Tryz.func133.trans (congrArg some (by kernel_rfl))
  f294 := Tryz.func173.trans (congrArg some (by kernel_rfl))
  f295 := Tryz.func174.trans (congrArg some (by kernel_rfl))
  f296 := Tryz.func175.trans (congrArg some (by kernel_rfl))
  f297 := Tryz.func176.trans (congrArg some (by kernel_rfl))
  f298 := Tryz.func177.trans (congrArg some (by kernel_rfl))
  f299 := Tryz.func178.trans (congrArg some (by kernel_rfl))
  f300 := Tryz.func180.trans (congrArg some (by kernel_rfl))
  f301 := Tryz.func181.trans (congrArg some (by kernel_rfl))
  f328 := Tryz.func196.trans (congrArg some (by kernel_rfl))
  f329 := Tryz.func184.trans (congrArg some (by kernel_rfl))
  f330 := Tryz.func185.trans (congrArg some (by kernel_rfl))
  f331 := Tryz.func197.trans (congrArg some (by kernel_rfl))
  f332 := Tryz.func198.trans (congrArg some (by kernel_rfl))
  f343 := Tryz.func200.trans (congrArg some (by kernel_rfl))
  t0 := Tryz.underlying0
  a0 := Tryz.isAgg0
  z0 := Tryz.sizeOf0
  v0 := Tryz.zeroValue0
  t3 := Tryz.underlying3
  a3 := Tryz.isAgg3
  z3 := Tryz.sizeOf3
  v3 := Tryz.zeroValue3
  t4 := Tryz.underlying4
  a4 := Tryz.isAgg4
  z4 := Tryz.sizeOf4
  v4 := Tryz.zeroValue4
  t5 := Tryz.underlying5
  a5 := Tryz.isAgg5
  z5 := Tryz.sizeOf5
  v5 := Tryz.zeroValue5
  t9 := Tryz.underlying9
  a9 := Tryz.isAgg9
  z9 := Tryz.sizeOf9
  v9 := Tryz.zeroValue9
  t28 := Tryz.underlying24
  a28 := Tryz.isAgg24
  z28 := Tryz.sizeOf24
  v28 := Tryz.zeroValue24
  t46 := Tryz.underlying190
  a46 := Tryz.isAgg190
  z46 := Tryz.sizeOf190
  v46 := Tryz.zeroValue190
  t51 := Tryz.underlying245
  a51 := Tryz.isAgg245
  z51 := Tryz.sizeOf245
  v51 := Tryz.zeroValue245
  t53 := Tryz.underlying247
  a53 := Tryz.isAgg247
  z53 := Tryz.sizeOf247
  v53 := Tryz.zeroValue247
  t131 := Tryz.underlying40
  a131 := Tryz.isAgg40
  z131 := Tryz.sizeOf40
  v131 := Tryz.zeroValue40
  t182 := Tryz.underlying238
  a182 := Tryz.isAgg238
  z182 := Tryz.sizeOf238
  v182 := Tryz.zeroValue238
  t183 := Tryz.underlying239
  a183 := Tryz.isAgg239
  z183 := Tryz.sizeOf239
  v183 := Tryz.zeroValue239
  t218 := Tryz.underlying273
  a218 := Tryz.isAgg273
  z218 := Tryz.sizeOf273
  v218 := Tryz.zeroValue273
  t222 := Tryz.underlying277
  a222 := Tryz.isAgg277
  z222 := Tryz.sizeOf277
  v222 := Tryz.zeroValue277
  t228 := Tryz.underlying285
  a228 := Tryz.isAgg285
  z228 := Tryz.sizeOf285
  v228 := Tryz.zeroValue285
  t229 := Tryz.underlying286
  a229 := Tryz.isAgg286
  z229 := Tryz.sizeOf286
  v229 := Tryz.zeroValue286 }
def Tryz.laysNm220_ren : Go.Shelf.Ren := ⟨fun | 20 => 89 | n => n, fun | 22 => 24 | 3 => 3 | 4 => 4 | 0 => 0 | n => n, fun | n => n⟩
theorem Tryz.laysNm220 : Go.Proofs.Lays2.n20 Tryz.prog Tryz.laysNm220_ren := {
  mixed := by kernel_rfl
  f20 := Tryz.func89.trans (congrArg some (by kernel_rfl))
  t0 := Tryz.underlying0
  a0 := Tryz.isAgg0
  z0 := Tryz.sizeOf0
  v0 := Tryz.zeroValue0
  t3 := Tryz.underlying3
  a3 := Tryz.isAgg3
  z3 := Tryz.sizeOf3
  v3 := Tryz.zeroValue3
  t4 := Tryz.underlying4
  a4 := Tryz.isAgg4
  z4 := Tryz.sizeOf4
  v4 := Tryz.zeroValue4
  t22 := Tryz.underlying24
  a22 := Tryz.isAgg24
  z22 := Tryz.sizeOf24
  v22 := Tryz.zeroValue24
  i3 := by kernel_rfl }
end Go.Proofs
namespace Go.Proofs.YtgmpelhphnmknaaGreat
open Go Go.RowKit Go.Shelf
def intC (l : List Int) : List Value := l.map (Value.int .i64)
theorem put_grown {W : World} {n g : Nat} {d : Array Int} {os : Array Obj} : W.grownBy (Go.Sort.grow (Go.Sort.putRow (Value.int .i64) (Go.Sort.ahead W n) g 0 d) os) (some g) := by
 refine ⟨rfl, rfl, rfl, by simp [Go.Sort.grow, Go.Sort.putRow, Go.Sort.mapBlock, Go.Sort.ahead], fun k hk hn => ?_⟩
 rw [Go.Sort.heap_grow_old _ _ (by simpa [Go.Sort.putRow, Go.Sort.mapBlock, Go.Sort.ahead] using hk)]
 have hn' : ¬ g = k := fun e => hn (by rw [e])
 simp [Go.Sort.putRow, Go.Sort.mapBlock, Go.Sort.ahead, Array.getElem?_modify, hn']
theorem put_grown0 {W : World} {n g : Nat} {d : Array Int} : W.grownBy (Go.Sort.putRow (Value.int .i64) (Go.Sort.ahead W n) g 0 d) (some g) := by
 refine ⟨rfl, rfl, rfl, by simp [Go.Sort.putRow, Go.Sort.mapBlock, Go.Sort.ahead], fun k hk hn => ?_⟩
 have hn' : ¬ g = k := fun e => hn (by rw [e])
 simp [Go.Sort.putRow, Go.Sort.mapBlock, Go.Sort.ahead, Array.getElem?_modify, hn']
theorem sortI_any (g cap : Nat) (zs : List Int) (W : World) (hg : g < W.heap.size) (hl : zs.length ≤ 1000000) (hH : Go.Sort.Holds (Value.int .i64) W g 0 zs.toArray) :
  Calls Tryz.prog 88 #[.slice (some ⟨g, 0, none⟩) zs.length cap] W fun e w' => e = .returned (.tuple #[]) ∧ W.grownBy w' (some g) ∧ Go.Sort.Holds (Value.int .i64) w' g 0 (zs.mergeSort fun x y => decide (x ≤ y)).toArray := by
 have hcon := Any.slices_Sort_int Tryz.lays189 g 0 cap zs W hH hg (by omega)
 change Calls Tryz.prog 88 _ _ _ at hcon
 refine hcon.mono fun e w' ⟨he, n, os, hw⟩ => ⟨he, ?_, ?_⟩
 ·rw [hw]
  exact put_grown
 ·rw [hw]
  refine Go.Sort.holds_grow _ _ _ _ _ _ (by simpa [Go.Sort.putRow, Go.Sort.mapBlock, Go.Sort.ahead] using hg) ?_
  exact Go.Sort.holds_putRow _ _ _ _ zs.toArray _ (Go.Sort.holds_ahead _ _ _ _ _ _ hH) (by simp)
theorem compI_any (g cap : Nat) (zs : List Int) (W : World) (hg : g < W.heap.size) (hl : zs.length ≤ 1000000) (hc : zs.length ≤ cap) (hH : Go.Sort.Holds (Value.int .i64) W g 0 zs.toArray) :
  Calls Tryz.prog 89 #[.slice (some ⟨g, 0, none⟩) zs.length cap] W fun e w' => e = .returned (.slice (some ⟨g, 0, none⟩) (Lib.compact zs).length cap) ∧ W.grownBy w' (some g) ∧ ∀ i, i < (Lib.compact zs).length → w'.cell? ⟨g, i, none⟩ = some (.int .i64 ((Lib.compact zs).getD i 0)) := by
 have hcon := Any.slices_Compact_int Tryz.laysNm220 g 0 cap zs W hH (by omega) hc
 change Calls Tryz.prog 89 _ _ _ at hcon
 refine hcon.mono fun e w' ⟨he, q, hw⟩ => ⟨he, ?_, ?_⟩
 ·rw [hw]
  exact put_grown0
 ·rw [hw]
  intro i hi
  have hle : (Lib.compact zs).length ≤ zs.length := by
   have := List.length_filter_le (Lib.keeps zs.toArray) (List.range zs.length)
   simpa [Lib.compact, Lib.compactUpTo] using this
  have hsz : (Lib.compact zs ++ List.replicate (zs.length - (Lib.compact zs).length) 0).toArray.size = zs.toArray.size := by simp; omega
  have := (Go.Sort.holds_putRow _ _ _ _ zs.toArray _ (Go.Sort.holds_ahead _ _ q _ _ _ hH) hsz) i (by rw [hsz]; simp; omega)
  rw [Nat.zero_add] at this
  rw [this.1, getElem!_pos _ i (by rw [hsz]; simp; omega)]
  simp [List.getElem_append_left hi, hi]
end Go.Proofs.YtgmpelhphnmknaaGreat
namespace Go.Proofs.YtgmpelhphnmknaaGreat
open Go Go.RowKit Go.Shelf
theorem eq_span (w : World) (a b c d : Int) : (Op.equalIn (9999 + 1) 28 (.agg #[.int .i64 a, .int .i64 b]) (.agg #[.int .i64 c, .int .i64 d])).run Tryz.prog w = .ok (a == c && b == d) w := by
 have u3 := Tryz.underlying3
 have a3 := Tryz.isAgg3
 have z3 := Tryz.sizeOf3
 have hS : Tryz.prog.underlying 28 = some (.struct (Tryz.prog.fieldsOf 28)) := by kernel_rfl
 have hp : Tryz.prog.stoodInHeld 28 = false := by kernel_rfl
 rw [run_equalIn_struct w 9999 _ _ _ hS hp]
 simp only [Program.fieldsOf, Tryz.underlying28]
 go_simp
 by_cases h1 : a = c <;> by_cases h2 : b = d <;> simp [h1, h2]
theorem neq_span (w : World) (a b c d : Int) : (binOp .neq 28 (.agg #[.int .i64 a, .int .i64 b]) (.agg #[.int .i64 c, .int .i64 d])).run Tryz.prog w = .ok (.bool (!(a == c && b == d))) w := by
 rw [run_neq_struct]
 have := eq_span w a b c d
 rw [show (10000 : Nat) = 9999 + 1 from rfl, this]
 rfl
theorem info_num : (Tryz.prog.info? 3).map (fun i => (i.zero, i.size, i.bytes)) = some (some (.int .i64 0), 1, 8) := by kernel_rfl
theorem info_step : (Tryz.prog.info? 113).map (fun i => (i.zero, i.size, i.bytes)) = some (some (.agg #[.int .i64 0, .int .i64 0, .int .i64 0]), 3, 24) := by kernel_rfl
def fsC : List FS → List Value
 | [] => []
 | p :: S => .int .i64 p.fr :: .int .i64 p.lo :: .int .i64 p.hi :: fsC S
theorem fsC_append : ∀ S T : List FS, fsC (S ++ T) = fsC S ++ fsC T
 | [], T => rfl
 | p :: S, T => by simp only [List.cons_append, fsC, fsC_append S T]
theorem fsC_get : ∀ (S : List FS) (i : Nat), i < S.length → (fsC S)[i * 3]? = some (.int .i64 (S.getD i FS.zero).fr) ∧ (fsC S)[i * 3 + 1]? = some (.int .i64 (S.getD i FS.zero).lo) ∧ (fsC S)[i * 3 + 2]? = some (.int .i64 (S.getD i FS.zero).hi)
 | [], i, h => by simp at h
 | p :: S, 0, _ => ⟨rfl, rfl, rfl⟩
 | p :: S, i + 1, h => by
  have := fsC_get S i (by simpa using h)
  rw [show (i + 1) * 3 = i * 3 + 1 + 1 + 1 by omega]
  simpa [fsC] using this
theorem fs_get {W : World} {base : Nat} {a : Option Addr} {c : Nat} {S : List FS} (h : W.ownsRow base 113 3 (.slice a S.length c) S.length (fsC S)) {i : Nat} (hi : i < S.length) : ∃ b, a = some ⟨b, 0, none⟩ ∧ base ≤ b ∧ b < W.heap.size ∧ W.cell? ⟨b, i * 3, none⟩ = some (.int .i64 (S.getD i FS.zero).fr) ∧ W.cell? ⟨b, i * 3 + 1, none⟩ = some (.int .i64 (S.getD i FS.zero).lo) ∧ W.cell? ⟨b, i * 3 + 2, none⟩ = some (.int .i64 (S.getD i FS.zero).hi) := by
 rcases h.2 with ⟨hv, hn⟩ | ⟨g, cap, cur, hv, hb, hg, hnc, hcm, hcs, htake⟩
 ·omega
 ·injection hv with h1 h2 h3
  have hc : ∀ j, j < S.length * 3 → cur[j]? = (fsC S)[j]? := fun j hj => by
   rw [← htake, List.getElem?_take_of_lt hj]
   simp
  obtain ⟨g1, g2, g3⟩ := fsC_get S i hi
  exact ⟨g, h1, hb, (blkL hg), (cell_of_row _ _ _ _ _ _ hg).trans ((hc _ (by omega)).trans g1), (cell_of_row _ _ _ _ _ _ hg).trans ((hc _ (by omega)).trans g2), (cell_of_row _ _ _ _ _ _ hg).trans ((hc _ (by omega)).trans g3)⟩
def cvTo (i : Nat) (t : Nat → RW) : List Int := [0, 1] ++ (List.range i).flatMap fun k => [(t k).lo + 1, (t k).hi + 1]
theorem cvTo_succ (i : Nat) (t : Nat → RW) : cvTo (i + 1) t = cvTo i t ++ [(t i).lo + 1, (t i).hi + 1] := by
 unfold cvTo
 rw [List.range_succ, List.flatMap_append, ← List.append_assoc]
 simp
theorem cvTo_len (t : Nat → RW) : ∀ i, (cvTo i t).length = 2 + 2 * i
 | 0 => rfl
 | i + 1 => by rw [cvTo_succ, List.length_append, cvTo_len t i]; simp; omega
theorem cvAt_len (n : Nat) (t : Nat → RW) : (cvAt n t).length ≤ 2 + 2 * n := by
 have h1 : (cvAt n t).length ≤ ((cvFrom n t).mergeSort fun x y => decide (x ≤ y)).length := by
  unfold cvAt Go.Lib.compact Go.Lib.compactUpTo
  rw [List.length_map]
  have := List.length_filter_le (Go.Lib.keeps ((cvFrom n t).mergeSort fun x y => decide (x ≤ y)).toArray) (List.range ((cvFrom n t).mergeSort fun x y => decide (x ≤ y)).length)
  simpa using this
 rw [List.length_mergeSort] at h1
 have h2 : (cvFrom n t).length = 2 + 2 * n := cvTo_len t n
 omega
theorem cvRun_len (el eh : Int → Int) : ∀ X : List Int, (cvRun el eh X).length ≤ X.length := by
 intro X
 have key : ∀ (n : Nat) (X : List Int), X.length = n → (cvRun el eh X).length ≤ n := by
  intro n
  induction n with
  | zero =>
   intro X hX
   obtain rfl : X = [] := List.eq_nil_of_length_eq_zero hX
   exact Nat.le_refl _
  | succ n ih =>
   intro X hX
   rcases List.eq_nil_or_concat X with rfl | ⟨Y, x, rfl⟩
   ·simp at hX
   ·rw [List.concat_eq_append] at *
    rw [cvRun_snoc]
    have := ih Y (by simpa using hX)
    unfold cvAdd
    split
    ·simp; omega
    ·split
     ·omega
     ·simp; omega
 exact key _ X rfl
theorem init_row (w : World) : (w.alloc (.cells #[.int .i64 0, .int .i64 1] 3)).ownsRow w.heap.size 3 1 (.slice (some ⟨w.heap.size, 0, none⟩) 2 2) 2 (intC [0, 1]) :=
 ⟨rfl, .inr ⟨w.heap.size, 2, _, rfl, Nat.le_refl _, heap_alloc_new w _, Nat.le_refl _, by decide, rfl, rfl⟩⟩
end Go.Proofs.YtgmpelhphnmknaaGreat
namespace Go.Proofs.YtgmpelhphnmknaaGreat
open Go Go.RowKit Go.Shelf
theorem two_ints {a b : Int} : ∀ u ∈ [Value.int .i64 a, .int .i64 b], u.oneCell' = true := by
 intro u hu
 simp at hu
 rcases hu with rfl | rfl <;> rfl
theorem three_ints {a b c : Int} : ∀ u ∈ [Value.int .i64 a, .int .i64 b, .int .i64 c], u.oneCell' = true := by
 intro u hu
 simp at hu
 rcases hu with rfl | rfl | rfl <;> rfl
structure CvW (w : World) (mb g N2 j : Nat) (X : List Int) (a : Option Addr) (c : Nat) (S : List FS) (W : World) : Prop where
 grown : w.grownBy W (some mb)
 xs : ∀ i, i < X.length → W.cell? ⟨g, i, none⟩ = some (.int .i64 (X.getD i 0))
 own : W.ownsRow N2 113 3 (.slice a S.length c) S.length (fsC S)
 map : ∃ D k, MapAt W mb k D ∧ k ≤ j ∧ ∀ i, j ≤ i → i < X.length → Fresh D (X.getD i 0)
 size : N2 ≤ W.heap.size
 gm : mb < w.heap.size
 gl : w.heap.size ≤ g
 gn : g < N2
section
variable {w : World} {mb g N2 j : Nat} {X : List Int} {a : Option Addr} {c : Nat} {S : List FS} {W W' : World}
theorem CvW.exp {D : DataW Unit} {k : Nat} (h : CvW w mb g N2 j X a c S W) (hg : W.grownBy W' (some mb)) (hm : MapAt W' mb k D) (hk : k ≤ j + 1) (hf : ∀ i, j + 1 ≤ i → i < X.length → Fresh D (X.getD i 0)) : CvW w mb g N2 (j + 1) X a c S W' := by
 have h1 := h.gm
 have h2 := h.gl
 have h3 := h.gn
 have h4 := h.size
 refine ⟨h.grown.trans hg, fun i hi => (World.cell?_of_block (hg.block g (by omega) (by intro e; injection e with e; omega))).trans (h.xs i hi), ?_, ⟨D, k, hm, hk, hf⟩, Nat.le_trans h4 hg.size, h1, h2, h3⟩
 refine own_keep h.own fun b hb => ?_
 have hb1 := own_block_le h.own hb
 exact hg.block b (h.own.lt b hb).2 (by intro e; injection e with e; omega)
theorem CvW.below (h : CvW w mb g N2 j X a c S W) (hb : Below W.heap.size W W') : CvW w mb g N2 j X a c S W' := by
 obtain ⟨D, k, hm, hk, hf⟩ := h.map
 have h3 := h.gn
 have h4 := h.size
 exact ⟨h.grown.trans (grown_of hb), fun i hi => (World.cell?_of_block (hb.block g (by omega))).trans (h.xs i hi), own_below h.own hb, ⟨D, k, hm.step hb, hk, hf⟩, Nat.le_trans h4 hb.size, h.gm, h.gl, h3⟩
theorem CvW.push {o : Obj} {g2 cap2 : Nat} {x lo hi : Int} (h : CvW w mb g N2 j X a c S W) (hg : (W.alloc o).grownBy W' (Value.slice a S.length c).ownBlock) (ho : W'.ownsRow N2 113 3 (.slice (some ⟨g2, 0, none⟩) (S.length + 1) cap2) (S.length + 1) (fsC S ++ [.int .i64 x, .int .i64 lo, .int .i64 hi])) :
  CvW w mb g N2 j X (some ⟨g2, 0, none⟩) cap2 (S ++ [⟨x, lo, hi⟩]) W' := by
 obtain ⟨D, k, hm, hk, hf⟩ := h.map
 have h1 := h.gm
 have h2 := h.gl
 have h3 := h.gn
 have h4 := h.size
 have hz := h.grown.size
 have hb := al_below W o
 have hke : ∀ b, b < N2 → b < W.heap.size → W'.heap[b]? = W.heap[b]? := fun b hb1 hb2 => (hg.block b (by simp; omega) (by
  intro e
  have := own_block_le h.own e.symm
  omega)).trans (hb.block b hb2)
 have hmw : MapAt W' mb k D := by
  obtain ⟨es, clock, q1, q2⟩ := hm
  exact ⟨es, clock, (hke mb (by omega) (by omega)).trans q1, q2⟩
 refine ⟨⟨hg.os.trans h.grown.os, hg.tape.trans h.grown.tape, hg.output.trans h.grown.output, by have := hg.size; simp at this; omega, fun q hq hne => (hke q (by omega) (by omega)).trans (h.grown.block q hq hne)⟩, fun i hi => (World.cell?_of_block (hke g h3 (by omega))).trans (h.xs i hi), ?_, ⟨D, k, hmw, hk, hf⟩, by have := hg.size; simp at this; omega, h1, h2, h3⟩
 rw [fsC_append, show (S ++ [(⟨x, lo, hi⟩ : FS)]).length = S.length + 1 by simp]
 exact ho
end
theorem take_while_at {l : List Int} {M : Int} : ∀ {j : Nat}, (∀ x ∈ l.take j, x ≤ M) → (∀ hj : j < l.length, M < l.getD j 0) → l.takeWhile (fun x => decide (x ≤ M)) = l.take j := by
 induction l with
 | nil => intro j _ _; simp
 | cons a l ih =>
  intro j h1 h2
  cases j with
  | zero =>
   have := h2 (by simp)
   simp only [List.getD_cons_zero] at this
   rw [List.takeWhile_cons, if_neg (by simpa using this)]
   rfl
  | succ j =>
   have ha := h1 a (by simp)
   rw [List.takeWhile_cons, if_pos (by simpa using ha), List.take_succ_cons]
   rw [ih (fun x hx => h1 x (by rw [List.take_succ_cons]; exact List.mem_cons_of_mem _ hx)) (fun hj => by simpa using h2 (by simpa using hj))]
def CurveRes (w : World) (mb : Nat) (S : List FS) (e : Ending) (w' : World) : Prop := ∃ a c, e = .returned (.slice a S.length c) ∧ w'.ownsRow w.heap.size 113 3 (.slice a S.length c) S.length (fsC S) ∧ w.grownBy w' (some mb)
theorem build_two (a b : Int) (W : World) : (Instr.buildSlice 24 2 #[(0, .int .i64 a), (1, .int .i64 b)]).run Tryz.prog W = .ok (.slice (some ⟨W.heap.size, 0, none⟩) 2 2) (W.alloc (.cells #[.int .i64 a, .int .i64 b] 3)) := by kernel_rfl
theorem curve_any (s : SK) (ta : Option Addr) (tn tc gb mb : Nat) (t : Nat → RW) (pa : Option Addr) (pn pc : Nat) (p : Nat → SPL) (bin : Nat) (B : Nat) (w : World) (hI : FxIn s ta tn t pa pn p B w) (hG : GrdAt s ta tn tc gb mb w) (hBm : B ≤ mb) (hM : w.heap[mb]? = some (.map #[] 0)) (hbin : bin < s.bn) :
  Calls Tryz.prog 41 #[.pointer (some ⟨gb, 0, none⟩), .int .i64 (bin : Int), .slice pa pn pc] w (CurveRes w mb (cvRun (mLo s tn t bin p pn) (mHi s tn t bin p pn) (cvIn tn t))) := by
 have HI := Lib.hid hI
 have HT := Lib.hid hI.tab
 have hle := hI.le
 have htn := hI.tl
 have HTS := Hd (fun i (hi : i < tn) => hI.tok.span i hi)
 have HNE := Hd (map_cells (MapAt.start hM) hG)
 have HGL := Hd (blkL hG)
 have HML := Hd (blkL hM)
 have HG := Hd (fun (W : World) (hb : w.grownBy W (some mb)) => show GrdAt s ta tn tc gb mb W from grown_at hb (map_cells (MapAt.start hM) hG) hG)
 have HM0 := Hd (MapAt.start hM)
 have HRES := Hd (fun a c S W (h1 : S = cvRun (mLo s tn t bin p pn) (mHi s tn t bin p pn) (cvIn tn t)) (h2 : W.ownsRow w.heap.size 113 3 (.slice a S.length c) S.length (fsC S)) (h3 : w.grownBy W (some mb)) => show CurveRes w mb (cvRun (mLo s tn t bin p pn) (mHi s tn t bin p pn) (cvIn tn t)) (.returned (.slice a S.length c)) W from ⟨a, c, by rw [h1], by rw [← h1]; exact h2, h3⟩)
 have HEX := Hd (fun (D : DataW Unit) (k : Nat) (x : Int) (W : World) (hb : w.grownBy W (some mb)) (hM : MapAt W mb k D) (hk : k < maxLen) (hx : 0 ≤ x ∧ x ≤ 1000000) (hF : Fresh D x) =>
  have hbw := grown_bel hb hBm hI.le
  expected_any s ta tn tc gb mb k t D bin x B W (hI.below hbw).le hBm (hI.below hbw).sky hI.sok (hI.below hbw).tab hI.tl hI.tok (HG.out W hb) hM hk hbin hx hF)
 have HMN := Hd (fun (x : Int) (W : World) (hb : w.grownBy W (some mb)) =>
  have hbw := grown_bel hb hBm hI.le
  have hE := e_ok hI hbin x
  have hP := hI.sok.parts
  mean_any s ta tn tc gb mb pa pn pc p (eLo s tn t bin x) (eHi s tn t bin x) B W (hI.below hbw).le hI.sok (HG.out W hb) (hI.below hbw).sp hI.pl hI.pok ⟨by omega, by omega⟩ ⟨by omega, by omega⟩)
 have HEL := Hd (fun x => show mLo s tn t bin p pn x = mnLo s (eLo s tn t bin x) p pn ∧ mHi s tn t bin p pn x = mnHi s (eHi s tn t bin x) p pn from ⟨rfl, rfl⟩)
 have HSO := Hd (fun (g cap : Nat) (W : World) (hg : g < W.heap.size) (hH : Go.Sort.Holds (Value.int .i64) W g 0 (cvTo tn t).toArray) => sortI_any g cap (cvTo tn t) W hg (by rw [cvTo_len]; omega) hH)
 have HCO := Hd (fun (g cap : Nat) (W : World) (hg : g < W.heap.size) (hcap : 2 + 2 * tn ≤ cap) (hH : Go.Sort.Holds (Value.int .i64) W g 0 ((cvTo tn t).mergeSort fun x y => decide (x ≤ y)).toArray) => compI_any g cap ((cvTo tn t).mergeSort fun x y => decide (x ≤ y)) W hg (by rw [List.length_mergeSort, cvTo_len]; omega) (by rw [List.length_mergeSort, cvTo_len]; omega) hH)
 simp only [List.length_mergeSort, cvTo_len] at HSO HCO
 have HAT := Hd (show Lib.compact ((cvTo tn t).mergeSort fun x y => decide (x ≤ y)) = cvAt tn t from rfl)
 rw [HAT.out] at HCO
 have HXL := Hd (cvAt_len tn t)
 have HXP := Hd (cvAt_pair tn t)
 have HXM := Hd (fun x (hx : x ∈ cvAt tn t) => show 0 ≤ x from by
  rcases cvFrom_mem.1 ((cvAt_mem tn t x).1 hx) with h | h | ⟨i, h1, h2⟩
  ·omega
  ·omega
  ·have := hI.tok.span i h1
   omega)
 have HIN := Hd (show cvIn tn t = (cvAt tn t).takeWhile fun x => decide (x ≤ 1000000) from rfl)
 unfold spV at HEX HMN
 unfold eLo eHi at *
 rw [HIN.out] at HRES ⊢
 generalize cvAt tn t = X at *
 generalize CurveRes w mb _ = RES at *
 generalize mLo s tn t bin p pn = mlo at *
 generalize mHi s tn t bin p pn = mhi at *
 clear hI HIN HAT
 have HGW := Hd (HG.out w ⟨rfl, rfl, rfl, Nat.le_refl _, fun _ _ _ => rfl⟩)
 have HO0 := Hd (init_row w)
 have HB0 := Hd (al_below w (.cells #[.int .i64 0, .int .i64 1] 3))
 have HG1 := Hd (GrdAt.step HGW.out HB0.out)
 have HINF := Hd (And.intro (info_parts info_num) (info_parts info_step))
 clear hG hM HGW
 have hbs := build_two
 go_enter Tryz.func41, Tryz.ntmps41
 go_wp2
 go_step3
 go_upto_region 2 with (fail)
 generalize World.alloc w _ = V at *
 unfold GrdAt at HG1
 (obtain ⟨g0, g1, g2, g3, g4, g5, g6, g7⟩ := cr8 HG1.out; simp only [hnq] at g0 g1 g2 g3 g4 g5 g6 g7)
 go_wp2
 clear g0 g1 g2 g3 g4 g5 g6 g7
 clear HG1
 obtain ⟨⟨i1, hi1, hz10, hz11, hz12⟩, ⟨i2, hi2, hz20, hz21, hz22⟩⟩ := HINF.out
 go_loopw [7, 21] (fun s7 s21 wr => ∃ (i g cap : Nat), i ≤ tn ∧ s21 = .int .i64 (i : Int) ∧ s7 = .slice (some ⟨g, 0, none⟩) (2 + 2 * i) cap ∧ Hid (wr.ownsRow w.heap.size 3 1 (.slice (some ⟨g, 0, none⟩) (2 + 2 * i) cap) (2 + 2 * i) (intC (cvTo i t)) ∧ Below w.heap.size w wr)) (fun _ s21 _ => tn - (intOf s21).toNat)
 case atStart => exact ⟨0, _, _, Nat.zero_le _, rfl, rfl, Lib.hid ⟨HO0.out, HB0.out⟩⟩
 case round =>
  clear HB0 HO0
  obtain ⟨i, g, cap, hi, rfl, rfl, HW⟩ := hrel
  obtain ⟨hown, hbw⟩ := HW.out
  by_cases hlt : i < tn
  ·have hlt' : (i : Int) < (tn : Int) := by omega
   obtain ⟨b, off, rfl, hbB, c0, c1, c2⟩ := (HT.out.below (hbw.mono hle)).get hlt
   have hsp := HTS.out i hlt
   have HSU := Hd (cvTo_succ i t)
   generalize t i = ti at *
   obtain ⟨k, lo, hi'⟩ := ti
   dsimp only at *
   have HW1 := Lib.hid hown
   have HB1 := Lib.hid hbw
   clear hown hbw HW
   go_upto_region 5 with (fail)
   have hb1 := al_below wr (.cells #[.int .i64 k, .int .i64 lo, .int .i64 hi'] 89)
   have hx := heap_alloc_new wr (.cells #[.int .i64 k, .int .i64 lo, .int .i64 hi'] 89)
   have HW2 := Hd (own_below HW1.out hb1)
   have HB2 := Hd (HB1.out.trans (hb1.mono HB1.out.size))
   clear HW1 HB1 hb1 c0 c1 c2
   generalize World.alloc wr _ = V1 at *
   have e1 := cell_of_row _ _ 1 _ _ _ hx
   have e2 := cell_of_row _ _ 2 _ _ _ hx
   simp only [hnq] at e1 e2
   have hb63 : 2 + 2 * i + 2 ≤ maxLen := by unfold maxLen; omega
   have hb47 : (2 + 2 * i + 2) * 8 ≤ 140737488355328 := by omega
   clear hx
   go_wp2_with (at_builtin; refine wpList_append_lies _ rfl _ _ 24 rfl w.heap.size 3 i1 (.int .i64 0) 1 8 Tryz.underlying24 hi1 hz10 hz11 hz12 rfl (by decide) _ (2 + 2 * i) (intC (cvTo i t)) rfl (HW2.out.alloc _) ⟨V1.heap.size, 0, none⟩ 2 2 [.int .i64 (lo + 1), .int .i64 (hi' + 1)] rfl rfl cells_new two_ints (by decide) hb63 hb47 (by have := HB2.out.size; simp; omega) _ rfl ?_; intro g2 cap2 w1 hown2 hgrow2 hat2 hlt2)
   have hb2 := al_below V1 (.cells #[.int .i64 (lo + 1), .int .i64 (hi' + 1)] 3)
   have hbz : Below w.heap.size w (V1.alloc (.cells #[.int .i64 (lo + 1), .int .i64 (hi' + 1)] 3)) := HB2.out.trans (hb2.mono HB2.out.size)
   have HB3 := Hd (hbz.grown hgrow2 hbz.size (fun b hb => own_block_le HW2.out hb))
   have hown3 : w1.ownsRow w.heap.size 3 1 (.slice (some ⟨g2, 0, none⟩) (2 + 2 * (i + 1)) cap2) (2 + 2 * (i + 1)) (intC (cvTo (i + 1) t)) := by
    rw [HSU.out]
    unfold intC
    rw [List.map_append]
    exact hown2
   have HO3 := Lib.hid hown3
   clear hown2 hgrow2 hat2 hlt2 hown3 hb2 hbz HB2 HW2
   go_roundw
   case rel => first | exact ⟨i + 1, g2, cap2, by omega, by go_num, rfl, Lib.hid ⟨HO3.out, HB3.out⟩⟩ | ((repeat apply Exists.intro); exact ⟨⟨i + 1, g2, cap2, by omega, by go_num, rfl, Lib.hid ⟨HO3.out, HB3.out⟩⟩, rfl⟩)
   case measure => simp [intOf]; omega
  ·obtain rfl : i = tn := by omega
   have hlt' : ¬ (i : Int) < (i : Int) := by omega
   obtain ⟨g0, cap0, hv0, hg1, hg2, hcap, _, _, hH⟩ := Lib.holds_of_ownsRow hown (by simp)
   obtain ⟨rfl, rfl⟩ : g = g0 ∧ cap = cap0 := by
    injection hv0 with h1 h2 h3
    injection h1 with h1
    injection h1 with h1
    exact ⟨h1, h3⟩
   have HB1 := Lib.hid hbw
   have HGL2 := Lib.hid hg2
   have HSO2 := Hd (HSO.out g cap wr hg2 hH)
   clear hown hbw HW hv0 hH HT HTS HSO
   go_upto_region 9 with (go_at_call 88; refine HSO2.out.mono ?_; rintro e W1 ⟨rfl, hgr1, hh1⟩; have HGR1 := Lib.hid hgr1; have HCO2 := Hd (HCO.out g cap W1 (Nat.lt_of_lt_of_le HGL2.out hgr1.size) hcap hh1); clear hgr1 hh1 HCO HSO2)
   go_step3
   go_wp2_with (go_at_call 89; refine HCO2.out.mono ?_; rintro e W2 ⟨rfl, hgr2, hx2⟩; have HGR2 := Lib.hid hgr2; have HX2 := Lib.hid hx2; clear hgr2 hx2 HCO2)
   have hb2 : Below w.heap.size w W2 := (HB1.out.trans (grown_bel HGR1.out hg1 HB1.out.size)).trans (grown_bel HGR2.out hg1 (Nat.le_trans HB1.out.size HGR1.out.size))
   have HGN := Hd (show g < W2.heap.size from Nat.lt_of_lt_of_le HGL2.out (Nat.le_trans HGR1.out.size HGR2.out.size))
   have HC0 := Hd (show CvW w mb g W2.heap.size 0 X none 0 [] W2 from ⟨grown_of hb2, HX2.out, World.ownsRow_nil _ _ _ _, ⟨_, 0, MapAt.step HM0.out hb2, Nat.le_refl _, fun _ _ _ => ⟨⟨_, rfl⟩, fun _ _ _ => rfl⟩⟩, Nat.le_refl _, HML.out, hg1, HGN.out⟩)
   have HN2 := Lib.hid hb2.size
   clear hb2 HB1 HGR1 HGR2 HX2 HM0 HGL2
   generalize W2.heap.size = N2 at *
   go_loopw [10, 42] (fun s10 s42 wr => ∃ (j n c : Nat) (a : Option Addr) (S : List FS), j ≤ X.length ∧ s42 = .int .i64 (j : Int) ∧ s10 = .slice a n c ∧ Hid (S.length = n) ∧ Hid (S = cvRun mlo mhi (X.take j) ∧ (∀ x ∈ X.take j, x ≤ 1000000) ∧ CvW w mb g N2 j X a c S wr)) (fun _ s42 _ => X.length - (intOf s42).toNat)
   case atStart => exact ⟨0, 0, 0, none, [], Nat.zero_le _, rfl, rfl, Lib.hid rfl, Lib.hid ⟨rfl, fun _ h => (by cases h), HC0.out⟩⟩
   case round =>
    clear HC0
    obtain ⟨j, n, c, a, S, hj, rfl, rfl, HLN, HW⟩ := hrel
    by_cases hlj : j < X.length
    ·have hlj' : (j : Int) < (X.length : Int) := by omega
     have hxl := HXL.out
     have c0 := HW.out.2.2.xs j hlj
     have hxm := HXM.out (X.getD j 0) (by rw [List.getD_eq_getElem?_getD, List.getElem?_eq_getElem hlj]; exact List.getElem_mem _)
     have HTK := Hd (show X.take (j + 1) = X.take j ++ [X.getD j 0] from by rw [List.getD_eq_getElem?_getD, List.getElem?_eq_getElem hlj]; simp)
     have HNX := Hd (fun i (h1 : j < i) (h2 : i < X.length) => show X.getD j 0 < X.getD i 0 from by rw [List.getD_eq_getElem?_getD, List.getElem?_eq_getElem hlj, List.getD_eq_getElem?_getD, List.getElem?_eq_getElem h2]; exact List.pairwise_iff_getElem.1 HXP.out j i hlj h2 h1)
     obtain ⟨x, hxx⟩ : ∃ x, X.getD j 0 = x := ⟨_, rfl⟩
     have HXX := Lib.hid hxx
     rw [hxx] at c0 hxm HTK HNX
     clear hxx
     by_cases hdeep : x ≤ 1000000
     ·obtain ⟨D, k, hmp, hk, hfr⟩ := HW.out.2.2.map
      have hXP := HXX.out
      have HE1 := Hd (HEX.out D k x wr HW.out.2.2.grown hmp (by unfold maxLen; omega) ⟨hxm, hdeep⟩ (by have := hfr j (Nat.le_refl _) hlj; rwa [hXP] at this))
      have HFR := Hd (fun i (h1 : j + 1 ≤ i) (h2 : i < X.length) => show Fresh (D.put (.int .i64 x) (.lit (.int .i64 0))) (X.getD i 0) from by
       have := hfr j (Nat.le_refl _) hlj
       rw [hXP] at this
       exact this.put (HNX.out i (by omega) h2))
      have HSS := Hd (And.intro HW.out.1 HW.out.2.1)
      have HCW := Lib.hid HW.out.2.2
      obtain ⟨hl1, hl2⟩ := HEL.out x
      have HLH := Hd (And.intro hl1 hl2)
      have HMx := Hd (fun (W : World) (hb : w.grownBy W (some mb)) => HMN.out x W hb)
      clear HW hmp hfr hXP hl1 hl2
      generalize exLo i t (s.ln bin) (s.l bin) x = ELO at *
      generalize exHi i t (s.ln bin) (s.l bin) x = EHI at *
      rw [← HLH.out.1, ← HLH.out.2] at HMx
      have hk1 : k + 1 ≤ j + 1 := by omega
      go_upto_region 13 with (fail)
      go_upto_region 14 with (first
       | (go_at_call 39; refine HE1.out.mono ?_; rintro e W3 ⟨rfl, hm3, hg3⟩; have HC3 := Hd (HCW.out.exp hg3 hm3 hk1 HFR.out); clear hm3 hg3)
       | (go_at_call 38; refine (HMx.out _ HC3.out.grown).mono ?_; rintro e W4 ⟨rfl, hb4⟩; have HC4 := Hd (HC3.out.below hb4); clear hb4))
      have hb5 := al_below W4 (.cells #[.int .i64 (mlo x), .int .i64 (mhi x)] 28)
      have HQ := Hd (heap_alloc_new W4 (.cells #[.int .i64 (mlo x), .int .i64 (mhi x)] 28))
      have HC5 := Hd (HC4.out.below hb5)
      clear HC4 hb5 HE1 HMx HLH
      generalize World.alloc W4 _ = V5 at *
      generalize W4.heap.size = qb at *
      obtain ⟨LO, hLO⟩ : ∃ v, mlo x = v := ⟨_, rfl⟩
      obtain ⟨HI2, hHI⟩ : ∃ v, mhi x = v := ⟨_, rfl⟩
      rw [hLO, hHI] at HQ ⊢
      have HLO := Hd (And.intro hLO hHI)
      clear hLO hHI
      obtain ⟨q0, q1⟩ := cr2 HQ.out
      simp only [hnq] at q0 q1
      have lq := (blkL HQ.out)
      cases n with
      | zero =>
       have hS0 : S = [] := List.eq_nil_of_length_eq_zero HLN.out
       have HAD := Hd (show cvRun mlo mhi (X.take (j + 1)) = S ++ [⟨x, LO, HI2⟩] from by rw [HTK.out, cvRun_snoc, ← HSS.out.1, hS0]; show [] ++ [(⟨x, mlo x, mhi x⟩ : FS)] = _; rw [HLO.out.1, HLO.out.2])
       clear hS0
       go_upto_region 15 with (fail)
       (refine wp_region_calm (V5.heap.size) (by kernel_rfl) (by kernel_rfl) ?_; (repeat (first | go_big_quiet_step (fail) | quiet_step (fail))); refine wpQuiet_nil (wqn ?_); intro xq)
       (have hq := xq.below; have HC6 := Hd (HC5.out.below hq); have HQ6 := Hd (keep_at HQ.out hq); clear hq HC5 HQ q0 q1 lq; generalize Calm.val xq = V6 at *; obtain ⟨q0, q1⟩ := cr2 HQ6.out; simp only [hnq] at q0 q1; have hn200 : 0 ≤ 200 := (by have h1 := cvRun_len mlo mhi (X.take j); rw [← HSS.out.1, HLN.out, List.length_take] at h1; omega); have HOW := Hd (show V6.ownsRow N2 113 3 (.slice _ (0) c) (0) (fsC S) from (by have := HC6.out.own; rwa [HLN.out] at this)); have hb63 : 0 + 1 ≤ maxLen := (by unfold maxLen; omega); have hb47 : (0 + 1) * 24 ≤ 140737488355328 := (by omega); have hbs2 : N2 ≤ (V6.alloc (.cells #[.int .i64 x, .int .i64 LO, .int .i64 HI2] 113)).heap.size := (by have := HC6.out.size; simp; omega); go_wp2_with (at_builtin; refine wpList_append_lies _ rfl _ _ 110 rfl N2 113 i2 _ 3 24 Tryz.underlying110 hi2 hz20 hz21 hz22 rfl (by decide) _ (0) (fsC S) rfl (HOW.out.alloc _) ⟨V6.heap.size, 0, none⟩ 1 1 [.int .i64 x, .int .i64 LO, .int .i64 HI2] rfl rfl cells_new three_ints (by decide) hb63 hb47 hbs2 _ rfl ?_; intro g3 cap3 w1 hown3 hgrow3 hat3 hlt3); have HC7 := Hd (HC6.out.push (o := .cells #[.int .i64 x, .int .i64 LO, .int .i64 HI2] 113) (W' := w1) (g2 := g3) (cap2 := cap3) (x := x) (lo := LO) (hi := HI2) (by rw [HLN.out]; exact hgrow3) (by rw [HLN.out]; exact hown3)); have HL7 := Hd (show (S ++ [(⟨x, LO, HI2⟩ : FS)]).length = 0 + 1 from (by rw [List.length_append, HLN.out]; rfl)); have HA7 := Hd (show ∀ y ∈ X.take (j + 1), y ≤ 1000000 from (fun y hy => by rw [HTK.out] at hy; rcases List.mem_append.1 hy with h | h; exact HSS.out.2 y h; simp only [List.mem_singleton] at h; subst h; exact hdeep)); clear hown3 hgrow3 hat3 hlt3 HC6 HQ6 HOW; go_roundw; (case rel => first | exact ⟨j + 1, 0 + 1, cap3, _, _, by omega, by go_num, rfl, HL7, Lib.hid ⟨HAD.out.symm, HA7.out, HC7.out⟩⟩ | ((repeat apply Exists.intro); exact ⟨⟨j + 1, 0 + 1, cap3, _, _, by omega, by go_num, rfl, HL7, Lib.hid ⟨HAD.out.symm, HA7.out, HC7.out⟩⟩, rfl⟩)); (case measure => (simp [intOf]; omega)))
      | succ m =>
       obtain ⟨b, rfl, hb1, hb2, _, k1, k2⟩ := fs_get HC5.out.own (i := m) (by rw [HLN.out]; omega)
       obtain ⟨qq, hqq⟩ : ∃ q, S.getD m FS.zero = q := ⟨_, rfl⟩
       have HLA := Hd (show S.getLast? = some qq from by rw [List.getLast?_eq_getElem?, HLN.out, show m + 1 - 1 = m by omega, ← hqq, List.getD_eq_getElem?_getD, List.getElem?_eq_getElem (by rw [HLN.out]; omega)]; rfl)
       rw [hqq] at k1 k2
       obtain ⟨fr0, lo0, hi0⟩ := qq
       dsimp only at k1 k2
       clear hqq
       have HAN := Hd (show cvRun mlo mhi (X.take (j + 1)) = if lo0 = LO ∧ hi0 = HI2 then S else S ++ [⟨x, LO, HI2⟩] from by rw [HTK.out, cvRun_snoc, ← HSS.out.1]; unfold cvAdd; rw [HLA.out]; dsimp only; rw [HLO.out.1, HLO.out.2])
       have hmb : m ≤ 200 := by
        have h1 := cvRun_len mlo mhi (X.take j)
        rw [← HSS.out.1, HLN.out, List.length_take] at h1
        omega
       have u0 : ((m : Int) + 1 == 0) = false := by rw [beq_eq_false_iff_ne]; omega
       have u1 : IntKind.i64.wrap (m : Int) = (m : Int) := IntWalk.i64_in _ (by omega)
       have u2 : (0 : Int) ≤ (m : Int) := by omega
       have u3 : ((m : Int)).toNat = m := by omega
       have u4 : (m : Int) < (m : Int) + 1 := by omega
       have hnq1 := neq_span (a := lo0) (b := hi0) (c := LO) (d := HI2)
       by_cases hsame : lo0 = LO ∧ hi0 = HI2
       ·have HAD := Hd (HAN.out.trans (if_pos hsame))
        obtain ⟨rfl, rfl⟩ := hsame
        simp only [beq_self_eq_true, Bool.and_self, Bool.not_true] at hnq1
        clear HAN
        go_upto_region 15 with (fail)
        (refine wp_region_calm (V5.heap.size) (by kernel_rfl) (by kernel_rfl) ?_; (repeat (first | go_big_quiet_step (fail) | quiet_step (fail))); refine wpQuiet_nil (wqn ?_); intro xq)
        have hq := xq.below
        have HC6 := Hd (HC5.out.below hq)
        have HA7 := Hd (show ∀ y ∈ X.take (j + 1), y ≤ 1000000 from (fun y hy => by rw [HTK.out] at hy; rcases List.mem_append.1 hy with h | h; exact HSS.out.2 y h; simp only [List.mem_singleton] at h; subst h; exact hdeep))
        clear hq HC5 HQ q0 q1 lq
        generalize Calm.val xq = V6 at *
        go_wp2
        go_roundw
        case rel => first | exact ⟨j + 1, m + 1, c, _, S, by omega, by go_num, rfl, HLN, Lib.hid ⟨HAD.out.symm, HA7.out, HC6.out⟩⟩ | ((repeat apply Exists.intro); exact ⟨⟨j + 1, m + 1, c, _, S, by omega, by go_num, rfl, HLN, Lib.hid ⟨HAD.out.symm, HA7.out, HC6.out⟩⟩, rfl⟩)
        case measure => simp [intOf]; omega
       ·have HAD := Hd (HAN.out.trans (if_neg hsame))
        rw [show (lo0 == LO && hi0 == HI2) = false from by rw [Bool.and_eq_false_iff]; by_cases h1 : lo0 = LO; (right; rw [beq_eq_false_iff_ne]; exact fun h => hsame ⟨h1, h⟩); (left; rw [beq_eq_false_iff_ne]; exact h1)] at hnq1
        simp only [Bool.not_false] at hnq1
        clear HAN hsame
        go_upto_region 15 with (fail)
        (refine wp_region_calm (V5.heap.size) (by kernel_rfl) (by kernel_rfl) ?_; (repeat (first | go_big_quiet_step (fail) | quiet_step (fail))); refine wpQuiet_nil (wqn ?_); intro xq)
        (have hq := xq.below; have HC6 := Hd (HC5.out.below hq); have HQ6 := Hd (keep_at HQ.out hq); clear hq HC5 HQ q0 q1 lq; generalize Calm.val xq = V6 at *; obtain ⟨q0, q1⟩ := cr2 HQ6.out; simp only [hnq] at q0 q1; have hn200 : m + 1 ≤ 200 := (by have h1 := cvRun_len mlo mhi (X.take j); rw [← HSS.out.1, HLN.out, List.length_take] at h1; omega); have HOW := Hd (show V6.ownsRow N2 113 3 (.slice _ (m + 1) c) (m + 1) (fsC S) from (by have := HC6.out.own; rwa [HLN.out] at this)); have hb63 : m + 1 + 1 ≤ maxLen := (by unfold maxLen; omega); have hb47 : (m + 1 + 1) * 24 ≤ 140737488355328 := (by omega); have hbs2 : N2 ≤ (V6.alloc (.cells #[.int .i64 x, .int .i64 LO, .int .i64 HI2] 113)).heap.size := (by have := HC6.out.size; simp; omega); go_wp2_with (at_builtin; refine wpList_append_lies _ rfl _ _ 110 rfl N2 113 i2 _ 3 24 Tryz.underlying110 hi2 hz20 hz21 hz22 rfl (by decide) _ (m + 1) (fsC S) rfl (HOW.out.alloc _) ⟨V6.heap.size, 0, none⟩ 1 1 [.int .i64 x, .int .i64 LO, .int .i64 HI2] rfl rfl cells_new three_ints (by decide) hb63 hb47 hbs2 _ rfl ?_; intro g3 cap3 w1 hown3 hgrow3 hat3 hlt3); have HC7 := Hd (HC6.out.push (o := .cells #[.int .i64 x, .int .i64 LO, .int .i64 HI2] 113) (W' := w1) (g2 := g3) (cap2 := cap3) (x := x) (lo := LO) (hi := HI2) (by rw [HLN.out]; exact hgrow3) (by rw [HLN.out]; exact hown3)); have HL7 := Hd (show (S ++ [(⟨x, LO, HI2⟩ : FS)]).length = m + 1 + 1 from (by rw [List.length_append, HLN.out]; rfl)); have HA7 := Hd (show ∀ y ∈ X.take (j + 1), y ≤ 1000000 from (fun y hy => by rw [HTK.out] at hy; rcases List.mem_append.1 hy with h | h; exact HSS.out.2 y h; simp only [List.mem_singleton] at h; subst h; exact hdeep)); clear hown3 hgrow3 hat3 hlt3 HC6 HQ6 HOW; go_roundw; (case rel => first | exact ⟨j + 1, m + 1 + 1, cap3, _, _, by omega, by go_num, rfl, HL7, Lib.hid ⟨HAD.out.symm, HA7.out, HC7.out⟩⟩ | ((repeat apply Exists.intro); exact ⟨⟨j + 1, m + 1 + 1, cap3, _, _, by omega, by go_num, rfl, HL7, Lib.hid ⟨HAD.out.symm, HA7.out, HC7.out⟩⟩, rfl⟩)); (case measure => (simp [intOf]; omega)))
     ·have hS := HW.out.1
      have HRR := Hd (HRES.out a c S wr (by rw [take_while_at HW.out.2.1 (fun _ => by rw [HXX.out]; omega)]; exact hS) (own_base HW.out.2.2.own HN2.out) HW.out.2.2.grown)
      have hln := HLN.out
      rw [hln] at HRR
      clear HW hS hln
      go_wp2
      exact HRR.out
    ·obtain rfl : j = X.length := by omega
     have hlj' : ¬ ((X.length : Nat) : Int) < (X.length : Int) := by omega
     have HRR := Hd (HRES.out a c S wr (by rw [take_while_at HW.out.2.1 (fun h => by omega)]; exact HW.out.1) (own_base HW.out.2.2.own HN2.out) HW.out.2.2.grown)
     have hln := HLN.out
     rw [hln] at HRR
     clear HW hln
     go_wp2
     exact HRR.out
end Go.Proofs.YtgmpelhphnmknaaGreat
namespace Go.Proofs.YtgmpelhphnmknaaGreat
open Go Go.RowKit Go.Shelf
theorem testS_any (r : RW) (x : Int) (y : Int) (b : Nat) (w : World) (hx : w.heap[b]? = some (.cells #[.int .i64 x, .int .i64 y] 28)) :
  Calls Tryz.prog 42 #[r.agg, .pointer (some ⟨b, 0, none⟩)] w fun e w' => e = .returned (.bool (decide (r.lo ≤ y ∧ x ≤ r.hi))) ∧ Below w.heap.size w w' := by
 have hb := (blkL hx)
 have d0 : w.cell? ⟨b, 0, none⟩ = some (.int .i64 x) := cell_of_row _ _ 0 _ _ _ hx
 have d1 : w.cell? ⟨b, 1, none⟩ = some (.int .i64 y) := cell_of_row _ _ 1 _ _ _ hx
 clear hx
 obtain ⟨k, lo, hi⟩ := r
 have HB := Hd (al_below w (.cells #[.int .i64 k, .int .i64 lo, .int .i64 hi] 113))
 show Calls Tryz.prog 42 #[.agg #[.int .i64 k, .int .i64 lo, .int .i64 hi], .pointer (some ⟨b, 0, none⟩)] w fun e w' => e = .returned (.bool (decide (lo ≤ y ∧ x ≤ hi))) ∧ Below w.heap.size w w'
 by_cases h1 : lo ≤ y
 ·by_cases h2 : x ≤ hi
  ·have HD := Hd (decide_eq_true (show lo ≤ y ∧ x ≤ hi from ⟨h1, h2⟩))
   rw [HD.out]
   go_enter Tryz.func42, Tryz.ntmps42
   go_wp2
   go_ret
   exact ⟨rfl, HB.out⟩
  ·have HD := Hd (decide_eq_false (show ¬ (lo ≤ y ∧ x ≤ hi) from fun h => h2 h.2))
   rw [HD.out]
   go_enter Tryz.func42, Tryz.ntmps42
   go_wp2
   go_ret
   exact ⟨rfl, HB.out⟩
 ·have HD := Hd (decide_eq_false (show ¬ (lo ≤ y ∧ x ≤ hi) from fun h => h1 h.1))
  rw [HD.out]
  go_enter Tryz.func42, Tryz.ntmps42
  go_wp2
  go_ret
  exact ⟨rfl, HB.out⟩
theorem indexS_any (a : Option Addr) (n c : Nat) (t : Nat → RW) (x : Int) (y : Int) (b B : Nat) (w : World) (hBw : B ≤ w.heap.size) (hn : n ≤ 200) (hT : RWs B w a n t) (hx : w.heap[b]? = some (.cells #[.int .i64 x, .int .i64 y] 28)) :
  Calls Tryz.prog 43 #[.slice a n c, .func (Fn.func 42) #[] #[.pointer (some ⟨b, 0, none⟩)]] w fun e w' => e = .returned (.int .i64 (if fstN n (fun i => decide ((t i).lo ≤ y ∧ x ≤ (t i).hi)) < n then (fstN n (fun i => decide ((t i).lo ≤ y ∧ x ≤ (t i).hi)) : Int) else -1)) ∧ Below w.heap.size w w' := by
 have HC := Hd (fun W (hb : Below w.heap.size w W) i => testS_any (t i) x y b W (blkS hx hb))
 obtain ⟨p, hp⟩ : ∃ p : Nat → Bool, ∀ i, p i = decide ((t i).lo ≤ y ∧ x ≤ (t i).hi) := ⟨_, fun _ => rfl⟩
 have hpp : (fun i => decide ((t i).lo ≤ y ∧ x ≤ (t i).hi)) = p := by funext i; rw [hp]
 rw [hpp]
 simp only [← hp] at HC
 have HF := Hd (fun i (hi : i < n) (hn : ∀ j, j < i → p j = false) (h : p i = true) => show (if fstN n p < n then (fstN n p : Int) else -1) = (i : Int) from by rw [fstN_at hi hn h, if_pos hi])
 have HG := Hd (fun (hn : ∀ j, j < n → p j = false) => show (if fstN n p < n then (fstN n p : Int) else -1) = -1 from by rw [fstN_none hn, if_neg (Nat.lt_irrefl _)])
 have HT := Lib.hid hT
 have HB0 := Hd (Below.refl w.heap.size w)
 generalize (if fstN n p < n then (fstN n p : Int) else -1) = F at *
 clear hx hT hp hpp
 go_enter Tryz.func43, Tryz.ntmps43
 go_wp2
 go_loopw [8] (fun x wr => ∃ i : Nat, i ≤ n ∧ x = .int .i64 (i : Int) ∧ Hid (∀ j, j < i → p j = false) ∧ Hid (Below w.heap.size w wr)) (fun x _ => n - (intOf x).toNat)
 case atStart => exact ⟨0, Nat.zero_le _, rfl, Hd (fun j hj => by omega), HB0⟩
 case round =>
  clear HB0
  obtain ⟨i, hi, rfl, HN, HB0⟩ := hrel
  by_cases hlt : i < n
  ·have hlt' : (i : Int) < (n : Int) := by omega
   obtain ⟨b1, off, rfl, hbB, c0, c1, c2⟩ := (HT.out.below (HB0.out.mono hBw)).get hlt
   have HCi := Hd (HC.out wr HB0.out i)
   obtain ⟨r, hr⟩ : ∃ r, t i = r := ⟨_, rfl⟩
   rw [hr] at HCi c0 c1 c2
   obtain ⟨k, lo, hi'⟩ := r
   unfold RW.agg at HCi
   dsimp only at HCi c0 c1 c2
   clear hr
   cases hpi : p i with
   | true =>
    rw [hpi] at HCi
    have HFi := Hd (HF.out i hlt HN.out hpi)
    clear hpi HC HF HG HN
    go_wp2_with (go_at_call 42; refine HCi.out.mono ?_; rintro e W1 ⟨rfl, hb1⟩; have HB1 := Hd (HB0.out.trans (hb1.mono HB0.out.size)); clear hb1 c0 c1 c2)
    go_ret
    exact ⟨by rw [HFi.out]; rfl, HB1.out⟩
   | false =>
    rw [hpi] at HCi
    have HN2 := Hd (show ∀ j, j < i + 1 → p j = false from fun j hj => by
     by_cases e : j = i
     ·rw [e, hpi]
     ·exact HN.out j (by omega))
    clear hpi HC HF HG HN
    go_wp2_with (go_at_call 42; refine HCi.out.mono ?_; rintro e W1 ⟨rfl, hb1⟩; have HB1 := Hd (HB0.out.trans (hb1.mono HB0.out.size)); clear hb1 c0 c1 c2)
    go_roundw
    case rel => exact ⟨i + 1, by omega, by go_num, HN2, HB1⟩
    case measure => simp [intOf]; omega
  ·obtain rfl : i = n := by omega
   have HGi := Hd (HG.out HN.out)
   clear HC HF HG HN
   go_wp2
   go_ret
   exact ⟨by rw [HGi.out]; rfl, HB0.out⟩
def tS (S : List FS) (i : Nat) : RW := ⟨(S.getD i FS.zero).fr, (S.getD i FS.zero).lo, (S.getD i FS.zero).hi⟩
theorem rws_of_own {W : World} {base : Nat} {a : Option Addr} {c : Nat} {S : List FS} (h : W.ownsRow base 113 3 (.slice a S.length c) S.length (fsC S)) : RWs W.heap.size W a S.length (tS S) := by
 rcases Nat.eq_zero_or_pos S.length with h0 | h0
 ·exact .inl h0
 ·obtain ⟨b, ha, hb1, hb2, _, _, _⟩ := fs_get h h0
  refine .inr ⟨b, 0, ha, hb2, fun i hi => ?_⟩
  obtain ⟨b', ha', _, _, k0, k1, k2⟩ := fs_get h hi
  rw [ha] at ha'
  injection ha' with h1
  injection h1 with h1
  subst h1
  rw [Nat.zero_add]
  exact ⟨k0, k1, k2⟩
end Go.Proofs.YtgmpelhphnmknaaGreat
