/- Texts put together: ToLnB, ToLnC, ToLnD. -/
import Derived.Test.YtgmpelhphnmknaaGreatQax
import Derived.Test.YtgmpelhphnmknaaGreatQas
set_option maxRecDepth 100000
set_option maxHeartbeats 8000000
set_option linter.unusedVariables false
set_option linter.unusedSimpArgs false
namespace Go.Proofs.YtgmpelhphnmknaaGreat
open Go Go.RowKit Go.Shelf
structure ST where
 sl : Int
 st : Int
 dn : Int
 deriving DecidableEq
def ST.zero : ST := ⟨0, 0, 0⟩
def ST.val (s : ST) : Value := .agg #[.int .i64 s.sl, .int .i64 s.st, .int .i64 s.dn]
def thrF (z p y q : Int) : ST := if y < z then ⟨p - q, q * z - p * y, z - y⟩ else ⟨q - p, p * y - q * z, y - z⟩
structure ST.ok (s : ST) : Prop where
 sl : -2000000 ≤ s.sl ∧ s.sl ≤ 2000000
 st : -200000000000 ≤ s.st ∧ s.st ≤ 200000000000
 dn : 1 ≤ s.dn ∧ s.dn ≤ 100000
theorem mulb {x y K M : Int} (hK : 0 ≤ K) (hx : -K ≤ x ∧ x ≤ K) (hy : -M ≤ y ∧ y ≤ M) : -(K * M) ≤ x * y ∧ x * y ≤ K * M := fmul_bound hK hx hy
theorem thrF_ok {z p y q : Int} (hz : 0 ≤ z ∧ z ≤ 100000) (hy : 0 ≤ y ∧ y ≤ 100000) (hp : -1000000 ≤ p ∧ p ≤ 1000000) (hq : -1000000 ≤ q ∧ q ≤ 1000000) (hne : z ≠ y) : (thrF z p y q).ok := by
 have h1 := mulb (K := 1000000) (M := 100000) (by decide) hp (y := y) (by omega)
 have h2 := mulb (K := 1000000) (M := 100000) (by decide) hq (y := z) (by omega)
 unfold thrF
 split
 ·exact ⟨by dsimp only; omega, by dsimp only; omega, by dsimp only; omega⟩
 ·exact ⟨by dsimp only; omega, by dsimp only; omega, by dsimp only; omega⟩
theorem lnThrough_any (z p y q : Int) (w : World) (hz : 0 ≤ z ∧ z ≤ 100000) (hy : 0 ≤ y ∧ y ≤ 100000) (hp : -1000000 ≤ p ∧ p ≤ 1000000) (hq : -1000000 ≤ q ∧ q ≤ 1000000) :
  Calls Tryz.prog 189 #[.int .i64 z, .int .i64 p, .int .i64 y, .int .i64 q] w fun e w' => e = .returned (thrF z p y q).val ∧ Below w.heap.size w w' := by
 have h1 := mulb (K := 1000000) (M := 100000) (by decide) hp (y := y) (by omega)
 have h2 := mulb (K := 1000000) (M := 100000) (by decide) hq (y := z) (by omega)
 unfold thrF ST.val
 generalize hm1 : p * y = m1 at *
 generalize hm2 : q * z = m2 at *
 by_cases hc : y < z
 ·rw [if_pos hc]
  have HB := Hd (al_below w (.cells #[.int .i64 (p - q), .int .i64 (m2 - m1), .int .i64 (z - y)] 204))
  have HX := Hd (heap_alloc_new w (.cells #[.int .i64 (p - q), .int .i64 (m2 - m1), .int .i64 (z - y)] 204))
  go_enter Tryz.func189, Tryz.ntmps189
  go_wp2
  generalize World.alloc w _ = V at *
  obtain ⟨q0, q1, q2⟩ := cr3 HX.out
  exact bodyPost_ret (v := .agg #[.int .i64 (p - q), .int .i64 (m2 - m1), .int .i64 (z - y)]) (by simp [results, Tryz.results189, go_sem, q0, q1, q2]) rfl ⟨rfl, HB.out⟩
 ·rw [if_neg hc]
  have HB := Hd (al_below w (.cells #[.int .i64 (q - p), .int .i64 (m1 - m2), .int .i64 (y - z)] 204))
  have HX := Hd (heap_alloc_new w (.cells #[.int .i64 (q - p), .int .i64 (m1 - m2), .int .i64 (y - z)] 204))
  go_enter Tryz.func189, Tryz.ntmps189
  go_wp2
  generalize World.alloc w _ = V at *
  obtain ⟨q0, q1, q2⟩ := cr3 HX.out
  exact bodyPost_ret (v := .agg #[.int .i64 (q - p), .int .i64 (m1 - m2), .int .i64 (y - z)]) (by simp [results, Tryz.results189, go_sem, q0, q1, q2]) rfl ⟨rfl, HB.out⟩
def atN (s : ST) (z : Int) : Int := s.st + s.sl * z
theorem atN_bound {s : ST} (hs : s.ok) {z : Int} (hz : -100000 ≤ z ∧ z ≤ 200000) : -600000000000 ≤ atN s z ∧ atN s z ≤ 600000000000 := by
 have h1 := mulb (K := 2000000) (M := 200000) (by decide) hs.sl (y := z) (by omega)
 have := hs.st
 unfold atN
 omega
theorem at_any (s : ST) (z : Int) (w : World) (hs : s.ok) (hz : -100000 ≤ z ∧ z ≤ 200000) :
  Calls Tryz.prog 110 #[s.val, .int .i64 z] w fun e w' => e = .returned (spV (atN s z) s.dn) ∧ Below w.heap.size w w' := by
 have h1 := mulb (K := 2000000) (M := 200000) (by decide) hs.sl (y := z) (by omega)
 have h2 := hs.st
 obtain ⟨sl, st, dn⟩ := s
 unfold atN ST.val spV
 dsimp only at *
 generalize hm : sl * z = m at *
 have HB := Hd (((Below.refl _ w).alloc (Nat.le_refl _) (.cells #[.int .i64 sl, .int .i64 st, .int .i64 dn] 204)).alloc (by simp) (.cells #[.int .i64 (st + m), .int .i64 dn] 68))
 have hnew := heap_alloc_new (w.alloc (.cells #[.int .i64 sl, .int .i64 st, .int .i64 dn] 204)) (.cells #[.int .i64 (st + m), .int .i64 dn] 68)
 rw [show (w.alloc (.cells #[.int .i64 sl, .int .i64 st, .int .i64 dn] 204)).heap.size = w.heap.size + 1 from by simp] at hnew
 have HX := Lib.hid hnew
 clear hnew hs
 go_enter Tryz.func110, Tryz.ntmps110
 go_wp2
 generalize World.alloc (World.alloc w _) _ = V at *
 obtain ⟨q0, q1⟩ := cr2 HX.out
 exact bodyPost_ret (v := .agg #[.int .i64 (st + m), .int .i64 dn]) (by simp [results, Tryz.results110, go_sem, q0, q1]) rfl ⟨rfl, HB.out⟩
def passB (s : ST) (g : RW) : Bool := withinB (atN s g.key) (g.lo * s.dn) (g.hi * s.dn)
theorem passes_any (s : ST) (g : RW) (w : World) (hs : s.ok) (hz : 0 ≤ g.key ∧ g.key ≤ 100000) (hg : -1000000 ≤ g.lo ∧ g.lo ≤ g.hi ∧ g.hi ≤ 1000000) :
  Calls Tryz.prog 191 #[s.val, g.agg] w fun e w' => e = .returned (.bool (passB s g)) ∧ Below w.heap.size w w' := by
 have h1 := mulb (K := 2000000) (M := 100000) (by decide) hs.sl (y := g.key) (by omega)
 have h2 := hs.st
 have h3 := mulb (K := 1000000) (M := 100000) (by decide) (show -1000000 ≤ g.lo ∧ g.lo ≤ 1000000 by omega) (y := s.dn) (by have := hs.dn; omega)
 have h4 := mulb (K := 1000000) (M := 100000) (by decide) (show -1000000 ≤ g.hi ∧ g.hi ≤ 1000000 by omega) (y := s.dn) (by have := hs.dn; omega)
 obtain ⟨sl, st, dn⟩ := s
 obtain ⟨k, lo, hi⟩ := g
 unfold passB atN ST.val RW.agg
 dsimp only at *
 generalize hm1 : sl * k = m1 at *
 generalize hm2 : lo * dn = m2 at *
 generalize hm3 : hi * dn = m3 at *
 have HB := Hd (((Below.refl _ w).alloc (Nat.le_refl _) (.cells #[.int .i64 sl, .int .i64 st, .int .i64 dn] 204)).alloc (by simp) (.cells #[.int .i64 k, .int .i64 lo, .int .i64 hi] 93))
 clear hs
 go_enter Tryz.func191, Tryz.ntmps191
 go_wp2_with (go_at_call 60; refine (lnIn_any _ _ _ _).mono ?_; rintro e w' ⟨rfl, rfl⟩)
 go_ret
 exact ⟨rfl, HB.out⟩
def lnV (s : ST) : Value := .agg #[.int .i64 (frN s.sl s.dn), .int .i64 (frD s.sl s.dn), .int .i64 (frN s.st s.dn), .int .i64 (frD s.st s.dn)]
theorem line_any (s : ST) (w : World) (hs : s.ok) : Calls Tryz.prog 152 #[s.val] w fun e w' => e = .returned (lnV s) ∧ Below w.heap.size w w' := by
 have HF1 := Hd (fun W => frac_any s.sl s.dn W (by have := hs.sl; omega) (by have := hs.dn; omega))
 have HF2 := Hd (fun W => frac_any s.st s.dn W (by have := hs.st; omega) (by have := hs.dn; omega))
 unfold lnV ST.val
 unfold spV at HF1 HF2
 generalize frN s.sl s.dn = a0 at *
 generalize frD s.sl s.dn = a1 at *
 generalize frN s.st s.dn = b0 at *
 generalize frD s.st s.dn = b1 at *
 obtain ⟨sl, st, dn⟩ := s
 dsimp only at *
 have HB := Hd (((Below.refl _ w).alloc (Nat.le_refl _) (.cells #[.int .i64 sl, .int .i64 st, .int .i64 dn] 204)).alloc (by simp) (.cells #[.int .i64 0, .int .i64 0, .int .i64 0, .int .i64 0] 253))
 have hnew := heap_alloc_new (w.alloc (.cells #[.int .i64 sl, .int .i64 st, .int .i64 dn] 204)) (.cells #[.int .i64 0, .int .i64 0, .int .i64 0, .int .i64 0] 253)
 rw [show (w.alloc (.cells #[.int .i64 sl, .int .i64 st, .int .i64 dn] 204)).heap.size = w.heap.size + 1 from by simp] at hnew
 have HX := Lib.hid hnew
 have HS := Hd (show ((w.alloc (.cells #[.int .i64 sl, .int .i64 st, .int .i64 dn] 204)).alloc (.cells #[.int .i64 0, .int .i64 0, .int .i64 0, .int .i64 0] 253)).heap[w.heap.size]? = some (.cells #[.int .i64 sl, .int .i64 st, .int .i64 dn] 204) from (Below.heap_alloc _ _ _ (by simp)).trans (heap_alloc_new w _))
 clear hnew hs
 go_enter Tryz.func152, Tryz.ntmps152
 go_upto_region 1 with (fail)
 generalize World.alloc (World.alloc w _) _ = V at *
 obtain ⟨k0, k1, k2⟩ := cr3 HS.out
 simp only [hnq] at k0 k1 k2
 have lt1 := (blkL HS.out)
 (refine wp_region_calm_tail (V.heap.size) 11 (by kernel_rfl) (by kernel_rfl) ?_; simp only [List.take_succ_cons, List.take_zero, List.drop_succ_cons, List.drop_zero]; (repeat (first | go_big_quiet_step ((go_at_call 107; first | (with_reducible exact Calls.calm_of (Nat.le_refl _) (HF1.out _)) | (with_reducible exact Calls.calm_of (Nat.le_refl _) (HF2.out _)))) | quiet_step ((go_at_call 107; first | (with_reducible exact Calls.calm_of (Nat.le_refl _) (HF1.out _)) | (with_reducible exact Calls.calm_of (Nat.le_refl _) (HF2.out _)))))); refine wpQuiet_nil (wqn ?_); intro xq)
 have hq := xq.below
 have HB2 := Hd (HB.out.trans (hq.mono HB.out.size))
 have HX2 := Hd (keep_at HX.out hq)
 clear hq
 generalize Calm.val xq = V2 at *
 obtain ⟨p0, p1, p2, p3⟩ := cr4 HX2.out
 obtain ⟨f0, f1, f2, f3⟩ := fr4 HX2.out
 simp only [hnq] at p0 p1 p2 p3
 go_wp2
 have hrow := heap_setCell_same _ _ 3 _ _ (.int .i64 b1) (heap_setCell_same _ _ 2 _ _ (.int .i64 b0) (heap_setCell_same _ _ 1 _ _ (.int .i64 a1) (heap_setCell_same V2 _ 0 _ _ (.int .i64 a0) HX2.out)))
 have hbl := (((HB2.out.setCell (p := ⟨w.heap.size + 1, 0, none⟩) (by dsimp only; omega) (.int .i64 a0)).setCell (p := ⟨w.heap.size + 1, 1, none⟩) (by dsimp only; omega) (.int .i64 a1)).setCell (p := ⟨w.heap.size + 1, 2, none⟩) (by dsimp only; omega) (.int .i64 b0)).setCell (p := ⟨w.heap.size + 1, 3, none⟩) (by dsimp only; omega) (.int .i64 b1)
 generalize World.setCell (World.setCell (World.setCell (World.setCell V2 _ _) _ _) _ _) _ _ = V5 at *
 obtain ⟨q0, q1, q2, q3⟩ := cr4 hrow
 exact bodyPost_ret (v := .agg #[.int .i64 a0, .int .i64 a1, .int .i64 b0, .int .i64 b1]) (by simp [results, Tryz.results152, go_sem, q0, q1, q2, q3]) rfl ⟨rfl, hbl⟩
theorem cmpI_lt {x y : Int} : (Lib.compareInt x y < 0) ↔ x < y := by
 unfold Lib.compareInt
 split
 ·simp; omega
 ·split
  ·simp; omega
  ·simp; omega
theorem cmpI_gt {x y : Int} : (0 < Lib.compareInt x y) ↔ y < x := by
 unfold Lib.compareInt
 split
 ·simp; omega
 ·split
  ·simp; omega
  ·simp; omega
theorem compare_any (an ad bn bd : Int) (w : World) (h1 : -600000000000 ≤ an ∧ an ≤ 600000000000) (h2 : 1 ≤ ad ∧ ad ≤ 100000) (h3 : -600000000000 ≤ bn ∧ bn ≤ 600000000000) (h4 : 1 ≤ bd ∧ bd ≤ 100000) :
  Calls Tryz.prog 159 #[.agg #[.int .i64 an, .int .i64 ad], .agg #[.int .i64 bn, .int .i64 bd]] w fun e w' => e = .returned (.int .i64 (Lib.compareInt (an * bd) (bn * ad))) ∧ Below w.heap.size w w' := by
 have b1 := mulb (K := 600000000000) (M := 100000) (by decide) h1 (y := bd) (by omega)
 have b2 := mulb (K := 600000000000) (M := 100000) (by decide) h3 (y := ad) (by omega)
 generalize hm1 : an * bd = m1 at *
 generalize hm2 : bn * ad = m2 at *
 have hcon := fun W' => AnyG.cmp_Compare_int Tryz.laysCmpCh m1 m2 W'
 change ∀ W', Calls Tryz.prog 48 _ _ _ at hcon
 have HC := Lib.hid hcon
 have HB := Hd (((Below.refl _ w).alloc (Nat.le_refl _) (.cells #[.int .i64 an, .int .i64 ad] 68)).alloc (by simp) (.cells #[.int .i64 bn, .int .i64 bd] 68))
 generalize Lib.compareInt m1 m2 = r at *
 clear hcon
 go_enter Tryz.func159, Tryz.ntmps159
 go_wp2_with (go_at_call 48; refine (HC.out _).mono ?_; rintro e w' ⟨rfl, rfl⟩)
 go_ret
 exact ⟨rfl, HB.out⟩
end Go.Proofs.YtgmpelhphnmknaaGreat
namespace Go.Proofs.YtgmpelhphnmknaaGreat
open Go Go.RowKit Go.Shelf
attribute [local go_sem] Oper.semAt_some
def prE (t : Nat → RW) (i j : Nat) : List ST := if (t i).key = (t j).key then [] else [thrF (t i).key (t i).lo (t j).key (t j).lo, thrF (t i).key (t i).lo (t j).key (t j).hi, thrF (t i).key (t i).hi (t j).key (t j).lo, thrF (t i).key (t i).hi (t j).key (t j).hi]
def rowE (t : Nat → RW) (n i : Nat) : List ST := (List.range (n - (i + 1))).flatMap fun j => prE t i (i + 1 + j)
def E1 (t : Nat → RW) (n i : Nat) : List ST := (List.range i).flatMap (rowE t n)
def endsE (t : Nat → RW) (n : Nat) : List ST := E1 t n n
def E2 (t : Nat → RW) (n i j : Nat) : List ST := E1 t n i ++ (List.range j).flatMap fun j => prE t i (i + 1 + j)
theorem E1_succ (t : Nat → RW) (n i : Nat) : E1 t n (i + 1) = E1 t n i ++ rowE t n i := by
 unfold E1
 rw [List.range_succ, List.flatMap_append]
 simp
theorem E2_zero (t : Nat → RW) (n i : Nat) : E2 t n i 0 = E1 t n i := by simp [E2]
theorem E2_succ (t : Nat → RW) (n i j : Nat) : E2 t n i (j + 1) = E2 t n i j ++ prE t i (i + 1 + j) := by
 unfold E2
 rw [List.range_succ, List.flatMap_append, List.append_assoc]
 simp
theorem E2_end (t : Nat → RW) (n i : Nat) : E2 t n i (n - (i + 1)) = E1 t n (i + 1) := by rw [E1_succ]; rfl
theorem E1_pre (t : Nat → RW) (n : Nat) : ∀ d i, i + d = n → E1 t n i <+: endsE t n
 | 0, i, h => by
  obtain rfl : i = n := by omega
  exact List.prefix_refl _
 | d + 1, i, h => by
  have h1 := E1_pre t n d (i + 1) (by omega)
  rw [E1_succ] at h1
  exact (List.prefix_append _ _).trans h1
theorem E2_pre (t : Nat → RW) (n i : Nat) (hi : i < n) : ∀ d j, j + d = n - (i + 1) → E2 t n i j <+: endsE t n
 | 0, j, h => by
  obtain rfl : j = n - (i + 1) := by omega
  rw [E2_end]
  exact E1_pre t n (n - (i + 1)) (i + 1) (by omega)
 | d + 1, j, h => by
  have h1 := E2_pre t n i hi d (j + 1) (by omega)
  rw [E2_succ] at h1
  exact (List.prefix_append _ _).trans h1
theorem E3_pre (t : Nat → RW) (n i j k : Nat) (hi : i < n) (hj : j < n - (i + 1)) : E2 t n i j ++ (prE t i (i + 1 + j)).take k <+: endsE t n := by
 have h1 := E2_pre t n i hi (n - (i + 1) - (j + 1)) (j + 1) (by omega)
 rw [E2_succ] at h1
 exact ((List.prefix_append_right_inj _).2 (List.take_prefix _ _)).trans h1
theorem prE_take (t : Nat → RW) (i j : Nat) (hne : (t i).key ≠ (t j).key) {a b : Nat} (ha : a < 2) (hb : b < 2) : (prE t i j).take (2 * a + b + 1) = (prE t i j).take (2 * a + b) ++ [thrF (t i).key (pk2 a (t i).lo (t i).hi) (t j).key (pk2 b (t j).lo (t j).hi)] := by
 unfold prE
 rw [if_neg hne]
 match a, ha, b, hb with
 | 0, _, 0, _ => rfl
 | 0, _, 1, _ => rfl
 | 1, _, 0, _ => rfl
 | 1, _, 1, _ => rfl
theorem prE_len (t : Nat → RW) (i j : Nat) : (prE t i j).length ≤ 4 := by
 unfold prE
 split <;> simp
theorem flat_len {α : Type} {f : Nat → List α} {M : Nat} (h : ∀ i, (f i).length ≤ M) : ∀ n, ((List.range n).flatMap f).length ≤ M * n
 | 0 => by simp
 | n + 1 => by
  rw [List.range_succ, List.flatMap_append, List.length_append]
  have h1 := flat_len h n
  have h2 := h n
  simp only [List.flatMap_cons, List.flatMap_nil, List.append_nil]
  rw [Nat.mul_succ]
  omega
theorem endsE_len (t : Nat → RW) (n : Nat) : (endsE t n).length ≤ 4 * n * n := by
 refine flat_len (M := 4 * n) (fun i => ?_) n
 have := flat_len (f := fun j => prE t i (i + 1 + j)) (M := 4) (fun j => prE_len t i _) (n - (i + 1))
 unfold rowE
 omega
theorem endsE_ok {t : Nat → RW} {n : Nat} (h : GtOk n t) : ∀ s ∈ endsE t n, s.ok := by
 intro s hs
 unfold endsE E1 at hs
 obtain ⟨i, hi, hs⟩ := List.mem_flatMap.1 hs
 obtain ⟨j, hj, hs⟩ := List.mem_flatMap.1 hs
 have hi' := List.mem_range.1 hi
 have hj' := List.mem_range.1 hj
 have z1 := h.z i (by omega)
 have z2 := h.z (i + 1 + j) (by omega)
 have s1 := h.span i (by omega)
 have s2 := h.span (i + 1 + j) (by omega)
 unfold prE at hs
 split at hs
 ·cases hs
 ·rename_i hne
  simp only [List.mem_cons, List.not_mem_nil, or_false] at hs
  rcases hs with rfl | rfl | rfl | rfl <;> exact thrF_ok z1 z2 (by omega) (by omega) hne
structure GlAt (B : Nat) (a : Option Addr) (n c : Nat) (t : Nat → RW) (q : Nat) (W : World) : Prop where
 box : W.heap[q]? = some (.cells #[.slice a n c] 136)
 rows : RWs B W a n t
def GlR (a : Option Addr) (q : Nat) (b : Nat) : Prop := b = q ∨ ∃ o, a = some ⟨b, o, none⟩
theorem GlAt.step {B : Nat} {a : Option Addr} {n c : Nat} {t : Nat → RW} {q : Nat} {W W' : World} (h : GlAt B a n c t q W) (hk : ∀ b, GlR a q b → W'.heap[b]? = W.heap[b]?) : GlAt B a n c t q W' := by
 refine ⟨(hk q (.inl rfl)).trans h.box, ?_⟩
 rcases h.rows with h0 | ⟨b, off, ha, hB, hc⟩
 ·exact .inl h0
 ·have he := hk b (.inr ⟨off, ha⟩)
  exact .inr ⟨b, off, ha, hB, fun i hi => ⟨(World.cell?_of_block he).trans (hc i hi).1, (World.cell?_of_block he).trans (hc i hi).2.1, (World.cell?_of_block he).trans (hc i hi).2.2⟩⟩
theorem GlAt.below {B : Nat} {a : Option Addr} {n c : Nat} {t : Nat → RW} {q : Nat} {W W' : World} (h : GlAt B a n c t q W) (hB : B ≤ W.heap.size) (hb : Below W.heap.size W W') : GlAt B a n c t q W' := ⟨keep_at h.box hb, h.rows.below (hb.mono hB)⟩
def EqE (E xs : List ST) : Prop := xs = E
def PfE (E pre : List ST) (x : ST) : Prop := pre ++ [x] <+: E
def AnyE (xs : List ST) : Prop := True
theorem ends_any (a : Option Addr) (n c : Nat) (w : World) : Calls Tryz.prog 151 #[.agg #[.slice a n c]] w fun e w' => e = .returned (.func (.func 188) #[] #[.pointer (some ⟨w.heap.size, 0, none⟩)]) ∧ w'.heap[w.heap.size]? = some (.cells #[.slice a n c] 136) ∧ Below w.heap.size w w' := by
 have h1 := al_below w (.cells #[.slice a n c] 136)
 have h2 := heap_alloc_new w (.cells #[.slice a n c] 136)
 go_enter Tryz.func151, Tryz.ntmps151
 go_wp2
 go_ret
 exact ⟨rfl, h2, h1⟩
theorem ends_seq (a : Option Addr) (n c : Nat) (t : Nat → RW) (B q : Nat) (w : World) (hBw : B ≤ w.heap.size) (hq : GlAt B a n c t q w) (hO : GtOk n t) (hc : n ≤ c ∧ c ≤ maxLen) :
  SeqOwn Tryz.prog 188 #[.pointer (some ⟨q, 0, none⟩)] (fun s => #[s.val]) (GlR a q) (fun _ _ _ => True) (PfE (endsE t n)) (EqE (endsE t n)) AnyE w := by
 intro l J Jx W hW hJ hJx hY h0 N
 have HS0 : ∃ O, J [] O W ∧ GlAt B a n c t q W ∧ B ≤ W.heap.size ∧ ∀ e ∈ ([] : List (Nat × Obj)), O e.1 ∧ W.heap[e.1]? = some e.2 := ⟨_, h0, hq.below hBw hW, Nat.le_trans hBw hW.size, fun e he => by cases he⟩
 have HSTEP : ∀ m (F : List (Nat × Obj)) A A', (∃ O, J m O A ∧ GlAt B a n c t q A ∧ B ≤ A.heap.size ∧ ∀ e ∈ F, O e.1 ∧ A.heap[e.1]? = some e.2) → Below A.heap.size A A' → (∃ O, J m O A' ∧ GlAt B a n c t q A' ∧ B ≤ A'.heap.size ∧ ∀ e ∈ F, O e.1 ∧ A'.heap[e.1]? = some e.2) := by
  rintro m F A A' ⟨O, h1, h2, h3, h4⟩ hb
  exact ⟨_, hJ _ _ _ _ _ h1 (Turn.of_below hb), h2.below h3 hb, Nat.le_trans h3 hb.size, fun e he => ⟨.inl (h4 e he).1, keep_at (h4 e he).2 hb⟩⟩
 have HNEW : ∀ m (F : List (Nat × Obj)) A (o : Obj), (∃ O, J m O A ∧ GlAt B a n c t q A ∧ B ≤ A.heap.size ∧ ∀ e ∈ F, O e.1 ∧ A.heap[e.1]? = some e.2) → (∃ O, J m O (A.alloc o) ∧ GlAt B a n c t q (A.alloc o) ∧ B ≤ (A.alloc o).heap.size ∧ ∀ e ∈ (A.heap.size, o) :: F, O e.1 ∧ (A.alloc o).heap[e.1]? = some e.2) := by
  rintro m F A o ⟨O, h1, h2, h3, h4⟩
  have hb := al_below A o
  refine ⟨_, hJ _ _ _ _ _ h1 (Turn.of_below hb), h2.below h3 hb, Nat.le_trans h3 hb.size, fun e he => ?_⟩
  rcases List.mem_cons.1 he with rfl | he
  ·exact ⟨.inr ⟨Nat.le_refl _, by simp⟩, heap_alloc_new A o⟩
  ·exact ⟨.inl (h4 e he).1, keep_at (h4 e he).2 hb⟩
 have HDROP : ∀ m (f : Nat × Obj) (F : List (Nat × Obj)) A, (∃ O, J m O A ∧ GlAt B a n c t q A ∧ B ≤ A.heap.size ∧ ∀ e ∈ (f :: F), O e.1 ∧ A.heap[e.1]? = some e.2) → (∃ O, J m O A ∧ GlAt B a n c t q A ∧ B ≤ A.heap.size ∧ ∀ e ∈ F, O e.1 ∧ A.heap[e.1]? = some e.2) := by
  rintro m f F A ⟨O, h1, h2, h3, h4⟩
  exact ⟨O, h1, h2, h3, fun e he => h4 e (List.mem_cons_of_mem _ he)⟩
 have HCN : ∀ m (F : List (Nat × Obj)) A, (∃ O, J m O A ∧ GlAt B a n c t q A ∧ B ≤ A.heap.size ∧ ∀ e ∈ F, O e.1 ∧ A.heap[e.1]? = some e.2) → GlAt B a n c t q A ∧ B ≤ A.heap.size ∧ ∀ e ∈ F, A.heap[e.1]? = some e.2 := by
  rintro m F A ⟨O, h1, h2, h3, h4⟩
  exact ⟨h2, h3, fun e he => (h4 e he).2⟩
 have HY : ∀ m (F : List (Nat × Obj)) A x, (∃ O, J m O A ∧ GlAt B a n c t q A ∧ B ≤ A.heap.size ∧ ∀ e ∈ F, O e.1 ∧ A.heap[e.1]? = some e.2) → PfE (endsE t n) m x → ∀ N, YieldAt Fence.wide N Tryz.prog l #[x.val] A fun e W' => (e = .returned (.bool true) ∧ (∃ O, J (m ++ [x]) O W' ∧ GlAt B a n c t q W' ∧ B ≤ W'.heap.size ∧ ∀ e ∈ F, O e.1 ∧ W'.heap[e.1]? = some e.2)) ∨ (e = .returned (.bool false) ∧ ∃ pre O, AnyE pre ∧ Jx pre O W') := by
  rintro m F A x ⟨O, h1, h2, h3, hF⟩ hm N
  obtain ⟨fn, tmps, assign, body, hy, hR⟩ := hY m x O A h1 trivial hm N
  refine ⟨fn, tmps, assign, body, hy, hR.mono ?_⟩
  rintro e W' (⟨h4, h5, h6⟩ | ⟨h4, h5⟩)
  ·exact .inl ⟨h4, _, h5, h2.step (fun b hb => h6.block b (.inr hb)), Nat.le_trans h3 h6.size, fun e he => ⟨(hF e he).1, (h6.block _ (.inl (hF e he).1)).trans (hF e he).2⟩⟩
  ·exact .inr ⟨h4, _, _, trivial, h5⟩
 have HFIN : ∀ A, (∃ O, J (endsE t n) O A ∧ GlAt B a n c t q A ∧ B ≤ A.heap.size ∧ ∀ e ∈ ([] : List (Nat × Obj)), O e.1 ∧ A.heap[e.1]? = some e.2) → ∃ xs O, EqE (endsE t n) xs ∧ J xs O A := by
  rintro A ⟨O, h1, h2⟩
  exact ⟨_, O, rfl, h1⟩
 clear hJ hJx hY h0 hq
 generalize hST : (fun (m : List ST) (F : List (Nat × Obj)) (A : World) => ∃ O, J m O A ∧ GlAt B a n c t q A ∧ B ≤ A.heap.size ∧ ∀ e ∈ F, O e.1 ∧ A.heap[e.1]? = some e.2) = S at *
 have eST : ∀ m (F : List (Nat × Obj)) A, (∃ O, J m O A ∧ GlAt B a n c t q A ∧ B ≤ A.heap.size ∧ ∀ e ∈ F, O e.1 ∧ A.heap[e.1]? = some e.2) = S m F A := fun m F A => by rw [← hST]
 simp only [eST] at HS0 HSTEP HNEW HDROP HCN HY HFIN
 clear eST hST
 have HTH := Hd (fun i (hi : i < n) j (hj : j < n) a b W => lnThrough_any (t i).key (pk2 a (t i).lo (t i).hi) (t j).key (pk2 b (t j).lo (t j).hi) W (hO.z i hi) (hO.z j hj) (pk2_bound (hO.span i hi)) (pk2_bound (hO.span j hj)))
 have HPF := Hd (fun i (hi : i < n) j (hj : j < n - (i + 1)) a (ha : a < 2) b (hb : b < 2) (hne : (t i).key ≠ (t (i + 1 + j)).key) => show PfE (endsE t n) (E2 t n i j ++ (prE t i (i + 1 + j)).take (2 * a + b)) (thrF (t i).key (pk2 a (t i).lo (t i).hi) (t (i + 1 + j)).key (pk2 b (t (i + 1 + j)).lo (t (i + 1 + j)).hi)) ∧ E2 t n i j ++ (prE t i (i + 1 + j)).take (2 * a + b) ++ [thrF (t i).key (pk2 a (t i).lo (t i).hi) (t (i + 1 + j)).key (pk2 b (t (i + 1 + j)).lo (t (i + 1 + j)).hi)] = E2 t n i j ++ (prE t i (i + 1 + j)).take (2 * a + b + 1) from by
  have h1 := E3_pre t n i j (2 * a + b + 1) hi hj
  rw [prE_take t i _ hne ha hb] at h1 ⊢
  unfold PfE
  rw [List.append_assoc]
  exact ⟨h1, rfl⟩)
 have HSTEP := Lib.hid HSTEP
 have HNEW := Lib.hid HNEW
 have HDROP := Lib.hid HDROP
 have HCN := Lib.hid HCN
 have HY := Lib.hid HY
 have HFIN := Lib.hid HFIN
 have hn24 := hO.len
 have hcl := hc.1
 have hcm := hc.2
 unfold maxLen at hcm
 clear hO hc
 refine callsIn_of_wp Tryz.func188 rfl trivial ?_ rfl
 simp only [Tryz.ntmps188, List.size_toArray, List.length_cons, List.length_nil, Nat.reduceAdd, Nat.reduceSub, Array.replicate_succ, Array.replicate_zero, List.push_toArray, List.append_toArray, List.nil_append, List.cons_append]
 have HQ := Hd (HCN.out _ _ _ HS0).1
 (have k0 := cell_of_row _ _ 0 _ _ _ HQ.out.box)
 gi_wp2
 clear k0 HQ
 gi_loopw [14] (fun s14 wr => ∃ i : Nat, i ≤ n ∧ s14 = .int .i64 (i : Int) ∧ Hid (S (E1 t n i) [] wr)) (fun s14 _ => n - (intOf s14).toNat)
 case atStart => exact ⟨0, by omega, rfl, Lib.hid HS0⟩
 case round =>
  clear HS0
  obtain ⟨i, hi, rfl, H1⟩ := hrel
  by_cases hl1 : i < n
  ·have hl1' : (i : Int) < (n : Int) := by omega
   obtain ⟨hQ, hBr, _⟩ := HCN.out _ _ _ H1.out
   have HQ := Lib.hid hQ
   obtain ⟨b, off, rfl, hbB, c0, c1, c2⟩ := hQ.rows.get hl1
   have k0 := cell_of_row _ _ 0 _ _ _ HQ.out.box
   have hic : i + 1 ≤ c := by omega
   have u1 : IntKind.i64.wrap ((i : Int) + 1) = ((i + 1 : Nat) : Int) := by rw [show ((i : Int) + 1) = ((i + 1 : Nat) : Int) by omega]; exact IntWalk.i64_in _ (by omega)
   clear hQ
   gi_upto_region 3 with (fail)
   have HS1 := Hd (HNEW.out _ _ _ (Obj.cells #[Value.int IntKind.i64 (t i).key, Value.int IntKind.i64 (t i).lo, Value.int IntKind.i64 (t i).hi] 93) H1.out)
   generalize World.alloc wr _ = wa at *
   generalize wr.heap.size = g at *
   clear k0 c0 c1 c2 HQ H1 hBr
   have HQ := Hd (HCN.out _ _ _ HS1.out)
   have k0 := cell_of_row _ _ 0 _ _ _ HQ.out.1.box
   have hin : ((i + 1 : Nat) : Int) ≤ (n : Int) := by omega
   have hin0 : (0 : Int) ≤ ((i + 1 : Nat) : Int) := by omega
   by_cases hce : c = i + 1
   ·obtain rfl : n = i + 1 := by omega
    subst hce
    gi_wp2
    gi_loopw [25] (fun s25 wb => s25 = .int .i64 0 ∧ Hid (S (E1 t (i + 1) (i + 1)) [(g, Obj.cells #[Value.int IntKind.i64 (t i).key, Value.int IntKind.i64 (t i).lo, Value.int IntKind.i64 (t i).hi] 93)] wb)) (fun s25 _ => 0)
    case atStart => exact ⟨rfl, Hd (by rw [← E2_end, Nat.sub_self, E2_zero]; exact HS1.out)⟩
    case round =>
     obtain ⟨rfl, H2⟩ := hrel
     gi_wp2
     go_roundw
     case rel => first | exact ⟨i + 1, by omega, by go_num, Hd (HDROP.out _ _ _ _ H2.out)⟩ | ((repeat apply Exists.intro); exact ⟨⟨i + 1, by omega, by go_num, Hd (HDROP.out _ _ _ _ H2.out)⟩, rfl⟩)
     case measure => simp [intOf]
   ·have hce' : decide (c = i + 1) = false := by simp [hce]
    gi_wp2
    clear k0 HQ u1
    gi_loopw [25] (fun s25 wb => ∃ j : Nat, j ≤ n - (i + 1) ∧ s25 = .int .i64 (j : Int) ∧ Hid (S (E2 t n i j) [(g, Obj.cells #[Value.int IntKind.i64 (t i).key, Value.int IntKind.i64 (t i).lo, Value.int IntKind.i64 (t i).hi] 93)] wb)) (fun s25 _ => n - (i + 1) - (intOf s25).toNat)
    case atStart => exact ⟨0, by omega, rfl, Hd (by rw [E2_zero]; exact HS1.out)⟩
    case round =>
     clear HS1
     obtain ⟨j, hj, rfl, H2⟩ := hrel
     by_cases hl2 : j < n - (i + 1)
     ·have hl2' : (j : Int) < ((n - (i + 1) : Nat) : Int) := by omega
      have hjn : i + 1 + j < n := by omega
      have HQ := Hd (HCN.out _ _ _ H2.out)
      obtain ⟨b', off', hbo, _, c0, c1, c2⟩ := HQ.out.1.rows.get hjn
      obtain ⟨rfl, rfl⟩ : b = b' ∧ off = off' := by
       have h := Option.some.inj hbo
       injection h with h1 h2
       exact ⟨h1, h2⟩
      rw [show off + (i + 1 + j) * 3 = off + (i + 1) * 3 + j * 3 by rw [Nat.add_mul (i + 1) j 3, Nat.add_assoc]] at c0 c1 c2
      clear hbo HQ
      gi_upto_region 6 with (fail)
      have HS2 := Hd (HNEW.out _ _ _ (Obj.cells #[Value.int IntKind.i64 (t (i + 1 + j)).key, Value.int IntKind.i64 (t (i + 1 + j)).lo, Value.int IntKind.i64 (t (i + 1 + j)).hi] 93) H2.out)
      generalize World.alloc wr _ = wc at *
      generalize wr.heap.size = h at *
      clear c0 c1 c2 H2
      (have HQ := (HCN.out _ _ _ (HS2).out).2.2; have hg := HQ _ (List.mem_cons_of_mem _ List.mem_cons_self); have hh := HQ _ List.mem_cons_self; obtain ⟨kg0, kg1, kg2⟩ := cr3 hg; obtain ⟨kh0, kh1, kh2⟩ := cr3 hh; simp only [hnq] at kg0 kg1 kg2 kh0 kh1 kh2; clear HQ hg hh)
      by_cases hz : (t i).key = (t (i + 1 + j)).key
      ·have hpe : prE t i (i + 1 + j) = [] := if_pos hz
       gi_wp2
       go_roundw
       case rel => first | exact ⟨j + 1, by omega, by go_num, Hd (by rw [E2_succ, hpe, List.append_nil]; exact HDROP.out _ _ _ _ HS2.out)⟩ | ((repeat apply Exists.intro); exact ⟨⟨j + 1, by omega, by go_num, Hd (by rw [E2_succ, hpe, List.append_nil]; exact HDROP.out _ _ _ _ HS2.out)⟩, rfl⟩)
       case measure => simp [intOf]; omega
      ·have hzb : ((t i).key == (t (i + 1 + j)).key) = false := by simpa using hz
       gi_wp2
       try rw [hzb]
       clear kg0 kg1 kg2 kh0 kh1 kh2
       gi_loopw [39] (fun s39 wd => ∃ x : Nat, x ≤ 2 ∧ s39 = .int .i64 (x : Int) ∧ Hid (S (E2 t n i j ++ (prE t i (i + 1 + j)).take (2 * x)) [(h, Obj.cells #[Value.int IntKind.i64 (t (i + 1 + j)).key, Value.int IntKind.i64 (t (i + 1 + j)).lo, Value.int IntKind.i64 (t (i + 1 + j)).hi] 93), (g, Obj.cells #[Value.int IntKind.i64 (t i).key, Value.int IntKind.i64 (t i).lo, Value.int IntKind.i64 (t i).hi] 93)] wd)) (fun s39 _ => 2 - (intOf s39).toNat)
       case atStart => exact ⟨0, by omega, rfl, Hd (by rw [Nat.mul_zero, List.take_zero, List.append_nil]; exact HS2.out)⟩
       case round =>
        clear HS2
        obtain ⟨x, hx, rfl, H3⟩ := hrel
        by_cases hl3 : x < 2
        ·have hl3' : (x : Int) < 2 := by omega
         have hix3 := ix2 (t i).lo (t i).hi hl3
         (have HQ := (HCN.out _ _ _ (H3).out).2.2; have hg := HQ _ (List.mem_cons_of_mem _ List.mem_cons_self); have hh := HQ _ List.mem_cons_self; obtain ⟨kg0, kg1, kg2⟩ := cr3 hg; obtain ⟨kh0, kh1, kh2⟩ := cr3 hh; simp only [hnq] at kg0 kg1 kg2 kh0 kh1 kh2; clear HQ hg hh)
         gi_wp2
         clear hix3 kg0 kg1 kg2 kh0 kh1 kh2
         gi_loopw [47] (fun s47 wd => ∃ y : Nat, y ≤ 2 ∧ s47 = .int .i64 (y : Int) ∧ Hid (S (E2 t n i j ++ (prE t i (i + 1 + j)).take (2 * x + y)) [(h, Obj.cells #[Value.int IntKind.i64 (t (i + 1 + j)).key, Value.int IntKind.i64 (t (i + 1 + j)).lo, Value.int IntKind.i64 (t (i + 1 + j)).hi] 93), (g, Obj.cells #[Value.int IntKind.i64 (t i).key, Value.int IntKind.i64 (t i).lo, Value.int IntKind.i64 (t i).hi] 93)] wd)) (fun s47 _ => 2 - (intOf s47).toNat)
         case atStart => exact ⟨0, by omega, rfl, H3⟩
         case round =>
          clear H3
          obtain ⟨y, hy2, rfl, H4⟩ := hrel
          by_cases hl4 : y < 2
          ·have hl4' : (y : Int) < 2 := by omega
           have hix4 := ix2 (t (i + 1 + j)).lo (t (i + 1 + j)).hi hl4
           (have HQ := (HCN.out _ _ _ (H4).out).2.2; have hg := HQ _ (List.mem_cons_of_mem _ List.mem_cons_self); have hh := HQ _ List.mem_cons_self; obtain ⟨kg0, kg1, kg2⟩ := cr3 hg; obtain ⟨kh0, kh1, kh2⟩ := cr3 hh; simp only [hnq] at kg0 kg1 kg2 kh0 kh1 kh2; clear HQ hg hh)
           obtain ⟨hp1, hp2⟩ := HPF.out i hl1 j hl2 x hl3 y hl4 hz
           have hcall := HTH.out i hl1 (i + 1 + j) hjn x y
           generalize thrF (t i).key (pk2 x (t i).lo (t i).hi) (t (i + 1 + j)).key (pk2 y (t (i + 1 + j)).lo (t (i + 1 + j)).hi) = st at *
           have hcall := Lib.hid hcall
           generalize pk2 x (t i).lo (t i).hi = va at *
           generalize pk2 y (t (i + 1 + j)).lo (t (i + 1 + j)).hi = vb at *
           gi_wp2
           refine ⟨trivial, fun h => (by cases h), ?_⟩
           with_reducible refine (callsIn_wide.2 (hcall.out _)).mono ?_
           rintro e W5 ⟨rfl, hb⟩
           have HS5 := Hd (HSTEP.out _ _ _ _ H4.out hb)
           obtain ⟨fn, tmps, assign, body, hy, hR⟩ := HY.out _ _ _ _ HS5.out hp1 (N - 1)
           gi_wp2
           refine ⟨fun h => (by cases h), hR.mono ?_⟩
           rintro e W6 (⟨rfl, hs6⟩ | ⟨rfl, pre, O, _, hj6⟩)
           ·rw [hp2, Nat.add_assoc (2 * x) y 1] at hs6; have HS6 := Lib.hid hs6
            clear hR hy hs6
            gi_wp2
            go_roundw
            case rel => first | exact ⟨y + 1, by omega, by go_num, HS6⟩ | ((repeat apply Exists.intro); exact ⟨⟨y + 1, by omega, by go_num, HS6⟩, rfl⟩)
            case measure => simp [intOf]; omega
           ·gi_wp2
            refine bodyPost_ret (results_none rfl _ _ _) rfl ?_
            exact ⟨⟨_, rfl⟩, .inr ⟨_, O, trivial, hj6⟩⟩
          ·obtain rfl : y = 2 := by omega
           have hl4' : ¬ ((2 : Nat) : Int) < 2 := by omega
           gi_wp2
           go_roundw
           case rel => first | exact ⟨x + 1, by omega, by go_num, Hd (by rw [Nat.mul_succ]; exact H4.out)⟩ | ((repeat apply Exists.intro); exact ⟨⟨x + 1, by omega, by go_num, Hd (by rw [Nat.mul_succ]; exact H4.out)⟩, rfl⟩)
           case measure => simp [intOf]; omega
        ·obtain rfl : x = 2 := by omega
         have hl3' : ¬ ((2 : Nat) : Int) < 2 := by omega
         gi_wp2
         go_roundw
         case rel => first | exact ⟨j + 1, by omega, by go_num, Hd (by rw [E2_succ]; have := HDROP.out _ _ _ _ H3.out; rwa [List.take_of_length_le (prE_len t i (i + 1 + j))] at this)⟩ | ((repeat apply Exists.intro); exact ⟨⟨j + 1, by omega, by go_num, Hd (by rw [E2_succ]; have := HDROP.out _ _ _ _ H3.out; rwa [List.take_of_length_le (prE_len t i (i + 1 + j))] at this)⟩, rfl⟩)
         case measure => simp [intOf]; omega
     ·obtain rfl : j = n - (i + 1) := by omega
      have hl2' : ¬ ((n - (i + 1) : Nat) : Int) < ((n - (i + 1) : Nat) : Int) := by omega
      gi_wp2
      go_roundw
      case rel => first | exact ⟨i + 1, by omega, by go_num, Hd (by rw [← E2_end]; exact HDROP.out _ _ _ _ H2.out)⟩ | ((repeat apply Exists.intro); exact ⟨⟨i + 1, by omega, by go_num, Hd (by rw [← E2_end]; exact HDROP.out _ _ _ _ H2.out)⟩, rfl⟩)
      case measure => simp [intOf]; omega
  ·obtain rfl : i = n := by omega
   have hl1' : ¬ (i : Int) < (i : Int) := by omega
   gi_wp2
   go_end0
   obtain ⟨xs, O, hf1, hf2⟩ := HFIN.out _ H1.out
   exact ⟨⟨_, rfl⟩, .inl ⟨xs, hf1, O, hf2⟩⟩
end Go.Proofs.YtgmpelhphnmknaaGreat
namespace Go.Proofs.YtgmpelhphnmknaaGreat
open Go Go.RowKit Go.Shelf
theorem indexG_any (f : Nat) (ptr : Value) (a : Option Addr) (n c : Nat) (t : Nat → RW) (B : Nat) (p : Nat → Bool) (w : World) (hBw : B ≤ w.heap.size) (hn : n ≤ 200) (hT : RWs B w a n t)
  (eg : ∀ args W, (callFunc f args).run Tryz.prog W = .ok (.enter f args) W)
  (hC : ∀ W, Below w.heap.size w W → ∀ i, i < n → Calls Tryz.prog f #[(t i).agg, ptr] W fun e w' => e = .returned (.bool (p i)) ∧ Below W.heap.size W w') :
  Calls Tryz.prog 192 #[.slice a n c, .func (.func f) #[] #[ptr]] w fun e w' => e = .returned (.int .i64 (if fstN n p < n then (fstN n p : Int) else -1)) ∧ Below w.heap.size w w' := by
 have HC := Lib.hid hC
 have HF := Hd (fun i (hi : i < n) (hn : ∀ j, j < i → p j = false) (h : p i = true) => show (if fstN n p < n then (fstN n p : Int) else -1) = (i : Int) from by rw [fstN_at hi hn h, if_pos hi])
 have HG := Hd (fun (hn : ∀ j, j < n → p j = false) => show (if fstN n p < n then (fstN n p : Int) else -1) = -1 from by rw [fstN_none hn, if_neg (Nat.lt_irrefl _)])
 have HT := Lib.hid hT
 have HB0 := Hd (Below.refl w.heap.size w)
 generalize (if fstN n p < n then (fstN n p : Int) else -1) = F at *
 clear hT hC
 go_enter Tryz.func192, Tryz.ntmps192
 go_wp2
 go_loopw [8] (fun x wr => ∃ i : Nat, i ≤ n ∧ x = .int .i64 (i : Int) ∧ Hid (∀ j, j < i → p j = false) ∧ Hid (Below w.heap.size w wr)) (fun x _ => n - (intOf x).toNat)
 case atStart => exact ⟨0, Nat.zero_le _, rfl, Hd (fun j hj => by omega), HB0⟩
 case round =>
  clear HB0
  obtain ⟨i, hi, rfl, HN, HB0⟩ := hrel
  by_cases hlt : i < n
  ·have hlt' : (i : Int) < (n : Int) := by omega
   obtain ⟨b1, off, rfl, hbB, c0, c1, c2⟩ := (HT.out.below (HB0.out.mono hBw)).get hlt
   have HCi := Hd (HC.out wr HB0.out i hlt)
   obtain ⟨r, hr⟩ : ∃ r, t i = r := ⟨_, rfl⟩
   rw [hr] at HCi c0 c1 c2
   obtain ⟨k, lo, hi'⟩ := r
   unfold RW.agg at HCi
   dsimp only at HCi c0 c1 c2
   clear hr
   cases hpi : p i with
   | true =>
    rw [hpi] at HCi
    have HFi := Hd (HF.out i hlt HN.out hpi)
    clear hpi HC HF HG HN
    go_wp2_with (refine HCi.out.mono ?_; rintro e W1 ⟨rfl, hb1⟩; have HB1 := Hd (HB0.out.trans (hb1.mono HB0.out.size)); clear hb1 c0 c1 c2)
    go_ret
    exact ⟨by rw [HFi.out]; rfl, HB1.out⟩
   | false =>
    rw [hpi] at HCi
    have HN2 := Hd (show ∀ j, j < i + 1 → p j = false from fun j hj => by
     by_cases e : j = i
     ·rw [e, hpi]
     ·exact HN.out j (by omega))
    clear hpi HC HF HG HN
    go_wp2_with (refine HCi.out.mono ?_; rintro e W1 ⟨rfl, hb1⟩; have HB1 := Hd (HB0.out.trans (hb1.mono HB0.out.size)); clear hb1 c0 c1 c2)
    go_roundw
    case rel => exact ⟨i + 1, by omega, by go_num, HN2, HB1⟩
    case measure => simp [intOf]; omega
  ·obtain rfl : i = n := by omega
   have HGi := Hd (HG.out HN.out)
   clear HC HF HG HN
   go_wp2
   go_ret
   exact ⟨by rw [HGi.out]; rfl, HB0.out⟩
def anyN (n : Nat) (p : Nat → Bool) : Bool := decide (fstN n p < n)
theorem containsG_any (f : Nat) (ptr : Value) (a : Option Addr) (n c : Nat) (t : Nat → RW) (B : Nat) (p : Nat → Bool) (w : World) (hBw : B ≤ w.heap.size) (hn : n ≤ 200) (hT : RWs B w a n t)
  (eg : ∀ args W, (callFunc f args).run Tryz.prog W = .ok (.enter f args) W)
  (hC : ∀ W, Below w.heap.size w W → ∀ i, i < n → Calls Tryz.prog f #[(t i).agg, ptr] W fun e w' => e = .returned (.bool (p i)) ∧ Below W.heap.size W w') :
  Calls Tryz.prog 154 #[.slice a n c, .func (.func f) #[] #[ptr]] w fun e w' => e = .returned (.bool (anyN n p)) ∧ Below w.heap.size w w' := by
 have HI := Hd (indexG_any f ptr a n c t B p w hBw hn hT eg hC)
 unfold anyN
 by_cases h : fstN n p < n
 ·rw [if_pos h] at HI
  have HD := Hd (decide_eq_true h)
  rw [HD.out]
  generalize fstN n p = k at *
  have h1 : (0 : Int) ≤ (k : Int) := by omega
  clear hC hT h HD
  go_enter Tryz.func154, Tryz.ntmps154
  go_wp2_with (go_at_call 192; refine HI.out.mono ?_; rintro e W1 ⟨rfl, hb1⟩)
  go_ret
  exact ⟨rfl, hb1⟩
 ·rw [if_neg h] at HI
  have HD := Hd (decide_eq_false h)
  rw [HD.out]
  generalize fstN n p = k at *
  clear hC hT h HD
  go_enter Tryz.func154, Tryz.ntmps154
  go_wp2_with (go_at_call 192; refine HI.out.mono ?_; rintro e W1 ⟨rfl, hb1⟩)
  go_ret
  exact ⟨rfl, hb1⟩
theorem flat1_any (a : Option Addr) (n c : Nat) (t : Nat → RW) (B q : Nat) (r : RW) (w : World) (hq : GlAt B a n c t q w) (hn : 1 ≤ n) :
  Calls Tryz.prog 155 #[r.agg, .pointer (some ⟨q, 0, none⟩)] w fun e w' => e = .returned (.bool (decide (r.key ≠ (t 0).key))) ∧ Below w.heap.size w w' := by
 have k0 := cell_of_row _ _ 0 _ _ _ hq.box
 have hql := (blkL hq.box)
 obtain ⟨b, off, rfl, _, c0, _, _⟩ := hq.rows.get (show 0 < n from hn)
 rw [Nat.zero_mul, Nat.add_zero] at c0
 have hbl : b < w.heap.size := by
  simp only [World.cell?, Option.bind_eq_bind] at c0
  by_cases h : b < w.heap.size
  ·exact h
  ·rw [Array.getElem?_eq_none (by omega)] at c0
   cases c0
 have hn0 : (0 : Int) < (n : Int) := by omega
 obtain ⟨k, lo, hi⟩ := r
 have HB := Hd (al_below w (.cells #[.int .i64 k, .int .i64 lo, .int .i64 hi] 93))
 have HX := Hd (heap_alloc_new w (.cells #[.int .i64 k, .int .i64 lo, .int .i64 hi] 93))
 show Calls Tryz.prog 155 #[.agg #[.int .i64 k, .int .i64 lo, .int .i64 hi], _] w fun e w' => e = .returned (.bool (decide (k ≠ (t 0).key))) ∧ Below w.heap.size w w'
 generalize (t 0).key = k1 at *
 clear hq
 have hbk := HB.out
 have HXk := Hd ((hbk.cell (p := ⟨q, 0, none⟩) hql).trans k0)
 have HXc := Hd ((hbk.cell (p := ⟨b, off, none⟩) hbl).trans c0)
 have hsz := hbk.size
 clear k0 c0
 go_enter Tryz.func155, Tryz.ntmps155
 go_upto_region 1 with (fail)
 generalize World.alloc w _ = V at *
 have k0 := HXk.out
 have c0 := HXc.out
 have g0 := cell_of_row _ _ 0 _ _ _ HX.out
 have lt1 : w.heap.size < V.heap.size := (blkL HX.out)
 have lt2 : q < V.heap.size := by omega
 have lt3 : b < V.heap.size := by omega
 (refine wp_region_calm_tail (V.heap.size) 8 (by kernel_rfl) (by kernel_rfl) ?_; simp only [List.take_succ_cons, List.take_zero, List.drop_succ_cons, List.drop_zero]; (repeat (first | go_big_quiet_step (fail) | quiet_step (fail))); refine wpQuiet_nil (wqn ?_); intro xq)
 have hq := xq.below
 have HB2 := Hd (HB.out.trans (hq.mono HB.out.size))
 clear hq
 generalize Calm.val xq = V2 at *
 go_wp2
 go_ret
 exact ⟨by rw [show (k != k1) = decide (k ≠ k1) by by_cases h : k = k1 <;> simp [h]]; rfl, HB2.out⟩
def flatB (t : Nat → RW) (n : Nat) : Bool := !anyN n (fun i => decide ((t i).key ≠ (t 0).key))
theorem flat_eg (args : Array Value) (W : World) : (callFunc 155 args).run Tryz.prog W = .ok (.enter 155 args) W := enters_of Tryz.func155 (by kernel_rfl) rfl args W
theorem all_eg (args : Array Value) (W : World) : (callFunc 190 args).run Tryz.prog W = .ok (.enter 190 args) W := enters_of Tryz.func190 (by kernel_rfl) rfl args W
theorem flat_any (a : Option Addr) (n c : Nat) (t : Nat → RW) (B : Nat) (w : World) (hBw : B ≤ w.heap.size) (hT : RWs B w a n t) (hn : 1 ≤ n ∧ n ≤ 200) :
  Calls Tryz.prog 105 #[.agg #[.slice a n c]] w fun e w' => e = .returned (.bool (flatB t n)) ∧ Below w.heap.size w w' := by
 have HB := Hd (al_below w (.cells #[.slice a n c] 136))
 have HX := Hd (heap_alloc_new w (.cells #[.slice a n c] 136))
 have HG := Hd (show GlAt B a n c t w.heap.size (w.alloc (.cells #[.slice a n c] 136)) from ⟨HX.out, hT.below (HB.out.mono hBw)⟩)
 have HC := Hd (containsG_any 155 (.pointer (some ⟨w.heap.size, 0, none⟩)) a n c t B (fun i => decide ((t i).key ≠ (t 0).key)) (w.alloc (.cells #[.slice a n c] 136)) (Nat.le_trans hBw HB.out.size) hn.2 HG.out.rows flat_eg (fun W hb i hi => flat1_any a n c t B w.heap.size (t i) W (HG.out.below (Nat.le_trans hBw HB.out.size) hb) hn.1))
 unfold flatB
 generalize anyN n (fun i => decide ((t i).key ≠ (t 0).key)) = r at *
 clear hT HG
 go_enter Tryz.func105, Tryz.ntmps105
 go_upto_region 1 with (fail)
 generalize World.alloc w _ = V at *
 have k0 := cell_of_row _ _ 0 _ _ _ HX.out
 go_wp2_with (go_at_call 154; refine HC.out.mono ?_; rintro e W1 ⟨rfl, hb1⟩; have HB1 := Hd (HB.out.trans (hb1.mono HB.out.size)); clear hb1 k0)
 go_ret
 exact ⟨rfl, HB1.out⟩
theorem all1_any (s : ST) (x : Nat) (r : RW) (w : World) (hx : w.heap[x]? = some (.cells #[.int .i64 s.sl, .int .i64 s.st, .int .i64 s.dn] 204)) (hs : s.ok) (hz : 0 ≤ r.key ∧ r.key ≤ 100000) (hg : -1000000 ≤ r.lo ∧ r.lo ≤ r.hi ∧ r.hi ≤ 1000000) :
  Calls Tryz.prog 190 #[r.agg, .pointer (some ⟨x, 0, none⟩)] w fun e w' => e = .returned (.bool (!passB s r)) ∧ Below w.heap.size w w' := by
 have HP := Hd (fun W => passes_any s r W hs hz hg)
 have HB := Hd (al_below w (.cells #[.int .i64 r.key, .int .i64 r.lo, .int .i64 r.hi] 93))
 have HX := Hd (heap_alloc_new w (.cells #[.int .i64 r.key, .int .i64 r.lo, .int .i64 r.hi] 93))
 have HS := Hd (keep_at hx HB.out)
 generalize passB s r = v at *
 unfold ST.val RW.agg at HP
 unfold RW.agg
 clear hx hs hz hg
 go_enter Tryz.func190, Tryz.ntmps190
 go_upto_region 1 with (fail)
 generalize World.alloc w _ = V at *
 obtain ⟨k0, k1, k2⟩ := cr3 HX.out
 obtain ⟨s0, s1, s2⟩ := cr3 HS.out
 simp only [hnq] at k0 k1 k2 s0 s1 s2
 go_wp2_with (go_at_call 191; refine (HP.out _).mono ?_; rintro e W1 ⟨rfl, hb1⟩; have HB1 := Hd (HB.out.trans (hb1.mono HB.out.size)); clear hb1 k0 k1 k2 s0 s1 s2)
 go_ret
 exact ⟨rfl, HB1.out⟩
def allB (s : ST) (t : Nat → RW) (n : Nat) : Bool := !anyN n (fun i => !passB s (t i))
theorem all_any (s : ST) (a : Option Addr) (n c : Nat) (cv : Value) (t : Nat → RW) (B : Nat) (w : World) (hBw : B ≤ w.heap.size) (hT : RWs B w a n t) (hO : GtOk n t) (hs : s.ok) :
  Calls Tryz.prog 153 #[.agg #[.slice a n c, cv], s.val] w fun e w' => e = .returned (.bool (allB s t n)) ∧ Below w.heap.size w w' := by
 have HB := Hd (((Below.refl _ w).alloc (Nat.le_refl _) (.cells #[.slice a n c, cv] 139)).alloc (by simp) (.cells #[.int .i64 s.sl, .int .i64 s.st, .int .i64 s.dn] 204))
 have hnew := heap_alloc_new (w.alloc (.cells #[.slice a n c, cv] 139)) (.cells #[.int .i64 s.sl, .int .i64 s.st, .int .i64 s.dn] 204)
 rw [show (w.alloc (.cells #[.slice a n c, cv] 139)).heap.size = w.heap.size + 1 from by simp] at hnew
 have HX := Lib.hid hnew
 have HS := Hd (show ((w.alloc (.cells #[.slice a n c, cv] 139)).alloc (.cells #[.int .i64 s.sl, .int .i64 s.st, .int .i64 s.dn] 204)).heap[w.heap.size]? = some (.cells #[.slice a n c, cv] 139) from (Below.heap_alloc _ _ _ (by simp)).trans (heap_alloc_new w _))
 clear hnew
 have HC := Hd (containsG_any 190 (.pointer (some ⟨w.heap.size + 1, 0, none⟩)) a n c t B (fun i => !passB s (t i)) ((w.alloc (.cells #[.slice a n c, cv] 139)).alloc (.cells #[.int .i64 s.sl, .int .i64 s.st, .int .i64 s.dn] 204)) (Nat.le_trans hBw HB.out.size) (by have := hO.len; omega) (hT.below (HB.out.mono hBw)) all_eg (fun W hb i hi => all1_any s (w.heap.size + 1) (t i) W (keep_at HX.out hb) hs (hO.z i hi) (hO.span i hi)))
 unfold allB ST.val
 generalize anyN n (fun i => !passB s (t i)) = r at *
 clear hT hO hs
 go_enter Tryz.func153, Tryz.ntmps153
 go_upto_region 1 with (fail)
 generalize World.alloc (World.alloc w _) _ = V at *
 have k0 := cell_of_row _ _ 0 _ _ _ HS.out
 go_wp2_with (go_at_call 154; refine HC.out.mono ?_; rintro e W1 ⟨rfl, hb1⟩; have HB1 := Hd (HB.out.trans (hb1.mono HB.out.size)); clear hb1 k0)
 go_ret
 exact ⟨rfl, HB1.out⟩
theorem cells_lt {W : World} {b o : Nat} {v : Value} (h : W.cell? ⟨b, o, none⟩ = some v) : b < W.heap.size := by
 simp only [World.cell?, Option.bind_eq_bind] at h
 by_cases hb : b < W.heap.size
 ·exact hb
 ·rw [Array.getElem?_eq_none (by omega)] at h
  cases h
end Go.Proofs.YtgmpelhphnmknaaGreat
