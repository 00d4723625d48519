/- Texts put together: ToKnA, ToVille, ToBet, ToCntA, RowOwn, ToCntB, ToCntC. -/
import Derived.Test.YtgmpelhphnmknaaGreatQbb
import Derived.KernelRfl
import Derived.Test.YtgmpelhphnmknaaGreatProg
import Derived.Test.YtgmpelhphnmknaaGreatQaa
import Derived.Test.YtgmpelhphnmknaaGreatQad
import Derived.BigRegion
import Derived.BigQuiet
import Derived.Test.YtgmpelhphnmknaaGreatQan
import Derived.Deep.OwnRows
import Derived.Lib.BufferOwn
set_option maxRecDepth 100000
set_option maxHeartbeats 8000000
set_option linter.unusedVariables false
set_option linter.unusedSimpArgs false
namespace Go.Proofs.YtgmpelhphnmknaaGreat
open Go Go.RowKit Go.Shelf
theorem rgcd_any (a b : Nat) (w : World) (ha : a ≤ 1000000000000000) (hb : b ≤ 1000000000000000) :
  Calls Tryz.prog 77 #[.int .i64 (a : Int), .int .i64 (b : Int)] w fun e w' => e = .returned (.int .i64 (Nat.gcd a b : Int)) ∧ Below w.heap.size w w' := by
 have HB0 := Hd (Below.refl w.heap.size w)
 have HG0 := Hd (show Nat.gcd a b = Nat.gcd a b from rfl)
 obtain ⟨G, hG⟩ : ∃ G, Nat.gcd a b = G := ⟨_, rfl⟩
 rw [hG]
 have HG := Lib.hid hG
 clear hG HG0
 go_enter Tryz.func77, Tryz.ntmps77
 go_wp2
 go_loopw [0, 1] (fun x y wr => ∃ p q : Nat, x = .int .i64 (p : Int) ∧ y = .int .i64 (q : Int) ∧ p ≤ 1000000000000000 ∧ q ≤ 1000000000000000 ∧ Hid (Nat.gcd p q = G) ∧ Hid (Below w.heap.size w wr)) (fun _ y _ => (intOf y).toNat)
 case atStart => exact ⟨a, b, rfl, rfl, ha, hb, HG, HB0⟩
 case round =>
  clear HB0
  obtain ⟨p, q, rfl, rfl, hp, hq, HE, HB⟩ := hrel
  by_cases h0 : 0 < q
  ·have h0' : (0 : Int) < (q : Int) := by omega
   have hqz : (q : Int) ≠ 0 := by omega
   have hm : ((p : Int)).tmod (q : Int) = ((p % q : Nat) : Int) := by rw [Int.ofNat_tmod]
   have hm2 : (p : Int) % (q : Int) = ((p % q : Nat) : Int) := by rw [Int.natCast_emod]
   have hlt := Nat.mod_lt p h0
   have HE2 := Hd (show Nat.gcd q (p % q) = G from by rw [← HE.out, Nat.gcd_comm p q, Nat.gcd_rec q p, Nat.gcd_comm])
   generalize p % q = r at *
   go_upto_region 2 with (fail)
   (refine wp_region_calm (wr.heap.size) (by kernel_rfl) (by kernel_rfl) ?_; (repeat (first | go_big_quiet_step (fail) | quiet_step (fail))); refine wpQuiet_nil (wqn ?_); intro xq)
   have HB2 := Hd (HB.out.trans (xq.below.mono HB.out.size))
   generalize Calm.val xq = V2 at *
   clear HB HE hm hm2
   go_wp2
   go_roundw
   case rel => exact ⟨q, r, rfl, rfl, hq, by omega, HE2, HB2⟩
   case measure => simp [intOf]; omega
  ·obtain rfl : q = 0 := by omega
   have HE2 := Hd (show p = G from by rw [← HE.out, Nat.gcd_zero_right])
   clear HE
   go_wp2
   go_ret
   exact ⟨by rw [← HE2.out]; rfl, HB.out⟩
theorem rOf_any (num den : Int) (w : World) (hn : -1000000000000000 ≤ num ∧ num ≤ 1000000000000000) (hd : 1 ≤ den ∧ den ≤ 1000000000000000) :
  Calls Tryz.prog 32 #[.int .i64 num, .int .i64 den] w fun e w' => e = .returned (spV (frN num den) (frD num den)) ∧ Below w.heap.size w w' := by
 have HGC := Hd (fun W => rgcd_any num.natAbs den.natAbs W (by omega) (by omega))
 have hg1 : 1 ≤ Nat.gcd num.natAbs den.natAbs := Nat.gcd_pos_of_pos_right _ (by omega)
 have hg2 : (Nat.gcd num.natAbs den.natAbs : Int) ≤ den := by have := Nat.gcd_le_right num.natAbs (show 0 < den.natAbs by omega); omega
 unfold frN frD spV
 have hq1 : num.tdiv (Nat.gcd num.natAbs den.natAbs : Int) ≤ 1000000000000000 ∧ -1000000000000000 ≤ num.tdiv (Nat.gcd num.natAbs den.natAbs : Int) := by
  have h1 : (num.tdiv (Nat.gcd num.natAbs den.natAbs : Int)).natAbs ≤ num.natAbs := by rw [Int.natAbs_tdiv]; exact Nat.div_le_self _ _
  omega
 have hq2 : den.tdiv (Nat.gcd num.natAbs den.natAbs : Int) ≤ 1000000000000000 ∧ -1000000000000000 ≤ den.tdiv (Nat.gcd num.natAbs den.natAbs : Int) := by
  have h1 : (den.tdiv (Nat.gcd num.natAbs den.natAbs : Int)).natAbs ≤ den.natAbs := by rw [Int.natAbs_tdiv]; exact Nat.div_le_self _ _
  omega
 have hda : ((den.natAbs : Nat) : Int) = den := by omega
 have hna : ((num.natAbs : Nat) : Int) = max num (-num) := by omega
 rw [hda] at HGC
 have hdd : den / (Nat.gcd num.natAbs den.natAbs : Int) = den.tdiv (Nat.gcd num.natAbs den.natAbs : Int) := (Int.tdiv_eq_ediv_of_nonneg (by omega)).symm
 generalize hG : Nat.gcd num.natAbs den.natAbs = G at *
 generalize hN : num.tdiv (G : Int) = N at *
 generalize hD : den.tdiv (G : Int) = D at *
 generalize num.natAbs = na at *
 clear hG hda
 have HB := Hd (al_below w (.cells #[.int .i64 0, .int .i64 0] 68))
 have HX := Hd (heap_alloc_new w (.cells #[.int .i64 0, .int .i64 0] 68))
 have HGZ : (G : Int) ≠ 0 := by omega
 have hm1 : IntKind.i64.wrap (-num) = -num := IntWalk.i64_in _ (by omega)
 have hm2 : IntKind.i64.wrap N = N := IntWalk.i64_in _ (by omega)
 have hm3 : IntKind.i64.wrap D = D := IntWalk.i64_in _ (by omega)
 rw [hna] at HGC
 clear hna
 go_enter Tryz.func32, Tryz.ntmps32
 go_upto_region 1 with (fail)
 generalize World.alloc w _ = V at *
 go_upto_region 2 with (go_at_call 77; with_reducible refine (HGC.out _).mono ?_; rintro e W1 ⟨rfl, hb1⟩; have HB1 := Hd (HB.out.trans (hb1.mono HB.out.size)); have HX1 := Hd (keep_at HX.out hb1); clear hb1)
 (refine wp_region_calm_tail (W1.heap.size) 7 (by kernel_rfl) (by kernel_rfl) ?_; simp only [List.take_succ_cons, List.take_zero, List.drop_succ_cons, List.drop_zero]; (repeat (first | go_big_quiet_step (fail) | quiet_step (fail))); refine wpQuiet_nil (wqn ?_); intro xq)
 have hq := xq.below
 have HB2 := Hd (HB1.out.trans (hq.mono HB1.out.size))
 have HX2 := Hd (keep_at HX1.out hq)
 clear hq
 generalize Calm.val xq = V2 at *
 obtain ⟨p0, p1⟩ := cr2 HX2.out
 obtain ⟨f0, f1⟩ := fr2 HX2.out
 simp only [hnq] at p0 p1
 go_wp2
 have hrow := heap_setCell_same _ _ 1 _ _ (.int .i64 D) (heap_setCell_same V2 _ 0 _ _ (.int .i64 N) HX2.out)
 have hbl := (HB2.out.setCell (p := ⟨w.heap.size, 0, none⟩) (by dsimp only; omega) (.int .i64 N)).setCell (p := ⟨w.heap.size, 1, none⟩) (by dsimp only; omega) (.int .i64 D)
 generalize World.setCell (World.setCell V2 _ _) _ _ = V5 at *
 obtain ⟨q0, q1⟩ := cr2 hrow
 exact bodyPost_ret (v := .agg #[.int .i64 N, .int .i64 D]) (by simp [results, Tryz.results32, go_sem, q0, q1]) rfl ⟨rfl, hbl⟩
end Go.Proofs.YtgmpelhphnmknaaGreat
namespace Go.Proofs.YtgmpelhphnmknaaGreat
def betH (T P k c s h : Nat) : Nat := if k = 0 then T else if k = P then c else min T (c * (h + 1) * P / ((s + 2) * k))
def betM (T P k c s h : Nat) : Nat := if k = 0 then c else if k = P then T else min T (c * (s - h + 1) * P / ((s + 2) * (P - k)))
def outs : Nat → List (List Bool)
  | 0 => [[]]
  | n + 1 => (outs n).map (true :: ·) ++ (outs n).map (false :: ·)
end Go.Proofs.YtgmpelhphnmknaaGreat
namespace Go.Proofs.YtgmpelhphnmknaaGreat
structure BS where
 c : Nat
 s : Nat
 h : Nat
 out : Bool
def bstep (T P k L : Nat) (b : BS) (hit : Bool) : BS := if b.out = true then b else
 ⟨if hit = true then betH T P k b.c b.s b.h else betM T P k b.c b.s b.h, b.s + 1, if hit = true then b.h + 1 else b.h, decide (L ≤ if hit = true then betH T P k b.c b.s b.h else betM T P k b.c b.s b.h)⟩
def bRun (T P k L : Nat) (b : BS) (o : List Bool) : BS := o.foldl (bstep T P k L) b
theorem bstep_sh {T P k L : Nat} {b : BS} (h : b.h ≤ b.s) (x : Bool) : (bstep T P k L b x).h ≤ (bstep T P k L b x).s ∧ (bstep T P k L b x).s ≤ b.s + 1 := by
 unfold bstep
 split
 ·omega
 ·dsimp only
  split <;> omega
theorem betH_le {T P k c s h : Nat} (hc : c ≤ T) : betH T P k c s h ≤ T := by
 unfold betH
 split
 ·omega
 ·split
  ·exact hc
  ·exact Nat.min_le_left _ _
theorem betM_le {T P k c s h : Nat} (hc : c ≤ T) : betM T P k c s h ≤ T := by
 unfold betM
 split
 ·exact hc
 ·split
  ·omega
  ·exact Nat.min_le_left _ _
theorem bstep_c {T P k L : Nat} {b : BS} (h : b.c ≤ T) (x : Bool) : (bstep T P k L b x).c ≤ T := by
 unfold bstep
 split
 ·exact h
 ·dsimp only
  split
  ·exact betH_le h
  ·exact betM_le h
end Go.Proofs.YtgmpelhphnmknaaGreat
namespace Go.Proofs.YtgmpelhphnmknaaGreat
open Go.RowKit
structure BetAt (W : World) (b o : Nat) (P s h k c : Nat) : Prop where
 parts : W.cell? ⟨b, o, none⟩ = some (.int .i64 (P : Int))
 slots : W.cell? ⟨b, o + 1, none⟩ = some (.int .i64 (s : Int))
 hits : W.cell? ⟨b, o + 2, none⟩ = some (.int .i64 (h : Int))
 rate : W.cell? ⟨b, o + 3, none⟩ = some (.int .i64 (k : Int))
 capital : W.cell? ⟨b, o + 4, none⟩ = some (.int .i64 (c : Int))
structure BetOk (P s h k c : Nat) : Prop where
 parts : 2 ≤ P ∧ P ≤ 1000
 slots : s ≤ 4000
 hits : h ≤ s
 rate : k ≤ P
 capital : c ≤ 1000000000000
theorem pro_bound {a b A B : Int} (ha : 0 ≤ a ∧ a ≤ A) (hb : 0 ≤ b ∧ b ≤ B) : 0 ≤ a * b ∧ a * b ≤ A * B := ⟨Int.mul_nonneg ha.1 hb.1, Int.mul_le_mul ha.2 hb.2 hb.1 (Int.le_trans ha.1 ha.2)⟩
abbrev topB : Nat := 1000000000000
theorem min_to (x y : Int) : (if x < y then x else y) = min y x := by
  rw [Int.min_def]; split <;> split <;> omega
theorem min_if (x : Int) (y : Nat) (h : x = (y : Int)) : (if x < 1000000000000 then x else 1000000000000) = ((min topB y : Nat) : Int) := by
 subst h
 unfold topB
 split <;> omega
theorem hit_any (b o P s h k c : Nat) (w : World) (hB : BetAt w b o P s h k c) (hO : BetOk P s h k c) :
  Calls Tryz.prog 194 #[.pointer (some ⟨b, o, none⟩)] w fun e w' => e = .returned (.int .i64 (betH topB P k c s h : Int)) ∧ Below w.heap.size w w' := by
 obtain ⟨c0, c1, c2, c3, c4⟩ := hB
 obtain ⟨⟨hP1, hP2⟩, hs, hh, hk, hc⟩ := hO
 by_cases hk0 : k = 0
 ·subst hk0
  have HE := Hd (show (betH topB P 0 c s h : Int) = 1000000000000 from rfl)
  generalize betH topB P 0 c s h = R at *
  go_enter Tryz.func194, Tryz.ntmps194
  go_wp2
  go_ret
  exact ⟨by rw [HE.out]; rfl, Below.refl _ _⟩
 ·by_cases hkP : k = P
  ·subst hkP
   have HE := Hd (show betH topB k k c s h = c from by unfold betH; rw [if_neg hk0, if_pos rfl])
   generalize betH topB k k c s h = R at *
   have hk1 : ((k : Int) == 0) = false := by rw [beq_eq_false_iff_ne]; omega
   clear hk0
   go_enter Tryz.func194, Tryz.ntmps194
   go_wp2
   go_ret
   exact ⟨by rw [HE.out]; rfl, Below.refl _ _⟩
  ·have hk1 : ((k : Int) == 0) = false := by rw [beq_eq_false_iff_ne]; omega
   have hk2 : ((k : Int) == (P : Int)) = false := by rw [beq_eq_false_iff_ne]; omega
   have b1 := pro_bound (a := (c : Int)) (b := (h : Int) + 1) (A := 1000000000000) (B := 4001) ⟨by omega, by omega⟩ ⟨by omega, by omega⟩
   have b2 := pro_bound (a := (c : Int) * ((h : Int) + 1)) (b := (P : Int)) (B := 1000) b1 ⟨by omega, by omega⟩
   have b3 := pro_bound (a := (s : Int) + 2) (b := (k : Int)) (A := 4002) (B := 1000) ⟨by omega, by omega⟩ ⟨by omega, by omega⟩
   have b4 : ((s : Int) + 2) * (k : Int) ≠ 0 := by
    have : 0 < ((s : Int) + 2) * (k : Int) := Int.mul_pos (by omega) (by omega)
    omega
   have HE := Hd (show (if (c : Int) * ((h : Int) + 1) * (P : Int) / (((s : Int) + 2) * (k : Int)) < 1000000000000 then (c : Int) * ((h : Int) + 1) * (P : Int) / (((s : Int) + 2) * (k : Int)) else 1000000000000) = (betH topB P k c s h : Int) from by
    unfold betH
    rw [if_neg hk0, if_neg hkP]
    exact min_if _ _ (by
     rw [show (c : Int) * ((h : Int) + 1) * (P : Int) = ((c * (h + 1) * P : Nat) : Int) by simp, show ((s : Int) + 2) * (k : Int) = (((s + 2) * k : Nat) : Int) by simp]
     rfl))
   generalize betH topB P k c s h = R at *
   clear hk0 hkP
   go_enter Tryz.func194, Tryz.ntmps194
   go_upto_region 6 with (fail)
   go_region
   first | rw [HE.out] | rw [← min_to, HE.out]
   go_wp2
   go_ret
   exact ⟨rfl, (Below.refl _ _).drew⟩
theorem miss_any (b o P s h k c : Nat) (w : World) (hB : BetAt w b o P s h k c) (hO : BetOk P s h k c) :
  Calls Tryz.prog 193 #[.pointer (some ⟨b, o, none⟩)] w fun e w' => e = .returned (.int .i64 (betM topB P k c s h : Int)) ∧ Below w.heap.size w w' := by
 obtain ⟨c0, c1, c2, c3, c4⟩ := hB
 obtain ⟨⟨hP1, hP2⟩, hs, hh, hk, hc⟩ := hO
 by_cases hk0 : k = 0
 ·subst hk0
  have HE := Hd (show betM topB P 0 c s h = c from rfl)
  generalize betM topB P 0 c s h = R at *
  go_enter Tryz.func193, Tryz.ntmps193
  go_wp2
  go_ret
  exact ⟨by rw [HE.out]; rfl, Below.refl _ _⟩
 ·by_cases hkP : k = P
  ·subst hkP
   have HE := Hd (show (betM topB k k c s h : Int) = 1000000000000 from by unfold betM; rw [if_neg hk0, if_pos rfl]; rfl)
   generalize betM topB k k c s h = R at *
   have hk1 : ((k : Int) == 0) = false := by rw [beq_eq_false_iff_ne]; omega
   clear hk0
   go_enter Tryz.func193, Tryz.ntmps193
   go_wp2
   go_ret
   exact ⟨by rw [HE.out]; rfl, Below.refl _ _⟩
  ·have hk1 : ((k : Int) == 0) = false := by rw [beq_eq_false_iff_ne]; omega
   have hk2 : ((k : Int) == (P : Int)) = false := by rw [beq_eq_false_iff_ne]; omega
   have b1 := pro_bound (a := (c : Int)) (b := (s : Int) - (h : Int) + 1) (A := 1000000000000) (B := 4001) ⟨by omega, by omega⟩ ⟨by omega, by omega⟩
   have b2 := pro_bound (a := (c : Int) * ((s : Int) - (h : Int) + 1)) (b := (P : Int)) (B := 1000) b1 ⟨by omega, by omega⟩
   have b3 := pro_bound (a := (s : Int) + 2) (b := (P : Int) - (k : Int)) (A := 4002) (B := 1000) ⟨by omega, by omega⟩ ⟨by omega, by omega⟩
   have b4 : ((s : Int) + 2) * ((P : Int) - (k : Int)) ≠ 0 := by
    have : 0 < ((s : Int) + 2) * ((P : Int) - (k : Int)) := Int.mul_pos (by omega) (by omega)
    omega
   have HE := Hd (show (if (c : Int) * ((s : Int) - (h : Int) + 1) * (P : Int) / (((s : Int) + 2) * ((P : Int) - (k : Int))) < 1000000000000 then (c : Int) * ((s : Int) - (h : Int) + 1) * (P : Int) / (((s : Int) + 2) * ((P : Int) - (k : Int))) else 1000000000000) = (betM topB P k c s h : Int) from by
    unfold betM
    rw [if_neg hk0, if_neg hkP]
    exact min_if _ _ (by
     rw [show (c : Int) * ((s : Int) - (h : Int) + 1) * (P : Int) = ((c * (s - h + 1) * P : Nat) : Int) by simp [Int.ofNat_sub hh], show ((s : Int) + 2) * ((P : Int) - (k : Int)) = (((s + 2) * (P - k) : Nat) : Int) by simp [Int.ofNat_sub hk]]
     rfl))
   generalize betM topB P k c s h = R at *
   clear hk0 hkP
   go_enter Tryz.func193, Tryz.ntmps193
   go_upto_region 6 with (fail)
   go_region
   first | rw [HE.out] | rw [← min_to, HE.out]
   go_wp2
   go_ret
   exact ⟨rfl, (Below.refl _ _).drew⟩
end Go.Proofs.YtgmpelhphnmknaaGreat
namespace Go.Proofs.YtgmpelhphnmknaaGreat
open Go.RowKit
def flatN (f : Nat → List Value) : Nat → List Value
 | 0 => []
 | n + 1 => flatN f n ++ f n
theorem flatN_length {k : Nat} {f : Nat → List Value} (hf : ∀ i, (f i).length = k) : ∀ n, (flatN f n).length = n * k
 | 0 => by simp [flatN]
 | n + 1 => by rw [flatN, List.length_append, flatN_length hf n, hf, Nat.add_mul, Nat.one_mul]
theorem flatN_get {k : Nat} {f : Nat → List Value} (hf : ∀ i, (f i).length = k) : ∀ n i r, i < n → r < k → (flatN f n)[i * k + r]? = (f i)[r]?
 | 0, i, r, hi, _ => by omega
 | n + 1, i, r, hi, hr => by
  rw [flatN]
  by_cases e : i = n
  ·subst e
   rw [List.getElem?_append_right (by rw [flatN_length hf]; omega), flatN_length hf]
   congr 1; omega
  ·have h1 : i * k + r < n * k := by
    have : (i + 1) * k ≤ n * k := Nat.mul_le_mul_right k (by omega)
    rw [Nat.add_mul] at this; omega
   rw [List.getElem?_append_left (by rw [flatN_length hf]; exact h1)]
   exact flatN_get hf n i r (by omega) hr
def PR.cells (p : PR) : List Value := [.int .i64 p.kind, .int .i64 p.view, .int .i64 p.z, .int .i64 p.first, .int .i64 p.pitch, .int .i64 p.strips, .int .i64 p.spill, .int .i64 p.olo, .int .i64 p.ohi, .int .i64 p.clo, .int .i64 p.chi, .int .i64 p.jitter, .int .i64 p.least, .slice p.da p.dn p.dc, .slice p.ea p.en p.ec]
def DV.cells (d : DV) : List Value := [.int .i64 d.time, .int .i64 d.lo, .int .i64 d.hi]
end Go.Proofs.YtgmpelhphnmknaaGreat
namespace Go.Proofs.YtgmpelhphnmknaaGreat
open Go.RowKit
theorem set_row (w : World) (b j : Nat) (cur : Array Value) (e : TypeId) (fz : Nat × Nat) (v : Value) (h : w.heap[b]? = some (.cells cur e fz)) : (w.setCell ⟨b, j, none⟩ v).heap[b]? = some (.cells (cur.setIfInBounds j v) e fz) := by
 simp [World.setCell, Array.getElem?_modify, h]
structure BetIn (cur : Array Value) (o : Nat) (P s h k c : Nat) : Prop where
 parts : cur[o]? = some (.int .i64 (P : Int))
 slots : cur[o + 1]? = some (.int .i64 (s : Int))
 hits : cur[o + 2]? = some (.int .i64 (h : Int))
 rate : cur[o + 3]? = some (.int .i64 (k : Int))
 capital : cur[o + 4]? = some (.int .i64 (c : Int))
theorem BetIn.at {W : World} {b o P s h k c : Nat} {cur : Array Value} {t : TypeId} {fz : Nat × Nat} (hb : W.heap[b]? = some (.cells cur t fz)) (hi : BetIn cur o P s h k c) : BetAt W b o P s h k c :=
 ⟨(cell_of_row _ _ _ _ _ _ hb).trans hi.parts, (cell_of_row _ _ _ _ _ _ hb).trans hi.slots, (cell_of_row _ _ _ _ _ _ hb).trans hi.hits, (cell_of_row _ _ _ _ _ _ hb).trans hi.rate, (cell_of_row _ _ _ _ _ _ hb).trans hi.capital⟩
def nextA (cur : Array Value) (o s h c' : Nat) (hit : Bool) : Array Value :=
 if hit = true then ((cur.setIfInBounds (o + 4) (.int .i64 (c' : Int))).setIfInBounds (o + 1) (.int .i64 ((s + 1 : Nat) : Int))).setIfInBounds (o + 2) (.int .i64 ((h + 1 : Nat) : Int))
 else (cur.setIfInBounds (o + 4) (.int .i64 (c' : Int))).setIfInBounds (o + 1) (.int .i64 ((s + 1 : Nat) : Int))
def NextRes (b o s h c' : Nat) (hit : Bool) (cur : Array Value) (t : TypeId) (w : World) (e : Ending) (w' : World) : Prop := e = .returned (.tuple #[]) ∧ w.grownBy w' (some b) ∧ w'.heap[b]? = some (.cells (nextA cur o s h c' hit) t)
theorem get_set_ne (cur : Array Value) (v : Value) {i j : Nat} (h : i ≠ j) : (cur.setIfInBounds i v)[j]? = cur[j]? := by rw [Array.getElem?_setIfInBounds_ne h]
theorem below_grown {w w' : World} (h : Below w.heap.size w w') (b : Nat) : w.grownBy w' (some b) := ⟨h.os, h.tape, h.output, h.size, fun i hi _ => h.block i hi⟩
theorem next_any (b o P s h k c : Nat) (hit : Bool) (cur : Array Value) (w : World) (hb : w.heap[b]? = some (.cells cur 214)) (hI : BetIn cur o P s h k c) (hO : BetOk P s h k c) :
  Calls Tryz.prog 162 #[.pointer (some ⟨b, o, none⟩), .bool hit] w (NextRes b o s h (if hit = true then betH topB P k c s h else betM topB P k c s h) hit cur 214 w) := by
 have hmf : ∀ (fn : Fn) (first cap : Array Value) (w : World), (Instr.makeFunc fn first cap).run Tryz.prog w = .ok (.func fn first cap) w := fun _ _ _ _ => rfl
 have HH := Hd (hit_any b o P s h k c w (BetIn.at hb hI) hO)
 have HM := Hd (miss_any b o P s h k c w (BetIn.at hb hI) hO)
 have hs := hO.slots
 have hh := hO.hits
 have HB := Lib.hid hb
 have HI := Lib.hid hI
 clear hb hI hO
 cases hit with
 | true =>
  rw [if_pos rfl]
  generalize betH topB P k c s h = R at *
  clear HM
  go_enter Tryz.func162, Tryz.ntmps162
  go_upto_region 4 with (go_at_call 194; refine HH.out.mono ?_; rintro e W1 ⟨rfl, hb1⟩; (have HB1 := Hd (blkS HB.out hb1); have HG1 := Hd (below_grown hb1 b); have y0 : W1.cell? ⟨b, o + 4, none⟩ = some (.int .i64 (c : Int)) := (cell_of_row _ _ _ _ _ _ HB1.out).trans HI.out.capital; have y1 : W1.frozen? ⟨b, o + 4, none⟩ = false := Lib.frozen_of_heap HB1.out _; clear hb1))
  have HB2 := Hd (set_row W1 b (o + 4) cur _ _ (.int .i64 (R : Int)) HB1.out); have HG2 := Hd (Lib.grownBy_trans HG1.out (Lib.grownBy_setCell W1 b (o + 4) (.int .i64 (R : Int)))); clear y0 y1; generalize World.setCell W1 _ _ = W2 at *; have y0 : W2.cell? ⟨b, o + 1, none⟩ = some (.int .i64 (s : Int)) := (cell_of_row _ _ _ _ _ _ HB2.out).trans (by rw [get_set_ne _ _ (by omega)]; exact HI.out.slots); have y1 : W2.frozen? ⟨b, o + 1, none⟩ = false := Lib.frozen_of_heap HB2.out _
  go_upto_region 5 with (fail)
  have HB3 := Hd (set_row W2 b (o + 1) _ _ _ (.int .i64 ((s + 1 : Nat) : Int)) HB2.out); have HG3 := Hd (Lib.grownBy_trans HG2.out (Lib.grownBy_setCell W2 b (o + 1) (.int .i64 ((s + 1 : Nat) : Int)))); clear y0 y1; change Code.wp _ _ _ _ (World.setCell W2 ⟨b, o + 1, none⟩ (.int .i64 ((s + 1 : Nat) : Int))); generalize World.setCell W2 _ _ = W3 at *
  go_upto_region 6 with (fail)
  have y0 : W3.cell? ⟨b, o + 2, none⟩ = some (.int .i64 (h : Int)) := (cell_of_row _ _ _ _ _ _ HB3.out).trans (by rw [get_set_ne _ _ (by omega), get_set_ne _ _ (by omega)]; exact HI.out.hits)
  have y1 : W3.frozen? ⟨b, o + 2, none⟩ = false := Lib.frozen_of_heap HB3.out _
  go_wp2
  refine bodyPost_ret (results_none rfl _ _ _) rfl ⟨rfl, Lib.grownBy_trans HG3.out (Lib.grownBy_setCell _ _ _ _), ?_⟩
  unfold nextA
  rw [if_pos rfl]
  exact set_row _ _ _ _ _ _ _ HB3.out
 | false =>
  rw [if_neg (by decide)]
  generalize betM topB P k c s h = R at *
  clear HH
  go_enter Tryz.func162, Tryz.ntmps162
  go_upto_region 4 with (go_at_call 193; refine HM.out.mono ?_; rintro e W1 ⟨rfl, hb1⟩; (have HB1 := Hd (blkS HB.out hb1); have HG1 := Hd (below_grown hb1 b); have y0 : W1.cell? ⟨b, o + 4, none⟩ = some (.int .i64 (c : Int)) := (cell_of_row _ _ _ _ _ _ HB1.out).trans HI.out.capital; have y1 : W1.frozen? ⟨b, o + 4, none⟩ = false := Lib.frozen_of_heap HB1.out _; clear hb1))
  have HB2 := Hd (set_row W1 b (o + 4) cur _ _ (.int .i64 (R : Int)) HB1.out); have HG2 := Hd (Lib.grownBy_trans HG1.out (Lib.grownBy_setCell W1 b (o + 4) (.int .i64 (R : Int)))); clear y0 y1; generalize World.setCell W1 _ _ = W2 at *; have y0 : W2.cell? ⟨b, o + 1, none⟩ = some (.int .i64 (s : Int)) := (cell_of_row _ _ _ _ _ _ HB2.out).trans (by rw [get_set_ne _ _ (by omega)]; exact HI.out.slots); have y1 : W2.frozen? ⟨b, o + 1, none⟩ = false := Lib.frozen_of_heap HB2.out _
  go_upto_region 5 with (fail)
  have HB3 := Hd (set_row W2 b (o + 1) _ _ _ (.int .i64 ((s + 1 : Nat) : Int)) HB2.out); have HG3 := Hd (Lib.grownBy_trans HG2.out (Lib.grownBy_setCell W2 b (o + 1) (.int .i64 ((s + 1 : Nat) : Int)))); clear y0 y1; change Code.wp _ _ _ _ (World.setCell W2 ⟨b, o + 1, none⟩ (.int .i64 ((s + 1 : Nat) : Int))); generalize World.setCell W2 _ _ = W3 at *
  go_wp2
  refine bodyPost_ret (results_none rfl _ _ _) rfl ⟨rfl, HG3.out, ?_⟩
  unfold nextA
  rw [if_neg (by decide)]
  exact HB3.out
end Go.Proofs.YtgmpelhphnmknaaGreat
namespace Go.Proofs.YtgmpelhphnmknaaGreat
open Go.RowKit
structure BigIn (cs : Array Value) (P lv lb cap : Nat) (out : Nat → Bool) (kept : Int) : Prop where
 size : cs.size = 2006
 parts : cs[0]? = some (.int .i64 (P : Int))
 level : cs[1]? = some (.int .i64 (lv : Int))
 list : cs[2]? = some (.slice (some ⟨lb, 0, none⟩) (P + 1) cap)
 outs : ∀ i, i < 1001 → cs[3 + i]? = some (.bool (out i))
 kept : cs[1004]? = some (.int .i64 kept)
 ats : ∀ i, i < 1001 → ∃ z, cs[1005 + i]? = some (.int .i64 z)
theorem BigIn.drop {cs : Array Value} {P lv lb cap : Nat} {out : Nat → Bool} {kept : Int} (h : BigIn cs P lv lb cap out kept) {k : Nat} (hk : k < 1001) (z : Int) :
  BigIn (((cs.setIfInBounds (3 + k) (.bool true)).setIfInBounds (1005 + k) (.int .i64 z)).setIfInBounds 1004 (.int .i64 (kept - 1))) P lv lb cap (fun i => if i = k then true else out i) (kept - 1) := by
 have hs := h.size
 refine ⟨by simp [hs], ?_, ?_, ?_, fun i hi => ?_, ?_, fun i hi => ?_⟩
 ·rw [get_set_ne _ _ (by omega), get_set_ne _ _ (by omega), get_set_ne _ _ (by omega)]; exact h.parts
 ·rw [get_set_ne _ _ (by omega), get_set_ne _ _ (by omega), get_set_ne _ _ (by omega)]; exact h.level
 ·rw [get_set_ne _ _ (by omega), get_set_ne _ _ (by omega), get_set_ne _ _ (by omega)]; exact h.list
 ·rw [get_set_ne _ _ (by omega), get_set_ne _ _ (by omega)]
  by_cases e : i = k
  ·subst e
   rw [if_pos rfl, Array.getElem?_setIfInBounds_self, if_pos (by omega)]
  ·rw [if_neg e, get_set_ne _ _ (by omega)]
   exact h.outs i hi
 ·rw [Array.getElem?_setIfInBounds_self, if_pos (by simp [hs])]
 ·rw [get_set_ne _ _ (by omega)]
  by_cases e : i = k
  ·subst e
   exact ⟨z, by rw [Array.getElem?_setIfInBounds_self, if_pos (by simp [hs]; omega)]⟩
  ·obtain ⟨y, hy⟩ := h.ats i hi
   exact ⟨y, by rw [get_set_ne _ _ (by omega), get_set_ne _ _ (by omega)]; exact hy⟩
structure Keep2 (a b : Nat) (w w' : World) : Prop where
 os : w'.os = w.os
 tape : w'.tape = w.tape
 output : w'.output = w.output
 size : w.heap.size ≤ w'.heap.size
 block : ∀ i, i < w.heap.size → i ≠ a → i ≠ b → w'.heap[i]? = w.heap[i]?
theorem Keep2.trans {a b : Nat} {w1 w2 w3 : World} (h : Keep2 a b w1 w2) (k : Keep2 a b w2 w3) : Keep2 a b w1 w3 :=
 ⟨k.os.trans h.os, k.tape.trans h.tape, k.output.trans h.output, Nat.le_trans h.size k.size, fun i hi h1 h2 => (k.block i (Nat.lt_of_lt_of_le hi h.size) h1 h2).trans (h.block i hi h1 h2)⟩
theorem Keep2.left {a b : Nat} {w w' : World} (h : w.grownBy w' (some a)) : Keep2 a b w w' := ⟨h.os, h.tape, h.output, h.size, fun i hi h1 _ => h.block i hi (by simpa using h1)⟩
theorem Keep2.right {a b : Nat} {w w' : World} (h : w.grownBy w' (some b)) : Keep2 a b w w' := ⟨h.os, h.tape, h.output, h.size, fun i hi _ h2 => h.block i hi (by simpa using h2)⟩
theorem Keep2.below {a b : Nat} {w w' : World} (h : Below w.heap.size w w') : Keep2 a b w w' := ⟨h.os, h.tape, h.output, h.size, fun i hi _ _ => h.block i hi⟩
theorem nextA_at {cur : Array Value} {o P s h k c : Nat} (hI : BetIn cur o P s h k c) (hit : Bool) (R : Nat) : (nextA cur o s h R hit)[o + 1]? = some (.int .i64 ((s + 1 : Nat) : Int)) ∧ (nextA cur o s h R hit)[o + 4]? = some (.int .i64 (R : Int)) := by
 have h1 := (blkL hI.slots)
 have h4 := (blkL hI.capital)
 unfold nextA
 split
 ·refine ⟨?_, ?_⟩
  ·rw [get_set_ne _ _ (by omega), Array.getElem?_setIfInBounds_self, if_pos (by simp; exact h1)]
  ·rw [get_set_ne _ _ (by omega), get_set_ne _ _ (by omega), Array.getElem?_setIfInBounds_self, if_pos h4]
 ·refine ⟨?_, ?_⟩
  ·rw [Array.getElem?_setIfInBounds_self, if_pos (by simp; exact h1)]
  ·rw [get_set_ne _ _ (by omega), Array.getElem?_setIfInBounds_self, if_pos h4]
def AgRes (bb lb P lv cap k : Nat) (out : Nat → Bool) (kept : Int) (s h c' : Nat) (hit : Bool) (cur : Array Value) (w : World) (e : Ending) (w' : World) : Prop :=
 e = .returned (.tuple #[]) ∧ Keep2 bb lb w w' ∧ w'.heap[lb]? = some (.cells (nextA cur (5 * k) s h c' hit) 214) ∧
  ∃ cs', w'.heap[bb]? = some (.cells cs' 163) ∧ BigIn cs' P lv lb cap (fun i => if i = k then decide (lv * 1048576 ≤ c') else out i) (if lv * 1048576 ≤ c' then kept - 1 else kept)
theorem against_any (x1 x2 bb lb P lv cap k s h c : Nat) (out : Nat → Bool) (kept : Int) (hit : Bool) (cur cs : Array Value) (w : World)
  (hx1 : w.heap[x1]? = some (.cells #[.pointer (some ⟨bb, 0, none⟩)] 155)) (hx2 : w.heap[x2]? = some (.cells #[.bool hit] 4))
  (hbb : w.heap[bb]? = some (.cells cs 163)) (hlb : w.heap[lb]? = some (.cells cur 214))
  (hG : BigIn cs P lv lb cap out kept) (hI : BetIn cur (5 * k) P s h k c) (hO : BetOk P s h k c) (hout : out k = false) (hlv : lv ≤ 900000) (hkept : -2000 ≤ kept ∧ kept ≤ 2000) :
  Calls Tryz.prog 161 #[.int .i64 (k : Int), .pointer (some ⟨x1, 0, none⟩), .pointer (some ⟨x2, 0, none⟩)] w (AgRes bb lb P lv cap k out kept s h (if hit = true then betH topB P k c s h else betM topB P k c s h) hit cur w) := by
 have HR0 : ¬ lv * 1048576 ≤ (if hit = true then betH topB P k c s h else betM topB P k c s h) → ∀ W', Keep2 bb lb w W' → W'.heap[lb]? = some (.cells (nextA cur (5 * k) s h (if hit = true then betH topB P k c s h else betM topB P k c s h) hit) 214) → W'.heap[bb]? = some (.cells cs 163) → AgRes bb lb P lv cap k out kept s h (if hit = true then betH topB P k c s h else betM topB P k c s h) hit cur w (.returned (.tuple #[])) W' := fun hL W' h1 h2 h3 => ⟨rfl, h1, h2, cs, h3, by
  rw [if_neg hL, decide_eq_false hL]
  have e : (fun i => if i = k then false else out i) = out := by
   funext i
   by_cases h : i = k
   ·subst h; rw [if_pos rfl, hout]
   ·rw [if_neg h]
  rw [e]
  exact hG⟩
 have HR1 : lv * 1048576 ≤ (if hit = true then betH topB P k c s h else betM topB P k c s h) → ∀ W' (z : Int), Keep2 bb lb w W' → W'.heap[lb]? = some (.cells (nextA cur (5 * k) s h (if hit = true then betH topB P k c s h else betM topB P k c s h) hit) 214) → W'.heap[bb]? = some (.cells (((cs.setIfInBounds (3 + k) (.bool true)).setIfInBounds (1005 + k) (.int .i64 z)).setIfInBounds 1004 (.int .i64 (kept - 1))) 163) → AgRes bb lb P lv cap k out kept s h (if hit = true then betH topB P k c s h else betM topB P k c s h) hit cur w (.returned (.tuple #[])) W' := fun hL W' z h1 h2 h3 => ⟨rfl, h1, h2, _, h3, by
  rw [if_pos hL, decide_eq_true hL]
  exact hG.drop (by have := hO.rate; have := hO.parts; omega) z⟩
 generalize AgRes bb lb P lv cap k out kept s h (if hit = true then betH topB P k c s h else betM topB P k c s h) hit cur w = RES at *
 have hk1 := hO.rate
 have hP := hO.parts
 have hc' : (if hit = true then betH topB P k c s h else betM topB P k c s h) ≤ topB := by
  split
  ·exact betH_le hO.capital
  ·exact betM_le hO.capital
 have HN := Hd (next_any lb (5 * k) P s h k c hit cur w hlb hI hO)
 have HI := Lib.hid hI
 have HG := Lib.hid hG
 generalize (if hit = true then betH topB P k c s h else betM topB P k c s h) = R at *
 have HX1 := Lib.hid hx1
 have HX2 := Lib.hid hx2
 have HBB := Lib.hid hbb
 have HLB := Lib.hid hlb
 have n1 : bb ≠ lb := fun e => by
  subst e
  rw [hbb] at hlb
  simp only [Option.some.injEq, Obj.cells.injEq] at hlb
  exact absurd hlb.2.1 (by decide)
 have n3 : bb ≠ x1 := fun e => by
  subst e
  rw [hbb] at hx1
  simp only [Option.some.injEq, Obj.cells.injEq] at hx1
  exact absurd hx1.2.1 (by decide)
 have n2 : x1 ≠ lb := fun e => by
  subst e
  rw [hx1] at hlb
  simp only [Option.some.injEq, Obj.cells.injEq] at hlb
  exact absurd hlb.2.1 (by decide)
 have d1 : w.cell? ⟨x1, 0, none⟩ = some (.pointer (some ⟨bb, 0, none⟩)) := cell_of_row _ _ 0 _ _ _ hx1
 have d2 : w.cell? ⟨x2, 0, none⟩ = some (.bool hit) := cell_of_row _ _ 0 _ _ _ hx2
 have d3 : w.cell? ⟨bb, 2, none⟩ = some (.slice (some ⟨lb, 0, none⟩) (P + 1) cap) := (cell_of_row _ _ _ _ _ _ hbb).trans hG.list
 have hki : (k : Int) < ((P + 1 : Nat) : Int) := by omega
 have hki2 : (k : Int) < (P : Int) + 1 := by omega
 have h5 : k * 5 = 5 * k := Nat.mul_comm _ _
 clear hx1 hx2 hbb hlb hG hI hO
 go_enter Tryz.func161, Tryz.ntmps161
 go_upto_region 1 with (fail)
 go_upto_region 2 with (go_at_call 162; refine HN.out.mono ?_; rintro e W1 ⟨rfl, hg, hl⟩)
 have HB1 := Hd ((hg.block _ (blkL HBB.out) (by simpa using n1)).trans HBB.out)
 have HX3 := Hd ((hg.block _ (blkL HX1.out) (by simpa using n2)).trans HX1.out)
 have HL1 := Lib.hid hl
 have HK1 := Hd (show Keep2 bb lb w W1 from Keep2.right hg)
 have HS5 := Hd (nextA_at HI.out hit R)
 clear hg hl d1 d2 d3 HX1 HX2 HBB HLB HN
 have d1 : W1.cell? ⟨x1, 0, none⟩ = some (.pointer (some ⟨bb, 0, none⟩)) := cell_of_row _ _ 0 _ _ _ HX3.out
 have d2 : W1.cell? ⟨bb, 3 + k, none⟩ = some (.bool false) := (cell_of_row _ _ _ _ _ _ HB1.out).trans (by rw [← hout]; exact HG.out.outs k (by omega))
 have d3 : W1.cell? ⟨bb, 1, none⟩ = some (.int .i64 (lv : Int)) := (cell_of_row _ _ _ _ _ _ HB1.out).trans HG.out.level
 have d4 : W1.cell? ⟨lb, 5 * k + 4, none⟩ = some (.int .i64 (R : Int)) := (cell_of_row _ _ _ _ _ _ HL1.out).trans HS5.out.2
 have hk1001 : (k : Int) < 1001 := by omega
 have l1 := (blkL HX3.out)
 have l2 := (blkL HB1.out)
 have l3 := (blkL HL1.out)
 by_cases hL : lv * 1048576 ≤ R
 case neg =>
  have hL' : ¬ (lv : Int) * 1048576 ≤ (R : Int) := by omega
  have HR := Hd (HR0 hL)
  clear HR0 HR1 hL
  (refine wp_region_calm (W1.heap.size) (by kernel_rfl) (by kernel_rfl) ?_; (repeat (first | go_big_quiet_step ((fail)) | quiet_step ((fail)))); refine wpQuiet_nil (wqn ?_); intro xq)
  have H2 := Hd (HR.out _ (HK1.out.trans (Keep2.below xq.below)) ((xq.below.block _ l3).trans HL1.out) ((xq.below.block _ l2).trans HB1.out))
  go_wp2
  exact bodyPost_ret (results_none rfl _ _ _) rfl H2.out
 case pos =>
  have hL' : (lv : Int) * 1048576 ≤ (R : Int) := by omega
  have HR := Hd (HR1 hL)
  clear HR0 HR1 hL
  (refine wp_region_calm (W1.heap.size) (by kernel_rfl) (by kernel_rfl) ?_; (repeat (first | go_big_quiet_step ((fail)) | quiet_step ((fail)))); refine wpQuiet_nil (wqn ?_); intro xq)
  go_upto_region 3 with (fail)
  have HK2 := Hd (HK1.out.trans (Keep2.below xq.below))
  have HB2 := Hd ((xq.below.block _ l2).trans HB1.out)
  have HL2 := Hd ((xq.below.block _ l3).trans HL1.out)
  have HX2 := Hd ((xq.below.block _ l1).trans HX3.out)
  clear d1 d2 d3 d4 HK1 HB1 HL1 HX3 l1 l2 l3
  generalize xq.val = V at *
  obtain ⟨z0, hz0⟩ := HG.out.ats k (by omega)
  have e1 : V.cell? ⟨x1, 0, none⟩ = some (.pointer (some ⟨bb, 0, none⟩)) := cell_of_row _ _ 0 _ _ _ HX2.out
  have e2 : V.cell? ⟨bb, 3 + k, none⟩ = some (.bool false) := (cell_of_row _ _ _ _ _ _ HB2.out).trans (by rw [← hout]; exact HG.out.outs k (by omega))
  have e3 : V.frozen? ⟨bb, 3 + k, none⟩ = false := Lib.frozen_of_heap HB2.out _
  have e4 : V.cell? ⟨bb, 1005 + k, none⟩ = some (.int .i64 z0) := (cell_of_row _ _ _ _ _ _ HB2.out).trans hz0
  have e5 : V.frozen? ⟨bb, 1005 + k, none⟩ = false := Lib.frozen_of_heap HB2.out _
  have e6 : V.cell? ⟨lb, 5 * k + 1, none⟩ = some (.int .i64 ((s + 1 : Nat) : Int)) := (cell_of_row _ _ _ _ _ _ HL2.out).trans HS5.out.1
  have l2 := (blkL HB2.out)
  go_region
  have HB3 := Hd (set_row (V.setCell ⟨bb, 3 + k, none⟩ (.bool true)) bb (1005 + k) _ _ _ (.int .i64 ((s + 1 : Nat) : Int)) (set_row V bb (3 + k) cs _ _ (.bool true) HB2.out))
  have HG3 := Hd (Lib.grownBy_trans (Lib.grownBy_setCell V bb (3 + k) (.bool true)) (Lib.grownBy_setCell (V.setCell ⟨bb, 3 + k, none⟩ (.bool true)) bb (1005 + k) (.int .i64 ((s + 1 : Nat) : Int))))
  clear e2 e3 e4 e5 e6 e1
  change Exit.then _ _ Exit.normal _ (World.drew (World.setCell (World.setCell V ⟨bb, 3 + k, none⟩ (.bool true)) ⟨bb, 1005 + k, none⟩ (.int .i64 ((s + 1 : Nat) : Int))))
  have HB4 := Hd (show (World.drew (World.setCell (World.setCell V ⟨bb, 3 + k, none⟩ (.bool true)) ⟨bb, 1005 + k, none⟩ (.int .i64 ((s + 1 : Nat) : Int)))).heap[bb]? = _ from HB3.out)
  have HK4 := Hd (HK2.out.trans ((Keep2.left HG3.out).trans (Keep2.below (Below.refl _ _).drew)))
  have HL4 := Hd ((HG3.out.block lb (blkL HL2.out) (by simpa using fun e => n1 e.symm)).trans HL2.out)
  have HX4 := Hd (show (World.drew (World.setCell (World.setCell V ⟨bb, 3 + k, none⟩ (.bool true)) ⟨bb, 1005 + k, none⟩ (.int .i64 ((s + 1 : Nat) : Int)))).heap[x1]? = _ from (HG3.out.block x1 (blkL HX2.out) (by simpa using fun e => n3 e.symm)).trans HX2.out)
  have HL5 := Hd (show (World.drew (World.setCell (World.setCell V ⟨bb, 3 + k, none⟩ (.bool true)) ⟨bb, 1005 + k, none⟩ (.int .i64 ((s + 1 : Nat) : Int)))).heap[lb]? = _ from HL4.out)
  clear HB3 HG3 HL4 HK2 HB2 HL2 HX2
  generalize World.drew (World.setCell (World.setCell V ⟨bb, 3 + k, none⟩ (.bool true)) ⟨bb, 1005 + k, none⟩ (.int .i64 ((s + 1 : Nat) : Int))) = Z at *
  have e1 : Z.cell? ⟨x1, 0, none⟩ = some (.pointer (some ⟨bb, 0, none⟩)) := cell_of_row _ _ 0 _ _ _ HX4.out
  have e2 : Z.cell? ⟨bb, 1004, none⟩ = some (.int .i64 kept) := (cell_of_row _ _ _ _ _ _ HB4.out).trans (by rw [get_set_ne _ _ (by omega), get_set_ne _ _ (by omega)]; exact HG.out.kept)
  have e3 : Z.frozen? ⟨bb, 1004, none⟩ = false := Lib.frozen_of_heap HB4.out _
  go_wp2
  have HB5 := set_row Z bb 1004 _ _ _ (.int .i64 (kept - 1)) HB4.out
  exact bodyPost_ret (results_none rfl _ _ _) rfl (HR.out _ _ (HK4.out.trans (Keep2.left (Lib.grownBy_setCell Z bb 1004 _))) ((Below.heap_setCell _ _ _ _ (fun e => n1 e.symm)).trans HL5.out) HB5)
end Go.Proofs.YtgmpelhphnmknaaGreat
