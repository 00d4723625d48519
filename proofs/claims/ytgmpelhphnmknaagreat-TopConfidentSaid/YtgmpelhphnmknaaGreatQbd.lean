/- Texts put together: ToCntD, ToCntE, ToZero, ToCntF, ToCntG. -/
import Derived.Test.YtgmpelhphnmknaaGreatQbc
import Derived.Test.YtgmpelhphnmknaaGreatProg
import Derived.Laws.Tables
import Derived.Calls
import Derived.Test.YtgmpelhphnmknaaGreatQaa
import Derived.OwnWalk
set_option maxRecDepth 100000
set_option maxHeartbeats 8000000
set_option linter.unusedVariables false
set_option linter.unusedSimpArgs false
namespace Go.Proofs.YtgmpelhphnmknaaGreat
open Go.RowKit
theorem hpOld {w : World} {o : Obj} {i : Nat} (h : i < w.heap.size) : (w.alloc o).heap[i]? = w.heap[i]? := Below.heap_alloc w o i h
theorem hpNew {w : World} {o : Obj} {i : Nat} (h : i = w.heap.size) : (w.alloc o).heap[i]? = some o := by subst h; exact heap_alloc_new w o
def keptN (B : Nat → BS) : Nat → Nat
 | 0 => 0
 | n + 1 => keptN B n + (if (B n).out = true then 0 else 1)
theorem keptN_congr {B C : Nat → BS} : ∀ n, (∀ k, k < n → (B k).out = (C k).out) → keptN B n = keptN C n
 | 0, _ => rfl
 | n + 1, h => by
  unfold keptN
  rw [keptN_congr n (fun k hk => h k (by omega)), h n (by omega)]
theorem keptN_flip {B C : Nat → BS} {j : Nat} (hj : (B j).out = false) (hc : (C j).out = true) : ∀ n, (∀ k, k < n → k ≠ j → (B k).out = (C k).out) → j < n → keptN B n = keptN C n + 1
 | 0, _, h => by omega
 | n + 1, h, hn => by
  unfold keptN
  by_cases e : j = n
  ·subst e
   rw [keptN_congr j (fun k hk => h k (by omega) (by omega)), hj, hc]
   simp
  ·rw [keptN_flip hj hc n (fun k hk => h k (by omega)) (by omega), h n (by omega) (by omega)]
   omega
theorem keptN_le (B : Nat → BS) : ∀ n, keptN B n ≤ n
 | 0 => Nat.le_refl _
 | n + 1 => by
  have := keptN_le B n
  unfold keptN
  split <;> omega
theorem keptN_pos {B : Nat → BS} : ∀ n, keptN B n ≠ 0 → ∃ k, k < n ∧ (B k).out = false
 | 0, h => absurd rfl h
 | n + 1, h => by
  by_cases e : (B n).out = true
  ·unfold keptN at h
   rw [if_pos e] at h
   obtain ⟨k, hk, h2⟩ := keptN_pos n h
   exact ⟨k, by omega, h2⟩
  ·exact ⟨n, by omega, by simpa using e⟩
structure BetsAt (W : World) (bb lb P lv cap : Nat) (B : Nat → BS) : Prop where
 big : ∃ (cs : Array Value) (out : Nat → Bool), W.heap[bb]? = some (.cells cs 163) ∧ BigIn cs P lv lb cap out (keptN B (P + 1) : Int) ∧ ∀ k, k ≤ P → out k = (B k).out
 row : ∃ cur : Array Value, W.heap[lb]? = some (.cells cur 214) ∧ ∀ k, k ≤ P → BetIn cur (5 * k) P (B k).s (B k).h k (B k).c
structure BetsOk (B : Nat → BS) (P n : Nat) : Prop where
 parts : 2 ≤ P ∧ P ≤ 1000
 all : ∀ k, k ≤ P → (B k).s ≤ n ∧ (B k).h ≤ (B k).s ∧ (B k).c ≤ topB
theorem BetsOk.bet {B : Nat → BS} {P n k : Nat} (h : BetsOk B P n) (hn : n ≤ 4000) (hk : k ≤ P) : BetOk P (B k).s (B k).h k (B k).c := by
 obtain ⟨h1, h2, h3⟩ := h.all k hk
 exact ⟨h.parts, by omega, h2, hk, h3⟩
theorem BetsOk.next {B : Nat → BS} {P n L : Nat} (h : BetsOk B P n) (hit : Bool) : BetsOk (fun k => bstep topB P k L (B k) hit) P (n + 1) :=
 ⟨h.parts, fun k hk => by
  obtain ⟨h1, h2, h3⟩ := h.all k hk
  have := bstep_sh (T := topB) (P := P) (k := k) (L := L) h2 hit
  exact ⟨by omega, this.1, bstep_c h3 hit⟩⟩
def upto (B C : Nat → BS) (j : Nat) : Nat → BS := fun k => if k < j then C k else B k
theorem nextA_other (cur : Array Value) (o s h c' : Nat) (hit : Bool) (i : Nat) (hi : i < o ∨ o + 5 ≤ i) : (nextA cur o s h c' hit)[i]? = cur[i]? := by
 unfold nextA
 split
 ·rw [get_set_ne _ _ (by omega), get_set_ne _ _ (by omega), get_set_ne _ _ (by omega)]
 ·rw [get_set_ne _ _ (by omega), get_set_ne _ _ (by omega)]
theorem nextA_in {cur : Array Value} {o P s h k c : Nat} (hI : BetIn cur o P s h k c) (hit : Bool) (R : Nat) : BetIn (nextA cur o s h R hit) o P (s + 1) (if hit = true then h + 1 else h) k R := by
 obtain ⟨e1, e4⟩ := nextA_at hI hit R
 have h2 := (blkL hI.hits)
 refine ⟨?_, e1, ?_, ?_, e4⟩
 ·rw [show (nextA cur o s h R hit)[o]? = cur[o]? from by unfold nextA; split <;> simp [Array.getElem?_setIfInBounds]]
  exact hI.parts
 ·unfold nextA
  cases hit with
  | true =>
   rw [if_pos rfl, if_pos rfl, Array.getElem?_setIfInBounds_self, if_pos (by simp; exact h2)]
  | false =>
   rw [if_neg (by decide), if_neg (by decide), get_set_ne _ _ (by omega), get_set_ne _ _ (by omega)]
   exact hI.hits
 ·rw [show (nextA cur o s h R hit)[o + 3]? = cur[o + 3]? from by unfold nextA; split <;> simp [Array.getElem?_setIfInBounds]]
  exact hI.rate
theorem BetsAt.step {w w' : World} {bb lb P lv cap j : Nat} {B C : Nat → BS} {hit : Bool} {cur : Array Value} {out : Nat → Bool} {e : Ending} (hj : j ≤ P)
  (hcur : ∀ k, k ≤ P → BetIn cur (5 * k) P (upto B C j k).s (upto B C j k).h k (upto B C j k).c) (hout : ∀ k, k ≤ P → out k = (upto B C j k).out) (hB : (B j).out = false)
  (hC : C j = bstep topB P j (lv * 1048576) (B j) hit)
  (h : AgRes bb lb P lv cap j out (keptN (upto B C j) (P + 1) : Int) (B j).s (B j).h (if hit = true then betH topB P j (B j).c (B j).s (B j).h else betM topB P j (B j).c (B j).s (B j).h) hit cur w e w') :
  BetsAt w' bb lb P lv cap (upto B C (j + 1)) := by
 obtain ⟨_, _, hl, cs', hbb, hI⟩ := h
 have u1 : upto B C (j + 1) j = C j := by unfold upto; rw [if_pos (by omega)]
 have u2 : upto B C j j = B j := by unfold upto; rw [if_neg (by omega)]
 have u3 : ∀ k, k ≠ j → upto B C (j + 1) k = upto B C j k := fun k hk => by
  unfold upto
  by_cases h : k < j
  ·rw [if_pos h, if_pos (by omega)]
  ·rw [if_neg h, if_neg (by omega)]
 have c1 : (C j).s = (B j).s + 1 := by rw [hC]; unfold bstep; rw [if_neg (by rw [hB]; decide)]
 have c2 : (C j).h = if hit = true then (B j).h + 1 else (B j).h := by rw [hC]; unfold bstep; rw [if_neg (by rw [hB]; decide)]
 have c3 : (C j).c = if hit = true then betH topB P j (B j).c (B j).s (B j).h else betM topB P j (B j).c (B j).s (B j).h := by rw [hC]; unfold bstep; rw [if_neg (by rw [hB]; decide)]
 have c4 : (C j).out = decide (lv * 1048576 ≤ (C j).c) := by rw [c3, hC]; unfold bstep; rw [if_neg (by rw [hB]; decide)]
 rw [← c3] at hl hI
 have hk : (if lv * 1048576 ≤ (C j).c then (keptN (upto B C j) (P + 1) : Int) - 1 else (keptN (upto B C j) (P + 1) : Int)) = (keptN (upto B C (j + 1)) (P + 1) : Int) := by
  by_cases hL : lv * 1048576 ≤ (C j).c
  ·rw [if_pos hL]
   have := keptN_flip (B := upto B C j) (C := upto B C (j + 1)) (j := j) (by rw [u2, hB]) (by rw [u1, c4, decide_eq_true hL]) (P + 1) (fun k _ hk => by rw [u3 k hk]) (by omega)
   omega
  ·rw [if_neg hL]
   rw [keptN_congr (B := upto B C j) (C := upto B C (j + 1)) (P + 1) (fun k _ => by
    by_cases e : k = j
    ·subst e; rw [u1, u2, hB, c4, decide_eq_false hL]
    ·rw [u3 k e])]
 rw [hk] at hI
 refine ⟨⟨cs', _, hbb, hI, fun k hkP => ?_⟩, ⟨_, hl, fun k hkP => ?_⟩⟩
 ·by_cases e : k = j
  ·subst e; rw [if_pos rfl, u1, c4]
  ·rw [if_neg e, u3 k e]; exact hout k hkP
 ·by_cases e : k = j
  ·subst e
   rw [u1, c1, c2]
   have := hcur k hkP
   rw [u2] at this
   exact nextA_in this hit _
  ·have h0 := hcur k hkP
   rw [u3 k e]
   have hn : ∀ i, i < 5 → (nextA cur (5 * j) (B j).s (B j).h (C j).c hit)[5 * k + i]? = cur[5 * k + i]? := fun i hi => nextA_other _ _ _ _ _ _ _ (by omega)
   exact ⟨(hn 0 (by omega)).trans h0.parts, (hn 1 (by omega)).trans h0.slots, (hn 2 (by omega)).trans h0.hits, (hn 3 (by omega)).trans h0.rate, (hn 4 (by omega)).trans h0.capital⟩
structure InSlot (bb lb P lv cap : Nat) (B : Nat → BS) (hit : Bool) (w W : World) : Prop where
 bets : BetsAt W bb lb P lv cap B
 x1 : W.heap[w.heap.size]? = some (.cells #[.pointer (some ⟨bb, 0, none⟩)] 155)
 x2 : W.heap[w.heap.size + 1]? = some (.cells #[.bool hit] 4)
 keep : Keep2 bb lb w W
 bl : bb < w.heap.size ∧ lb < w.heap.size
theorem BetsAt.mono {w w' : World} {bb lb P lv cap : Nat} {B : Nat → BS} (h : BetsAt w bb lb P lv cap B) (hb : w'.heap[bb]? = w.heap[bb]?) (hl : w'.heap[lb]? = w.heap[lb]?) : BetsAt w' bb lb P lv cap B := by
 obtain ⟨⟨cs, out, h1, h2⟩, ⟨cur, h3, h4⟩⟩ := h
 exact ⟨⟨cs, out, hb.trans h1, h2⟩, ⟨cur, hl.trans h3, h4⟩⟩
theorem BetsAt.lt {w : World} {bb lb P lv cap : Nat} {B : Nat → BS} (h : BetsAt w bb lb P lv cap B) : bb < w.heap.size ∧ lb < w.heap.size := by
 obtain ⟨⟨cs, out, h1, h2⟩, ⟨cur, h3, h4⟩⟩ := h
 exact ⟨(blkL h1), (blkL h3)⟩
theorem BetsAt.congr {w : World} {bb lb P lv cap : Nat} {B C : Nat → BS} (h : BetsAt w bb lb P lv cap B) (he : ∀ k, k ≤ P → B k = C k) : BetsAt w bb lb P lv cap C := by
 obtain ⟨⟨cs, out, h1, h2, h5⟩, ⟨cur, h3, h4⟩⟩ := h
 refine ⟨⟨cs, out, h1, ?_, fun k hk => by rw [h5 k hk, he k hk]⟩, ⟨cur, h3, fun k hk => by rw [← he k hk]; exact h4 k hk⟩⟩
 rw [← keptN_congr (B := B) (P + 1) (fun k hk => by rw [he k (by omega)])]
 exact h2
theorem InSlot.start {w : World} {bb lb P lv cap : Nat} {B : Nat → BS} {hit : Bool} (h : BetsAt w bb lb P lv cap B) : InSlot bb lb P lv cap B hit w ((w.alloc (.cells #[.pointer (some ⟨bb, 0, none⟩)] 155)).alloc (.cells #[.bool hit] 4)) := by
 have hl := h.lt
 have hB : Below w.heap.size w ((w.alloc (.cells #[.pointer (some ⟨bb, 0, none⟩)] 155)).alloc (.cells #[.bool hit] 4)) := ((Below.refl _ _).alloc (Nat.le_refl _) _).alloc (by simp) _
 refine ⟨h.mono (hB.block _ hl.1) (hB.block _ hl.2), ?_, ?_, Keep2.below hB, hl⟩
 ·exact (hpOld (by simp)).trans (hpNew rfl)
 ·exact hpNew (by simp)
theorem InSlot.call {bb lb P lv cap j : Nat} {B C : Nat → BS} {hit : Bool} {w W : World} (h : InSlot bb lb P lv cap (upto B C j) hit w W) (hj : j ≤ P) (hB : (B j).out = false) (hC : C j = bstep topB P j (lv * 1048576) (B j) hit) (hO : BetOk P (B j).s (B j).h j (B j).c) (hlv : lv ≤ 900000) :
  Calls Tryz.prog 161 #[.int .i64 (j : Int), .pointer (some ⟨w.heap.size, 0, none⟩), .pointer (some ⟨w.heap.size + 1, 0, none⟩)] W fun e w' => e = .returned (.tuple #[]) ∧ InSlot bb lb P lv cap (upto B C (j + 1)) hit w w' := by
 obtain ⟨⟨⟨cs, out, h1, h2, h5⟩, ⟨cur, h3, h4⟩⟩, hx1, hx2, hk, hl⟩ := h
 have u2 : upto B C j j = B j := by unfold upto; rw [if_neg (by omega)]
 have hkept := keptN_le (upto B C j) (P + 1)
 have hP := hO.parts
 have hx1' := (blkL hx1)
 have hx2' := (blkL hx2)
 have hI := h4 j hj
 rw [u2] at hI
 refine (against_any _ _ bb lb P lv cap j (B j).s (B j).h (B j).c out _ hit cur cs W hx1 hx2 h1 h3 h2 hI hO (by rw [h5 j hj, u2, hB]) hlv ⟨by omega, by omega⟩).mono ?_
 intro e w' hr
 have hK := hr.2.1
 exact ⟨hr.1, BetsAt.step hj h4 h5 hB hC hr, (hK.block _ hx1' (by omega) (by omega)).trans hx1, (hK.block _ hx2' (by omega) (by omega)).trans hx2, hk.trans hK, hl⟩
theorem InSlot.skip {bb lb P lv cap j : Nat} {B C : Nat → BS} {hit : Bool} {w W : World} (h : InSlot bb lb P lv cap (upto B C j) hit w W) (hC : C j = B j) : InSlot bb lb P lv cap (upto B C (j + 1)) hit w W := by
 refine ⟨h.bets.congr fun k hk => ?_, h.x1, h.x2, h.keep, h.bl⟩
 unfold upto
 by_cases e : k = j
 ·subst e; rw [if_neg (by omega), if_pos (by omega), hC]
 ·by_cases h : k < j
  ·rw [if_pos h, if_pos (by omega)]
  ·rw [if_neg h, if_neg (by omega)]
theorem InSlot.drew {bb lb P lv cap : Nat} {B : Nat → BS} {hit : Bool} {w W : World} (h : InSlot bb lb P lv cap B hit w W) : InSlot bb lb P lv cap B hit w W.drew :=
 ⟨h.bets.mono rfl rfl, h.x1, h.x2, h.keep.trans (Keep2.below (Below.refl _ _).drew), h.bl⟩
theorem betsNext_any (bb lb P lv cap n : Nat) (B : Nat → BS) (hit : Bool) (w : World) (hB : BetsAt w bb lb P lv cap B) (hO : BetsOk B P n) (hn : n ≤ 4000) (hlv : lv ≤ 900000) :
  Calls Tryz.prog 113 #[.pointer (some ⟨bb, 0, none⟩), .bool hit] w fun e w' => e = .returned (.tuple #[]) ∧ BetsAt w' bb lb P lv cap (fun k => bstep topB P k (lv * 1048576) (B k) hit) ∧ Keep2 bb lb w w' := by
 have HS := Hd (InSlot.start (hit := hit) hB)
 have hP := hO.parts
 obtain ⟨C, hC⟩ : ∃ C : Nat → BS, ∀ k, C k = bstep topB P k (lv * 1048576) (B k) hit := ⟨_, fun _ => rfl⟩
 have HC := Lib.hid hC
 have HO := Lib.hid hO
 have HR := Hd (fun (W : World) (h : InSlot bb lb P lv cap (upto B C (P + 1)) hit w W) => show (Ending.returned (.tuple #[]) = Ending.returned (.tuple #[])) ∧ BetsAt W bb lb P lv cap (fun k => bstep topB P k (lv * 1048576) (B k) hit) ∧ Keep2 bb lb w W from
  ⟨rfl, h.bets.congr (fun k hk => by unfold upto; rw [if_pos (by omega), hC k]), h.keep⟩)
 have HB0 := Hd (show B = upto B C 0 from by funext k; unfold upto; rw [if_neg (by omega)])
 clear hC hO
 obtain ⟨m, hm⟩ : ∃ m, P + 1 = m := ⟨_, rfl⟩
 have hmf : ∀ (fn : Fn) (first cap : Array Value) (w : World), (Instr.makeFunc fn first cap).run Tryz.prog w = .ok (.func fn first cap) w := fun _ _ _ _ => rfl
 clear hB
 generalize hQ : (fun e w' => e = Ending.returned (.tuple #[]) ∧ BetsAt w' bb lb P lv cap (fun k => bstep topB P k (lv * 1048576) (B k) hit) ∧ Keep2 bb lb w w') = Q at *
 have HR2 := Hd (fun (W : World) (h : InSlot bb lb P lv cap (upto B C (P + 1)) hit w W) => show Q (.returned (.tuple #[])) W from by rw [← hQ]; exact HR.out W h)
 clear hQ HR
 go_enter Tryz.func113, Tryz.ntmps113
 go_upto_region 1 with (fail)
 generalize World.alloc (World.alloc w _) _ = V at *
 rw [HB0.out] at HS
 obtain ⟨⟨⟨cs, out, h1, h2, h5⟩, ⟨cur, h3, h4⟩⟩, hx1, hx2, hk, hl⟩ := HS.out
 have d1 : V.cell? ⟨w.heap.size, 0, none⟩ = some (.pointer (some ⟨bb, 0, none⟩)) := cell_of_row _ _ 0 _ _ _ hx1
 have d3 : V.cell? ⟨bb, 2, none⟩ = some (.slice (some ⟨lb, 0, none⟩) (P + 1) cap) := (cell_of_row _ _ _ _ _ _ h1).trans h2.list
 clear h1 h2 h5 h3 h4 hx1 hx2 hk
 rw [hm] at d3
 go_wp2
 clear d1 d3
 go_loopw [12] (fun t wr => ∃ j : Nat, j ≤ m ∧ t = .int .i64 (j : Int) ∧ Hid (InSlot bb lb P lv cap (upto B C j) hit w wr)) (fun t _ => m - (intOf t).toNat)
 case atStart => exact ⟨0, Nat.zero_le _, rfl, HS⟩
 case round =>
  clear HS
  obtain ⟨j, hj, rfl, HS⟩ := hrel
  by_cases hlt : j < m
  ·have hlt' : (j : Int) < (m : Int) := by omega
   have hm1 : (m : Int) ≤ 1001 := by omega
   have hjP : j ≤ P := by omega
   obtain ⟨⟨⟨cs, out, h1, h2, h5⟩, ⟨cur, h3, h4⟩⟩, hx1, hx2, hk, hl2⟩ := HS.out
   have d1 : wr.cell? ⟨w.heap.size, 0, none⟩ = some (.pointer (some ⟨bb, 0, none⟩)) := cell_of_row _ _ 0 _ _ _ hx1
   have d3 : wr.cell? ⟨bb, 3 + j, none⟩ = some (.bool (B j).out) := (cell_of_row _ _ _ _ _ _ h1).trans ((h2.outs j (by omega)).trans (by rw [h5 j hjP]; unfold upto; rw [if_neg (by omega)]))
   clear h1 h2 h5 h3 h4 hx1 hx2 hk hl2
   have hCj := HC.out j
   have hOj := HO.out.bet hn hjP
   have hj1001 : (j : Int) < 1001 := by omega
   cases hb : (B j).out with
   | true =>
    have HS2 := Hd (HS.out.skip (by rw [hCj]; unfold bstep; rw [if_pos hb]))
    rw [hb] at d3
    clear hCj hOj hb HS HR2 HB0
    go_wp2
    go_roundw
    case rel => exact ⟨j + 1, by omega, by go_num, HS2⟩
    case measure => simp [intOf]; omega
   | false =>
    have HK := Hd (HS.out.call hjP hb hCj hOj hlv)
    rw [hb] at d3
    clear hCj hOj hb HS HR2 HB0
    go_upto_region 6 with (fail)
    go_upto_region 7 with (go_at_call 161; refine HK.out.mono ?_; rintro e W1 ⟨rfl, hs⟩; have HS2 := Lib.hid hs; clear hs d1 d3)
    go_wp2
    go_roundw
    case rel => exact ⟨j + 1, by omega, by go_num, HS2⟩
    case measure => simp [intOf]; omega
  ·obtain rfl : j = m := by omega
   have HS2 := Hd (HR2.out wr (by rw [hm]; exact HS.out))
   clear HS HR2
   go_wp2
   exact bodyPost_ret (results_none rfl _ _ _) rfl HS2.out
end Go.Proofs.YtgmpelhphnmknaaGreat
namespace Go.Proofs.YtgmpelhphnmknaaGreat
open Go.RowKit
def BoolsIn (W : World) (a : Option Addr) (l : List Bool) : Prop := l = [] ∨ ∃ b cur fz, a = some ⟨b, 0, none⟩ ∧ W.heap[b]? = some (.cells cur 4 fz) ∧ ∀ i, i < l.length → cur[i]? = some (.bool (l.getD i false))
theorem BoolsIn.below {W W' : World} {a : Option Addr} {l : List Bool} (h : BoolsIn W a l) (hb : Below W.heap.size W W') : BoolsIn W' a l := by
 rcases h with h | ⟨b, cur, fz, h1, h2, h3⟩
 ·exact Or.inl h
 ·exact Or.inr ⟨b, cur, fz, h1, (hb.block b (blkL h2)).trans h2, h3⟩
theorem BoolsIn.keep2 {W W' : World} {a : Option Addr} {l : List Bool} {bb lb P lv cap : Nat} {B : Nat → BS} (h : BoolsIn W a l) (hB : BetsAt W bb lb P lv cap B) (hk : Keep2 bb lb W W') : BoolsIn W' a l := by
 rcases h with h | ⟨b, cur, fz, h1, h2, h3⟩
 ·exact Or.inl h
 ·obtain ⟨⟨cs, out, g1, _⟩, ⟨cur2, g3, _⟩⟩ := hB
  have n1 : b ≠ bb := fun e => by
   subst e
   rw [g1] at h2
   simp only [Option.some.injEq, Obj.cells.injEq] at h2
   exact absurd h2.2.1 (by decide)
  have n2 : b ≠ lb := fun e => by
   subst e
   rw [g3] at h2
   simp only [Option.some.injEq, Obj.cells.injEq] at h2
   exact absurd h2.2.1 (by decide)
  exact Or.inr ⟨b, cur, fz, h1, (hk.block b (blkL h2) n1 n2).trans h2, h3⟩
theorem BoolsIn.get {W : World} {a : Option Addr} {l : List Bool} (h : BoolsIn W a l) {i : Nat} (hi : i < l.length) : ∃ b, a = some ⟨b, 0, none⟩ ∧ b < W.heap.size ∧ W.cell? ⟨b, i, none⟩ = some (.bool (l.getD i false)) := by
 rcases h with h | ⟨b, cur, fz, h1, h2, h3⟩
 ·subst h; exact absurd hi (by simp)
 ·exact ⟨b, h1, (blkL h2), (cell_of_row _ _ _ _ _ _ h2).trans (h3 i hi)⟩
def afterB (P lv : Nat) (B : Nat → BS) (o : List Bool) : Nat → BS := fun k => bRun topB P k (lv * 1048576) (B k) o
theorem after_take {P lv : Nat} {B : Nat → BS} {o : List Bool} {i : Nat} (hi : i < o.length) : (fun k => bstep topB P k (lv * 1048576) (afterB P lv B (o.take i) k) (o.getD i false)) = afterB P lv B (o.take (i + 1)) := by
 funext k
 unfold afterB bRun
 rw [List.take_add_one, List.foldl_append]
 simp [hi]
theorem after_ok {P lv n : Nat} {B : Nat → BS} (h : BetsOk B P n) : ∀ o : List Bool, BetsOk (afterB P lv B o) P (n + o.length) := by
 intro o
 induction o generalizing n B with
 | nil => exact h
 | cons x o ih =>
  have := ih (h.next (L := lv * 1048576) x)
  rw [show n + (x :: o).length = n + 1 + o.length by simp; omega]
  exact this
theorem Keep2.refl (a b : Nat) (w : World) : Keep2 a b w w := ⟨rfl, rfl, rfl, Nat.le_refl _, fun _ _ _ _ => rfl⟩
theorem run_any (bb lb P lv cap n cp : Nat) (B : Nat → BS) (a : Option Addr) (l : List Bool) (w : World) (hB : BetsAt w bb lb P lv cap B) (hO : BetsOk B P n) (hl : BoolsIn w a l) (hn : n + l.length ≤ 4000) (hlv : lv ≤ 900000) :
  Calls Tryz.prog 75 #[.pointer (some ⟨bb, 0, none⟩), .slice a l.length cp] w fun e w' => e = .returned (.pointer (some ⟨bb, 0, none⟩)) ∧ BetsAt w' bb lb P lv cap (afterB P lv B l) ∧ Keep2 bb lb w w' := by
 obtain ⟨m, hm⟩ : ∃ m, l.length = m := ⟨_, rfl⟩
 have hOB := Hd (fun i (h : i ≤ m) => show BetsOk (afterB P lv B (l.take i)) P (n + i) from by
  have := after_ok (lv := lv) hO (l.take i)
  rw [List.length_take, hm, Nat.min_eq_left h] at this
  exact this)
 have hT := Hd (fun i (h : i < m) => after_take (P := P) (lv := lv) (B := B) (o := l) (i := i) (by omega))
 have h0 := Hd (show B = afterB P lv B (l.take 0) from rfl)
 have hE := Hd (show afterB P lv B l = afterB P lv B (l.take m) from by rw [← hm, List.take_length])
 have HB := Lib.hid hB
 have HL := Lib.hid hl
 have HM := Lib.hid hm
 rw [hm] at hn ⊢
 rw [hE.out]
 clear hB hO hl hm hE
 obtain ⟨S, hS⟩ : ∃ S : Nat → Nat → BS, ∀ i, afterB P lv B (l.take i) = S i := ⟨_, fun _ => rfl⟩
 simp only [hS] at hOB hT h0 ⊢
 rw [h0.out] at HB
 clear hS h0
 go_enter Tryz.func75, Tryz.ntmps75
 go_wp2
 go_loopw [9] (fun t wr => ∃ j : Nat, j ≤ m ∧ t = .int .i64 (j : Int) ∧ Hid (BetsAt wr bb lb P lv cap (S j) ∧ BoolsIn wr a l ∧ Keep2 bb lb w wr)) (fun t _ => m - (intOf t).toNat)
 case atStart => exact ⟨0, Nat.zero_le _, rfl, Lib.hid ⟨HB.out, HL.out, Keep2.refl _ _ _⟩⟩
 case round =>
  clear HB HL
  obtain ⟨j, hj, rfl, HS⟩ := hrel
  by_cases hlt : j < m
  ·have hlt' : (j : Int) < (m : Int) := by omega
   obtain ⟨b, rfl, hbz, d1⟩ := HS.out.2.1.get (i := j) (by rw [HM.out]; exact hlt)
   have HN := Hd (betsNext_any bb lb P lv cap (n + j) (S j) (l.getD j false) wr HS.out.1 (hOB.out j hj) (by omega) hlv)
   have HTj := Hd (hT.out j hlt)
   generalize l.getD j false = X at *
   go_wp2_with (go_at_call 113; refine HN.out.mono ?_; rintro e W1 ⟨rfl, hs, hk⟩; have HS2 := Hd (And.intro hs (And.intro (HS.out.2.1.keep2 HS.out.1 hk) (HS.out.2.2.trans hk))); rw [HTj.out] at HS2; clear hs hk d1)
   go_roundw
   case rel => exact ⟨j + 1, by omega, by go_num, HS2⟩
   case measure => simp [intOf]; omega
  ·obtain rfl : j = m := by omega
   go_wp2
   go_ret
   exact ⟨rfl, HS.out.1, HS.out.2.2⟩
end Go.Proofs.YtgmpelhphnmknaaGreat
namespace Go.Proofs.YtgmpelhphnmknaaGreat
open Go.RowKit
def isF : Value → Bool
 | .bool false => true
 | _ => false
def isZ : Value → Bool
 | .int .i64 0 => true
 | _ => false
def isN : Value → Bool
 | .slice none 0 0 => true
 | _ => false
def headAll (p : Value → Bool) (k : List Value → Bool) : Nat → List Value → Bool
 | 0, l => k l
 | _ + 1, [] => false
 | n + 1, v :: l => p v && headAll p k n l
theorem headAll_of {p : Value → Bool} {k : List Value → Bool} : ∀ (n : Nat) (l : List Value), headAll p k n l = true → ∃ a r, l = a ++ r ∧ a.length = n ∧ (∀ v ∈ a, p v = true) ∧ k r = true
 | 0, l, h => ⟨[], l, rfl, rfl, by simp, h⟩
 | n + 1, [], h => by simp [headAll] at h
 | n + 1, v :: l, h => by
  simp only [headAll, Bool.and_eq_true] at h
  obtain ⟨a, r, h1, h2, h3, h4⟩ := headAll_of n l h.2
  exact ⟨v :: a, r, by rw [h1]; rfl, by rw [List.length_cons, h2], by
   intro x hx
   rcases List.mem_cons.1 hx with e | e
   ·rw [e]; exact h.1
   ·exact h3 x e, h4⟩
def zok (z : List Value) : Bool := match z with
 | a :: b :: c :: r => isZ a && isZ b && isN c && headAll isF (fun r => match r with
  | d :: r => isZ d && headAll isZ (fun r => r.isEmpty) 1001 r
  | [] => false) 1001 r
 | _ => false
theorem isF_eq {v : Value} (h : isF v = true) : v = .bool false := by
 unfold isF at h
 split at h
 ·rfl
 ·cases h
theorem isZ_eq {v : Value} (h : isZ v = true) : v = .int .i64 0 := by
 unfold isZ at h
 split at h
 ·rfl
 ·cases h
theorem isN_eq {v : Value} (h : isN v = true) : v = .slice none 0 0 := by
 unfold isN at h
 split at h
 ·rfl
 ·cases h
structure ZBets (z : Array Value) : Prop where
 size : z.size = 2006
 list : z[2]? = some (.slice none 0 0)
 outs : ∀ i, i < 1001 → z[3 + i]? = some (.bool false)
 ats : ∀ i, i < 1001 → z[1005 + i]? = some (.int .i64 0)
theorem zok_of {z : Array Value} (h : zok z.toList = true) : ZBets z := by
 unfold zok at h
 split at h
 ·rename_i a b c r hz
  simp only [Bool.and_eq_true] at h
  obtain ⟨⟨⟨ha, hb⟩, hc⟩, h⟩ := h
  obtain ⟨p, q, rfl, hp, hpf, h⟩ := headAll_of _ _ h
  cases q with
  | cons d r2 =>
   simp only [Bool.and_eq_true] at h
   obtain ⟨hd, h⟩ := h
   obtain ⟨p2, q2, rfl, hp2, hpf2, h⟩ := headAll_of _ _ h
   have hq2 : q2 = [] := by simpa using h
   subst hq2
   have hg : ∀ i, z[i]? = (a :: b :: c :: (p ++ d :: (p2 ++ [])))[i]? := fun i => by rw [← hz]; exact (Array.getElem?_toList).symm
   refine ⟨?_, ?_, fun i hi => ?_, fun i hi => ?_⟩
   ·have : z.size = z.toList.length := by simp
    rw [this, hz]
    simp [hp, hp2]
   ·rw [hg]
    simp [isN_eq hc]
   ·rw [hg, show 3 + i = i + 3 by omega]
    simp only [List.getElem?_cons_succ]
    rw [List.getElem?_append_left (by omega), List.getElem?_eq_getElem (by omega)]
    rw [isF_eq (hpf _ (List.getElem_mem _))]
   ·rw [hg, show 1005 + i = (i + 1002) + 3 by omega]
    simp only [List.getElem?_cons_succ]
    rw [List.getElem?_append_right (by omega), hp, show i + 1002 - 1001 = i + 1 by omega]
    simp only [List.getElem?_cons_succ]
    rw [List.getElem?_append_left (by omega), List.getElem?_eq_getElem (by omega)]
    rw [isZ_eq (hpf2 _ (List.getElem_mem _))]
  | nil => cases h
 ·cases h
theorem zero_bets : ZBets Tryz.zeroCells163 := zok_of (by kernel_rfl)
end Go.Proofs.YtgmpelhphnmknaaGreat
namespace Go.Proofs.YtgmpelhphnmknaaGreat
open Go.RowKit
theorem info_bet : (Tryz.prog.info? 214).map (fun i => (i.zero, i.size, i.bytes)) = some (some (.agg #[.int .i64 0, .int .i64 0, .int .i64 0, .int .i64 0, .int .i64 0]), 5, 40) := by kernel_rfl
def betC (P : Nat) (k : Nat) : List Value := [.int .i64 (P : Int), .int .i64 0, .int .i64 0, .int .i64 (k : Int), .int .i64 1048576]
theorem betC_one (P k : Nat) : ∀ u ∈ betC P k, u.oneCell' = true := by
 intro u hu
 simp [betC] at hu
 rcases hu with rfl | rfl | rfl | rfl | rfl <;> rfl
structure BegIn (cs : Array Value) (P lv : Nat) (v : Value) : Prop where
 size : cs.size = 2006
 parts : cs[0]? = some (.int .i64 (P : Int))
 level : cs[1]? = some (.int .i64 (lv : Int))
 list : cs[2]? = some v
 outs : ∀ i, i < 1001 → cs[3 + i]? = some (.bool false)
 kept : cs[1004]? = some (.int .i64 ((P : Int) + 1))
 ats : ∀ i, i < 1001 → ∃ z, cs[1005 + i]? = some (.int .i64 z)
theorem BegIn.start {z : Array Value} (h : ZBets z) (P lv : Nat) : BegIn (((z.setIfInBounds 0 (.int .i64 (P : Int))).setIfInBounds 1 (.int .i64 (lv : Int))).setIfInBounds 1004 (.int .i64 ((P : Int) + 1))) P lv (.slice none 0 0) := by
 have hs := h.size
 refine ⟨by simp [hs], ?_, ?_, ?_, fun i hi => ?_, ?_, fun i hi => ⟨0, ?_⟩⟩
 ·rw [get_set_ne _ _ (by omega), get_set_ne _ _ (by omega), Array.getElem?_setIfInBounds_self, if_pos (by omega)]
 ·rw [get_set_ne _ _ (by omega), Array.getElem?_setIfInBounds_self, if_pos (by simp; omega)]
 ·rw [get_set_ne _ _ (by omega), get_set_ne _ _ (by omega), get_set_ne _ _ (by omega)]; exact h.list
 ·rw [get_set_ne _ _ (by omega), get_set_ne _ _ (by omega), get_set_ne _ _ (by omega)]; exact h.outs i hi
 ·rw [Array.getElem?_setIfInBounds_self, if_pos (by simp; omega)]
 ·rw [get_set_ne _ _ (by omega), get_set_ne _ _ (by omega), get_set_ne _ _ (by omega)]; exact h.ats i hi
theorem BegIn.set {cs : Array Value} {P lv : Nat} {v : Value} (h : BegIn cs P lv v) (u : Value) : BegIn (cs.setIfInBounds 2 u) P lv u := by
 have hs := h.size
 refine ⟨by simp [hs], ?_, ?_, ?_, fun i hi => ?_, ?_, fun i hi => ?_⟩
 ·rw [get_set_ne _ _ (by omega)]; exact h.parts
 ·rw [get_set_ne _ _ (by omega)]; exact h.level
 ·rw [Array.getElem?_setIfInBounds_self, if_pos (by omega)]
 ·rw [get_set_ne _ _ (by omega)]; exact h.outs i hi
 ·rw [get_set_ne _ _ (by omega)]; exact h.kept
 ·rw [get_set_ne _ _ (by omega)]; exact h.ats i hi
structure Beg (w W : World) (P lv j : Nat) (v : Value) : Prop where
 big : ∃ cs, W.heap[w.heap.size]? = some (.cells cs 163) ∧ BegIn cs P lv v
 own : W.ownsRow w.heap.size 214 5 v j (flatN (betC P) j)
 below : Below w.heap.size w W
theorem Beg.start {w : World} {P lv : Nat} {cs : Array Value} (h : BegIn cs P lv (.slice none 0 0)) : Beg w (w.alloc (.cells cs 163)) P lv 0 (.slice none 0 0) :=
 ⟨⟨cs, hpNew rfl, h⟩, ⟨rfl, Or.inl ⟨rfl, rfl⟩⟩, (Below.refl _ _).alloc (Nat.le_refl _) _⟩
theorem keptN_start (P : Nat) (B : Nat → BS) (hB : ∀ k, k ≤ P → (B k).out = false) : ∀ n, n ≤ P + 1 → keptN B n = n
 | 0, _ => rfl
 | n + 1, h => by
  unfold keptN
  rw [keptN_start P B hB n (by omega), hB n (by omega)]
  simp
theorem Beg.bets {w W : World} {P lv : Nat} {v : Value} (h : Beg w W P lv (P + 1) v) : ∃ lb cap, w.heap.size ≤ lb ∧ BetsAt W w.heap.size lb P lv cap (fun _ => ⟨1048576, 0, 0, false⟩) := by
 obtain ⟨⟨cs, hcs, hb⟩, hown, hbel⟩ := h
 rcases hown.2 with ⟨_, h0⟩ | ⟨g, cap, cur, hv, hg0, hg, hle, _, hsz, htake⟩
 ·omega
 ·refine ⟨g, cap, hg0, ⟨cs, fun _ => false, hcs, ⟨hb.size, hb.parts, hb.level, by rw [← hv]; exact hb.list, hb.outs, ?_, hb.ats⟩, fun _ _ => rfl⟩, ⟨cur, hg, fun k hk => ?_⟩⟩
  ·rw [keptN_start P _ (fun _ _ => rfl) (P + 1) (Nat.le_refl _)]
   rw [hb.kept]; simp
  ·have hc : ∀ r, r < 5 → cur[5 * k + r]? = (betC P k)[r]? := fun r hr => by
    rw [show 5 * k + r = k * 5 + r by omega]
    rw [← flatN_get (k := 5) (f := betC P) (fun _ => rfl) (P + 1) k r (by omega) hr, ← htake]
    have h1 : k * 5 + r < (P + 1) * 5 := by omega
    rw [List.getElem?_take_of_lt h1]
    simp
   exact ⟨hc 0 (by omega), hc 1 (by omega), hc 2 (by omega), hc 3 (by omega), hc 4 (by omega)⟩
theorem Beg.app {w W w6 : World} {P lv j : Nat} {va : Option Addr} {vc : Nat} {v' : Value} (h : Beg w W P lv j (.slice va j vc)) {o : Obj} (hown : w6.ownsRow w.heap.size 214 5 v' (j + 1) (flatN (betC P) j ++ betC P j)) (hg : (W.alloc o).grownBy w6 (Value.slice va j vc).ownBlock) :
  (∃ cs, w6.heap[w.heap.size]? = some (.cells cs 163) ∧ BegIn cs P lv (.slice va j vc)) ∧ Beg w (w6.setCell ⟨w.heap.size, 2, none⟩ v') P lv (j + 1) v' := by
 obtain ⟨⟨cs, h1, h2⟩, h3, h4⟩ := h
 have hl := (blkL h1)
 have hne : some w.heap.size ≠ (Value.slice va j vc).ownBlock := by
  rcases h3.2 with ⟨hv, _⟩ | ⟨g, cap, cur, hv, _, hg, _⟩
  ·rw [hv]; simp [Value.ownBlock]
  ·rw [hv]
   intro e
   simp only [Value.ownBlock, Option.some.injEq] at e
   rw [← e, h1] at hg
   simp only [Option.some.injEq, Obj.cells.injEq] at hg
   exact absurd hg.2.1 (by decide)
 have h6 : w6.heap[w.heap.size]? = some (.cells cs 163) := (hg.block _ (by simp; omega) hne).trans ((hpOld hl).trans h1)
 have hB : Below w.heap.size w w6 := by
  have hA : Below w.heap.size w (W.alloc o) := h4.alloc h4.size _
  refine ⟨hg.os.trans hA.os, hg.tape.trans hA.tape, hg.output.trans hA.output, Nat.le_trans hA.size hg.size, fun i hi => ?_⟩
  refine (hg.block i (Nat.lt_of_lt_of_le hi hA.size) ?_).trans (hA.block i hi)
  rcases h3.2 with ⟨hv, _⟩ | ⟨g, cap, cur, hv, hg0, _⟩
  ·rw [hv]; simp [Value.ownBlock]
  ·rw [hv]
   intro e
   simp only [Value.ownBlock, Option.some.injEq] at e
   omega
 have hne2 : some w.heap.size ≠ v'.ownBlock := by
  rcases hown.2 with ⟨hv, h0⟩ | ⟨g, cap, cur, hv, _, hg, _⟩
  ·omega
  ·rw [hv]
   intro e
   simp only [Value.ownBlock, Option.some.injEq] at e
   rw [← e, h6] at hg
   simp only [Option.some.injEq, Obj.cells.injEq] at hg
   exact absurd hg.2.1 (by decide)
 refine ⟨⟨cs, h6, h2⟩, ⟨_, set_row _ _ _ _ _ _ _ h6, h2.set v'⟩, hown.kept (Lib.grownBy_setCell _ _ _ _) ?_, ?_⟩
 ·exact Or.inr (Ne.symm hne2)
 ·exact ⟨hB.os, hB.tape, hB.output, by simp [World.setCell]; exact hB.size, fun i hi => (Below.heap_setCell _ _ _ _ (by dsimp only; omega)).trans (hB.block i hi)⟩
theorem begin_any (P lv : Nat) (w : World) (hP : 2 ≤ P ∧ P ≤ 1000) :
  Calls Tryz.prog 74 #[.int .i64 (P : Int), .int .i64 (lv : Int)] w fun e w' => ∃ lb cap, w.heap.size ≤ lb ∧ e = .returned (.pointer (some ⟨w.heap.size, 0, none⟩)) ∧ BetsAt w' w.heap.size lb P lv cap (fun _ => ⟨1048576, 0, 0, false⟩) ∧ Below w.heap.size w w' := by
 have HG := Hd (Beg.start (w := w) (BegIn.start zero_bets P lv))
 have HR := Hd (fun (W : World) (v : Value) (h : Beg w W P lv (P + 1) v) => show ∃ lb cap, w.heap.size ≤ lb ∧ (Ending.returned (.pointer (some ⟨w.heap.size, 0, none⟩)) = Ending.returned (.pointer (some ⟨w.heap.size, 0, none⟩))) ∧ BetsAt W w.heap.size lb P lv cap (fun _ => ⟨1048576, 0, 0, false⟩) ∧ Below w.heap.size w W from by
  obtain ⟨lb, cap, h1, h2⟩ := h.bets
  exact ⟨lb, cap, h1, rfl, h2, h.below⟩)
 obtain ⟨m, hm⟩ : ∃ m, P + 1 = m := ⟨_, rfl⟩
 have hm' : (P : Int) + 1 = (m : Int) := by omega
 go_enter Tryz.func74, Tryz.ntmps74
 go_upto_region 2 with (fail)
 rw [hm'] at HG
 generalize ((Tryz.zeroCells163.setIfInBounds 0 (.int .i64 (P : Int))).setIfInBounds 1 (.int .i64 (lv : Int))).setIfInBounds 1004 (.int .i64 (m : Int)) = ZB at *
 generalize World.alloc w _ = V at *
 go_wp2
 go_loopw [15] (fun t wr => ∃ (j : Nat) (v : Value), j ≤ m ∧ t = .int .i64 (j : Int) ∧ Hid (Beg w wr P lv j v)) (fun t _ => m - (intOf t).toNat)
 case atStart => exact ⟨0, _, Nat.zero_le _, rfl, HG⟩
 case round =>
  clear HG
  obtain ⟨j, v, hj, rfl, HG⟩ := hrel
  by_cases hlt : j < m
  ·have hlt' : (j : Int) < (m : Int) := by omega
   have hm1 : (m : Int) ≤ 1001 := by omega
   obtain ⟨⟨cs, h1, h2⟩, hown, hbel⟩ := HG.out
   obtain ⟨va, vc, rfl⟩ := own_len hown
   have d1 : wr.cell? ⟨w.heap.size, 2, none⟩ = some (.slice va j vc) := (cell_of_row _ _ _ _ _ _ h1).trans h2.list
   have hz := hbel.size
   have hlt0 := (blkL h1)
   clear h1 h2 hown hbel
   obtain ⟨j0, hj0, hz0, hz1, hz2⟩ := info_parts info_bet
   have hb63 : j + 1 ≤ maxLen := by unfold maxLen; omega
   have hb47 : (j + 1) * 40 ≤ 140737488355328 := by omega
   have HZ := Lib.hid hz
   clear hz HR
   go_upto_region 5 with (fail)
   go_upto_region 6 with (at_builtin; refine wpList_append_own _ rfl _ _ 158 rfl w.heap.size 214 j0 _ 5 40 Tryz.underlying158 hj0 hz0 hz1 hz2 rfl (by decide) (.slice va j vc) j (flatN (betC P) j) rfl (HG.out.own.alloc _) ⟨wr.heap.size, 0, none⟩ 1 1 (betC P j) rfl rfl cells_new (betC_one P j) hb63 hb47 (by have := HZ.out; simp; omega) ?_; intro v' w6 hown6 hgrow6 hnil6; obtain ⟨a6, c6, rfl⟩ := own_len hown6; obtain ⟨⟨cs6, q1, q2⟩, hq⟩ := HG.out.app hown6 hgrow6; have HQ := Lib.hid hq; have q3 := (cell_of_row _ _ 2 _ _ _ q1).trans q2.list; have q4 := frozen_of_row _ _ 2 _ _ q1; clear hown6 hgrow6 hnil6 q1 q2 hq)
   go_wp2
   go_roundw
   case rel => exact ⟨j + 1, _, by omega, by go_num, HQ⟩
   case measure => simp [intOf]; omega
  ·obtain rfl : j = m := by omega
   have HS2 := Hd (HR.out wr v (by rw [hm]; exact HG.out))
   clear HG HR
   go_wp2
   go_ret
   obtain ⟨lb, cap, h1, h2, h3⟩ := HS2.out
   exact ⟨lb, cap, h1, rfl, h3⟩
end Go.Proofs.YtgmpelhphnmknaaGreat
namespace Go.Proofs.YtgmpelhphnmknaaGreat
open Go.RowKit
theorem info_span7 : (Tryz.prog.info? 28).map (fun i => (i.zero, i.size, i.bytes)) = some (some (.agg #[.int .i64 0, .int .i64 0]), 2, 16) := by kernel_rfl
theorem isKept_any (x bb lb P lv cap k : Nat) (B : Nat → BS) (w : World) (hx : w.heap[x]? = some (.cells #[.pointer (some ⟨bb, 0, none⟩)] 155)) (hB : BetsAt w bb lb P lv cap B) (hk : k ≤ P) (hP : P ≤ 1000) :
  Calls Tryz.prog 164 #[.int .i64 (k : Int), .pointer (some ⟨x, 0, none⟩)] w fun e w' => e = .returned (.bool (!(B k).out)) ∧ w' = w := by
 obtain ⟨⟨cs, out, h1, h2, h5⟩, _⟩ := hB
 have d1 : w.cell? ⟨x, 0, none⟩ = some (.pointer (some ⟨bb, 0, none⟩)) := cell_of_row _ _ 0 _ _ _ hx
 have d2 : w.cell? ⟨bb, 3 + k, none⟩ = some (.bool (B k).out) := (cell_of_row _ _ _ _ _ _ h1).trans ((h2.outs k (by omega)).trans (by rw [h5 k hk]))
 have hk2 : (k : Int) < 1001 := by omega
 clear h1 h2 h5 hx
 generalize (B k).out = b at *
 go_enter Tryz.func164, Tryz.ntmps164
 go_wp2
 go_ret
 exact ⟨rfl, rfl⟩
theorem spanOf_any (a b : Int) (w : World) :
  Calls Tryz.prog 165 #[.int .i64 a, .int .i64 b] w fun e w' => e = .returned (.agg #[.int .i64 a, .int .i64 b]) ∧ Below w.heap.size w w' := by
 have HR := Hd (Below.refl w.heap.size w)
 go_enter Tryz.func165, Tryz.ntmps165
 go_wp2
 refine bodyPost_ret (v := .agg #[.int .i64 a, .int .i64 b]) (by simp [results, Tryz.results165, go_sem]) rfl ⟨rfl, ?_⟩
 exact HR.out.alloc (Nat.le_refl _) _
structure RunsOk (is : Nat → Bool) (low : Nat) (S : List (Nat × Nat)) : Prop where
 none : S = [] → ∀ k, k < low → is k = false
 first : ∀ p, S.head? = some p → is p.1 = true ∧ p.1 < low ∧ ∀ k, k < p.1 → is k = false
 last : ∀ p, S.getLast? = some p → is p.2 = true ∧ p.2 < low ∧ ∀ k, p.2 < k → k < low → is k = false
theorem RunsOk.skip {is : Nat → Bool} {low : Nat} {S : List (Nat × Nat)} (h : RunsOk is low S) (hf : is low = false) : RunsOk is (low + 1) S := by
 refine ⟨fun hS k hk => ?_, fun p hp => ?_, fun p hp => ?_⟩
 ·by_cases e : k = low
  ·rw [e, hf]
  ·exact h.none hS k (by omega)
 ·obtain ⟨h1, h2, h3⟩ := h.first p hp
  exact ⟨h1, by omega, h3⟩
 ·obtain ⟨h1, h2, h3⟩ := h.last p hp
  refine ⟨h1, by omega, fun k hk1 hk2 => ?_⟩
  by_cases e : k = low
  ·rw [e, hf]
  ·exact h3 k hk1 (by omega)
theorem RunsOk.add {is : Nat → Bool} {low high : Nat} {S : List (Nat × Nat)} (h : RunsOk is low S) (hle : low ≤ high) (hl : is low = true) (hh : is high = true) : RunsOk is (high + 1) (S ++ [(low, high)]) := by
 refine ⟨fun hS => by simp at hS, fun p hp => ?_, fun p hp => ?_⟩
 ·cases S with
  | nil =>
   simp only [List.nil_append, List.head?_cons, Option.some.injEq] at hp
   subst hp
   exact ⟨hl, by dsimp only; omega, h.none rfl⟩
  | cons q S =>
   simp only [List.cons_append, List.head?_cons, Option.some.injEq] at hp
   subst hp
   obtain ⟨h1, h2, h3⟩ := h.first q rfl
   exact ⟨h1, by omega, h3⟩
 ·simp only [List.getLast?_append, List.getLast?_singleton, Option.some_or, Option.some.injEq] at hp
  subst hp
  exact ⟨hh, by dsimp only; omega, fun k h1 h2 => by dsimp only at h1; omega⟩
def prC (S : List (Nat × Nat)) : List Value := (S.map fun p => [Value.int .i64 (p.1 : Int), .int .i64 (p.2 : Int)]).flatten
theorem prC_snoc (S : List (Nat × Nat)) (p : Nat × Nat) : prC (S ++ [p]) = prC S ++ [.int .i64 (p.1 : Int), .int .i64 (p.2 : Int)] := by simp [prC]
theorem prC_one (a b : Nat) : ∀ u ∈ [Value.int .i64 (a : Int), .int .i64 (b : Int)], u.oneCell' = true := by
 intro u hu
 simp only [List.mem_cons, List.not_mem_nil, or_false] at hu
 rcases hu with rfl | rfl <;> rfl
def OwnS (w W : World) (v : Value) (S : List (Nat × Nat)) : Prop := W.ownsRow w.heap.size 28 2 v S.length (prC S) ∧ Below w.heap.size w W
theorem OwnS.start (w : World) : OwnS w w (.slice none 0 0) [] := ⟨⟨rfl, Or.inl ⟨rfl, rfl⟩⟩, Below.refl _ _⟩
theorem OwnS.step {w W W' : World} {v : Value} {S : List (Nat × Nat)} (h : OwnS w W v S) (hb : Below W.heap.size W W') : OwnS w W' v S := ⟨own_below h.1 hb, h.2.trans (hb.mono h.2.size)⟩
theorem OwnS.app {w W W' : World} {v v' : Value} {S : List (Nat × Nat)} (h : OwnS w W v S) {o : Obj} {p : Nat × Nat} (hown : W'.ownsRow w.heap.size 28 2 v' (S.length + 1) (prC S ++ [.int .i64 (p.1 : Int), .int .i64 (p.2 : Int)])) (hg : (W.alloc o).grownBy W' v.ownBlock) : OwnS w W' v' (S ++ [p]) := by
 refine ⟨by rw [List.length_append, List.length_singleton, prC_snoc]; exact hown, ?_⟩
 have hA : Below w.heap.size w (W.alloc o) := h.2.alloc h.2.size _
 exact hA.grown hg hA.size (fun g e => ((h.1.alloc o).lt g e).1)
theorem runs_any (x bb lb P lv cap : Nat) (B : Nat → BS) (w : World) (hx : w.heap[x]? = some (.cells #[.pointer (some ⟨bb, 0, none⟩)] 155)) (hB : BetsAt w bb lb P lv cap B) (hP : P ≤ 1000) :
  Calls Tryz.prog 163 #[.int .i64 ((P : Int) + 1), .func (Fn.func 164) #[] #[.pointer (some ⟨x, 0, none⟩)], .func (Fn.func 165) #[] #[]] w fun e w' => ∃ a c S, e = .returned (.slice a S.length c) ∧ RunsOk (fun k => !(B k).out) (P + 1) S ∧ OwnS w w' (.slice a S.length c) S := by
 have HI := Hd (fun (W : World) (hb : Below w.heap.size w W) (k : Nat) (hk : k < P + 1) => show Calls Tryz.prog 164 #[.int .i64 (k : Int), .pointer (some ⟨x, 0, none⟩)] W fun e w' => e = .returned (.bool ((fun k => !(B k).out) k)) ∧ w' = W from
  isKept_any x bb lb P lv cap k B W (blkS hx hb) (hB.mono (hb.block _ hB.lt.1) (hb.block _ hB.lt.2)) (by omega) hP)
 have HO := Hd (OwnS.start w)
 have HK := Hd (show RunsOk (fun k => !(B k).out) 0 [] from ⟨fun _ k hk => by omega, fun p hp => by simp at hp, fun p hp => by simp at hp⟩)
 obtain ⟨m, hm⟩ : ∃ m, P + 1 = m := ⟨_, rfl⟩
 rw [show (P : Int) + 1 = (m : Int) by omega, hm]
 rw [hm] at HI
 have hm1 : m ≤ 1001 := by omega
 generalize (fun k => !(B k).out) = is at *
 clear hx hB hP hm
 go_enter Tryz.func163, Tryz.ntmps163
 go_wp2
 go_loopw [7, 8] (fun v t wr => ∃ (low : Nat) (a : Option Addr) (c : Nat) (S : List (Nat × Nat)), low ≤ m ∧ v = .slice a S.length c ∧ t = .int .i64 (low : Int) ∧ Hid (RunsOk is low S) ∧ Hid (OwnS w wr (.slice a S.length c) S) ∧ S.length ≤ low) (fun _ t _ => m - (intOf t).toNat)
 case atStart => exact ⟨0, none, 0, [], Nat.zero_le _, rfl, rfl, HK, HO, Nat.le_refl _⟩
 case round =>
  clear HK HO
  obtain ⟨low, a, c, S, hlow, rfl, rfl, HK, HO, hSl⟩ := hrel
  by_cases hlt : low < m
  ·have hlt' : (low : Int) < (m : Int) := by omega
   have HC := Hd (HI.out wr HO.out.2 low hlt)
   cases hb : is low with
   | false =>
    rw [hb] at HC
    have HK2 := Hd (HK.out.skip hb)
    go_wp2_with (go_at_call 164; refine HC.out.mono ?_; rintro e W1 ⟨rfl, rfl⟩)
    go_roundw
    case rel => exact ⟨low + 1, a, c, S, by omega, rfl, by go_num, HK2, HO, by omega⟩
    case measure => simp [intOf]; omega
   | true =>
    rw [hb] at HC
    have HH := Lib.hid hb
    clear hb
    go_upto_region 6 with (go_at_call 164; refine HC.out.mono ?_; rintro e W1 ⟨rfl, rfl⟩)
    clear HC
    go_wp2
    rename World => wo
    go_loopw [9] (fun t wr => ∃ high : Nat, low ≤ high ∧ high < m ∧ t = .int .i64 (high : Int) ∧ Hid (is high = true) ∧ Hid (wr = wo)) (fun t _ => m - (intOf t).toNat)
    case atStart => exact ⟨low, Nat.le_refl _, hlt, rfl, HH, Lib.hid rfl⟩
    case round =>
     obtain ⟨high, hlh, hhm, rfl, HHI, HW⟩ := hrel
     obtain rfl := HW.out
     clear HW
     by_cases hlt2 : high + 1 < m
     ·have hlt2' : (high : Int) + 1 < (m : Int) := by omega
      have HC2 := Hd (HI.out wr HO.out.2 (high + 1) hlt2)
      have hcast : ((high + 1 : Nat) : Int) = (high : Int) + 1 := by omega
      rw [hcast] at HC2
      cases hb2 : is (high + 1) with
      | true =>
       rw [hb2] at HC2
       have HB2 := Lib.hid hb2
       clear hb2
       go_wp2_with (go_at_call 164; refine HC2.out.mono ?_; rintro e W1 ⟨rfl, rfl⟩)
       go_roundw
       case rel => exact ⟨high + 1, by omega, by omega, by go_num, HB2, Lib.hid trivial⟩
       case measure => simp [intOf]; omega
      | false =>
       rw [hb2] at HC2
       clear hb2
       go_upto_region 9 with (go_at_call 164; refine HC2.out.mono ?_; rintro e W1 ⟨rfl, rfl⟩)
       clear HC2
       have HK3 := Hd (HK.out.add hlh HH.out HHI.out); have HF := Hd (fun W => spanOf_any (low : Int) (high : Int) W); obtain ⟨j0, hj0, hz0, hz1, hz2⟩ := info_parts info_span7; have hb63 : S.length + 1 ≤ maxLen := (by unfold maxLen; omega); have hb47 : (S.length + 1) * 16 ≤ 140737488355328 := (by omega); go_upto_region 10 with (first | (go_at_call 165; refine (HF.out _).mono ?_; rintro e W1 ⟨rfl, hb1⟩; have HO2 := Hd (HO.out.step hb1); have hsz := HO2.out.2.size; clear hb1) | (at_builtin; refine wpList_append_own _ rfl _ _ 25 rfl w.heap.size 28 j0 _ 2 16 Tryz.underlying25 hj0 hz0 hz1 hz2 rfl (by decide) (.slice a S.length c) S.length (prC S) rfl (HO2.out.1.alloc _) ⟨W1.heap.size, 0, none⟩ 1 1 [.int .i64 (low : Int), .int .i64 (high : Int)] rfl rfl cells_new (prC_one low high) hb63 hb47 (by simp; omega) ?_; intro v' w6 hown6 hgrow6 hnil6; obtain ⟨a6, c6, rfl⟩ := own_len hown6; have HO6 := Hd (HO2.out.app (p := (low, high)) hown6 hgrow6); clear hown6 hgrow6 hnil6)); go_wp2; go_roundw; (case rel => exact ⟨high + 1, a6, c6, S ++ [(low, high)], by omega, by simp, by go_num, HK3, by rw [show (S ++ [(low, high)]).length = S.length + 1 from by simp]; exact HO6, by simp; omega⟩); (case measure => simp [intOf]; omega)
     ·have hlt2' : ¬ (high : Int) + 1 < (m : Int) := by omega
      go_upto_region 9 with (fail)
      have HK3 := Hd (HK.out.add hlh HH.out HHI.out); have HF := Hd (fun W => spanOf_any (low : Int) (high : Int) W); obtain ⟨j0, hj0, hz0, hz1, hz2⟩ := info_parts info_span7; have hb63 : S.length + 1 ≤ maxLen := (by unfold maxLen; omega); have hb47 : (S.length + 1) * 16 ≤ 140737488355328 := (by omega); go_upto_region 10 with (first | (go_at_call 165; refine (HF.out _).mono ?_; rintro e W1 ⟨rfl, hb1⟩; have HO2 := Hd (HO.out.step hb1); have hsz := HO2.out.2.size; clear hb1) | (at_builtin; refine wpList_append_own _ rfl _ _ 25 rfl w.heap.size 28 j0 _ 2 16 Tryz.underlying25 hj0 hz0 hz1 hz2 rfl (by decide) (.slice a S.length c) S.length (prC S) rfl (HO2.out.1.alloc _) ⟨W1.heap.size, 0, none⟩ 1 1 [.int .i64 (low : Int), .int .i64 (high : Int)] rfl rfl cells_new (prC_one low high) hb63 hb47 (by simp; omega) ?_; intro v' w6 hown6 hgrow6 hnil6; obtain ⟨a6, c6, rfl⟩ := own_len hown6; have HO6 := Hd (HO2.out.app (p := (low, high)) hown6 hgrow6); clear hown6 hgrow6 hnil6)); go_wp2; go_roundw; (case rel => exact ⟨high + 1, a6, c6, S ++ [(low, high)], by omega, by simp, by go_num, HK3, by rw [show (S ++ [(low, high)]).length = S.length + 1 from by simp]; exact HO6, by simp; omega⟩); (case measure => simp [intOf]; omega)
  ·obtain rfl : low = m := by omega
   go_wp2
   go_ret
   exact ⟨a, c, S, rfl, HK.out, HO.out⟩
end Go.Proofs.YtgmpelhphnmknaaGreat
