/- Texts put together: ToCntH, ToCntI, ToKnB, ToKnC, ToTpA, ToTpB. -/
import Derived.Test.YtgmpelhphnmknaaGreatQbd
import Derived.Test.YtgmpelhphnmknaaGreatQam
import Derived.Test.YtgmpelhphnmknaaGreatQbc
import Derived.Test.YtgmpelhphnmknaaGreatQas
set_option maxRecDepth 100000
set_option maxHeartbeats 8000000
set_option linter.unusedVariables false
set_option linter.unusedSimpArgs false
namespace Go.Proofs.YtgmpelhphnmknaaGreat
open Go.RowKit
theorem spans_any (bb lb P lv cap : Nat) (B : Nat → BS) (w : World) (hB : BetsAt w bb lb P lv cap B) (hP : P ≤ 1000) :
  Calls Tryz.prog 114 #[.pointer (some ⟨bb, 0, none⟩)] w fun e w' => ∃ a c S, e = .returned (.slice a S.length c) ∧ RunsOk (fun k => !(B k).out) (P + 1) S ∧ OwnS w w' (.slice a S.length c) S := by
 have hmf : ∀ (fn : Fn) (first cap : Array Value) (w : World), (Instr.makeFunc fn first cap).run Tryz.prog w = .ok (.func fn first cap) w := fun _ _ _ _ => rfl
 have hb1 : Below w.heap.size w (w.alloc (.cells #[.pointer (some ⟨bb, 0, none⟩)] 155)) := (Below.refl _ _).alloc (Nat.le_refl _) _
 have hB1 := hB.mono (hb1.block _ hB.lt.1) (hb1.block _ hB.lt.2)
 have hx : (w.alloc (.cells #[.pointer (some ⟨bb, 0, none⟩)] 155)).heap[w.heap.size]? = some (.cells #[.pointer (some ⟨bb, 0, none⟩)] 155) := hpNew rfl
 have HR := Hd (runs_any w.heap.size bb lb P lv cap B _ hx hB1 hP)
 have HX := Hd (fun (W : World) v S (h : OwnS (w.alloc (.cells #[.pointer (some ⟨bb, 0, none⟩)] 155)) W v S) => show OwnS w W v S from
  ⟨own_base h.1 (by simp), hb1.trans (h.2.mono (by simp))⟩)
 obtain ⟨⟨cs, out, h1, h2, h5⟩, _⟩ := hB1
 have d1 : (w.alloc (.cells #[.pointer (some ⟨bb, 0, none⟩)] 155)).cell? ⟨w.heap.size, 0, none⟩ = some (.pointer (some ⟨bb, 0, none⟩)) := cell_of_row _ _ 0 _ _ _ hx
 have d2 : (w.alloc (.cells #[.pointer (some ⟨bb, 0, none⟩)] 155)).cell? ⟨bb, 0, none⟩ = some (.int .i64 (P : Int)) := (cell_of_row _ _ _ _ _ _ h1).trans h2.parts
 clear h1 h2 h5 hx hb1 hB
 go_enter Tryz.func114, Tryz.ntmps114
 go_upto_region 1 with (fail)
 generalize World.alloc w _ = V at *
 go_wp2_with (go_at_call 163; refine HR.out.mono ?_; rintro e W1 ⟨a, c, S, rfl, hS, hO⟩; have HS := Lib.hid hS; have HO := Hd (HX.out _ _ _ hO); clear hS hO)
 go_ret
 exact ⟨a, c, S, rfl, HS.out, HO.out⟩
structure Hull (B : Nat → BS) (P lo hi : Nat) : Prop where
 le : lo ≤ hi ∧ hi ≤ P
 low : (B lo).out = false
 high : (B hi).out = false
 below : ∀ k, k < lo → (B k).out = true
 above : ∀ k, hi < k → k ≤ P → (B k).out = true
theorem hull_of {B : Nat → BS} {P : Nat} {S : List (Nat × Nat)} (h : RunsOk (fun k => !(B k).out) (P + 1) S) (hk : keptN B (P + 1) ≠ 0) : ∃ p q, S.head? = some p ∧ S.getLast? = some q ∧ Hull B P p.1 q.2 := by
 obtain ⟨k, hk, hout⟩ := keptN_pos (P + 1) hk
 cases S with
 | nil =>
  have := h.none rfl k hk
  simp [hout] at this
 | cons p S =>
  have hl : ∃ q, (p :: S).getLast? = some q := ⟨(p :: S).getLast (by simp), by rw [List.getLast?_eq_some_getLast (by simp)]⟩
  obtain ⟨q, hq⟩ := hl
  obtain ⟨f1, f2, f3⟩ := h.first p rfl
  obtain ⟨l1, l2, l3⟩ := h.last q hq
  refine ⟨p, q, rfl, hq, ⟨?_, by omega⟩, by simpa using f1, by simpa using l1, fun k hk => by simpa using f3 k hk, fun k h1 h2 => by simpa using l3 k h1 (by omega)⟩
  by_cases hc : p.1 ≤ q.2
  ·exact hc
  ·have := f3 q.2 (by omega)
   rw [l1] at this
   exact absurd this (by decide)
theorem prC_get (S : List (Nat × Nat)) : ∀ (i : Nat) (p : Nat × Nat), S[i]? = some p → (prC S)[i * 2]? = some (.int .i64 (p.1 : Int)) ∧ (prC S)[i * 2 + 1]? = some (.int .i64 (p.2 : Int)) := by
 induction S with
 | nil => intro i p h; simp at h
 | cons q S ih =>
  intro i p h
  have e : prC (q :: S) = .int .i64 (q.1 : Int) :: .int .i64 (q.2 : Int) :: prC S := by simp [prC]
  rw [e]
  cases i with
  | zero =>
   simp only [List.getElem?_cons_zero, Option.some.injEq] at h
   subst h
   exact ⟨rfl, rfl⟩
  | succ i =>
   rw [show (i + 1) * 2 = i * 2 + 1 + 1 by omega]
   simp only [List.getElem?_cons_succ] at h ⊢
   exact ih i p h
theorem OwnS.get {w W : World} {a : Option Addr} {c : Nat} {S : List (Nat × Nat)} (h : OwnS w W (.slice a S.length c) S) {i : Nat} {p : Nat × Nat} (hp : S[i]? = some p) : ∃ b, a = some ⟨b, 0, none⟩ ∧ W.cell? ⟨b, i * 2, none⟩ = some (.int .i64 (p.1 : Int)) ∧ W.cell? ⟨b, i * 2 + 1, none⟩ = some (.int .i64 (p.2 : Int)) := by
 have hi := (List.getElem?_eq_some_iff.1 hp).1
 rcases h.1.2 with ⟨hv, hn⟩ | ⟨g, cap, cur, hv, hb, hg, hnc, hcm, hcs, htake⟩
 ·omega
 ·injection hv with h1 h2 h3
  have hc : ∀ j, j < S.length * 2 → cur[j]? = (prC S)[j]? := fun j hj => by
   rw [← htake, List.getElem?_take_of_lt hj]; simp
  obtain ⟨g1, g2⟩ := prC_get S i p hp
  exact ⟨g, h1, (cell_of_row _ _ _ _ _ _ hg).trans ((hc _ (by omega)).trans g1), (cell_of_row _ _ _ _ _ _ hg).trans ((hc _ (by omega)).trans g2)⟩
theorem OwnS.few {w W : World} {v : Value} {S : List (Nat × Nat)} (h : OwnS w W v S) : S.length ≤ maxLen := by
 rcases h.1.2 with ⟨hv, hn⟩ | ⟨g, cap, cur, hv, hb, hg, hnc, hcm, hcs, htake⟩
 ·omega
 ·omega
theorem hull_any (bb lb P lv cap : Nat) (B : Nat → BS) (w : World) (hB : BetsAt w bb lb P lv cap B) (hP : P ≤ 1000) (hk : keptN B (P + 1) ≠ 0) :
  Calls Tryz.prog 76 #[.pointer (some ⟨bb, 0, none⟩)] w fun e w' => ∃ lo hi : Nat, e = .returned (.agg #[.int .i64 (lo : Int), .int .i64 (hi : Int)]) ∧ Hull B P lo hi ∧ Below w.heap.size w w' := by
 have HB := Lib.hid hB
 have HH := Hd (fun S (h : RunsOk (fun k => !(B k).out) (P + 1) S) => hull_of h hk)
 have hb1 : Below w.heap.size w (w.alloc (.cells #[.int .i64 0, .int .i64 0] 28)) := (Below.refl _ _).alloc (Nat.le_refl _) _
 have hB1 := hB.mono (hb1.block _ hB.lt.1) (hb1.block _ hB.lt.2)
 have HS := Hd (spans_any bb lb P lv cap B _ hB1 hP)
 have HB1 := Lib.hid hb1
 have HX := Hd (show (w.alloc (.cells #[.int .i64 0, .int .i64 0] 28)).heap[w.heap.size]? = some (.cells #[.int .i64 0, .int .i64 0] 28) from hpNew rfl)
 have HZ := Hd (show (w.alloc (.cells #[.int .i64 0, .int .i64 0] 28)).heap.size = w.heap.size + 1 from by simp)
 clear hB hB1 hb1 hk HB
 go_enter Tryz.func76, Tryz.ntmps76
 go_upto_region 1 with (fail)
 generalize World.alloc w _ = V at *
 go_upto_region 2 with (go_at_call 114; refine HS.out.mono ?_; rintro e W1 ⟨a, c, S, rfl, hS, hO⟩; have HO := Lib.hid hO; obtain ⟨p, q, hp, hq, hh⟩ := HH.out S hS; have HHU := Lib.hid hh; have HP := Lib.hid hp; have HQ := Lib.hid hq; clear hS hO hh hp hq)
 clear HH HS
 obtain ⟨b, rfl, c0, _⟩ := HO.out.get (i := 0) (by rw [← List.head?_eq_getElem?]; exact HP.out)
 obtain ⟨b2, hb2, _, c1⟩ := HO.out.get (i := S.length - 1) (by rw [← List.getLast?_eq_getElem?]; exact HQ.out)
 injection hb2 with hb2
 injection hb2 with hb2
 subst hb2
 obtain ⟨n, hn⟩ : ∃ n, S.length = n + 1 := by
  cases S with
  | nil => have := HP.out; simp at this
  | cons x S => exact ⟨S.length, rfl⟩
 have HN := Lib.hid hn
 have hmx := HO.out.few
 rw [hn] at HO c1 hmx
 unfold maxLen at hmx
 have hX1 := (HO.out.2.block w.heap.size (by rw [HZ.out]; omega)).trans HX.out
 obtain ⟨f0, f1⟩ := fr2 hX1
 have r0 : W1.cell? ⟨w.heap.size, 0, none⟩ = some (.int .i64 0) := cell_of_row _ _ 0 _ _ _ hX1
 have r1 : W1.cell? ⟨w.heap.size, 1, none⟩ = some (.int .i64 0) := cell_of_row _ _ 1 _ _ _ hX1
 have hbl : Below w.heap.size w W1 := HB1.out.trans (HO.out.2.mono (by rw [HZ.out]; omega))
 have HBE := Lib.hid hbl
 have c0' : W1.cell? ⟨b, 0, none⟩ = some (.int .i64 (p.1 : Int)) := c0
 rw [show n + 1 - 1 = n from rfl] at c1
 obtain ⟨lo, hlo⟩ : ∃ lo, p.1 = lo := ⟨_, rfl⟩
 obtain ⟨hi, hhi⟩ : ∃ hi, q.2 = hi := ⟨_, rfl⟩
 rw [hlo, hhi] at HHU
 rw [hlo] at c0'
 rw [hhi] at c1
 rw [hn]
 have hcast : ((n + 1 : Nat) : Int) = (n : Int) + 1 := by omega
 have hrow := heap_setCell_same _ _ 1 _ _ (.int .i64 (hi : Int)) (heap_setCell_same W1 _ 0 _ _ (.int .i64 (lo : Int)) hX1)
 have HW := Hd (show ((W1.setCell ⟨w.heap.size, 0, none⟩ (.int .i64 (lo : Int))).setCell ⟨w.heap.size, 1, none⟩ (.int .i64 (hi : Int))).drew.heap[w.heap.size]? = some (.cells #[.int .i64 (lo : Int), .int .i64 (hi : Int)] 28) from hrow)
 have HBE2 := Hd (show Below w.heap.size w ((W1.setCell ⟨w.heap.size, 0, none⟩ (.int .i64 (lo : Int))).setCell ⟨w.heap.size, 1, none⟩ (.int .i64 (hi : Int))).drew from ((hbl.setCell (p := ⟨w.heap.size, 0, none⟩) (Nat.le_refl _) _).setCell (p := ⟨w.heap.size, 1, none⟩) (Nat.le_refl _) _).drew)
 clear hX1 hbl c0 hn HP HQ hlo hhi hrow
 go_region
 generalize World.drew _ = Z at *
 obtain ⟨q0, q1⟩ := cr2 HW.out
 go_wp2
 refine bodyPost_ret (v := .agg #[.int .i64 (lo : Int), .int .i64 (hi : Int)]) (by simp [results, Tryz.results76, go_sem, q0, q1]) rfl ⟨lo, hi, rfl, HHU.out, HBE2.out⟩
end Go.Proofs.YtgmpelhphnmknaaGreat
namespace Go.Proofs.YtgmpelhphnmknaaGreat
open Go.RowKit
theorem cwithin_any (a b c : Int) (w : World) :
  Calls Tryz.prog 112 #[.int .i64 a, .int .i64 b, .int .i64 c] w fun e w' => e = .returned (.bool (withinB a b c)) ∧ w = w' := by
 by_cases h : b ≤ a
 ·go_enter Tryz.func112, Tryz.ntmps112
  go_wp2
  go_ret
  exact ⟨ret_bool (by unfold withinB; rw [decide_eq_true h, Bool.true_and]), rfl⟩
 ·go_enter Tryz.func112, Tryz.ntmps112
  go_wp2
  go_ret
  exact ⟨ret_bool (by unfold withinB; rw [decide_eq_false (by omega), Bool.false_and]), rfl⟩
theorem leveled_any (l : Int) (w : World) :
  Calls Tryz.prog 73 #[.int .i64 l] w fun e w' => e = .returned (.bool (withinB l 2 900000)) ∧ w = w' := by
 go_enter Tryz.func73, Tryz.ntmps73
 go_wp2_with ((go_at_call 112; refine (cwithin_any _ _ _ _).mono ?_; rintro e w' ⟨rfl, rfl⟩))
 go_ret
 exact ⟨rfl, rfl⟩
theorem set1_any (x : Nat) (l : Int) (w : World) (hx : w.heap[x]? = some (.cells #[.int .i64 l] 3)) :
  Calls Tryz.prog 72 #[.pointer (some ⟨x, 0, none⟩)] w fun e w' => e = .returned (.bool (withinB l 2 900000)) ∧ w = w' := by
 have d1 : w.cell? ⟨x, 0, none⟩ = some (.int .i64 l) := cell_of_row _ _ 0 _ _ _ hx
 clear hx
 go_enter Tryz.func72, Tryz.ntmps72
 go_wp2_with (go_at_call 73; refine (leveled_any _ _).mono ?_; rintro e w' ⟨rfl, rfl⟩)
 go_ret
 exact ⟨rfl, rfl⟩
theorem listed_any (x n cp : Nat) (a : Option Addr) (P : Nat) (l : Int) (w : World) (hx : w.heap[x]? = some (.cells #[.int .i64 l] 3)) (hn : n ≤ 4000) (hP : 2 ≤ P ∧ P ≤ 1000) (hl : 2 ≤ l ∧ l ≤ 900000) :
  Calls Tryz.prog 71 #[.slice a n cp, .int .i64 (P : Int), .func (Fn.func 72) #[] #[.pointer (some ⟨x, 0, none⟩)]] w fun e w' => e = .returned (.int .i64 0) ∧ w = w' := by
 have HS := Hd (set1_any x l w hx)
 have e1 : withinB l 2 900000 = true := by unfold withinB; rw [decide_eq_true hl.1, decide_eq_true hl.2]; rfl
 have e2 : withinB (P : Int) 2 1000 = true := by unfold withinB; rw [decide_eq_true (by omega), decide_eq_true (by omega)]; rfl
 rw [e1] at HS
 have hn' : (n : Int) ≤ 4000 := by omega
 clear hx
 go_enter Tryz.func71, Tryz.ntmps71
 go_wp2_with (first | ((go_at_call 112; refine (cwithin_any _ _ _ _).mono ?_; rintro e w' ⟨rfl, rfl⟩); rw [e2]) | (go_at_call 72; refine HS.out.mono ?_; rintro e w' ⟨rfl, rfl⟩))
 go_ret
 exact ⟨rfl, rfl⟩
def setB7 (P lv : Nat) (o : List Bool) : Nat → BS := afterB P lv (fun _ => ⟨1048576, 0, 0, false⟩) o
theorem begun_ok {P : Nat} (hP : 2 ≤ P ∧ P ≤ 1000) : BetsOk (fun _ => ⟨1048576, 0, 0, false⟩) P 0 := ⟨hP, fun k _ => ⟨Nat.le_refl _, Nat.le_refl _, by show 1048576 ≤ topB; decide⟩⟩
theorem Keep2.to_below {a b k : Nat} {w w' : World} (h : Keep2 a b w w') (hk : k ≤ w.heap.size) (ha : k ≤ a) (hb : k ≤ b) : Below k w w' := ⟨h.os, h.tape, h.output, h.size, fun i hi => h.block i (by omega) (by omega) (by omega)⟩
def SetRes (P lv : Nat) (o : List Bool) (w : World) (e : Ending) (w' : World) : Prop :=
 ((keptN (setB7 P lv o) (P + 1) = 0 ∧ e = .returned (.tuple #[.agg #[.int .i64 0, .int .i64 0], .int .i64 5])) ∨
  (∃ lo hi : Nat, Hull (setB7 P lv o) P lo hi ∧ e = .returned (.tuple #[.agg #[.int .i64 (lo : Int), .int .i64 (hi : Int)], .int .i64 0]))) ∧ Below w.heap.size w w'
theorem Set_any (P lv cp : Nat) (a : Option Addr) (o : List Bool) (w : World) (ho : BoolsIn w a o) (hn : o.length ≤ 4000) (hP : 2 ≤ P ∧ P ≤ 1000) (hl : 2 ≤ lv ∧ lv ≤ 900000) :
  Calls Tryz.prog 31 #[.slice a o.length cp, .int .i64 (P : Int), .int .i64 (lv : Int)] w (SetRes P lv o w) := by
 have hmf : ∀ (fn : Fn) (first cap : Array Value) (w : World), (Instr.makeFunc fn first cap).run Tryz.prog w = .ok (.func fn first cap) w := fun _ _ _ _ => rfl
 have hb1 : Below w.heap.size w ((w.alloc (.cells #[.int .i64 (lv : Int)] 3)).alloc (.cells #[.int .i64 0, .int .i64 0] 28)) := ((Below.refl _ _).alloc (Nat.le_refl _) _).alloc (by simp) _
 have hx : ((w.alloc (.cells #[.int .i64 (lv : Int)] 3)).alloc (.cells #[.int .i64 0, .int .i64 0] 28)).heap[w.heap.size]? = some (.cells #[.int .i64 (lv : Int)] 3) := (hpOld (by simp)).trans (hpNew rfl)
 have hr : ((w.alloc (.cells #[.int .i64 (lv : Int)] 3)).alloc (.cells #[.int .i64 0, .int .i64 0] 28)).heap[w.heap.size + 1]? = some (.cells #[.int .i64 0, .int .i64 0] 28) := hpNew (by simp)
 have HZ := Hd (show ((w.alloc (.cells #[.int .i64 (lv : Int)] 3)).alloc (.cells #[.int .i64 0, .int .i64 0] 28)).heap.size = w.heap.size + 2 from by simp)
 have HO := Hd (ho.below hb1)
 have HB1 := Lib.hid hb1
 have HX := Lib.hid hx
 have HRR := Lib.hid hr
 obtain ⟨n, hnn⟩ : ∃ n, o.length = n := ⟨_, rfl⟩
 have HNN := Lib.hid hnn
 rw [hnn] at hn ⊢
 have HR1 := Hd (fun (W : World) (h : keptN (setB7 P lv o) (P + 1) = 0) (hb : Below w.heap.size w W) => show SetRes P lv o w (.returned (.tuple #[.agg #[.int .i64 0, .int .i64 0], .int .i64 5])) W from ⟨Or.inl ⟨h, rfl⟩, hb⟩)
 have HR2 := Hd (fun (W : World) (lo hi : Nat) (h : Hull (setB7 P lv o) P lo hi) (hb : Below w.heap.size w W) => show SetRes P lv o w (.returned (.tuple #[.agg #[.int .i64 (lo : Int), .int .i64 (hi : Int)], .int .i64 0])) W from ⟨Or.inr ⟨lo, hi, h, rfl⟩, hb⟩)
 generalize SetRes P lv o w = Q at *
 have HLS := Hd (listed_any w.heap.size n cp a P lv _ hx hn hP (by omega))
 have d0 : ((w.alloc (.cells #[.int .i64 (lv : Int)] 3)).alloc (.cells #[.int .i64 0, .int .i64 0] 28)).cell? ⟨w.heap.size, 0, none⟩ = some (.int .i64 (lv : Int)) := cell_of_row _ _ 0 _ _ _ hx
 clear hb1 hx hr ho hnn
 go_enter Tryz.func31, Tryz.ntmps31
 go_upto_region 1 with (fail)
 generalize World.alloc (World.alloc w _) _ = V at *
 go_upto_region 4 with (go_at_call 71; refine HLS.out.mono ?_; rintro e w' ⟨rfl, rfl⟩)
 have HBG := Hd (begin_any P lv V hP)
 go_upto_region 5 with (first
  | (go_at_call 74; refine HBG.out.mono ?_; rintro e W1 ⟨lb, cap, hlb, rfl, hB, hb⟩; have HRN := Hd (run_any V.heap.size lb P lv cap 0 cp _ a o W1 hB (begun_ok hP) (HO.out.below hb) (by rw [HNN.out]; omega) (by omega)); rw [HNN.out] at HRN; have HV1 := Lib.hid hb; clear hB hb)
  | (go_at_call 75; refine HRN.out.mono ?_; rintro e W2 ⟨rfl, hB2, hk2⟩; have HV2 := Hd (HV1.out.trans (hk2.to_below HV1.out.size (Nat.le_refl _) hlb)); have HB2 := Lib.hid hB2; clear hB2 hk2))
 clear HBG HRN
 have HW2 := Hd (HB1.out.trans (HV2.out.mono (by rw [HZ.out]; omega)))
 have hX2 := (HV2.out.block (w.heap.size + 1) (by rw [HZ.out]; omega)).trans HRR.out
 have HR2X := Lib.hid hX2
 obtain ⟨cs, out, h1, h2, h5⟩ := HB2.out.big
 have d1 : W2.cell? ⟨V.heap.size, 1004, none⟩ = some (.int .i64 (keptN (setB7 P lv o) (P + 1) : Int)) := (cell_of_row _ _ _ _ _ _ h1).trans h2.kept
 clear h1 h2 h5 hX2
 by_cases hk : keptN (setB7 P lv o) (P + 1) = 0
 ·have HQ := Hd (fun W => HR1.out W hk)
  rw [hk] at d1
  have hk0 : ((0 : Nat) : Int) = 0 := rfl
  rw [hk0] at d1
  (obtain ⟨f0, f1⟩ := fr2 HR2X.out; have r0 : W2.cell? ⟨w.heap.size + 1, 0, none⟩ = some (.int .i64 0) := cell_of_row _ _ 0 _ _ _ HR2X.out; have r1 : W2.cell? ⟨w.heap.size + 1, 1, none⟩ = some (.int .i64 0) := cell_of_row _ _ 1 _ _ _ HR2X.out; have hrow := heap_setCell_same _ _ 1 _ _ (.int .i64 0) (heap_setCell_same W2 _ 0 _ _ (.int .i64 0) HR2X.out); have q0 : ((W2.setCell ⟨w.heap.size + 1, 0, none⟩ (.int .i64 0)).setCell ⟨w.heap.size + 1, 1, none⟩ (.int .i64 0)).cell? ⟨w.heap.size + 1, 0, none⟩ = some (.int .i64 0) := cell_of_row _ _ 0 _ _ _ hrow; have q1 : ((W2.setCell ⟨w.heap.size + 1, 0, none⟩ (.int .i64 0)).setCell ⟨w.heap.size + 1, 1, none⟩ (.int .i64 0)).cell? ⟨w.heap.size + 1, 1, none⟩ = some (.int .i64 0) := cell_of_row _ _ 1 _ _ _ hrow; have HBE := Hd ((HW2.out.setCell (p := ⟨w.heap.size + 1, 0, none⟩) (by dsimp only; omega) (.int .i64 0)).setCell (p := ⟨w.heap.size + 1, 1, none⟩) (by dsimp only; omega) (.int .i64 0)); clear hrow)
  clear HR1 HR2
  go_upto_region 6 with (fail)
  go_wp2
  generalize World.setCell (World.setCell W2 _ _) _ _ = Z at *
  refine bodyPost_ret (v := .tuple #[.agg #[.int .i64 0, .int .i64 0], .int .i64 5]) (by simp [results, Tryz.results31, go_sem, q0, q1]) rfl (HQ.out _ HBE.out)
 ·have HU := Hd (hull_any V.heap.size lb P lv cap _ W2 HB2.out (by omega) hk)
  have hk2 : ((keptN (setB7 P lv o) (P + 1) : Int) == 0) = false := by rw [beq_eq_false_iff_ne]; omega
  have hzl := HW2.out.size
  have HL2 := Hd (blkL HR2X.out)
  generalize (keptN (setB7 P lv o) (P + 1) : Int) = KK at *
  clear HR1
  go_upto_region 7 with (fail)
  go_wp2_with (go_at_call 76; refine HU.out.mono ?_; rintro e W3 ⟨lo, hi, rfl, hh, hb3⟩; have HH3 := Lib.hid hh; have HW3 := Hd (HW2.out.trans (hb3.mono hzl)); have HR3X := Hd ((hb3.block _ HL2.out).trans HR2X.out); clear hh hb3; have HQ := Hd (fun W => HR2.out W lo hi HH3.out); (obtain ⟨f0, f1⟩ := fr2 HR3X.out; have r0 : W3.cell? ⟨w.heap.size + 1, 0, none⟩ = some (.int .i64 0) := cell_of_row _ _ 0 _ _ _ HR3X.out; have r1 : W3.cell? ⟨w.heap.size + 1, 1, none⟩ = some (.int .i64 0) := cell_of_row _ _ 1 _ _ _ HR3X.out; have hrow := heap_setCell_same _ _ 1 _ _ (.int .i64 (hi : Int)) (heap_setCell_same W3 _ 0 _ _ (.int .i64 (lo : Int)) HR3X.out); have q0 : ((W3.setCell ⟨w.heap.size + 1, 0, none⟩ (.int .i64 (lo : Int))).setCell ⟨w.heap.size + 1, 1, none⟩ (.int .i64 (hi : Int))).cell? ⟨w.heap.size + 1, 0, none⟩ = some (.int .i64 (lo : Int)) := cell_of_row _ _ 0 _ _ _ hrow; have q1 : ((W3.setCell ⟨w.heap.size + 1, 0, none⟩ (.int .i64 (lo : Int))).setCell ⟨w.heap.size + 1, 1, none⟩ (.int .i64 (hi : Int))).cell? ⟨w.heap.size + 1, 1, none⟩ = some (.int .i64 (hi : Int)) := cell_of_row _ _ 1 _ _ _ hrow; have HBE := Hd ((HW3.out.setCell (p := ⟨w.heap.size + 1, 0, none⟩) (by dsimp only; omega) (.int .i64 (lo : Int))).setCell (p := ⟨w.heap.size + 1, 1, none⟩) (by dsimp only; omega) (.int .i64 (hi : Int))); clear hrow))
  generalize World.setCell (World.setCell W3 _ _) _ _ = Z at *
  refine bodyPost_ret (v := .tuple #[.agg #[.int .i64 (lo : Int), .int .i64 (hi : Int)], .int .i64 0]) (by simp [results, Tryz.results31, go_sem, q0, q1]) rfl (HQ.out _ HBE.out)
end Go.Proofs.YtgmpelhphnmknaaGreat
namespace Go.Proofs.YtgmpelhphnmknaaGreat
open Go Go.RowKit Go.Shelf
def vK : VO := ⟨3, 1, 2, 10⟩
def rK : RY := ⟨0, 5, 0, 3, 0, 2⟩
def gK (i : Nat) : Int := if i = 0 then 5 else if i = 1 then 12 else 15
def dK (i : Nat) : Int := if i = 5 then 3 else 2
theorem isM_K : IsM vK rK 4 := ⟨fun j hj => by
 match j, hj with
 | 0, _ => decide
 | 1, _ => decide
 | 2, _ => decide
 | 3, _ => decide
 | 4, _ => decide, by decide⟩
theorem opac_K : opS dK (prN vK rK gK 5) = 77 := by kernel_rfl
theorem Opacity_known (ga da : Option Addr) (gc dc : Nat) (w : World) (hG : Ints w.heap.size w ga 3 gK) (hD : Ints w.heap.size w da 6 dK) :
  Calls Tryz.prog 30 #[.agg #[.int .i64 3, .int .i64 1, .int .i64 2, .int .i64 10], .slice ga 3 gc, .slice da 6 dc, .agg #[.int .i64 0, .int .i64 5, .int .i64 0, .int .i64 3, .int .i64 0, .int .i64 2]] w fun e w' => e = .returned (.tuple #[.int .i64 77, .int .i64 0]) ∧ Below w.heap.size w w' := by
 refine Calls.mono (R := fun e w' => ∃ m, IsM vK rK m ∧ e = .returned (.tuple #[.int .i64 (opS dK (prN vK rK gK (m + 1))), .int .i64 0]) ∧ Below w.heap.size w w') (Opacity_ok vK rK ga 3 gc gK da 6 dc dK w (by decide) hG hD (by kernel_rfl) (by decide) (by kernel_rfl)) ?_
 rintro e w' ⟨m, hm, rfl, hb⟩
 obtain rfl := isM_eq hm isM_K
 exact ⟨by rw [opac_K], hb⟩
def oK : List Bool := [true, false, true, true]
theorem out_K : (setB7 4 5 oK 0).out = true ∧ (setB7 4 5 oK 1).out = false ∧ (setB7 4 5 oK 3).out = false ∧ (setB7 4 5 oK 4).out = true := ⟨by kernel_rfl, by kernel_rfl, by kernel_rfl, by kernel_rfl⟩
theorem Set_known (a : Option Addr) (cp : Nat) (w : World) (ho : BoolsIn w a oK) :
  Calls Tryz.prog 31 #[.slice a 4 cp, .int .i64 4, .int .i64 5] w fun e w' => e = .returned (.tuple #[.agg #[.int .i64 1, .int .i64 3], .int .i64 0]) ∧ Below w.heap.size w w' := by
 refine Calls.mono (R := SetRes 4 5 oK w) (Set_any 4 5 cp a oK w ho (by decide) (by decide) (by decide)) ?_
 rintro e w' ⟨⟨h0, _⟩ | ⟨lo, hi, hh, rfl⟩, hb⟩
 ·exact absurd h0 (by rw [show keptN (setB7 4 5 oK) (4 + 1) = 3 by kernel_rfl]; decide)
 ·obtain ⟨o0, o1, o3, o4⟩ := out_K
  have l1 : lo ≠ 0 := fun e => by have := hh.low; rw [e, o0] at this; cases this
  have l2 : ¬ 1 < lo := fun e => by have := hh.below 1 e; rw [o1] at this; cases this
  have h1 : hi ≠ 4 := fun e => by have := hh.high; rw [e, o4] at this; cases this
  have h2 : ¬ hi < 3 := fun e => by have := hh.above 3 e (by omega); rw [o3] at this; cases this
  have h3 := hh.le
  obtain rfl : lo = 1 := by omega
  obtain rfl : hi = 3 := by omega
  exact ⟨rfl, hb⟩
end Go.Proofs.YtgmpelhphnmknaaGreat
namespace Go.Proofs.YtgmpelhphnmknaaGreat
open Go Go.RowKit Go.Shelf
def gatesK : Array Value := #[.int .i64 0, .int .i64 0, .int .i64 10, .int .i64 100, .int .i64 20, .int .i64 30, .int .i64 200, .int .i64 30, .int .i64 60]
theorem rws_K {W : World} {b : Nat} (h : W.heap[b]? = some (.cells gatesK 93)) : RWs W.heap.size W (some ⟨b, 0, none⟩) 3 tK := by
 have hb := (blkL h)
 refine .inr ⟨b, 0, rfl, hb, fun i hi => ?_⟩
 match i, hi with
 | 0, _ => exact ⟨cell_of_row _ _ 0 _ _ _ h, cell_of_row _ _ 1 _ _ _ h, cell_of_row _ _ 2 _ _ _ h⟩
 | 1, _ => exact ⟨cell_of_row _ _ 3 _ _ _ h, cell_of_row _ _ 4 _ _ _ h, cell_of_row _ _ 5 _ _ _ h⟩
 | 2, _ => exact ⟨cell_of_row _ _ 6 _ _ _ h, cell_of_row _ _ 7 _ _ _ h, cell_of_row _ _ 8 _ _ _ h⟩
theorem ints3_K {W : World} {b : Nat} (h : W.heap[b]? = some (.cells #[.int .i64 5, .int .i64 12, .int .i64 15] 3)) : Ints W.heap.size W (some ⟨b, 0, none⟩) 3 gK := by
 have hb := (blkL h)
 refine .inr ⟨b, 0, rfl, hb, fun i hi => ?_⟩
 match i, hi with
 | 0, _ => exact cell_of_row _ _ 0 _ _ _ h
 | 1, _ => exact cell_of_row _ _ 1 _ _ _ h
 | 2, _ => exact cell_of_row _ _ 2 _ _ _ h
theorem ints6_K {W : World} {b : Nat} (h : W.heap[b]? = some (.cells #[.int .i64 2, .int .i64 2, .int .i64 2, .int .i64 2, .int .i64 2, .int .i64 3] 3)) : Ints W.heap.size W (some ⟨b, 0, none⟩) 6 dK := by
 have hb := (blkL h)
 refine .inr ⟨b, 0, rfl, hb, fun i hi => ?_⟩
 match i, hi with
 | 0, _ => exact cell_of_row _ _ 0 _ _ _ h
 | 1, _ => exact cell_of_row _ _ 1 _ _ _ h
 | 2, _ => exact cell_of_row _ _ 2 _ _ _ h
 | 3, _ => exact cell_of_row _ _ 3 _ _ _ h
 | 4, _ => exact cell_of_row _ _ 4 _ _ _ h
 | 5, _ => exact cell_of_row _ _ 5 _ _ _ h
theorem bools_K {W : World} {b : Nat} (h : W.heap[b]? = some (.cells #[.bool true, .bool false, .bool true, .bool true] 4)) : BoolsIn W (some ⟨b, 0, none⟩) oK := by
 refine .inr ⟨b, _, _, rfl, h, fun i hi => ?_⟩
 match i, hi with
 | 0, _ => rfl
 | 1, _ => rfl
 | 2, _ => rfl
 | 3, _ => rfl
theorem known11_any (w : World) : Calls Tryz.prog 8 #[] w fun e w' => e = .returned (.bool true) ∧ Below w.heap.size w w' := by
 have HG0 := Hd (heap_alloc_new w (.cells gatesK 93))
 have HB0 := Hd (al_below w (.cells gatesK 93))
 have HAT := Hd (At_known (some ⟨w.heap.size, 0, none⟩) 3 (w.alloc (.cells gatesK 93)).heap.size (w.alloc (.cells gatesK 93)) (Nat.le_refl _) (rws_K HG0.out) (by decide))
 have HBG := Hd (fun V (hb : Below (w.alloc (.cells gatesK 93)).heap.size (w.alloc (.cells gatesK 93)) V) => HB0.out.trans (hb.mono HB0.out.size))
 unfold spV at HAT
 unfold gatesK at *
 clear HG0 HB0
 go_enter Tryz.func8, Tryz.ntmps8
 go_upto_region 2 with (go_at_call 29; refine HAT.out.mono ?_; rintro e W1 ⟨rfl, hb1⟩; have HB1 := Hd (HBG.out W1 hb1); clear hb1 HAT HBG)
 have hb2 : Below W1.heap.size W1 ((W1.alloc (.cells #[.int .i64 40, .int .i64 1] 68)).alloc (.cells #[.int .i64 90, .int .i64 1] 68)) := ((Below.refl _ W1).alloc (Nat.le_refl _) _).alloc (by simp) _
 have e1 : ((W1.alloc (.cells #[.int .i64 40, .int .i64 1] 68)).alloc (.cells #[.int .i64 90, .int .i64 1] 68)).heap[W1.heap.size]? = some (.cells #[.int .i64 40, .int .i64 1] 68) := (Below.heap_alloc _ _ _ (by simp)).trans (heap_alloc_new W1 _)
 have e2 := heap_alloc_new (W1.alloc (.cells #[.int .i64 40, .int .i64 1] 68)) (.cells #[.int .i64 90, .int .i64 1] 68)
 rw [show (W1.alloc (.cells #[.int .i64 40, .int .i64 1] 68)).heap.size = W1.heap.size + 1 from by simp] at e2
 have HP2 := Lib.hid e1
 have HQ2 := Lib.hid e2
 have HB2 := Hd (HB1.out.trans (hb2.mono HB1.out.size))
 clear hb2 e1 e2 HB1
 generalize World.alloc (World.alloc W1 _) _ = W2 at *
 generalize W1.heap.size = x at *
 obtain ⟨h1, h2, h3⟩ : Below W2.heap.size W2 ((W2.alloc (.cells #[.int .i64 5, .int .i64 12, .int .i64 15] 3)).alloc (.cells #[.int .i64 2, .int .i64 2, .int .i64 2, .int .i64 2, .int .i64 2, .int .i64 3] 3)) ∧ ((W2.alloc (.cells #[.int .i64 5, .int .i64 12, .int .i64 15] 3)).alloc (.cells #[.int .i64 2, .int .i64 2, .int .i64 2, .int .i64 2, .int .i64 2, .int .i64 3] 3)).heap[W2.heap.size]? = some (.cells #[.int .i64 5, .int .i64 12, .int .i64 15] 3) ∧ ((W2.alloc (.cells #[.int .i64 5, .int .i64 12, .int .i64 15] 3)).alloc (.cells #[.int .i64 2, .int .i64 2, .int .i64 2, .int .i64 2, .int .i64 2, .int .i64 3] 3)).heap[W2.heap.size + 1]? = some (.cells #[.int .i64 2, .int .i64 2, .int .i64 2, .int .i64 2, .int .i64 2, .int .i64 3] 3) := by
  refine ⟨((Below.refl _ W2).alloc (Nat.le_refl _) _).alloc (by simp) _, (Below.heap_alloc _ _ _ (by simp)).trans (heap_alloc_new W2 _), ?_⟩
  have := heap_alloc_new (W2.alloc (.cells #[.int .i64 5, .int .i64 12, .int .i64 15] 3)) (.cells #[.int .i64 2, .int .i64 2, .int .i64 2, .int .i64 2, .int .i64 2, .int .i64 3] 3)
  rwa [show (W2.alloc (.cells #[.int .i64 5, .int .i64 12, .int .i64 15] 3)).heap.size = W2.heap.size + 1 from by simp] at this
 have HOP := Hd (Opacity_known (some ⟨W2.heap.size, 0, none⟩) (some ⟨W2.heap.size + 1, 0, none⟩) 3 6 _ (ints3_K h2) (ints6_K h3))
 have HBO := Hd (fun V (hb : Below ((W2.alloc (.cells #[.int .i64 5, .int .i64 12, .int .i64 15] 3)).alloc (.cells #[.int .i64 2, .int .i64 2, .int .i64 2, .int .i64 2, .int .i64 2, .int .i64 3] 3)).heap.size ((W2.alloc (.cells #[.int .i64 5, .int .i64 12, .int .i64 15] 3)).alloc (.cells #[.int .i64 2, .int .i64 2, .int .i64 2, .int .i64 2, .int .i64 2, .int .i64 3] 3)) V) => h1.trans (hb.mono h1.size))
 clear h1 h2 h3
 go_upto_region 3 with (go_at_call 30; refine HOP.out.mono ?_; rintro e W3 ⟨rfl, hb3⟩; have hb3' := HBO.out W3 hb3; have HP3 := Hd (keep_at HP2.out hb3'); have HQ3 := Hd (keep_at HQ2.out hb3'); have HB3 := Hd (HB2.out.trans (hb3'.mono HB2.out.size)); clear hb3 hb3' HOP HBO HP2 HQ2 HB2)
 have hb4 := al_below W3 (.cells #[.bool true, .bool false, .bool true, .bool true] 4)
 have HST := Hd (Set_known (some ⟨W3.heap.size, 0, none⟩) 4 _ (bools_K (heap_alloc_new W3 (.cells #[.bool true, .bool false, .bool true, .bool true] 4))))
 have HBS := Hd (fun V (hb : Below (W3.alloc (.cells #[.bool true, .bool false, .bool true, .bool true] 4)).heap.size (W3.alloc (.cells #[.bool true, .bool false, .bool true, .bool true] 4)) V) => hb4.trans (hb.mono hb4.size))
 clear hb4
 go_upto_region 4 with (go_at_call 31; refine HST.out.mono ?_; rintro e W4 ⟨rfl, hb5⟩; have hb5' := HBS.out W4 hb5; have HP4 := Hd (keep_at HP3.out hb5'); have HQ4 := Hd (keep_at HQ3.out hb5'); have HB4 := Hd (HB3.out.trans (hb5'.mono HB3.out.size)); clear hb5 hb5' HST HBS HP3 HQ3 HB3)
 have hb6 := al_below W4 (.cells #[.int .i64 1, .int .i64 3] 28)
 have HS5 := Hd (heap_alloc_new W4 (.cells #[.int .i64 1, .int .i64 3] 28))
 have HP5 := Hd (keep_at HP4.out hb6)
 have HQ5 := Hd (keep_at HQ4.out hb6)
 have HB5 := Hd (HB4.out.trans (hb6.mono HB4.out.size))
 clear hb6 HP4 HQ4 HB4
 generalize World.alloc W4 _ = W5 at *
 generalize W4.heap.size = y at *
 have HF1 := Hd (fun W => show Calls Tryz.prog 32 #[.int .i64 40, .int .i64 1] W fun e w' => e = .returned (.agg #[.int .i64 40, .int .i64 1]) ∧ Below W.heap.size W w' from rOf_any 40 1 W (by decide) (by decide))
 have HF2 := Hd (fun W => show Calls Tryz.prog 32 #[.int .i64 90, .int .i64 1] W fun e w' => e = .returned (.agg #[.int .i64 90, .int .i64 1]) ∧ Below W.heap.size W w' from rOf_any 90 1 W (by decide) (by decide))
 obtain ⟨p0, p1⟩ := cr2 HP5.out
 obtain ⟨q0, q1⟩ := cr2 HQ5.out
 obtain ⟨s0, s1⟩ := cr2 HS5.out
 have lx := (blkL HP5.out)
 have lx2 := (blkL HQ5.out)
 have ly := (blkL HS5.out)
 (refine wp_region_calm_tail (W5.heap.size) 29 (by kernel_rfl) (by kernel_rfl) ?_; simp only [List.take_succ_cons, List.take_zero, List.drop_succ_cons, List.drop_zero]; (repeat (first | go_big_quiet_step ((go_at_call 32; first | (with_reducible exact Calls.calm_of (Nat.le_refl _) (HF1.out _)) | (with_reducible exact Calls.calm_of (Nat.le_refl _) (HF2.out _)))) | quiet_step ((go_at_call 32; first | (with_reducible exact Calls.calm_of (Nat.le_refl _) (HF1.out _)) | (with_reducible exact Calls.calm_of (Nat.le_refl _) (HF2.out _)))))))
 refine wpQuiet_nil ?_
 intro _ hw'
 obtain ⟨xq, hw''⟩ := hw'
 subst hw''
 have hq := xq.below
 have HB6 := Hd (HB5.out.trans (hq.mono HB5.out.size))
 clear hq
 generalize Calm.val xq = V2 at *
 go_wp2
 go_ret
 exact ⟨rfl, HB6.out⟩
end Go.Proofs.YtgmpelhphnmknaaGreat
namespace Go.Proofs.YtgmpelhphnmknaaGreat
open Go Go.RowKit Go.Shelf
def ofF (lo hi p : Int) : Int := lo + ((hi - lo) * p).tdiv 100
theorem of_any (lo hi p : Int) (w : World) (h1 : 0 ≤ lo ∧ lo ≤ hi ∧ hi ≤ 1000000000) (h2 : 0 ≤ p ∧ p ≤ 100) :
  Calls Tryz.prog 11 #[.agg #[.int .i64 lo, .int .i64 hi], .int .i64 p] w fun e w' => e = .returned (.int .i64 (ofF lo hi p)) ∧ Below w.heap.size w w' := by
 have hm := Int.mul_nonneg (show 0 ≤ hi - lo by omega) h2.1
 have hm2 := Int.mul_le_mul_of_nonneg_left h2.2 (show 0 ≤ hi - lo by omega)
 have hq := Int.tdiv_eq_ediv_of_nonneg hm (b := 100)
 unfold ofF
 generalize hs : (hi - lo) * p = m at *
 rw [hq]
 have HB := Hd (al_below w (.cells #[.int .i64 lo, .int .i64 hi] 28))
 clear h2
 go_enter Tryz.func11, Tryz.ntmps11
 go_wp2
 go_ret
 exact ⟨rfl, HB.out⟩
end Go.Proofs.YtgmpelhphnmknaaGreat
namespace Go.Proofs.YtgmpelhphnmknaaGreat
open Go Go.RowKit Go.Shelf
def smHi (hi u : Int) : Int := if hi = 1000000 then 1000000000000 else hi * u + u - 1
def binV (u : Int) : Value := .agg #[.int .i64 0, .int .i64 0, .int .i64 0, .int .i64 0, .int .i64 0, .int .i64 0, .int .i64 0, .int .i64 0, .int .i64 0, .int .i64 0, .int .i64 0, .int .i64 0, .int .i64 u, .int .i64 0]
theorem Sums_any (lo hi u : Int) (w : World) (h1 : 0 ≤ lo ∧ lo ≤ 1000000) (h2 : 0 ≤ hi ∧ hi ≤ 1000000) (hu : 1 ≤ u ∧ u ≤ 900000) :
  Calls Tryz.prog 17 #[binV u, .agg #[.int .i64 lo, .int .i64 hi]] w fun e w' => e = .returned (.agg #[.int .i64 (lo * u), .int .i64 (smHi hi u)]) ∧ Below w.heap.size w w' := by
 unfold binV smHi
 have b1 := Int.mul_nonneg h1.1 (show 0 ≤ u by omega)
 have b2 := Int.mul_nonneg h2.1 (show 0 ≤ u by omega)
 have b3 : lo * u ≤ 1000000 * 900000 := Int.mul_le_mul h1.2 hu.2 (by omega) (by omega)
 have b4 : hi * u ≤ 1000000 * 900000 := Int.mul_le_mul h2.2 hu.2 (by omega) (by omega)
 generalize hm1 : lo * u = m1 at *
 generalize hm2 : hi * u = m2 at *
 by_cases hd : hi = 1000000
 ·rw [if_pos hd]
  subst hd
  clear h2
  obtain ⟨hb, _, _, e3, _⟩ := ln_four w (.cells #[.int .i64 0, .int .i64 0, .int .i64 0, .int .i64 0, .int .i64 0, .int .i64 0, .int .i64 0, .int .i64 0, .int .i64 0, .int .i64 0, .int .i64 0, .int .i64 0, .int .i64 u, .int .i64 0] 72) (.cells #[.int .i64 lo, .int .i64 1000000] 28) (.cells #[.int .i64 m1, .int .i64 1000000000000] 28) (.cells #[.int .i64 m1, .int .i64 1000000000000] 28)
  have HB := Lib.hid hb
  have HR := Lib.hid e3
  clear hb e3
  go_enter Tryz.func17, Tryz.ntmps17
  go_wp2
  generalize World.alloc (World.alloc (World.alloc (World.alloc w _) _) _) _ = V at *
  obtain ⟨q0, q1⟩ := cr2 HR.out
  exact bodyPost_ret (v := .agg #[.int .i64 m1, .int .i64 1000000000000]) (by simp [results, Tryz.results17, go_sem, q0, q1]) rfl ⟨rfl, HB.out⟩
 ·rw [if_neg hd]
  obtain ⟨hb, _, _, e3, _⟩ := ln_four w (.cells #[.int .i64 0, .int .i64 0, .int .i64 0, .int .i64 0, .int .i64 0, .int .i64 0, .int .i64 0, .int .i64 0, .int .i64 0, .int .i64 0, .int .i64 0, .int .i64 0, .int .i64 u, .int .i64 0] 72) (.cells #[.int .i64 lo, .int .i64 hi] 28) (.cells #[.int .i64 m1, .int .i64 (m2 + u - 1)] 28) (.cells #[.int .i64 m1, .int .i64 (m2 + u - 1)] 28)
  have HB := Lib.hid hb
  have HR := Lib.hid e3
  clear hb e3
  go_enter Tryz.func17, Tryz.ntmps17
  go_wp2
  generalize World.alloc (World.alloc (World.alloc (World.alloc w _) _) _) _ = V at *
  obtain ⟨q0, q1⟩ := cr2 HR.out
  exact bodyPost_ret (v := .agg #[.int .i64 m1, .int .i64 (m2 + u - 1)]) (by simp [results, Tryz.results17, go_sem, q0, q1]) rfl ⟨rfl, HB.out⟩
end Go.Proofs.YtgmpelhphnmknaaGreat
