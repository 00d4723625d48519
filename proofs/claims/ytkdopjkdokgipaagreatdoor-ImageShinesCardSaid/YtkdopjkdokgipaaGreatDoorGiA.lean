/- Texts put together: ImRef, ImRead, ImHold. -/
import Derived.Test.YtkdopjkdokgipaaGreatDoorGeA
import Derived.Test.YtkdopjkdokgipaaGreatDoorGhA
import Derived.Test.YtkdopjkdokgipaaGreatDoorGvA
namespace Go.Proofs.YtkdopjkdokgipaaGreatDoor
open Go.RowKit
set_option linter.unusedVariables false
set_option linter.unusedSimpArgs false
/-- a box as the proofs know it -/
def BoxOk (n : Nat) (box : Nat → SV) : Prop := ∀ c, c < n → 0 ≤ (box c).lo ∧ (box c).lo ≤ 1000 ∧ 0 ≤ (box c).hi ∧ (box c).hi ≤ 1000
def TimesOk (m : Nat) (ts : Nat → Int) : Prop := ∀ i, i < m → -100 ≤ ts i ∧ ts i ≤ 100
theorem sumN_abs {f : Nat → Int} {K : Int} (hK : 0 ≤ K) : ∀ k, (∀ i, i < k → -K ≤ f i ∧ f i ≤ K) → -(K * (k : Int)) ≤ sumN f k ∧ sumN f k ≤ K * (k : Int)
  | 0, _ => by simp [sumN]
  | k + 1, h => by
    have h1 := sumN_abs hK k (fun i hi => h i (by omega))
    have h2 := h k (by omega)
    rw [sumN]
    push_cast
    rw [Int.mul_add, Int.mul_one]
    omega
theorem mul_abs {a b A B : Int} (ha : -A ≤ a ∧ a ≤ A) (hb : 0 ≤ b ∧ b ≤ B) (hA : 0 ≤ A) : -(A * B) ≤ a * b ∧ a * b ≤ A * B := by
  have h1 : A * b ≤ A * B := Int.mul_le_mul_of_nonneg_left hb.2 hA
  have h2 : a * b ≤ A * b := Int.mul_le_mul_of_nonneg_right ha.2 hb.1
  have h3 : -A * b ≤ a * b := Int.mul_le_mul_of_nonneg_right ha.1 hb.1
  rw [Int.neg_mul] at h3
  omega
theorem form_bound {n : Nat} {ss : Nat → SV} {m : Nat} {bs : Nat → BM} (hS : Shape n ss m bs) {ts : Nat → Int} (ht : TimesOk m ts) (c : Nat) {k : Nat} (hk : k ≤ m) : -2000000000 ≤ formN bs ts k c ∧ formN bs ts k c ≤ 2000000000 := by
  have := sumN_abs (f := fun i => ts i * (bs i).w c) (K := 100 * 1000000) (by omega) k (fun i hi => mul_abs (ht i (by omega)) (hS.w (by omega) c) (by omega))
  have h20 := hS.m20
  unfold formN
  omega
theorem min_abs {a b K : Int} (ha : -K ≤ a ∧ a ≤ K) (hb : -K ≤ b ∧ b ≤ K) : -K ≤ min a b ∧ min a b ≤ K := by omega
theorem least_bound {n : Nat} {ss : Nat → SV} {m : Nat} {bs : Nat → BM} (hS : Shape n ss m bs) {ts : Nat → Int} (ht : TimesOk m ts) {box : Nat → SV} (hb : BoxOk n box) {k : Nat} (hk : k ≤ n) : -80000000000000 ≤ leastN bs ts m box k ∧ leastN bs ts m box k ≤ 80000000000000 := by
  have := sumN_abs (f := fun c => min (formN bs ts m c * (box c).lo) (formN bs ts m c * (box c).hi)) (K := 2000000000 * 1000) (by omega) k (fun c hc => by
    have h1 := hb c (by omega)
    exact min_abs (mul_abs (form_bound hS ht c (Nat.le_refl _)) ⟨h1.1, h1.2.1⟩ (by omega)) (mul_abs (form_bound hS ht c (Nat.le_refl _)) ⟨h1.2.2.1, h1.2.2.2⟩ (by omega)))
  have h40 := hS.n40
  unfold leastN
  omega
theorem most_bound {n : Nat} {ss : Nat → SV} {m : Nat} {bs : Nat → BM} (hS : Shape n ss m bs) {ts : Nat → Int} (ht : TimesOk m ts) {k : Nat} (hk : k ≤ m) : -2000000000000000 ≤ mostN bs ts k ∧ mostN bs ts k ≤ 2000000000000000 := by
  have := sumN_abs (f := fun i => if 0 < ts i then ts i * (bs i).hi else ts i * (bs i).lo) (K := 100 * 1000000000000) (by omega) k (fun i hi => by
    have h1 := hS.bound i (by omega)
    split
    · exact mul_abs (ht i (by omega)) ⟨by omega, by omega⟩ (by omega)
    · exact mul_abs (ht i (by omega)) ⟨by omega, by omega⟩ (by omega))
  have h20 := hS.m20
  unfold mostN
  omega
set_option maxRecDepth 100000 in
set_option maxHeartbeats 2000000 in
theorem refutes_any (R : Nat → Prop) (n : Nat) (ss : Nat → SV) (m : Nat) (bs : Nat → BM) (sp : Nat) (hSh : Shape n ss m bs) (xa : Option Addr) (xc : Nat) (box : Nat → SV) (ta : Option Addr) (tc : Nat) (ts : Nat → Int) (w : World) (hS : SearchAt R n ss m bs sp w) (hX : Spans w.heap.size w xa n box) (hT : Ints w.heap.size w ta m ts) (hb : BoxOk n box) (ht : TimesOk m ts) :
    Calls Tryz.prog 74 #[.pointer (some ⟨sp, 0, none⟩), .slice xa n xc, .slice ta m tc] w fun e w' => e = .returned (.bool (refutesB n m bs box ts)) ∧ Below w.heap.size w w' := by
  have hn := hSh.n40
  have hm := hSh.m20
  obtain ⟨ca, cc, ba, bc, wa, wc, ra, rc, _, h1, h2, _, _, h5, h6, _⟩ := hS.img
  have hsp := hS.lt
  have HX := Lib.hid hX
  have HT := Lib.hid hT
  have HB := Lib.hid hb
  have HTO := Lib.hid ht
  have HL := Lib.hid (fun k (hk : k ≤ n) => least_bound hSh ht hb hk)
  have HM := Lib.hid (fun k (hk : k ≤ m) => most_bound hSh ht hk)
  have HF := Lib.hid (fun c k (hk : k ≤ m) => form_bound hSh ht c hk)
  have HW := Lib.hid (fun i (hi : i < m) c => hSh.w hi c)
  have HBD := Lib.hid (fun i (hi : i < m) => hSh.bound i hi)
  have H1 := Lib.hid h1
  have H2 := Lib.hid h2
  have H5 := Lib.hid h5
  have H6 := Lib.hid h6
  clear hS hX hT hb ht h1 h2 h5 h6
  go_enter Tryz.func74, Tryz.ntmps74
  go_wp2
  go_loopw [7, 18] (fun s7 t wr => ∃ c : Nat, c ≤ n ∧ t = .int .i64 (c : Int) ∧ s7 = .int .i64 (leastN bs ts m box c) ∧ Hid (Below w.heap.size w wr)) (fun _ t _ => n - (intOf t).toNat)
  case atStart => exact ⟨0, Nat.zero_le _, rfl, rfl, Lib.hid (Below.refl _ _)⟩
  case round =>
    obtain ⟨c, hc, rfl, rfl, HBL⟩ := hrel
    by_cases hlt : c < n
    · have hlt' : (c : Int) < (n : Int) := by omega
      obtain ⟨xb, xoff, rfl, hxb, x0, x1⟩ := (HX.out.below HBL.out).get hlt
      have hz := HBL.out.size
      have hbx := HB.out c hlt
      have hxz : xb < wr.heap.size := by omega
      generalize hlo : (box c).lo = lo at *
      generalize hhi : (box c).hi = hi at *
      have HBX := Lib.hid (And.intro hlo hhi)
      clear hlo hhi
      go_upto_region 6 with (fail)
      have HB2 := Lib.hid (HBL.out.trans ((alloc_below wr (.cells #[.int .i64 lo, .int .i64 hi] 28)).mono hz))
      have e0 : (wr.alloc (.cells #[.int .i64 lo, .int .i64 hi] 28)).cell? ⟨wr.heap.size, 0, none⟩ = some (.int .i64 lo) := cell_of_row _ _ _ _ _ _ (heap_alloc_new wr _)
      have e1 : (wr.alloc (.cells #[.int .i64 lo, .int .i64 hi] 28)).cell? ⟨wr.heap.size, 1, none⟩ = some (.int .i64 hi) := cell_of_row _ _ _ _ _ _ (heap_alloc_new wr _)
      have hxs : wr.heap.size < (wr.alloc (.cells #[.int .i64 lo, .int .i64 hi] 28)).heap.size := by simp
      clear x0 x1
      generalize World.alloc wr _ = V at *
      generalize wr.heap.size = bx at *
      have hL := HL.out c hc
      have hLs := HL.out (c + 1) hlt
      go_wp2
      go_loopw [11, 25] (fun s11 t wx => ∃ i : Nat, i ≤ m ∧ t = .int .i64 (i : Int) ∧ s11 = .int .i64 (formN bs ts i c) ∧ wx = V) (fun _ t _ => m - (intOf t).toNat)
      case atStart => exact ⟨0, Nat.zero_le _, rfl, rfl, rfl⟩
      case round =>
        obtain ⟨i, hi2, rfl, rfl, rfl⟩ := hrel
        by_cases hlt2 : i < m
        · have hlt2' : (i : Int) < (m : Int) := by omega
          obtain ⟨tb, toff, rfl, htb, y0⟩ := (HT.out.below HB2.out).get hlt2
          have g2 := ((bcell HB2.out).1 _ _ hsp).trans H2.out
          obtain ⟨wb, woff, ra2, rc2, rfl, _, hwz, z0, z1⟩ := H6.out.get hlt2
          have z2 := ((bcell HB2.out).1 _ _ hwz).trans z0
          obtain ⟨rb, roff, rfl, _, hrz, z3⟩ := z1.get hlt
          have z4 := ((bcell HB2.out).1 _ _ hrz).trans z3
          have hz2 := HB2.out.size
          have htz := Nat.lt_of_lt_of_le htb hz2
          have q1 := HF.out c i (by omega)
          have q2 := HF.out c (i + 1) hlt2
          have q3 := HW.out i hlt2 c
          have q4 := HTO.out i hlt2
          have HFE := Lib.hid (show formN bs ts (i + 1) c = formN bs ts i c + ts i * (bs i).w c from rfl)
          rw [HFE.out] at q2
          generalize formN bs ts i c = F at *
          generalize hP : ts i * (bs i).w c = P at *
          clear z0 z1 z3
          go_wp2
          go_roundw
          case rel => exact ⟨i + 1, by omega, by go_num, by rw [HFE.out], by first | trivial | rfl⟩
          case measure => simp [intOf]; omega
        · obtain rfl : i = m := by omega
          have hlt2' : ¬ (i : Int) < (i : Int) := by omega
          have q1 := HF.out c i (Nat.le_refl _)
          have HLE := Lib.hid (show leastN bs ts i box (c + 1) = leastN bs ts i box c + min (formN bs ts i c * (box c).lo) (formN bs ts i c * (box c).hi) from rfl)
          rw [HBX.out.1, HBX.out.2] at HLE
          rw [HLE.out] at hLs
          have q5 := mul_abs q1 ⟨hbx.1, hbx.2.1⟩ (by omega)
          have q6 := mul_abs q1 ⟨hbx.2.2.1, hbx.2.2.2⟩ (by omega)
          generalize formN bs ts i c = F at *
          generalize leastN bs ts i box c = L at *
          generalize hP : F * lo = P at *
          generalize hQ : F * hi = Q at *
          have hmn : min P Q = if Q < P then Q else P := by split <;> omega
          rw [hmn] at hLs HLE
          go_wp2
          go_roundw
          case rel => exact ⟨c + 1, by omega, by go_num, by rw [HLE.out], HB2⟩
          case measure => simp [intOf]; omega
    · obtain rfl : c = n := by omega
      have hlt' : ¬ (c : Int) < (c : Int) := by omega
      go_wp2
      go_loopw [8, 59] (fun s8 t wx => ∃ i : Nat, i ≤ m ∧ t = .int .i64 (i : Int) ∧ s8 = .int .i64 (mostN bs ts i) ∧ Hid (Below w.heap.size w wx)) (fun _ t _ => m - (intOf t).toNat)
      case atStart => exact ⟨0, Nat.zero_le _, rfl, rfl, HBL⟩
      case round =>
        clear HBL
        obtain ⟨i, hi2, rfl, rfl, HB2⟩ := hrel
        by_cases hlt2 : i < m
        · have hlt2' : (i : Int) < (m : Int) := by omega
          obtain ⟨tb, toff, rfl, htb, y0⟩ := (HT.out.below HB2.out).get hlt2
          have hz2 := HB2.out.size
          have htz := Nat.lt_of_lt_of_le htb hz2
          have g1 := ((bcell HB2.out).1 _ _ hsp).trans H1.out
          obtain ⟨bb, boff, rfl, _, hbz, z0⟩ := H5.out.get hlt2
          have z2 := ((bcell HB2.out).1 _ _ hbz).trans z0.2.2.1
          have z3 := ((bcell HB2.out).1 _ _ hbz).trans z0.2.2.2
          have q1 := HM.out i (by omega)
          have q2 := HM.out (i + 1) hlt2
          have q3 := HBD.out i hlt2
          have q4 := HTO.out i hlt2
          have HFE := Lib.hid (show mostN bs ts (i + 1) = mostN bs ts i + (if 0 < ts i then ts i * (bs i).hi else ts i * (bs i).lo) from rfl)
          clear z0
          by_cases hp : 0 < ts i
          · rw [if_pos hp] at HFE
            have q5 := mul_abs q4 (b := (bs i).hi) (B := 1000000000000) ⟨by omega, by omega⟩ (by omega)
            generalize mostN bs ts i = F at *
            generalize hP : ts i * (bs i).hi = P at *
            go_wp2
            go_roundw
            case rel => exact ⟨i + 1, by omega, by go_num, by rw [HFE.out], HB2⟩
            case measure => simp [intOf]; omega
          · rw [if_neg hp] at HFE
            have q5 := mul_abs q4 (b := (bs i).lo) (B := 1000000000000) ⟨by omega, by omega⟩ (by omega)
            generalize mostN bs ts i = F at *
            generalize hP : ts i * (bs i).lo = P at *
            go_wp2
            go_roundw
            case rel => exact ⟨i + 1, by omega, by go_num, by rw [HFE.out], HB2⟩
            case measure => simp [intOf]; omega
        · obtain rfl : i = m := by omega
          have hlt2' : ¬ (i : Int) < (i : Int) := by omega
          have HRF := Lib.hid (show decide (mostN bs ts i < leastN bs ts i box c) = refutesB c i bs box ts from rfl)
          generalize mostN bs ts i = M at *
          generalize leastN bs ts i box c = L at *
          go_wp2
          go_ret
          exact ⟨ret_bool HRF.out, HB2.out⟩
end Go.Proofs.YtkdopjkdokgipaaGreatDoor
namespace Go.Proofs.YtkdopjkdokgipaaGreatDoor
open Go.RowKit
set_option linter.unusedVariables false
set_option linter.unusedSimpArgs false
abbrev nodeV (x : NM) : Value := .agg #[.int .i64 x.cell, .int .i64 x.at_, .int .i64 x.right, .slice x.ta x.tn x.tc]
theorem ret_pair {v : Value} {p q : Bool} (h : p = q) : Ending.returned (.tuple #[v, .bool p]) = .returned (.tuple #[v, .bool q]) := by rw [h]
/-- what a leaf is asked besides that it refutes -/
def leafF (m : Nat) (x : NM) : Bool := ((x.at_ == 0) && ((x.right == 0) && (x.tn == m))) && allUpto x.tn (fun i => inB (x.ts i) (-100) 100)
set_option maxRecDepth 100000 in
set_option maxHeartbeats 2000000 in
theorem readC_any (sp : Nat) (x : NM) (xa : Option Addr) (n xc : Nat) (box : Nat → SV) (hn : n ≤ 40) (hx : x.cell ≠ -1) (htn : x.tn ≤ maxLen) (w : World) (hX : Spans w.heap.size w xa n box) :
    Calls Tryz.prog 73 #[.pointer (some ⟨sp, 0, none⟩), nodeV x, .slice xa n xc] w fun e w' => e = .returned (.tuple #[.iface 129 (.agg #[.int .i64 x.cell, .int .i64 x.at_]), .bool (cutB n box x)]) ∧ Below w.heap.size w w' := by
  obtain ⟨cell, at_, right, ta, tn, tc, ts⟩ := x
  dsimp only at *
  unfold maxLen at htn
  have hx' : (cell != -1) = true := by simpa using hx
  have HX := Lib.hid hX
  clear hX
  go_enter Tryz.func73, Tryz.ntmps73
  go_upto_region 2 with (fail)
  have HB := Lib.hid (alloc_below w (.cells #[.int .i64 cell, .int .i64 at_, .int .i64 right, .slice ta tn tc] 76))
  have d0 : (w.alloc (.cells #[.int .i64 cell, .int .i64 at_, .int .i64 right, .slice ta tn tc] 76)).cell? ⟨w.heap.size, 0, none⟩ = some (.int .i64 cell) := cell_of_row _ _ _ _ _ _ (heap_alloc_new w _)
  have d1 : (w.alloc (.cells #[.int .i64 cell, .int .i64 at_, .int .i64 right, .slice ta tn tc] 76)).cell? ⟨w.heap.size, 1, none⟩ = some (.int .i64 at_) := cell_of_row _ _ _ _ _ _ (heap_alloc_new w _)
  have d3 : (w.alloc (.cells #[.int .i64 cell, .int .i64 at_, .int .i64 right, .slice ta tn tc] 76)).cell? ⟨w.heap.size, 3, none⟩ = some (.slice ta tn tc) := cell_of_row _ _ _ _ _ _ (heap_alloc_new w _)
  have hz : w.heap.size < (w.alloc (.cells #[.int .i64 cell, .int .i64 at_, .int .i64 right, .slice ta tn tc] 76)).heap.size := by simp
  generalize World.alloc w _ = V at *
  cases h1 : inB cell 0 ((n : Int) - 1)
  · have HF := Lib.hid (show cutB n box ⟨cell, at_, right, ta, tn, tc, ts⟩ = false by unfold cutB; dsimp only; rw [h1, Bool.false_and])
    (refine wp_region_calm (V.heap.size) (by kernel_rfl) (by kernel_rfl) ?_; (repeat (first | go_big_quiet_step ((go_at_call 49; refine Calls.calm_of (Nat.le_refl _) ((in_any _ _ _ _).mono (fun e w' h => And.intro h.1 (by rw [← h.2]; exact Below.refl _ _))))) | quiet_step ((go_at_call 49; refine Calls.calm_of (Nat.le_refl _) ((in_any _ _ _ _).mono (fun e w' h => And.intro h.1 (by rw [← h.2]; exact Below.refl _ _))))))); refine wpQuiet_nil ?_; intro _ hw'; obtain ⟨xq, hw''⟩ := hw'; subst hw'')
    (have k0 := ((bcell xq.below).1 _ _ hz).trans d0; have k1 := ((bcell xq.below).1 _ _ hz).trans d1; have HBE := Lib.hid (HB.out.trans (xq.below.mono (by omega))); clear d0 d1 d3; go_wp2; go_ret2; exact ⟨ret_pair HF.out.symm, HBE.out⟩)
  · by_cases h2 : tn = 0
    · subst h2
      obtain ⟨k, hk, rfl⟩ : ∃ k : Nat, k < n ∧ cell = (k : Int) := by
        have := inB_iff.1 h1
        exact ⟨cell.toNat, by omega, by omega⟩
      have hk' : (k : Int) < (n : Int) := by omega
      obtain ⟨b, off, rfl, hbz, x0, x1⟩ := (HX.out.below HB.out).get hk
      have hbz2 : b < V.heap.size := by omega
      have hct : ∀ p : Bool, cutB n box ⟨(k : Int), at_, right, ta, 0, tc, ts⟩ = p ↔ (decide ((box k).lo ≤ at_) && decide (at_ < (box k).hi)) = p := fun p => by
        unfold cutB; dsimp only; rw [h1, show (((0 : Nat) == 0) = true) from rfl, Bool.true_and, Bool.true_and]; exact Iff.rfl
      by_cases h3 : (box k).lo ≤ at_
      · by_cases h4 : at_ < (box k).hi
        · have HF := Lib.hid ((hct true).2 (by rw [decide_eq_true h3, decide_eq_true h4]; rfl))
          clear hct
          (refine wp_region_calm (V.heap.size) (by kernel_rfl) (by kernel_rfl) ?_; (repeat (first | go_big_quiet_step ((go_at_call 49; refine Calls.calm_of (Nat.le_refl _) ((in_any _ _ _ _).mono (fun e w' h => And.intro h.1 (by rw [← h.2]; exact Below.refl _ _))))) | quiet_step ((go_at_call 49; refine Calls.calm_of (Nat.le_refl _) ((in_any _ _ _ _).mono (fun e w' h => And.intro h.1 (by rw [← h.2]; exact Below.refl _ _))))))); refine wpQuiet_nil ?_; intro _ hw'; obtain ⟨xq, hw''⟩ := hw'; subst hw'')
          (have k0 := ((bcell xq.below).1 _ _ hz).trans d0; have k1 := ((bcell xq.below).1 _ _ hz).trans d1; have HBE := Lib.hid (HB.out.trans (xq.below.mono (by omega))); clear d0 d1 d3; go_wp2; go_ret2; exact ⟨ret_pair HF.out.symm, HBE.out⟩)
        · have HF := Lib.hid ((hct false).2 (by rw [decide_eq_false h4, Bool.and_false]))
          have h4' : decide (at_ < (box k).hi) = false := decide_eq_false h4
          clear hct
          (refine wp_region_calm (V.heap.size) (by kernel_rfl) (by kernel_rfl) ?_; (repeat (first | go_big_quiet_step ((go_at_call 49; refine Calls.calm_of (Nat.le_refl _) ((in_any _ _ _ _).mono (fun e w' h => And.intro h.1 (by rw [← h.2]; exact Below.refl _ _))))) | quiet_step ((go_at_call 49; refine Calls.calm_of (Nat.le_refl _) ((in_any _ _ _ _).mono (fun e w' h => And.intro h.1 (by rw [← h.2]; exact Below.refl _ _))))))); refine wpQuiet_nil ?_; intro _ hw'; obtain ⟨xq, hw''⟩ := hw'; subst hw'')
          (have k0 := ((bcell xq.below).1 _ _ hz).trans d0; have k1 := ((bcell xq.below).1 _ _ hz).trans d1; have HBE := Lib.hid (HB.out.trans (xq.below.mono (by omega))); clear d0 d1 d3; go_wp2; go_ret2; exact ⟨ret_pair HF.out.symm, HBE.out⟩)
      · have HF := Lib.hid ((hct false).2 (by rw [decide_eq_false h3, Bool.false_and]))
        have h3' : decide ((box k).lo ≤ at_) = false := decide_eq_false h3
        clear hct
        (refine wp_region_calm (V.heap.size) (by kernel_rfl) (by kernel_rfl) ?_; (repeat (first | go_big_quiet_step ((go_at_call 49; refine Calls.calm_of (Nat.le_refl _) ((in_any _ _ _ _).mono (fun e w' h => And.intro h.1 (by rw [← h.2]; exact Below.refl _ _))))) | quiet_step ((go_at_call 49; refine Calls.calm_of (Nat.le_refl _) ((in_any _ _ _ _).mono (fun e w' h => And.intro h.1 (by rw [← h.2]; exact Below.refl _ _))))))); refine wpQuiet_nil ?_; intro _ hw'; obtain ⟨xq, hw''⟩ := hw'; subst hw'')
        (have k0 := ((bcell xq.below).1 _ _ hz).trans d0; have k1 := ((bcell xq.below).1 _ _ hz).trans d1; have HBE := Lib.hid (HB.out.trans (xq.below.mono (by omega))); clear d0 d1 d3; go_wp2; go_ret2; exact ⟨ret_pair HF.out.symm, HBE.out⟩)
    · have HF := Lib.hid (show cutB n box ⟨cell, at_, right, ta, tn, tc, ts⟩ = false by unfold cutB; dsimp only; rw [show ((tn == 0) = false) from by rw [beq_eq_false_iff_ne]; exact h2, Bool.false_and, Bool.and_false])
      have h2' : ((tn : Int) == 0) = false := by rw [beq_eq_false_iff_ne]; omega
      (refine wp_region_calm (V.heap.size) (by kernel_rfl) (by kernel_rfl) ?_; (repeat (first | go_big_quiet_step ((go_at_call 49; refine Calls.calm_of (Nat.le_refl _) ((in_any _ _ _ _).mono (fun e w' h => And.intro h.1 (by rw [← h.2]; exact Below.refl _ _))))) | quiet_step ((go_at_call 49; refine Calls.calm_of (Nat.le_refl _) ((in_any _ _ _ _).mono (fun e w' h => And.intro h.1 (by rw [← h.2]; exact Below.refl _ _))))))); refine wpQuiet_nil ?_; intro _ hw'; obtain ⟨xq, hw''⟩ := hw'; subst hw'')
      (have k0 := ((bcell xq.below).1 _ _ hz).trans d0; have k1 := ((bcell xq.below).1 _ _ hz).trans d1; have HBE := Lib.hid (HB.out.trans (xq.below.mono (by omega))); clear d0 d1 d3; go_wp2; go_ret2; exact ⟨ret_pair HF.out.symm, HBE.out⟩)
def headF (m : Nat) (x : NM) : Bool := (x.at_ == 0) && ((x.right == 0) && (x.tn == m))
theorem upto_snoc {i : Nat} {q : Nat → Bool} : allUpto (i + 1) q = (allUpto i q && q i) := by
  rw [Bool.eq_iff_iff, Bool.and_eq_true, allUpto_iff, allUpto_iff]
  constructor
  · intro h; exact ⟨fun j hj => h j (by omega), h i (by omega)⟩
  · rintro ⟨h1, h2⟩ j hj
    by_cases e : j = i
    · subst e; exact h2
    · exact h1 j (by omega)
set_option maxRecDepth 100000 in
set_option maxHeartbeats 2000000 in
theorem readL_any (R : Nat → Prop) (n : Nat) (ss : Nat → SV) (m : Nat) (bs : Nat → BM) (sp : Nat) (hSh : Shape n ss m bs) (x : NM) (xa : Option Addr) (k xc : Nat) (hx : x.cell = -1) (htn : x.tn ≤ maxLen) (w : World) (hS : SearchAt R n ss m bs sp w) (hT : Ints w.heap.size w x.ta x.tn x.ts) :
    Calls Tryz.prog 73 #[.pointer (some ⟨sp, 0, none⟩), nodeV x, .slice xa k xc] w fun e w' => e = .returned (.tuple #[.iface 133 (.agg #[.slice x.ta x.tn x.tc]), .bool (leafF m x)]) ∧ Below w.heap.size w w' := by
  have hlf : leafF m x = (headF m x && allUpto x.tn (fun i => inB (x.ts i) (-100) 100)) := rfl
  obtain ⟨ca, cc, ba, bc, wa, wc, ra, rc, _, h1, _⟩ := hS.img
  have hsp := hS.lt
  have hm := hSh.m20
  obtain ⟨cell, at_, right, ta, tn, tc, ts⟩ := x
  dsimp only at *
  subst hx
  unfold maxLen at htn
  have HT := Lib.hid hT
  have HLF := Lib.hid hlf
  clear hT hS hlf
  go_enter Tryz.func73, Tryz.ntmps73
  go_upto_region 4 with (fail)
  have HB := Lib.hid (alloc_below w (.cells #[.int .i64 (-1), .int .i64 at_, .int .i64 right, .slice ta tn tc] 76))
  have d1 : (w.alloc (.cells #[.int .i64 (-1), .int .i64 at_, .int .i64 right, .slice ta tn tc] 76)).cell? ⟨w.heap.size, 1, none⟩ = some (.int .i64 at_) := cell_of_row _ _ _ _ _ _ (heap_alloc_new w _)
  have d2 : (w.alloc (.cells #[.int .i64 (-1), .int .i64 at_, .int .i64 right, .slice ta tn tc] 76)).cell? ⟨w.heap.size, 2, none⟩ = some (.int .i64 right) := cell_of_row _ _ _ _ _ _ (heap_alloc_new w _)
  have d3 : (w.alloc (.cells #[.int .i64 (-1), .int .i64 at_, .int .i64 right, .slice ta tn tc] 76)).cell? ⟨w.heap.size, 3, none⟩ = some (.slice ta tn tc) := cell_of_row _ _ _ _ _ _ (heap_alloc_new w _)
  have g1 := ((bcell HB.out).1 _ _ hsp).trans h1
  have hz : w.heap.size < (w.alloc (.cells #[.int .i64 (-1), .int .i64 at_, .int .i64 right, .slice ta tn tc] 76)).heap.size := by simp
  have hz0 := HB.out.size
  generalize World.alloc w _ = V at *
  go_cut [9] from 56 (fun s9 wx => s9 = .bool (headF m ⟨-1, at_, right, ta, tn, tc, ts⟩) ∧ Hid (Below V.heap.size V wx))
  · by_cases q1 : at_ = 0
    · by_cases q2 : right = 0
      · by_cases q3 : tn = m
        · have HF := Lib.hid (show headF m ⟨-1, at_, right, ta, tn, tc, ts⟩ = true by unfold headF; dsimp only; rw [q1, q2, q3]; simp)
          have q1' : (at_ == 0) = true := by rw [beq_iff_eq]; exact q1
          have q2' : (right == 0) = true := by rw [beq_iff_eq]; exact q2
          have q3' : ((tn : Int) == (m : Int)) = true := by rw [beq_iff_eq]; omega
          clear q1 q2 q3
          go_quiet (fail)
          go_wp2
          go_meet
          exact ⟨by rw [HF.out], Lib.hid (below_drewN (Below.refl _ _) _)⟩
        · have HF := Lib.hid (show headF m ⟨-1, at_, right, ta, tn, tc, ts⟩ = false by unfold headF; dsimp only; rw [show (tn == m) = false from by rw [beq_eq_false_iff_ne]; exact q3, Bool.and_false, Bool.and_false])
          have q1' : (at_ == 0) = true := by rw [beq_iff_eq]; exact q1
          have q2' : (right == 0) = true := by rw [beq_iff_eq]; exact q2
          have q3' : ((tn : Int) == (m : Int)) = false := by rw [beq_eq_false_iff_ne]; omega
          clear q1 q2
          go_quiet (fail)
          go_wp2
          go_meet
          exact ⟨by rw [HF.out], Lib.hid (below_drewN (Below.refl _ _) _)⟩
      · have HF := Lib.hid (show headF m ⟨-1, at_, right, ta, tn, tc, ts⟩ = false by unfold headF; dsimp only; rw [show (right == 0) = false from by rw [beq_eq_false_iff_ne]; exact q2, Bool.false_and, Bool.and_false])
        have q1' : (at_ == 0) = true := by rw [beq_iff_eq]; exact q1
        have q2' : (right == 0) = false := by rw [beq_eq_false_iff_ne]; exact q2
        clear q1
        go_quiet (fail)
        go_wp2
        go_meet
        exact ⟨by rw [HF.out], Lib.hid (below_drewN (Below.refl _ _) _)⟩
    · have HF := Lib.hid (show headF m ⟨-1, at_, right, ta, tn, tc, ts⟩ = false by unfold headF; dsimp only; rw [show (at_ == 0) = false from by rw [beq_eq_false_iff_ne]; exact q1, Bool.false_and])
      have q1' : (at_ == 0) = false := by rw [beq_eq_false_iff_ne]; exact q1
      go_quiet (fail)
      go_wp2
      go_meet
      exact ⟨by rw [HF.out], Lib.hid (below_drewN (Below.refl _ _) _)⟩
  · obtain ⟨rfl, HBX⟩ := hcut
    have k3 := ((bcell HBX.out).1 _ _ hz).trans d3
    generalize headF m ⟨-1, at_, right, ta, tn, tc, ts⟩ = H at *
    have HD3 := Lib.hid d3
    clear d1 d2 d3 g1
    go_wp2
    go_loopw [9, 79] (fun s9 t wr => ∃ i : Nat, i ≤ tn ∧ t = .int .i64 (i : Int) ∧ s9 = .bool (H && allUpto i (fun i => inB (ts i) (-100) 100)) ∧ Hid (Below V.heap.size V wr)) (fun _ t _ => tn - (intOf t).toNat)
    case atStart => exact ⟨0, Nat.zero_le _, rfl, by simp [allUpto], HBX⟩
    case round =>
      clear HBX k3
      obtain ⟨i, hi, rfl, rfl, HBX⟩ := hrel
      have hzx := HBX.out.size
      by_cases hlt : i < tn
      · have hlt' : (i : Int) < (tn : Int) := by omega
        obtain ⟨tb, toff, rfl, htb, y0⟩ := ((HT.out.below HB.out).up hz0).below HBX.out |>.get hlt
        have htz : tb < wr.heap.size := by omega
        have HE := Lib.hid (@upto_snoc i (fun i => inB (ts i) (-100) 100))
        cases hP : (H && allUpto i (fun i => inB (ts i) (-100) 100))
        · have HN := Lib.hid (show (H && allUpto (i + 1) (fun i => inB (ts i) (-100) 100)) = false by rw [HE.out, ← Bool.and_assoc, hP]; rfl)
          clear hP
          go_wp2_with (go_at_call 49; refine (in_any _ _ _ _).mono ?_; rintro e w' ⟨rfl, rfl⟩)
          go_roundw
          case rel => exact ⟨i + 1, by omega, by go_num, by rw [HN.out], HBX⟩
          case measure => simp [intOf]; omega
        · have HN := Lib.hid (show (H && allUpto (i + 1) (fun i => inB (ts i) (-100) 100)) = inB (ts i) (-100) 100 by rw [HE.out, ← Bool.and_assoc, hP]; rfl)
          clear hP
          go_wp2_with (go_at_call 49; refine (in_any _ _ _ _).mono ?_; rintro e w' ⟨rfl, rfl⟩)
          go_roundw
          case rel => exact ⟨i + 1, by omega, by go_num, by rw [HN.out], HBX⟩
          case measure => simp [intOf]; omega
      · obtain rfl : i = tn := by omega
        have hlt' : ¬ (i : Int) < (i : Int) := by omega
        have k3 := ((bcell HBX.out).1 _ _ hz).trans HD3.out
        generalize (H && allUpto i (fun i => inB (ts i) (-100) 100)) = P at *
        go_wp2
        go_ret2
        exact ⟨ret_pair HLF.out.symm, HB.out.trans (HBX.out.mono hz0)⟩
end Go.Proofs.YtkdopjkdokgipaaGreatDoor
namespace Go.Proofs.YtkdopjkdokgipaaGreatDoor
open Go.RowKit
set_option linter.unusedVariables false
set_option linter.unusedSimpArgs false
/-- a slice of nodes -/
def Nodes (B : Nat) (w : World) (a : Option Addr) (len : Nat) (ns : Nat → NM) : Prop :=
  len = 0 ∨ ∃ b off, a = some ⟨b, off, none⟩ ∧ b < B ∧ ∀ i, i < len → (w.cell? ⟨b, off + i * 4, none⟩ = some (.int .i64 (ns i).cell) ∧ w.cell? ⟨b, off + i * 4 + 1, none⟩ = some (.int .i64 (ns i).at_) ∧ w.cell? ⟨b, off + i * 4 + 2, none⟩ = some (.int .i64 (ns i).right) ∧ w.cell? ⟨b, off + i * 4 + 3, none⟩ = some (.slice (ns i).ta (ns i).tn (ns i).tc)) ∧ (ns i).tn ≤ maxLen ∧ Ints B w (ns i).ta (ns i).tn (ns i).ts
theorem Nodes.below {B : Nat} {w w' : World} {a : Option Addr} {len : Nat} {ns : Nat → NM} (h : Nodes B w a len ns) (hb : Below B w w') : Nodes B w' a len ns := by
  rcases h with h | ⟨b, off, ha, hB, hc⟩
  · exact .inl h
  · have c := (bcell hb).1
    exact .inr ⟨b, off, ha, hB, fun i hi => ⟨⟨(c _ _ hB).trans (hc i hi).1.1, (c _ _ hB).trans (hc i hi).1.2.1, (c _ _ hB).trans (hc i hi).1.2.2.1, (c _ _ hB).trans (hc i hi).1.2.2.2⟩, (hc i hi).2.1, (hc i hi).2.2.below hb⟩⟩
theorem Nodes.up {B B' : Nat} {w : World} {a : Option Addr} {len : Nat} {ns : Nat → NM} (h : Nodes B w a len ns) (hb : B ≤ B') : Nodes B' w a len ns := by
  rcases h with h | ⟨b, off, ha, hB, hc⟩
  · exact .inl h
  · exact .inr ⟨b, off, ha, by omega, fun i hi => ⟨(hc i hi).1, (hc i hi).2.1, (hc i hi).2.2.up hb⟩⟩
theorem Nodes.get {B : Nat} {w : World} {a : Option Addr} {len : Nat} {ns : Nat → NM} (h : Nodes B w a len ns) {i : Nat} (hi : i < len) : ∃ b off, a = some ⟨b, off, none⟩ ∧ b < B ∧ (w.cell? ⟨b, off + i * 4, none⟩ = some (.int .i64 (ns i).cell) ∧ w.cell? ⟨b, off + i * 4 + 1, none⟩ = some (.int .i64 (ns i).at_) ∧ w.cell? ⟨b, off + i * 4 + 2, none⟩ = some (.int .i64 (ns i).right) ∧ w.cell? ⟨b, off + i * 4 + 3, none⟩ = some (.slice (ns i).ta (ns i).tn (ns i).tc)) ∧ (ns i).tn ≤ maxLen ∧ Ints B w (ns i).ta (ns i).tn (ns i).ts := by
  rcases h with h | ⟨b, off, ha, hB, hc⟩
  · omega
  · exact ⟨b, off, ha, hB, hc i hi⟩
/-- what the function that calls itself finds in memory -/
structure HoldAt (R : Nat → Prop) (n : Nat) (ss : Nat → SV) (m : Nat) (bs : Nat → BM) (sp pB sB hB : Nat) (len : Nat) (ns : Nat → NM) (W : World) : Prop where
  search : SearchAt R n ss m bs sp W
  rlt : ∀ b, R b → b < W.heap.size
  proof : ∃ na nc, W.cell? ⟨pB, 0, none⟩ = some (.slice na len nc) ∧ Nodes W.heap.size W na len ns
  pz : pB < W.heap.size
  sbox : W.cell? ⟨sB, 0, none⟩ = some (.pointer (some ⟨sp, 0, none⟩))
  sz : sB < W.heap.size
  hbox : W.cell? ⟨hB, 0, none⟩ = some (.func (.func 72) #[] #[.pointer (some ⟨pB, 0, none⟩), .pointer (some ⟨sB, 0, none⟩), .pointer (some ⟨hB, 0, none⟩)])
  hz : hB < W.heap.size
theorem HoldAt.step {R : Nat → Prop} {n : Nat} {ss : Nat → SV} {m : Nat} {bs : Nat → BM} {sp pB sB hB len : Nat} {ns : Nat → NM} {W W' : World} (h : HoldAt R n ss m bs sp pB sB hB len ns W) (hb : Below W.heap.size W W') : HoldAt R n ss m bs sp pB sB hB len ns W' := by
  have c := (bcell hb).1
  have hz := hb.size
  obtain ⟨na, nc, h1, h2⟩ := h.proof
  exact ⟨h.search.rests (Rests.below hb h.rlt) hz, fun b hb => by have := h.rlt b hb; omega, ⟨na, nc, (c _ _ h.pz).trans h1, (h2.below hb).up hz⟩, by have := h.pz; omega, (c _ _ h.sz).trans h.sbox, by have := h.sz; omega, (c _ _ h.hz).trans h.hbox, by have := h.hz; omega⟩
theorem assertR (v : Array Value) (w : World) : (Instr.typeAssert (.iface 133 (.agg v)) 126 133 true).run Tryz.prog w = .ok (.tuple #[.agg v, .bool true]) w := by kernel_rfl
theorem assertRD (x y : Value) (w : World) : (Instr.typeAssert (.iface 129 (.agg #[x, y])) 126 133 true).run Tryz.prog w = .ok (.tuple #[.agg #[.slice none 0 0], .bool false]) w := by kernel_rfl
theorem assertD (v : Array Value) (w : World) : (Instr.typeAssert (.iface 129 (.agg v)) 126 129 true).run Tryz.prog w = .ok (.tuple #[.agg v, .bool true]) w := by kernel_rfl
def HoldOk (R : Nat → Prop) (n : Nat) (ss : Nat → SV) (m : Nat) (bs : Nat → BM) (sp pB sB hB len : Nat) (ns : Nat → NM) (k : Nat) : Prop :=
  ∀ (i : Nat) (xa : Option Addr) (xc : Nat) (box : Nat → SV) (W : World), len < i + k → i ≤ 100000 → BoxOk n box → n ≤ xc → xc ≤ maxLen → Spans W.heap.size W xa n box → HoldAt R n ss m bs sp pB sB hB len ns W →
    Calls Tryz.prog 72 #[.int .i64 (i : Int), .slice xa n xc, .pointer (some ⟨pB, 0, none⟩), .pointer (some ⟨sB, 0, none⟩), .pointer (some ⟨hB, 0, none⟩)] W fun e W' => e = .returned (.int .i64 ((holdsF n m bs len ns k box i : Nat) : Int)) ∧ Below W.heap.size W W'
theorem holdsF_out {n m : Nat} {bs : Nat → BM} {len : Nat} {ns : Nat → NM} {k : Nat} {box : Nat → SV} {i : Nat} (h : len ≤ i) : holdsF n m bs len ns k box i = 0 := by
  cases k with
  | zero => rfl
  | succ k => rw [holdsF, if_pos h]
set_option maxRecDepth 100000 in
set_option maxHeartbeats 2000000 in
theorem hold_out (R : Nat → Prop) (n : Nat) (ss : Nat → SV) (m : Nat) (bs : Nat → BM) (sp pB sB hB len : Nat) (ns : Nat → NM) (hlen : len ≤ 100000) (k i : Nat) (xa : Option Addr) (xc : Nat) (box : Nat → SV) (W : World) (hi : len ≤ i) (hi2 : i ≤ 100000) (hH : HoldAt R n ss m bs sp pB sB hB len ns W) :
    Calls Tryz.prog 72 #[.int .i64 (i : Int), .slice xa n xc, .pointer (some ⟨pB, 0, none⟩), .pointer (some ⟨sB, 0, none⟩), .pointer (some ⟨hB, 0, none⟩)] W fun e W' => e = .returned (.int .i64 ((holdsF n m bs len ns k box i : Nat) : Int)) ∧ Below W.heap.size W W' := by
  rw [holdsF_out hi]
  obtain ⟨na, nc, h1, _⟩ := hH.proof
  have hge : (len : Int) ≤ (i : Int) := by omega
  clear hH
  go_enter Tryz.func72, Tryz.ntmps72
  go_wp2
  go_ret
  exact ⟨rfl, Below.refl _ _⟩
set_option maxRecDepth 100000 in
set_option maxHeartbeats 2000000 in
theorem hold_leaf (R : Nat → Prop) (n : Nat) (ss : Nat → SV) (m : Nat) (bs : Nat → BM) (sp pB sB hB len : Nat) (ns : Nat → NM) (hSh : Shape n ss m bs) (hlen : len ≤ 100000) (k i : Nat) (xa : Option Addr) (xc : Nat) (box : Nat → SV) (W : World) (hi : i < len) (hx : (ns i).cell = -1) (hb : BoxOk n box) (hX : Spans W.heap.size W xa n box) (hH : HoldAt R n ss m bs sp pB sB hB len ns W) :
    Calls Tryz.prog 72 #[.int .i64 (i : Int), .slice xa n xc, .pointer (some ⟨pB, 0, none⟩), .pointer (some ⟨sB, 0, none⟩), .pointer (some ⟨hB, 0, none⟩)] W fun e W' => e = .returned (.int .i64 ((holdsF n m bs len ns (k + 1) box i : Nat) : Int)) ∧ Below W.heap.size W W' := by
  have hv : holdsF n m bs len ns (k + 1) box i = if leafB n m bs box (ns i) = true then i + 1 else 0 := by rw [holdsF, if_neg (by omega), if_pos hx]
  rw [hv]
  have hlf : leafB n m bs box (ns i) = (leafF m (ns i) && refutesB n m bs box (ns i).ts) := by unfold leafB leafF; simp only [Bool.and_assoc]
  rw [hlf]
  clear hv hlf
  generalize hr : (if (leafF m (ns i) && refutesB n m bs box (ns i).ts) = true then i + 1 else 0) = r
  have HR := Lib.hid hr
  clear hr
  obtain ⟨na, nc, h1, h2⟩ := hH.proof
  obtain ⟨b, off, rfl, hbz, ⟨c0, c1, c2, c3⟩, htn, hts⟩ := h2.get hi
  have s0 := hH.sbox
  have hlt : (i : Int) < (len : Int) := by omega
  have hsz := hH.sz
  have hpz := hH.pz
  have HRD := Lib.hid (fun (W' : World) (hbb : Below W.heap.size W W') => readL_any R n ss m bs sp hSh (ns i) xa n xc hx htn W' (hH.step hbb).search ((hts.below hbb).up hbb.size))
  have HS := Lib.hid (fun (W' : World) (hbb : Below W.heap.size W W') => (hH.step hbb).sbox)
  generalize hnd : ns i = x at *
  have HND := Lib.hid hnd
  clear hnd
  obtain ⟨cell, at_, right, ta, tn, tc, ts⟩ := x
  dsimp only at *
  subst hx
  have HRF := Lib.hid (fun (W' : World) (hbb : Below W.heap.size W W') (hm : tn = m) (hto : TimesOk m ts) => refutes_any R n ss m bs sp hSh xa xc box ta tc ts W' (hH.step hbb).search ((hX.below hbb).up hbb.size) (by have := (hts.below hbb).up hbb.size; rw [hm] at this; exact this) hb hto)
  have HH := Lib.hid hH
  clear hb hX hH h2 hts
  go_enter Tryz.func72, Tryz.ntmps72
  go_upto_region 3 with (fail)
  (refine wp_region_calm (W.heap.size) (by kernel_rfl) (by kernel_rfl) ?_; (repeat (first | go_big_quiet_step ((go_at_call 73; refine Calls.calm_of (Nat.le_refl _) (HRD.out _ (Calm.below _)))) | quiet_step ((go_at_call 73; refine Calls.calm_of (Nat.le_refl _) (HRD.out _ (Calm.below _)))))); refine wpQuiet_nil ?_; intro _ hw'; obtain ⟨xq, hw''⟩ := hw'; subst hw'')
  have HBQ := Lib.hid xq.below
  have hta := assertR #[.slice ta tn tc]
  have hLT : leafF m ⟨-1, at_, right, ta, tn, tc, ts⟩ = true → tn = m ∧ TimesOk m ts := by
    intro h
    simp only [leafF, Bool.and_eq_true, beq_iff_eq, allUpto_iff, inB_iff] at h
    obtain ⟨⟨_, _, h1⟩, h2⟩ := h
    exact ⟨h1, fun j hj => h2 j (by omega)⟩
  have HLT := Lib.hid hLT
  clear hLT c0 c1 c2 c3 h1 s0
  generalize leafF m ⟨-1, at_, right, ta, tn, tc, ts⟩ = L at *
  generalize xq.val = Q at *
  have hqz := HBQ.out.size
  cases L
  · have HR0 := Lib.hid (show r = 0 by have := HR.out; rw [Bool.false_and, if_neg (by simp)] at this; exact this.symm)
    clear HR
    go_wp2
    go_ret
    exact ⟨by rw [HR0.out]; rfl, HBQ.out⟩
  · obtain ⟨htm, hto⟩ := HLT.out rfl
    have HBV := Lib.hid (HBQ.out.trans ((alloc_below Q (.cells #[.slice ta tn tc] 133)).mono hqz))
    have e0 : (Q.alloc (.cells #[.slice ta tn tc] 133)).cell? ⟨Q.heap.size, 0, none⟩ = some (.slice ta tn tc) := cell_of_row _ _ _ _ _ _ (heap_alloc_new Q _)
    have s1 := HS.out _ HBV.out
    have HRV := Lib.hid (HRF.out _ HBV.out htm hto)
    have HTM := Lib.hid (And.intro htm hto)
    clear htm hto
    generalize refutesB n m bs box ts = F at *
    obtain rfl := HTM.out.1
    cases F
    · have HR0 := Lib.hid (show r = 0 by have := HR.out; rw [Bool.true_and, if_neg (by simp)] at this; exact this.symm)
      clear HR
      go_wp2_with (go_at_call 74; refine HRV.out.mono ?_; rintro e w3 ⟨rfl, hb3⟩)
      go_ret
      exact ⟨by rw [HR0.out]; rfl, HBV.out.trans (hb3.mono HBV.out.size)⟩
    · have HR0 := Lib.hid (show r = i + 1 by have := HR.out; rw [Bool.true_and, if_pos rfl] at this; exact this.symm)
      clear HR
      go_wp2_with (go_at_call 74; refine HRV.out.mono ?_; rintro e w3 ⟨rfl, hb3⟩)
      go_ret
      exact ⟨by rw [HR0.out]; push_cast; rfl, HBV.out.trans (hb3.mono HBV.out.size)⟩
theorem BoxOk.left {n : Nat} {box : Nat → SV} (h : BoxOk n box) {c : Nat} {a : Int} (h1 : (box c).lo ≤ a) (h2 : a < (box c).hi) (hc : c < n) : BoxOk n (setBox box c ⟨(box c).lo, a⟩) := by
  intro j hj
  have k1 := h j hj
  have k2 := h c hc
  unfold setBox
  split
  · dsimp only; omega
  · exact k1
theorem BoxOk.right {n : Nat} {box : Nat → SV} (h : BoxOk n box) {c : Nat} {a : Int} (h1 : (box c).lo ≤ a) (h2 : a < (box c).hi) (hc : c < n) : BoxOk n (setBox box c ⟨a + 1, (box c).hi⟩) := by
  intro j hj
  have k1 := h j hj
  have k2 := h c hc
  unfold setBox
  split
  · dsimp only; omega
  · exact k1
set_option maxRecDepth 100000 in
set_option maxHeartbeats 2000000 in
theorem hold_cut (R : Nat → Prop) (n : Nat) (ss : Nat → SV) (m : Nat) (bs : Nat → BM) (sp pB sB hB len : Nat) (ns : Nat → NM) (hSh : Shape n ss m bs) (hlen : len ≤ 99999) (k i : Nat) (ih : HoldOk R n ss m bs sp pB sB hB len ns k) (xa : Option Addr) (xc : Nat) (box : Nat → SV) (W : World) (hi : i < len) (hik : len < i + (k + 1)) (hx : (ns i).cell ≠ -1) (hb : BoxOk n box) (hxc : n ≤ xc) (hxm : xc ≤ maxLen) (hX : Spans W.heap.size W xa n box) (hH : HoldAt R n ss m bs sp pB sB hB len ns W) :
    Calls Tryz.prog 72 #[.int .i64 (i : Int), .slice xa n xc, .pointer (some ⟨pB, 0, none⟩), .pointer (some ⟨sB, 0, none⟩), .pointer (some ⟨hB, 0, none⟩)] W fun e W' => e = .returned (.int .i64 ((holdsF n m bs len ns (k + 1) box i : Nat) : Int)) ∧ Below W.heap.size W W' := by
  have hn40 := hSh.n40
  generalize hr : holdsF n m bs len ns (k + 1) box i = r
  rw [holdsF, if_neg (by omega), if_neg hx] at hr
  have HR := Lib.hid hr
  clear hr
  obtain ⟨na, nc, h1, h2⟩ := hH.proof
  obtain ⟨b, off, rfl, hbz, ⟨c0, c1, c2, c3⟩, htn, hts⟩ := h2.get hi
  have s0 := hH.sbox
  have hlt : (i : Int) < (len : Int) := by omega
  have hsz := hH.sz
  have hpz := hH.pz
  have HP := Lib.hid h1
  have HC2 := Lib.hid c2
  have HRD := Lib.hid (fun (W' : World) (hbb : Below W.heap.size W W') => readC_any sp (ns i) xa n xc box hn40 hx htn W' ((hX.below hbb).up hbb.size))
  have HCB := Lib.hid (show cutB n box (ns i) = true → ∃ c : Nat, c < n ∧ (ns i).cell = (c : Int) ∧ (box c).lo ≤ (ns i).at_ ∧ (ns i).at_ < (box c).hi from by
    intro h
    simp only [cutB, Bool.and_eq_true, inB_iff, beq_iff_eq, decide_eq_true_eq] at h
    obtain ⟨⟨q1, q2⟩, _, q3, q4⟩ := h
    exact ⟨(ns i).cell.toNat, by omega, by omega, q3, q4⟩)
  generalize cutB n box (ns i) = C at *
  generalize hnd : ns i = x at *
  have HND := Lib.hid hnd
  clear hnd
  obtain ⟨cell, at_, right, ta, tn, tc, ts⟩ := x
  dsimp only at *
  have HH := Lib.hid hH
  have HX := Lib.hid hX
  have HBO := Lib.hid hb
  have hta := assertRD (.int .i64 cell) (.int .i64 at_)
  have htb := assertD #[.int .i64 cell, .int .i64 at_]
  clear hb hX hH h2 hts
  go_enter Tryz.func72, Tryz.ntmps72
  go_upto_region 3 with (fail)
  (refine wp_region_calm (W.heap.size) (by kernel_rfl) (by kernel_rfl) ?_; (repeat (first | go_big_quiet_step ((go_at_call 73; refine Calls.calm_of (Nat.le_refl _) (HRD.out _ (Calm.below _)))) | quiet_step ((go_at_call 73; refine Calls.calm_of (Nat.le_refl _) (HRD.out _ (Calm.below _)))))); refine wpQuiet_nil ?_; intro _ hw'; obtain ⟨xq, hw''⟩ := hw'; subst hw'')
  have HBQ := Lib.hid xq.below
  clear c0 c1 c2 c3 h1 s0
  generalize xq.val = Q at *
  have hqz := HBQ.out.size
  cases C
  · have HR0 := Lib.hid (show r = 0 by have := HR.out; rw [if_neg (by simp)] at this; exact this.symm)
    clear HR
    go_wp2
    go_ret
    exact ⟨by rw [HR0.out]; rfl, HBQ.out⟩
  · obtain ⟨c, hc, rfl, hlo, hhi⟩ := HCB.out rfl
    have HR1 := Lib.hid (show (if 0 < holdsF n m bs len ns k (setBox box c ⟨(box c).lo, at_⟩) (i + 1) ∧ (holdsF n m bs len ns k (setBox box c ⟨(box c).lo, at_⟩) (i + 1) : Int) = right then holdsF n m bs len ns k (setBox box c ⟨at_ + 1, (box c).hi⟩) (holdsF n m bs len ns k (setBox box c ⟨(box c).lo, at_⟩) (i + 1)) else 0) = r from by
      have := HR.out
      rw [if_pos rfl, show ((c : Int)).toNat = c by omega] at this
      exact this)
    have HBC := Lib.hid (HBO.out c hc)
    have hat : 0 ≤ at_ ∧ at_ ≤ 1000 := by have := HBO.out c hc; omega
    have hHB := Lib.hid (And.intro hlo hhi)
    clear HR HCB
    have HBV := Lib.hid (HBQ.out.trans ((alloc_below Q (.cells #[.int .i64 (c : Int), .int .i64 at_] 129)).mono hqz))
    have e0 : (Q.alloc (.cells #[.int .i64 (c : Int), .int .i64 at_] 129)).cell? ⟨Q.heap.size, 0, none⟩ = some (.int .i64 (c : Int)) := cell_of_row _ _ _ _ _ _ (heap_alloc_new Q _)
    have e1 : (Q.alloc (.cells #[.int .i64 (c : Int), .int .i64 at_] 129)).cell? ⟨Q.heap.size, 1, none⟩ = some (.int .i64 at_) := cell_of_row _ _ _ _ _ _ (heap_alloc_new Q _)
    have HPR := Lib.hid (parts_any xa n xc box c at_ hc hn40 hxc hxm hat (Q.alloc (.cells #[.int .i64 (c : Int), .int .i64 at_] 129)) ((HX.out.below HBV.out).up HBV.out.size))
    clear hlo hhi
    go_upto_region 14 with (go_at_call 65; refine HPR.out.mono ?_; rintro e w3 ⟨a1, q1, a2, q2, rfl, hs1, hs2, hc1, hm1, hc2, hm2, hb3⟩)
    have HW4 := Lib.hid ((HBV.out.trans (hb3.mono HBV.out.size)).trans ((alloc_below w3 (.cells #[.slice a1 n q1, .slice a2 n q2] 130)).mono (by have := HBV.out.size; have := hb3.size; omega)))
    have p0 : (w3.alloc (.cells #[.slice a1 n q1, .slice a2 n q2] 130)).cell? ⟨w3.heap.size, 0, none⟩ = some (.slice a1 n q1) := cell_of_row _ _ _ _ _ _ (heap_alloc_new w3 _)
    have p1 : (w3.alloc (.cells #[.slice a1 n q1, .slice a2 n q2] 130)).cell? ⟨w3.heap.size, 1, none⟩ = some (.slice a2 n q2) := cell_of_row _ _ _ _ _ _ (heap_alloc_new w3 _)
    have HS1 := Lib.hid ((hs1.step (alloc_below w3 (.cells #[.slice a1 n q1, .slice a2 n q2] 130))).spans (by unfold maxLen; omega))
    have HS2 := Lib.hid ((hs2.step (alloc_below w3 (.cells #[.slice a1 n q1, .slice a2 n q2] 130))).spans (by unfold maxLen; omega))
    have HQ2 := Lib.hid (And.intro hc2 hm2)
    have hpz4 : w3.heap.size < (w3.alloc (.cells #[.slice a1 n q1, .slice a2 n q2] 130)).heap.size := by simp
    clear hs1 hs2 hb3 HPR e0 e1 hta htb
    generalize World.alloc w3 _ = W4 at *
    generalize w3.heap.size = pb at *
    have hh4 := (HH.out.step HW4.out).hbox
    have hcast : ((i : Int) + 1) = ((i + 1 : Nat) : Int) := by omega
    have HI1 := Lib.hid (show Calls Tryz.prog 72 #[.int .i64 ((i : Int) + 1), .slice a1 n q1, .pointer (some ⟨pB, 0, none⟩), .pointer (some ⟨sB, 0, none⟩), .pointer (some ⟨hB, 0, none⟩)] W4 fun e W' => e = .returned (.int .i64 ((holdsF n m bs len ns k (setBox box c ⟨(box c).lo, at_⟩) (i + 1) : Nat) : Int)) ∧ Below W4.heap.size W4 W' from by
      rw [hcast]
      exact ih (i + 1) a1 q1 _ W4 (by omega) (by omega) (HBO.out.left hHB.out.1 hHB.out.2 hc) hc1 hm1 HS1.out (HH.out.step HW4.out))
    have HLE := Lib.hid (holdsF_le (n := n) (m := m) (bs := bs) (len := len) (ns := ns) k (setBox box c ⟨(box c).lo, at_⟩) (i + 1))
    clear hcast hc1 hm1 hc2 hm2
    generalize holdsF n m bs len ns k (setBox box c ⟨(box c).lo, at_⟩) (i + 1) = H1 at *
    go_upto_region 15 with (go_at_call 72; refine HI1.out.mono ?_; rintro e W5 ⟨rfl, hb5⟩)
    have HW5 := Lib.hid (HW4.out.trans (hb5.mono HW4.out.size))
    have p5 := ((bcell hb5).1 _ _ hpz4).trans p1
    have HS5 := Lib.hid ((HS2.out.below hb5).up hb5.size)
    have d0 := ((bcell HW5.out).1 _ _ hpz).trans HP.out
    have d2 := ((bcell HW5.out).1 _ _ hbz).trans HC2.out
    have hh5 := (HH.out.step HW5.out).hbox
    have hbz5 : b < W5.heap.size := by have := HW5.out.size; omega
    clear p0 p1 hh4 HI1 hb5
    by_cases g1 : 0 < H1
    · have g1' : decide ((0 : Int) < (H1 : Int)) = true := by simp; omega
      have hH1 : i + 1 < H1 ∧ H1 ≤ len := by rcases HLE.out with h | h <;> omega
      by_cases g2 : (H1 : Int) = right
      · subst g2
        have HI2 := Lib.hid (ih H1 a2 q2 _ W5 (by omega) (by omega) (HBO.out.right hHB.out.1 hHB.out.2 hc) HQ2.out.1 HQ2.out.2 HS5.out (HH.out.step HW5.out))
        have HR2 := Lib.hid (show holdsF n m bs len ns k (setBox box c ⟨at_ + 1, (box c).hi⟩) H1 = r by have := HR1.out; rw [if_pos ⟨g1, rfl⟩] at this; exact this)
        rw [HR2.out] at HI2
        clear HR1 HR2
        go_wp2_with (go_at_call 72; refine HI2.out.mono ?_; rintro e W6 ⟨rfl, hb6⟩)
        go_ret
        exact ⟨rfl, HW5.out.trans (hb6.mono HW5.out.size)⟩
      · have HR2 := Lib.hid (show r = 0 by have := HR1.out; rw [if_neg (fun h => g2 h.2)] at this; exact this.symm)
        have g2' : ((H1 : Int) == right) = false := by rw [beq_eq_false_iff_ne]; exact g2
        clear HR1
        go_wp2
        go_ret
        exact ⟨by rw [HR2.out]; rfl, HW5.out⟩
    · have HR2 := Lib.hid (show r = 0 by have := HR1.out; rw [if_neg (fun h => g1 h.1)] at this; exact this.symm)
      have g1' : decide ((0 : Int) < (H1 : Int)) = false := by simp; omega
      clear HR1
      go_wp2
      go_ret
      exact ⟨by rw [HR2.out]; rfl, HW5.out⟩
theorem hold_all (R : Nat → Prop) (n : Nat) (ss : Nat → SV) (m : Nat) (bs : Nat → BM) (sp pB sB hB len : Nat) (ns : Nat → NM) (hSh : Shape n ss m bs) (hlen : len ≤ 99999) : ∀ k, HoldOk R n ss m bs sp pB sB hB len ns k
  | 0 => fun i xa xc box W h1 h2 h3 h4 h5 h6 h7 => hold_out R n ss m bs sp pB sB hB len ns (by omega) 0 i xa xc box W (by omega) h2 h7
  | k + 1 => fun i xa xc box W h1 h2 h3 h4 h5 h6 h7 => by
    by_cases hi : i < len
    · by_cases hx : (ns i).cell = -1
      · exact hold_leaf R n ss m bs sp pB sB hB len ns hSh (by omega) k i xa xc box W hi hx h3 h6 h7
      · exact hold_cut R n ss m bs sp pB sB hB len ns hSh hlen k i (hold_all R n ss m bs sp pB sB hB len ns hSh hlen k) xa xc box W hi (by omega) hx h3 h4 h5 h6 h7
    · exact hold_out R n ss m bs sp pB sB hB len ns (by omega) (k + 1) i xa xc box W (by omega) h2 h7
end Go.Proofs.YtkdopjkdokgipaaGreatDoor
