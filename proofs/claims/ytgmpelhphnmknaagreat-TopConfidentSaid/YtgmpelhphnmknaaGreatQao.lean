/- Texts put together: ToFlxC, ToFlxD, ToFlxE. -/
import Derived.Test.YtgmpelhphnmknaaGreatQan
set_option maxRecDepth 100000
set_option maxHeartbeats 8000000
set_option linter.unusedVariables false
set_option linter.unusedSimpArgs false
namespace Go.Proofs.YtgmpelhphnmknaaGreat
open Go.RowKit
theorem fstN_at : ∀ {n : Nat} {p : Nat → Bool} {i : Nat}, i < n → (∀ j, j < i → p j = false) → p i = true → fstN n p = i := by
 intro n p i hi hn h
 have h1 := fst_le n p
 rcases Nat.lt_trichotomy (fstN n p) i with h2 | h2 | h2
 ·have h3 := fst_is (n := n) (p := p) (by omega)
  rw [hn _ h2] at h3
  cases h3
 ·exact h2
 ·have h3 := fst_not h2
  rw [h] at h3
  cases h3
theorem fstN_none {n : Nat} {p : Nat → Bool} (hn : ∀ j, j < n → p j = false) : fstN n p = n := by
 have h1 := fst_le n p
 rcases Nat.lt_or_ge (fstN n p) n with h2 | h2
 ·have h3 := fst_is h2
  rw [hn _ h2] at h3
  cases h3
 ·omega
theorem testT1_any (r : RW) (x : Int) (b : Nat) (w : World) (hx : w.heap[b]? = some (.cells #[.int .i64 x] 3)) :
  Calls Tryz.prog 131 #[r.agg, .pointer (some ⟨b, 0, none⟩)] w fun e w' => e = .returned (.bool (decide (x ≤ r.hi))) ∧ Below w.heap.size w w' := by
 have HB := Hd (Below.refl w.heap.size w)
 have hb := (blkL hx)
 have d0 : w.cell? ⟨b, 0, none⟩ = some (.int .i64 x) := cell_of_row _ _ 0 _ _ _ hx
 clear hx
 obtain ⟨k, lo, hi⟩ := r
 show Calls Tryz.prog 131 #[.agg #[.int .i64 k, .int .i64 lo, .int .i64 hi], .pointer (some ⟨b, 0, none⟩)] w fun e w' => e = .returned (.bool (decide (x ≤ hi))) ∧ Below w.heap.size w w'
 go_enter Tryz.func131, Tryz.ntmps131
 go_wp2
 go_ret
 exact ⟨rfl, HB.out.alloc (Nat.le_refl _) _⟩
theorem indexT1_any (a : Option Addr) (n c : Nat) (t : Nat → RW) (x : Int) (b B : Nat) (w : World) (hBw : B ≤ w.heap.size) (hn : n ≤ 40) (hT : RWs B w a n t) (hx : w.heap[b]? = some (.cells #[.int .i64 x] 3)) :
  Calls Tryz.prog 172 #[.slice a n c, .func (Fn.func 131) #[] #[.pointer (some ⟨b, 0, none⟩)]] w fun e w' => e = .returned (.int .i64 (if fstN n (fun i => decide (x ≤ (t i).hi)) < n then (fstN n (fun i => decide (x ≤ (t i).hi)) : Int) else -1)) ∧ Below w.heap.size w w' := by
 have HC := Hd (fun W (hb : Below w.heap.size w W) i => testT1_any (t i) x b W (blkS hx hb))
 obtain ⟨p, hp⟩ : ∃ p : Nat → Bool, ∀ i, p i = decide (x ≤ (t i).hi) := ⟨_, fun _ => rfl⟩
 have hpp : (fun i => decide (x ≤ (t i).hi)) = p := by funext i; rw [hp]
 rw [hpp]
 simp only [← hp] at HC
 have HF := Hd (fun i (hi : i < n) (hn : ∀ j, j < i → p j = false) (h : p i = true) => show (if fstN n p < n then (fstN n p : Int) else -1) = (i : Int) from by rw [fstN_at hi hn h, if_pos hi])
 have HG := Hd (fun (hn : ∀ j, j < n → p j = false) => show (if fstN n p < n then (fstN n p : Int) else -1) = -1 from by rw [fstN_none hn, if_neg (Nat.lt_irrefl _)])
 have HT := Lib.hid hT
 have HB0 := Hd (Below.refl w.heap.size w)
 generalize (if fstN n p < n then (fstN n p : Int) else -1) = F at *
 clear hx hT hp hpp
 go_enter Tryz.func172, Tryz.ntmps172
 go_wp2
 go_loopw [8] (fun x wr => ∃ i : Nat, i ≤ n ∧ x = .int .i64 (i : Int) ∧ Hid (∀ j, j < i → p j = false) ∧ Hid (Below w.heap.size w wr)) (fun x _ => n - (intOf x).toNat)
 case atStart => exact ⟨0, Nat.zero_le _, rfl, Hd (fun j hj => by omega), HB0⟩
 case round =>
  clear HB0
  obtain ⟨i, hi, rfl, HN, HB0⟩ := hrel
  by_cases hlt : i < n
  ·have hlt' : (i : Int) < (n : Int) := by omega
   obtain ⟨b1, off, rfl, hbB, c0, c1, c2⟩ := (HT.out.below (HB0.out.mono hBw)).get hlt
   have HCi := Hd (HC.out wr HB0.out i)
   obtain ⟨r, hr⟩ : ∃ r, t i = r := ⟨_, rfl⟩
   rw [hr] at HCi c0 c1 c2
   obtain ⟨k, lo, hi'⟩ := r
   unfold RW.agg at HCi
   dsimp only at HCi c0 c1 c2
   clear hr
   cases hpi : p i with
   | true =>
    rw [hpi] at HCi
    have HFi := Hd (HF.out i hlt HN.out hpi)
    clear hpi HC HF HG HN
    go_wp2_with (go_at_call 131; refine HCi.out.mono ?_; rintro e W1 ⟨rfl, hb1⟩; have HB1 := Hd (HB0.out.trans (hb1.mono HB0.out.size)); clear hb1 c0 c1 c2)
    go_ret
    exact ⟨by rw [HFi.out]; rfl, HB1.out⟩
   | false =>
    rw [hpi] at HCi
    have HN2 := Hd (show ∀ j, j < i + 1 → p j = false from fun j hj => by
     by_cases e : j = i
     ·rw [e, hpi]
     ·exact HN.out j (by omega))
    clear hpi HC HF HG HN
    go_wp2_with (go_at_call 131; refine HCi.out.mono ?_; rintro e W1 ⟨rfl, hb1⟩; have HB1 := Hd (HB0.out.trans (hb1.mono HB0.out.size)); clear hb1 c0 c1 c2)
    go_roundw
    case rel => exact ⟨i + 1, by omega, by go_num, HN2, HB1⟩
    case measure => simp [intOf]; omega
  ·obtain rfl : i = n := by omega
   have HGi := Hd (HG.out HN.out)
   clear HC HF HG HN
   go_wp2
   go_ret
   exact ⟨by rw [HGi.out]; rfl, HB0.out⟩
theorem firstT1_any (a : Option Addr) (n c : Nat) (t : Nat → RW) (x : Int) (b B : Nat) (w : World) (hBw : B ≤ w.heap.size) (hn : n ≤ 40) (hT : RWs B w a n t) (hx : w.heap[b]? = some (.cells #[.int .i64 x] 3)) :
  Calls Tryz.prog 130 #[.slice a n c, .func (Fn.func 131) #[] #[.pointer (some ⟨b, 0, none⟩)]] w fun e w' => e = .returned (.int .i64 (fstN n (fun i => decide (x ≤ (t i).hi)) : Int)) ∧ Below w.heap.size w w' := by
 have HI := Hd (indexT1_any a n c t x b B w hBw hn hT hx)
 have hle := fst_le n (fun i => decide (x ≤ (t i).hi))
 generalize fstN n (fun i => decide (x ≤ (t i).hi)) = F at *
 clear hx hT
 by_cases h : F < n
 ·rw [if_pos h] at HI
  go_enter Tryz.func130, Tryz.ntmps130
  go_wp2_with (go_at_call 172; refine HI.out.mono ?_; rintro e W1 ⟨rfl, hb1⟩; have HB1 := Lib.hid hb1; clear hb1)
  go_ret
  exact ⟨rfl, HB1.out⟩
 ·rw [if_neg h] at HI
  obtain rfl : F = n := by omega
  go_enter Tryz.func130, Tryz.ntmps130
  go_wp2_with (go_at_call 172; refine HI.out.mono ?_; rintro e W1 ⟨rfl, hb1⟩; have HB1 := Lib.hid hb1; clear hb1)
  go_ret
  exact ⟨rfl, HB1.out⟩
theorem testT2_any (r : RW) (x : Int) (b : Nat) (w : World) (hx : w.heap[b]? = some (.cells #[.int .i64 x] 3)) :
  Calls Tryz.prog 132 #[r.agg, .pointer (some ⟨b, 0, none⟩)] w fun e w' => e = .returned (.bool (decide (x ≤ r.lo))) ∧ Below w.heap.size w w' := by
 have HB := Hd (Below.refl w.heap.size w)
 have hb := (blkL hx)
 have d0 : w.cell? ⟨b, 0, none⟩ = some (.int .i64 x) := cell_of_row _ _ 0 _ _ _ hx
 clear hx
 obtain ⟨k, lo, hi⟩ := r
 show Calls Tryz.prog 132 #[.agg #[.int .i64 k, .int .i64 lo, .int .i64 hi], .pointer (some ⟨b, 0, none⟩)] w fun e w' => e = .returned (.bool (decide (x ≤ lo))) ∧ Below w.heap.size w w'
 go_enter Tryz.func132, Tryz.ntmps132
 go_wp2
 go_ret
 exact ⟨rfl, HB.out.alloc (Nat.le_refl _) _⟩
theorem indexT2_any (a : Option Addr) (n c : Nat) (t : Nat → RW) (x : Int) (b B : Nat) (w : World) (hBw : B ≤ w.heap.size) (hn : n ≤ 40) (hT : RWs B w a n t) (hx : w.heap[b]? = some (.cells #[.int .i64 x] 3)) :
  Calls Tryz.prog 172 #[.slice a n c, .func (Fn.func 132) #[] #[.pointer (some ⟨b, 0, none⟩)]] w fun e w' => e = .returned (.int .i64 (if fstN n (fun i => decide (x ≤ (t i).lo)) < n then (fstN n (fun i => decide (x ≤ (t i).lo)) : Int) else -1)) ∧ Below w.heap.size w w' := by
 have HC := Hd (fun W (hb : Below w.heap.size w W) i => testT2_any (t i) x b W (blkS hx hb))
 obtain ⟨p, hp⟩ : ∃ p : Nat → Bool, ∀ i, p i = decide (x ≤ (t i).lo) := ⟨_, fun _ => rfl⟩
 have hpp : (fun i => decide (x ≤ (t i).lo)) = p := by funext i; rw [hp]
 rw [hpp]
 simp only [← hp] at HC
 have HF := Hd (fun i (hi : i < n) (hn : ∀ j, j < i → p j = false) (h : p i = true) => show (if fstN n p < n then (fstN n p : Int) else -1) = (i : Int) from by rw [fstN_at hi hn h, if_pos hi])
 have HG := Hd (fun (hn : ∀ j, j < n → p j = false) => show (if fstN n p < n then (fstN n p : Int) else -1) = -1 from by rw [fstN_none hn, if_neg (Nat.lt_irrefl _)])
 have HT := Lib.hid hT
 have HB0 := Hd (Below.refl w.heap.size w)
 generalize (if fstN n p < n then (fstN n p : Int) else -1) = F at *
 clear hx hT hp hpp
 go_enter Tryz.func172, Tryz.ntmps172
 go_wp2
 go_loopw [8] (fun x wr => ∃ i : Nat, i ≤ n ∧ x = .int .i64 (i : Int) ∧ Hid (∀ j, j < i → p j = false) ∧ Hid (Below w.heap.size w wr)) (fun x _ => n - (intOf x).toNat)
 case atStart => exact ⟨0, Nat.zero_le _, rfl, Hd (fun j hj => by omega), HB0⟩
 case round =>
  clear HB0
  obtain ⟨i, hi, rfl, HN, HB0⟩ := hrel
  by_cases hlt : i < n
  ·have hlt' : (i : Int) < (n : Int) := by omega
   obtain ⟨b1, off, rfl, hbB, c0, c1, c2⟩ := (HT.out.below (HB0.out.mono hBw)).get hlt
   have HCi := Hd (HC.out wr HB0.out i)
   obtain ⟨r, hr⟩ : ∃ r, t i = r := ⟨_, rfl⟩
   rw [hr] at HCi c0 c1 c2
   obtain ⟨k, lo, hi'⟩ := r
   unfold RW.agg at HCi
   dsimp only at HCi c0 c1 c2
   clear hr
   cases hpi : p i with
   | true =>
    rw [hpi] at HCi
    have HFi := Hd (HF.out i hlt HN.out hpi)
    clear hpi HC HF HG HN
    go_wp2_with (go_at_call 132; refine HCi.out.mono ?_; rintro e W1 ⟨rfl, hb1⟩; have HB1 := Hd (HB0.out.trans (hb1.mono HB0.out.size)); clear hb1 c0 c1 c2)
    go_ret
    exact ⟨by rw [HFi.out]; rfl, HB1.out⟩
   | false =>
    rw [hpi] at HCi
    have HN2 := Hd (show ∀ j, j < i + 1 → p j = false from fun j hj => by
     by_cases e : j = i
     ·rw [e, hpi]
     ·exact HN.out j (by omega))
    clear hpi HC HF HG HN
    go_wp2_with (go_at_call 132; refine HCi.out.mono ?_; rintro e W1 ⟨rfl, hb1⟩; have HB1 := Hd (HB0.out.trans (hb1.mono HB0.out.size)); clear hb1 c0 c1 c2)
    go_roundw
    case rel => exact ⟨i + 1, by omega, by go_num, HN2, HB1⟩
    case measure => simp [intOf]; omega
  ·obtain rfl : i = n := by omega
   have HGi := Hd (HG.out HN.out)
   clear HC HF HG HN
   go_wp2
   go_ret
   exact ⟨by rw [HGi.out]; rfl, HB0.out⟩
theorem firstT2_any (a : Option Addr) (n c : Nat) (t : Nat → RW) (x : Int) (b B : Nat) (w : World) (hBw : B ≤ w.heap.size) (hn : n ≤ 40) (hT : RWs B w a n t) (hx : w.heap[b]? = some (.cells #[.int .i64 x] 3)) :
  Calls Tryz.prog 130 #[.slice a n c, .func (Fn.func 132) #[] #[.pointer (some ⟨b, 0, none⟩)]] w fun e w' => e = .returned (.int .i64 (fstN n (fun i => decide (x ≤ (t i).lo)) : Int)) ∧ Below w.heap.size w w' := by
 have HI := Hd (indexT2_any a n c t x b B w hBw hn hT hx)
 have hle := fst_le n (fun i => decide (x ≤ (t i).lo))
 generalize fstN n (fun i => decide (x ≤ (t i).lo)) = F at *
 clear hx hT
 by_cases h : F < n
 ·rw [if_pos h] at HI
  go_enter Tryz.func130, Tryz.ntmps130
  go_wp2_with (go_at_call 172; refine HI.out.mono ?_; rintro e W1 ⟨rfl, hb1⟩; have HB1 := Lib.hid hb1; clear hb1)
  go_ret
  exact ⟨rfl, HB1.out⟩
 ·rw [if_neg h] at HI
  obtain rfl : F = n := by omega
  go_enter Tryz.func130, Tryz.ntmps130
  go_wp2_with (go_at_call 172; refine HI.out.mono ?_; rintro e W1 ⟨rfl, hb1⟩; have HB1 := Lib.hid hb1; clear hb1)
  go_ret
  exact ⟨rfl, HB1.out⟩
theorem testA1_any (r : RW) (x : Int) (y : Int) (b : Nat) (w : World) (hx : w.heap[b]? = some (.cells #[.int .i64 x, .int .i64 y] 28)) :
  Calls Tryz.prog 128 #[r.agg, .pointer (some ⟨b, 0, none⟩)] w fun e w' => e = .returned (.bool (decide (x < r.key))) ∧ Below w.heap.size w w' := by
 have HB := Hd (Below.refl w.heap.size w)
 have hb := (blkL hx)
 have d0 : w.cell? ⟨b, 0, none⟩ = some (.int .i64 x) := cell_of_row _ _ 0 _ _ _ hx
 clear hx
 obtain ⟨k, lo, hi⟩ := r
 show Calls Tryz.prog 128 #[.agg #[.int .i64 k, .int .i64 lo, .int .i64 hi], .pointer (some ⟨b, 0, none⟩)] w fun e w' => e = .returned (.bool (decide (x < k))) ∧ Below w.heap.size w w'
 go_enter Tryz.func128, Tryz.ntmps128
 go_wp2
 go_ret
 exact ⟨rfl, HB.out.alloc (Nat.le_refl _) _⟩
theorem indexA1_any (a : Option Addr) (n c : Nat) (t : Nat → RW) (x : Int) (y : Int) (b B : Nat) (w : World) (hBw : B ≤ w.heap.size) (hn : n ≤ 40) (hT : RWs B w a n t) (hx : w.heap[b]? = some (.cells #[.int .i64 x, .int .i64 y] 28)) :
  Calls Tryz.prog 171 #[.slice a n c, .func (Fn.func 128) #[] #[.pointer (some ⟨b, 0, none⟩)]] w fun e w' => e = .returned (.int .i64 (if fstN n (fun i => decide (x < (t i).key)) < n then (fstN n (fun i => decide (x < (t i).key)) : Int) else -1)) ∧ Below w.heap.size w w' := by
 have HC := Hd (fun W (hb : Below w.heap.size w W) i => testA1_any (t i) x y b W (blkS hx hb))
 obtain ⟨p, hp⟩ : ∃ p : Nat → Bool, ∀ i, p i = decide (x < (t i).key) := ⟨_, fun _ => rfl⟩
 have hpp : (fun i => decide (x < (t i).key)) = p := by funext i; rw [hp]
 rw [hpp]
 simp only [← hp] at HC
 have HF := Hd (fun i (hi : i < n) (hn : ∀ j, j < i → p j = false) (h : p i = true) => show (if fstN n p < n then (fstN n p : Int) else -1) = (i : Int) from by rw [fstN_at hi hn h, if_pos hi])
 have HG := Hd (fun (hn : ∀ j, j < n → p j = false) => show (if fstN n p < n then (fstN n p : Int) else -1) = -1 from by rw [fstN_none hn, if_neg (Nat.lt_irrefl _)])
 have HT := Lib.hid hT
 have HB0 := Hd (Below.refl w.heap.size w)
 generalize (if fstN n p < n then (fstN n p : Int) else -1) = F at *
 clear hx hT hp hpp
 go_enter Tryz.func171, Tryz.ntmps171
 go_wp2
 go_loopw [8] (fun x wr => ∃ i : Nat, i ≤ n ∧ x = .int .i64 (i : Int) ∧ Hid (∀ j, j < i → p j = false) ∧ Hid (Below w.heap.size w wr)) (fun x _ => n - (intOf x).toNat)
 case atStart => exact ⟨0, Nat.zero_le _, rfl, Hd (fun j hj => by omega), HB0⟩
 case round =>
  clear HB0
  obtain ⟨i, hi, rfl, HN, HB0⟩ := hrel
  by_cases hlt : i < n
  ·have hlt' : (i : Int) < (n : Int) := by omega
   obtain ⟨b1, off, rfl, hbB, c0, c1, c2⟩ := (HT.out.below (HB0.out.mono hBw)).get hlt
   have HCi := Hd (HC.out wr HB0.out i)
   obtain ⟨r, hr⟩ : ∃ r, t i = r := ⟨_, rfl⟩
   rw [hr] at HCi c0 c1 c2
   obtain ⟨k, lo, hi'⟩ := r
   unfold RW.agg at HCi
   dsimp only at HCi c0 c1 c2
   clear hr
   cases hpi : p i with
   | true =>
    rw [hpi] at HCi
    have HFi := Hd (HF.out i hlt HN.out hpi)
    clear hpi HC HF HG HN
    go_wp2_with (go_at_call 128; refine HCi.out.mono ?_; rintro e W1 ⟨rfl, hb1⟩; have HB1 := Hd (HB0.out.trans (hb1.mono HB0.out.size)); clear hb1 c0 c1 c2)
    go_ret
    exact ⟨by rw [HFi.out]; rfl, HB1.out⟩
   | false =>
    rw [hpi] at HCi
    have HN2 := Hd (show ∀ j, j < i + 1 → p j = false from fun j hj => by
     by_cases e : j = i
     ·rw [e, hpi]
     ·exact HN.out j (by omega))
    clear hpi HC HF HG HN
    go_wp2_with (go_at_call 128; refine HCi.out.mono ?_; rintro e W1 ⟨rfl, hb1⟩; have HB1 := Hd (HB0.out.trans (hb1.mono HB0.out.size)); clear hb1 c0 c1 c2)
    go_roundw
    case rel => exact ⟨i + 1, by omega, by go_num, HN2, HB1⟩
    case measure => simp [intOf]; omega
  ·obtain rfl : i = n := by omega
   have HGi := Hd (HG.out HN.out)
   clear HC HF HG HN
   go_wp2
   go_ret
   exact ⟨by rw [HGi.out]; rfl, HB0.out⟩
theorem firstA1_any (a : Option Addr) (n c : Nat) (t : Nat → RW) (x : Int) (y : Int) (b B : Nat) (w : World) (hBw : B ≤ w.heap.size) (hn : n ≤ 40) (hT : RWs B w a n t) (hx : w.heap[b]? = some (.cells #[.int .i64 x, .int .i64 y] 28)) :
  Calls Tryz.prog 127 #[.slice a n c, .func (Fn.func 128) #[] #[.pointer (some ⟨b, 0, none⟩)]] w fun e w' => e = .returned (.int .i64 (fstN n (fun i => decide (x < (t i).key)) : Int)) ∧ Below w.heap.size w w' := by
 have HI := Hd (indexA1_any a n c t x y b B w hBw hn hT hx)
 have hle := fst_le n (fun i => decide (x < (t i).key))
 generalize fstN n (fun i => decide (x < (t i).key)) = F at *
 clear hx hT
 by_cases h : F < n
 ·rw [if_pos h] at HI
  go_enter Tryz.func127, Tryz.ntmps127
  go_wp2_with (go_at_call 171; refine HI.out.mono ?_; rintro e W1 ⟨rfl, hb1⟩; have HB1 := Lib.hid hb1; clear hb1)
  go_ret
  exact ⟨rfl, HB1.out⟩
 ·rw [if_neg h] at HI
  obtain rfl : F = n := by omega
  go_enter Tryz.func127, Tryz.ntmps127
  go_wp2_with (go_at_call 171; refine HI.out.mono ?_; rintro e W1 ⟨rfl, hb1⟩; have HB1 := Lib.hid hb1; clear hb1)
  go_ret
  exact ⟨rfl, HB1.out⟩
theorem testA2_any (r : RW) (x : Int) (y : Int) (b : Nat) (w : World) (hx : w.heap[b]? = some (.cells #[.int .i64 x, .int .i64 y] 28)) :
  Calls Tryz.prog 129 #[r.agg, .pointer (some ⟨b, 0, none⟩)] w fun e w' => e = .returned (.bool (decide (y ≤ r.key))) ∧ Below w.heap.size w w' := by
 have HB := Hd (Below.refl w.heap.size w)
 have hb := (blkL hx)
 have d0 : w.cell? ⟨b, 1, none⟩ = some (.int .i64 y) := cell_of_row _ _ 1 _ _ _ hx
 clear hx
 obtain ⟨k, lo, hi⟩ := r
 show Calls Tryz.prog 129 #[.agg #[.int .i64 k, .int .i64 lo, .int .i64 hi], .pointer (some ⟨b, 0, none⟩)] w fun e w' => e = .returned (.bool (decide (y ≤ k))) ∧ Below w.heap.size w w'
 go_enter Tryz.func129, Tryz.ntmps129
 go_wp2
 go_ret
 exact ⟨rfl, HB.out.alloc (Nat.le_refl _) _⟩
theorem indexA2_any (a : Option Addr) (n c : Nat) (t : Nat → RW) (x : Int) (y : Int) (b B : Nat) (w : World) (hBw : B ≤ w.heap.size) (hn : n ≤ 40) (hT : RWs B w a n t) (hx : w.heap[b]? = some (.cells #[.int .i64 x, .int .i64 y] 28)) :
  Calls Tryz.prog 171 #[.slice a n c, .func (Fn.func 129) #[] #[.pointer (some ⟨b, 0, none⟩)]] w fun e w' => e = .returned (.int .i64 (if fstN n (fun i => decide (y ≤ (t i).key)) < n then (fstN n (fun i => decide (y ≤ (t i).key)) : Int) else -1)) ∧ Below w.heap.size w w' := by
 have HC := Hd (fun W (hb : Below w.heap.size w W) i => testA2_any (t i) x y b W (blkS hx hb))
 obtain ⟨p, hp⟩ : ∃ p : Nat → Bool, ∀ i, p i = decide (y ≤ (t i).key) := ⟨_, fun _ => rfl⟩
 have hpp : (fun i => decide (y ≤ (t i).key)) = p := by funext i; rw [hp]
 rw [hpp]
 simp only [← hp] at HC
 have HF := Hd (fun i (hi : i < n) (hn : ∀ j, j < i → p j = false) (h : p i = true) => show (if fstN n p < n then (fstN n p : Int) else -1) = (i : Int) from by rw [fstN_at hi hn h, if_pos hi])
 have HG := Hd (fun (hn : ∀ j, j < n → p j = false) => show (if fstN n p < n then (fstN n p : Int) else -1) = -1 from by rw [fstN_none hn, if_neg (Nat.lt_irrefl _)])
 have HT := Lib.hid hT
 have HB0 := Hd (Below.refl w.heap.size w)
 generalize (if fstN n p < n then (fstN n p : Int) else -1) = F at *
 clear hx hT hp hpp
 go_enter Tryz.func171, Tryz.ntmps171
 go_wp2
 go_loopw [8] (fun x wr => ∃ i : Nat, i ≤ n ∧ x = .int .i64 (i : Int) ∧ Hid (∀ j, j < i → p j = false) ∧ Hid (Below w.heap.size w wr)) (fun x _ => n - (intOf x).toNat)
 case atStart => exact ⟨0, Nat.zero_le _, rfl, Hd (fun j hj => by omega), HB0⟩
 case round =>
  clear HB0
  obtain ⟨i, hi, rfl, HN, HB0⟩ := hrel
  by_cases hlt : i < n
  ·have hlt' : (i : Int) < (n : Int) := by omega
   obtain ⟨b1, off, rfl, hbB, c0, c1, c2⟩ := (HT.out.below (HB0.out.mono hBw)).get hlt
   have HCi := Hd (HC.out wr HB0.out i)
   obtain ⟨r, hr⟩ : ∃ r, t i = r := ⟨_, rfl⟩
   rw [hr] at HCi c0 c1 c2
   obtain ⟨k, lo, hi'⟩ := r
   unfold RW.agg at HCi
   dsimp only at HCi c0 c1 c2
   clear hr
   cases hpi : p i with
   | true =>
    rw [hpi] at HCi
    have HFi := Hd (HF.out i hlt HN.out hpi)
    clear hpi HC HF HG HN
    go_wp2_with (go_at_call 129; refine HCi.out.mono ?_; rintro e W1 ⟨rfl, hb1⟩; have HB1 := Hd (HB0.out.trans (hb1.mono HB0.out.size)); clear hb1 c0 c1 c2)
    go_ret
    exact ⟨by rw [HFi.out]; rfl, HB1.out⟩
   | false =>
    rw [hpi] at HCi
    have HN2 := Hd (show ∀ j, j < i + 1 → p j = false from fun j hj => by
     by_cases e : j = i
     ·rw [e, hpi]
     ·exact HN.out j (by omega))
    clear hpi HC HF HG HN
    go_wp2_with (go_at_call 129; refine HCi.out.mono ?_; rintro e W1 ⟨rfl, hb1⟩; have HB1 := Hd (HB0.out.trans (hb1.mono HB0.out.size)); clear hb1 c0 c1 c2)
    go_roundw
    case rel => exact ⟨i + 1, by omega, by go_num, HN2, HB1⟩
    case measure => simp [intOf]; omega
  ·obtain rfl : i = n := by omega
   have HGi := Hd (HG.out HN.out)
   clear HC HF HG HN
   go_wp2
   go_ret
   exact ⟨by rw [HGi.out]; rfl, HB0.out⟩
theorem firstA2_any (a : Option Addr) (n c : Nat) (t : Nat → RW) (x : Int) (y : Int) (b B : Nat) (w : World) (hBw : B ≤ w.heap.size) (hn : n ≤ 40) (hT : RWs B w a n t) (hx : w.heap[b]? = some (.cells #[.int .i64 x, .int .i64 y] 28)) :
  Calls Tryz.prog 127 #[.slice a n c, .func (Fn.func 129) #[] #[.pointer (some ⟨b, 0, none⟩)]] w fun e w' => e = .returned (.int .i64 (fstN n (fun i => decide (y ≤ (t i).key)) : Int)) ∧ Below w.heap.size w w' := by
 have HI := Hd (indexA2_any a n c t x y b B w hBw hn hT hx)
 have hle := fst_le n (fun i => decide (y ≤ (t i).key))
 generalize fstN n (fun i => decide (y ≤ (t i).key)) = F at *
 clear hx hT
 by_cases h : F < n
 ·rw [if_pos h] at HI
  go_enter Tryz.func127, Tryz.ntmps127
  go_wp2_with (go_at_call 171; refine HI.out.mono ?_; rintro e W1 ⟨rfl, hb1⟩; have HB1 := Lib.hid hb1; clear hb1)
  go_ret
  exact ⟨rfl, HB1.out⟩
 ·rw [if_neg h] at HI
  obtain rfl : F = n := by omega
  go_enter Tryz.func127, Tryz.ntmps127
  go_wp2_with (go_at_call 171; refine HI.out.mono ?_; rintro e W1 ⟨rfl, hb1⟩; have HB1 := Lib.hid hb1; clear hb1)
  go_ret
  exact ⟨rfl, HB1.out⟩
end Go.Proofs.YtgmpelhphnmknaaGreat
namespace Go.Proofs.YtgmpelhphnmknaaGreat
open Go.RowKit
structure Ob (w W : World) (o : Obj) (lo hi : Int) : Prop where
 arg : W.heap[w.heap.size]? = some o
 res : W.heap[w.heap.size + 1]? = some (.cells #[.int .i64 0, .int .i64 0] 28)
 out : W.heap[w.heap.size + 1 + 1]? = some (.cells #[.int .i64 lo, .int .i64 hi] 28)
 below : Below w.heap.size w W
theorem Ob.lt {w W : World} {o : Obj} {lo hi : Int} (h : Ob w W o lo hi) : w.heap.size + 3 ≤ W.heap.size := by
 have := (blkL h.out)
 omega
theorem Ob.step {w W W' : World} {o : Obj} {lo hi : Int} (h : Ob w W o lo hi) (hb : Below W.heap.size W W') : Ob w W' o lo hi := by
 have hl := h.lt
 exact ⟨(hb.block _ (by omega)).trans h.arg, (hb.block _ (by omega)).trans h.res, (hb.block _ (by omega)).trans h.out, h.below.trans (hb.mono (by omega))⟩
theorem Ob.set {w W : World} {o : Obj} {lo hi : Int} (h : Ob w W o lo hi) (j : Nat) (v : Int) (hj : j < 2) : Ob w (W.setCell ⟨w.heap.size + 1 + 1, j, none⟩ (.int .i64 v)) o (if j = 0 then v else lo) (if j = 1 then v else hi) := by
 refine ⟨(heap_setCell_other W ⟨w.heap.size + 1 + 1, j, none⟩ _ _ (by dsimp only; omega)).trans h.arg, (heap_setCell_other W ⟨w.heap.size + 1 + 1, j, none⟩ _ _ (by dsimp only; omega)).trans h.res, ?_, h.below.setCell (by dsimp only; omega) _⟩
 have := heap_setCell_same W _ j _ _ (.int .i64 v) h.out
 rw [this]
 rcases Nat.lt_or_ge 0 j with h1 | h1
 ·obtain rfl : j = 1 := by omega
  rfl
 ·obtain rfl : j = 0 := by omega
  rfl
theorem Ob.start (w : World) (o : Obj) (lo hi : Int) : Ob w (((w.alloc o).alloc (.cells #[.int .i64 0, .int .i64 0] 28)).alloc (.cells #[.int .i64 lo, .int .i64 hi] 28)) o lo hi := by
 have hB : Below w.heap.size w (((w.alloc o).alloc (.cells #[.int .i64 0, .int .i64 0] 28)).alloc (.cells #[.int .i64 lo, .int .i64 hi] 28)) := (((Below.refl _ _).alloc (Nat.le_refl _) _).alloc (by simp) _).alloc (by simp; omega) _
 refine ⟨?_, ?_, ?_, hB⟩
 ·rw [Below.heap_alloc _ _ _ (by simp; omega), Below.heap_alloc _ _ _ (by simp)]; exact heap_alloc_new w o
 ·rw [Below.heap_alloc _ _ _ (by simp)]
  have := heap_alloc_new (w.alloc o) (.cells #[.int .i64 0, .int .i64 0] 28)
  rw [show (w.alloc o).heap.size = w.heap.size + 1 from by simp] at this
  exact this
 ·have := heap_alloc_new ((w.alloc o).alloc (.cells #[.int .i64 0, .int .i64 0] 28)) (.cells #[.int .i64 lo, .int .i64 hi] 28)
  rw [show ((w.alloc o).alloc (.cells #[.int .i64 0, .int .i64 0] 28)).heap.size = w.heap.size + 1 + 1 from by simp] at this
  exact this
theorem Ob.ret {w W : World} {o : Obj} {lo hi : Int} (h : Ob w W o lo hi) : ((W.setCell ⟨w.heap.size + 1, 0, none⟩ (.int .i64 lo)).setCell ⟨w.heap.size + 1, 1, none⟩ (.int .i64 hi)).cell? ⟨w.heap.size + 1, 0, none⟩ = some (.int .i64 lo) ∧ ((W.setCell ⟨w.heap.size + 1, 0, none⟩ (.int .i64 lo)).setCell ⟨w.heap.size + 1, 1, none⟩ (.int .i64 hi)).cell? ⟨w.heap.size + 1, 1, none⟩ = some (.int .i64 hi) ∧ Below w.heap.size w ((W.setCell ⟨w.heap.size + 1, 0, none⟩ (.int .i64 lo)).setCell ⟨w.heap.size + 1, 1, none⟩ (.int .i64 hi)) := by
 have hrow := heap_setCell_same _ _ 1 _ _ (.int .i64 hi) (heap_setCell_same W _ 0 _ _ (.int .i64 lo) h.res)
 exact ⟨cell_of_row _ _ 0 _ _ _ hrow, cell_of_row _ _ 1 _ _ _ hrow, (h.below.setCell (by dsimp only; omega) _).setCell (by dsimp only; omega) _⟩
theorem thtail_ToFlxD {P : Prop} (h : P := by (((obtain ⟨o0, o1⟩ := fr2 HO2.out.out; obtain ⟨p0, p1⟩ := cr2 HO2.out.out; obtain ⟨r0, r1⟩ := cr2 HO2.out.res; obtain ⟨s0, s1⟩ := fr2 HO2.out.res; simp only [hnq] at p0 p1 r0 r1); go_upto_region 8 with (fail); have HO3 := Hd (show Ob w (V2.setCell ⟨w.heap.size + 1 + 1, 1, none⟩ (.int .i64 (-1))) (.cells #[.int .i64 x] 3) LO (-1) from HO2.out.set 1 (-1) (by omega)); clear o0 o1 p0 p1 r0 r1 s0 s1; generalize World.setCell V2 _ _ = V3 at *; go_upto_region 9 with (go_at_call 130; refine (HC2.out _ _ _ HO3.out).mono ?_; rintro e W3 ⟨rfl, hb3⟩; have HO4 := Hd (HO3.out.step hb3); clear hb3); clear HC2 HO3; rcases Nat.lt_or_ge F2 n with h2 | h2; (focus (rw [if_pos h2] at HH; obtain ⟨b2, off2, hb2, hbB2, c2, _, _⟩ := (HT.out.below (HO4.out.below.mono hBw)).get h2; cases hb2; have hk2 := HOK.out F2 h2; have hF2 : (F2 : Int) < (n : Int) := (by omega); obtain ⟨k2, hk22⟩ : ∃ k2, (t F2).key = k2 := ⟨_, rfl⟩; rw [hk22] at hk2 HH c2; clear hk22; (obtain ⟨o0, o1⟩ := fr2 HO4.out.out; obtain ⟨p0, p1⟩ := cr2 HO4.out.out; obtain ⟨r0, r1⟩ := cr2 HO4.out.res; obtain ⟨s0, s1⟩ := fr2 HO4.out.res; simp only [hnq] at p0 p1 r0 r1); go_upto_region 11 with (fail); have HO5 := Hd (show Ob w (W3.setCell ⟨w.heap.size + 1 + 1, 1, none⟩ (.int .i64 k2)) (.cells #[.int .i64 x] 3) LO HI from (by rw [HH.out]; exact HO4.out.set 1 k2 (by omega))); clear o0 o1 p0 p1 r0 r1 s0 s1 c2 HO4; generalize World.setCell W3 _ _ = V4 at *; (have HR := Lib.hid HO5.out.ret; (obtain ⟨o0, o1⟩ := fr2 HO5.out.out; obtain ⟨p0, p1⟩ := cr2 HO5.out.out; obtain ⟨r0, r1⟩ := cr2 HO5.out.res; obtain ⟨s0, s1⟩ := fr2 HO5.out.res; simp only [hnq] at p0 p1 r0 r1); go_wp2; (try simp only [hz0]); generalize World.setCell (World.setCell _ _ _) _ _ = Z at *; obtain ⟨q0, q1, hB⟩ := HR.out; exact bodyPost_ret (v := .agg #[.int .i64 LO, .int .i64 HI]) (by simp [results, Tryz.results87, go_sem, q0, q1]) rfl ⟨rfl, hB⟩))); (rw [if_neg (by omega)] at HH; have hF2 : ¬ (F2 : Int) < (n : Int) := (by omega); have HO5 := Hd (show Ob w W3 (.cells #[.int .i64 x] 3) LO HI from (by rw [HH.out]; exact HO4.out)); clear HO4; (have HR := Lib.hid HO5.out.ret; (obtain ⟨o0, o1⟩ := fr2 HO5.out.out; obtain ⟨p0, p1⟩ := cr2 HO5.out.out; obtain ⟨r0, r1⟩ := cr2 HO5.out.res; obtain ⟨s0, s1⟩ := fr2 HO5.out.res; simp only [hnq] at p0 p1 r0 r1); go_wp2; (try simp only [hz0]); generalize World.setCell (World.setCell _ _ _) _ _ = Z at *; obtain ⟨q0, q1, hB⟩ := HR.out; exact bodyPost_ret (v := .agg #[.int .i64 LO, .int .i64 HI]) (by simp [results, Tryz.results87, go_sem, q0, q1]) rfl ⟨rfl, hB⟩))))) : P := h
theorem threshold_any (a : Option Addr) (n c : Nat) (t : Nat → RW) (x : Int) (B : Nat) (w : World) (hBw : B ≤ w.heap.size) (hn : n ≤ 40) (hT : RWs B w a n t) (hok : ∀ i, i < n → (t i).key ≤ 1000000 ∧ 1 ≤ (t i).key) :
  Calls Tryz.prog 87 #[.slice a n c, .int .i64 x] w fun e w' => e = .returned (spV (thrLo n t x) (thrHi n t x)) ∧ Below w.heap.size w w' := by
 have HO := Hd (Ob.start w (.cells #[.int .i64 x] 3) 1 1)
 have HT := Lib.hid hT
 have HOK := Lib.hid hok
 have hl1 := fst_le n (fun i => decide (x ≤ (t i).hi))
 have hl2 := fst_le n (fun i => decide (x ≤ (t i).lo))
 unfold spV
 by_cases hx : x = 0
 ·have HE := Hd (show thrLo n t x = 1 ∧ thrHi n t x = 1 from by unfold thrLo thrHi; rw [if_pos hx, if_pos hx]; exact ⟨rfl, rfl⟩)
  rw [HE.out.1, HE.out.2]
  clear hl1 hl2 hok hT HE
  subst hx
  go_enter Tryz.func87, Tryz.ntmps87
  go_upto_region 2 with (fail)
  generalize World.alloc (World.alloc (World.alloc w _) _) _ = V at *
  have a0 := cell_of_row _ _ 0 _ _ _ HO.out.arg
  simp only [List.getElem?_toArray, List.getElem?_cons_zero] at a0
  (obtain ⟨o0, o1⟩ := fr2 HO.out.out; obtain ⟨p0, p1⟩ := cr2 HO.out.out; obtain ⟨r0, r1⟩ := cr2 HO.out.res; obtain ⟨s0, s1⟩ := fr2 HO.out.res; simp only [hnq] at p0 p1 r0 r1)
  have HR := Lib.hid HO.out.ret
  go_wp2
  generalize World.setCell (World.setCell V _ _) _ _ = Z at *
  obtain ⟨q0, q1, hB⟩ := HR.out
  exact bodyPost_ret (v := .agg #[.int .i64 1, .int .i64 1]) (by simp [results, Tryz.results87, go_sem, q0, q1]) rfl ⟨rfl, hB⟩
 ·have hx2 : (x == 0) = false := by rw [beq_eq_false_iff_ne]; exact hx
  have HL := Hd (show thrLo n t x = if 0 < fstN n (fun i => decide (x ≤ (t i).hi)) then (t (fstN n (fun i => decide (x ≤ (t i).hi)) - 1)).key + 1 else 1 from by unfold thrLo; rw [if_neg hx])
  have HH := Hd (show thrHi n t x = if fstN n (fun i => decide (x ≤ (t i).lo)) < n then (t (fstN n (fun i => decide (x ≤ (t i).lo)))).key else -1 from by unfold thrHi; rw [if_neg hx])
  have HC1 := Hd (fun (W : World) (h : Ob w W (.cells #[.int .i64 x] 3) 1 1) => firstT1_any a n c t x w.heap.size B W (by have := h.lt; omega) hn (hT.below (h.below.mono hBw)) h.arg)
  have HC2 := Hd (fun (W : World) lo hi (h : Ob w W (.cells #[.int .i64 x] 3) lo hi) => firstT2_any a n c t x w.heap.size B W (by have := h.lt; omega) hn (hT.below (h.below.mono hBw)) h.arg)
  generalize thrLo n t x = LO at *
  generalize thrHi n t x = HI at *
  generalize fstN n (fun i => decide (x ≤ (t i).hi)) = F1 at *
  generalize fstN n (fun i => decide (x ≤ (t i).lo)) = F2 at *
  clear hx hok hT
  have hmf : ∀ (fn : Fn) (first cap : Array Value) (w : World), (Instr.makeFunc fn first cap).run Tryz.prog w = .ok (.func fn first cap) w := fun _ _ _ _ => rfl
  go_enter Tryz.func87, Tryz.ntmps87
  go_upto_region 2 with (fail)
  generalize World.alloc (World.alloc (World.alloc w _) _) _ = V at *
  have a0 := cell_of_row _ _ 0 _ _ _ HO.out.arg
  simp only [List.getElem?_toArray, List.getElem?_cons_zero] at a0
  go_upto_region 5 with (go_at_call 130; refine (HC1.out _ HO.out).mono ?_; rintro e W1 ⟨rfl, hb1⟩; have HO1 := Hd (HO.out.step hb1); clear hb1)
  clear a0 HO HC1
  by_cases h1 : 0 < F1
  ·rw [if_pos h1] at HL
   obtain ⟨j, rfl⟩ : ∃ j, F1 = j + 1 := ⟨F1 - 1, by omega⟩
   obtain ⟨b, off, rfl, hbB, c0, _, _⟩ := (HT.out.below (HO1.out.below.mono hBw)).get (i := j) (by omega)
   have hk := HOK.out j (by omega)
   rw [show j + 1 - 1 = j from rfl] at HL
   have hcast : ((j + 1 : Nat) : Int) = (j : Int) + 1 := by omega
   have hjn : (j : Int) < (n : Int) := by omega
   generalize (t j).key = k at *
   (obtain ⟨o0, o1⟩ := fr2 HO1.out.out; obtain ⟨p0, p1⟩ := cr2 HO1.out.out; obtain ⟨r0, r1⟩ := cr2 HO1.out.res; obtain ⟨s0, s1⟩ := fr2 HO1.out.res; simp only [hnq] at p0 p1 r0 r1)
   go_upto_region 7 with (fail)
   have HO2 := Hd (show Ob w (W1.setCell ⟨w.heap.size + 1 + 1, 0, none⟩ (.int .i64 (k + 1))) (.cells #[.int .i64 x] 3) LO 1 from by rw [HL.out]; exact HO1.out.set 0 (k + 1) (by omega))
   clear o0 o1 p0 p1 r0 r1 s0 s1 c0 HO1
   generalize World.setCell W1 _ _ = V2 at *
   exact thtail_ToFlxD
  ·rw [if_neg h1] at HL
   have HO2 := Hd (show Ob w W1 (.cells #[.int .i64 x] 3) LO 1 from by rw [HL.out]; exact HO1.out)
   clear HO1
   obtain rfl : F1 = 0 := by omega
   have hz0 : ((0 : Nat) : Int) = 0 := rfl
   generalize W1 = V2 at *
   exact thtail_ToFlxD
theorem abtail1_ToFlxD {P : Prop} (h : P := by ((have a1 := cell_of_row _ _ 1 _ _ _ HO2.out.arg; simp only [hnq] at a1; by_cases hy : y = -1; (focus (have hy2 : (y == -1) = true := (by simp [hy]); rw [if_pos hy] at HH; have HO5 := Hd (show Ob w V2 (.cells #[.int .i64 x, .int .i64 y] 28) LO HI from (by have := HO2.out; rw [HH.out]; exact this)); clear HC2; subst hy; (have HR := Lib.hid HO5.out.ret; (obtain ⟨o0, o1⟩ := fr2 HO5.out.out; obtain ⟨p0, p1⟩ := cr2 HO5.out.out; obtain ⟨r0, r1⟩ := cr2 HO5.out.res; obtain ⟨s0, s1⟩ := fr2 HO5.out.res; simp only [hnq] at p0 p1 r0 r1); go_wp2; generalize World.setCell (World.setCell _ _ _) _ _ = Z at *; obtain ⟨q0, q1, hB⟩ := HR.out; exact bodyPost_ret (v := .agg #[.int .i64 LO, .int .i64 HI]) (by simp [results, Tryz.results86, go_sem, q0, q1]) rfl ⟨rfl, hB⟩))); have hy2 : (y == -1) = false := (by rw [beq_eq_false_iff_ne]; exact hy); rw [if_neg hy] at HH; go_upto_region 8 with (go_at_call 127; refine (HC2.out _ _ _ HO2.out).mono ?_; rintro e W3 ⟨rfl, hb3⟩; have HO4 := Hd (HO2.out.step hb3); clear hb3); clear HC2 a1 HO2; rcases Nat.lt_or_ge F2 n with h2 | h2; (focus (rw [if_pos h2] at HH; obtain ⟨b2, off2, hb2, hbB2, _, c2, _⟩ := (HT.out.below (HO4.out.below.mono hBw)).get h2; cases hb2; have hF2 : (F2 : Int) < (n : Int) := (by omega); obtain ⟨k2, hk22⟩ : ∃ k2, (t F2).lo = k2 := ⟨_, rfl⟩; rw [hk22] at HH c2; clear hk22; (obtain ⟨o0, o1⟩ := fr2 HO4.out.out; obtain ⟨p0, p1⟩ := cr2 HO4.out.out; obtain ⟨r0, r1⟩ := cr2 HO4.out.res; obtain ⟨s0, s1⟩ := fr2 HO4.out.res; simp only [hnq] at p0 p1 r0 r1); go_upto_region 10 with (fail); have HO5 := Hd (show Ob w (W3.setCell ⟨w.heap.size + 1 + 1, 0, none⟩ (.int .i64 k2)) (.cells #[.int .i64 x, .int .i64 y] 28) LO HI from (by rw [HH.out]; exact HO4.out.set 0 k2 (by omega))); clear o0 o1 p0 p1 r0 r1 s0 s1 c2 HO4; generalize World.setCell W3 _ _ = V4 at *; (have HR := Lib.hid HO5.out.ret; (obtain ⟨o0, o1⟩ := fr2 HO5.out.out; obtain ⟨p0, p1⟩ := cr2 HO5.out.out; obtain ⟨r0, r1⟩ := cr2 HO5.out.res; obtain ⟨s0, s1⟩ := fr2 HO5.out.res; simp only [hnq] at p0 p1 r0 r1); go_wp2; generalize World.setCell (World.setCell _ _ _) _ _ = Z at *; obtain ⟨q0, q1, hB⟩ := HR.out; exact bodyPost_ret (v := .agg #[.int .i64 LO, .int .i64 HI]) (by simp [results, Tryz.results86, go_sem, q0, q1]) rfl ⟨rfl, hB⟩))); (rw [if_neg (by omega)] at HH; have hF2 : ¬ (F2 : Int) < (n : Int) := (by omega); have HO5 := Hd (show Ob w W3 (.cells #[.int .i64 x, .int .i64 y] 28) LO HI from (by rw [HH.out]; exact HO4.out)); clear HO4; (have HR := Lib.hid HO5.out.ret; (obtain ⟨o0, o1⟩ := fr2 HO5.out.out; obtain ⟨p0, p1⟩ := cr2 HO5.out.out; obtain ⟨r0, r1⟩ := cr2 HO5.out.res; obtain ⟨s0, s1⟩ := fr2 HO5.out.res; simp only [hnq] at p0 p1 r0 r1); go_wp2; generalize World.setCell (World.setCell _ _ _) _ _ = Z at *; obtain ⟨q0, q1, hB⟩ := HR.out; exact bodyPost_ret (v := .agg #[.int .i64 LO, .int .i64 HI]) (by simp [results, Tryz.results86, go_sem, q0, q1]) rfl ⟨rfl, hB⟩))))) : P := h
theorem above_any (a : Option Addr) (n c : Nat) (t : Nat → RW) (x y : Int) (B : Nat) (w : World) (hBw : B ≤ w.heap.size) (hn : 1 ≤ n ∧ n ≤ 40) (hT : RWs B w a n t) :
  Calls Tryz.prog 86 #[.slice a n c, .agg #[.int .i64 x, .int .i64 y]] w fun e w' => e = .returned (spV (abvLo n t y) (abvHi n t x)) ∧ Below w.heap.size w w' := by
 have HO := Hd (Ob.start w (.cells #[.int .i64 x, .int .i64 y] 28) 0 (t 0).hi)
 have HT := Lib.hid hT
 have hl1 := fst_le n (fun i => decide (x < (t i).key))
 have hl2 := fst_le n (fun i => decide (y ≤ (t i).key))
 unfold spV
 have HL := Hd (show abvHi n t x = if 0 < fstN n (fun i => decide (x < (t i).key)) then (t (fstN n (fun i => decide (x < (t i).key)) - 1)).hi else (t 0).hi from rfl)
 have HH := Hd (show abvLo n t y = if y = -1 then 0 else if fstN n (fun i => decide (y ≤ (t i).key)) < n then (t (fstN n (fun i => decide (y ≤ (t i).key)))).lo else 0 from rfl)
 have HC1 := Hd (fun (W : World) lo hi (h : Ob w W (.cells #[.int .i64 x, .int .i64 y] 28) lo hi) => firstA1_any a n c t x y w.heap.size B W (by have := h.lt; omega) hn.2 (hT.below (h.below.mono hBw)) h.arg)
 have HC2 := Hd (fun (W : World) lo hi (h : Ob w W (.cells #[.int .i64 x, .int .i64 y] 28) lo hi) => firstA2_any a n c t x y w.heap.size B W (by have := h.lt; omega) hn.2 (hT.below (h.below.mono hBw)) h.arg)
 generalize abvHi n t x = HI at *
 generalize abvLo n t y = LO at *
 generalize fstN n (fun i => decide (x < (t i).key)) = F1 at *
 generalize fstN n (fun i => decide (y ≤ (t i).key)) = F2 at *
 have hmf : ∀ (fn : Fn) (first cap : Array Value) (w : World), (Instr.makeFunc fn first cap).run Tryz.prog w = .ok (.func fn first cap) w := fun _ _ _ _ => rfl
 have hbox2 : Below B w ((w.alloc (.cells #[.int .i64 x, .int .i64 y] 28)).alloc (.cells #[.int .i64 0, .int .i64 0] 28)) := ((Below.refl _ _).alloc hBw _).alloc (by simp; omega) _
 obtain ⟨b, off, rfl, hbB, _, _, c0⟩ := (hT.below hbox2).get (i := 0) (by omega)
 have hn0 : (0 : Int) < (n : Int) := by omega
 rw [Nat.zero_mul, Nat.add_zero] at c0
 obtain ⟨z0, hz0⟩ : ∃ z0, (t 0).hi = z0 := ⟨_, rfl⟩
 rw [hz0] at HO HL c0
 clear hT hbox2 hz0
 go_enter Tryz.func86, Tryz.ntmps86
 go_upto_region 2 with (fail)
 generalize World.alloc (World.alloc (World.alloc w _) _) _ = V at *
 clear c0
 go_upto_region 3 with (go_at_call 127; refine (HC1.out _ _ _ HO.out).mono ?_; rintro e W1 ⟨rfl, hb1⟩; have HO1 := Hd (HO.out.step hb1); clear hb1)
 clear HO HC1
 by_cases h1 : 0 < F1
 ·rw [if_pos h1] at HL
  obtain ⟨j, rfl⟩ : ∃ j, F1 = j + 1 := ⟨F1 - 1, by omega⟩
  obtain ⟨b3, off3, hb3, _, _, _, c1⟩ := (HT.out.below (HO1.out.below.mono hBw)).get (i := j) (by omega)
  cases hb3
  rw [show j + 1 - 1 = j from rfl] at HL
  have hcast : ((j + 1 : Nat) : Int) = (j : Int) + 1 := by omega
  have hjn : (j : Int) < (n : Int) := by omega
  obtain ⟨k, hk⟩ : ∃ k, (t j).hi = k := ⟨_, rfl⟩
  rw [hk] at HL c1
  clear hk
  (obtain ⟨o0, o1⟩ := fr2 HO1.out.out; obtain ⟨p0, p1⟩ := cr2 HO1.out.out; obtain ⟨r0, r1⟩ := cr2 HO1.out.res; obtain ⟨s0, s1⟩ := fr2 HO1.out.res; simp only [hnq] at p0 p1 r0 r1)
  go_upto_region 5 with (fail)
  have HO2 := Hd (show Ob w (W1.setCell ⟨w.heap.size + 1 + 1, 1, none⟩ (.int .i64 k)) (.cells #[.int .i64 x, .int .i64 y] 28) 0 HI from by rw [HL.out]; exact HO1.out.set 1 k (by omega))
  clear o0 o1 p0 p1 r0 r1 s0 s1 c1 HO1
  generalize World.setCell W1 _ _ = V2 at *
  exact abtail1_ToFlxD
 ·rw [if_neg h1] at HL
  have HO2 := Hd (show Ob w W1 (.cells #[.int .i64 x, .int .i64 y] 28) 0 HI from by rw [HL.out]; exact HO1.out)
  clear HO1
  obtain rfl : F1 = 0 := by omega
  have hz0 : ((0 : Nat) : Int) = 0 := rfl
  generalize W1 = V2 at *
  exact abtail1_ToFlxD
end Go.Proofs.YtgmpelhphnmknaaGreat
namespace Go.Proofs.YtgmpelhphnmknaaGreat
open Go.RowKit
structure SK where
 P : Int
 ba : Option Addr
 bn : Nat
 bc : Nat
 be0 : Int
 be1 : Int
 al0 : Int
 al1 : Int
 la : Nat → Option Addr
 ln : Nat → Nat
 lc : Nat → Nat
 l : Nat → Nat → RW
def SK.cells (s : SK) : Array Value := #[.int .i64 s.P, .slice s.ba s.bn s.bc, .int .i64 s.be0, .int .i64 s.be1, .int .i64 s.al0, .int .i64 s.al1]
structure SK.mem (s : SK) (B : Nat) (W : World) : Prop where
 bins : s.bn = 0 ∨ ∃ b off, s.ba = some ⟨b, off, none⟩ ∧ b < B ∧ ∀ i, i < s.bn → W.cell? ⟨b, off + i, none⟩ = some (.slice (s.la i) (s.ln i) (s.lc i))
 rows : ∀ i, i < s.bn → RWs B W (s.la i) (s.ln i) (s.l i)
theorem SK.mem.below {s : SK} {B : Nat} {w w' : World} (h : s.mem B w) (hb : Below B w w') : s.mem B w' := by
 refine ⟨?_, fun i hi => (h.rows i hi).below hb⟩
 rcases h.bins with h | ⟨b, off, ha, hB, hc⟩
 ·exact .inl h
 ·exact .inr ⟨b, off, ha, hB, fun i hi => ((bcell hb).1 _ _ hB).trans (hc i hi)⟩
theorem SK.mem.get {s : SK} {B : Nat} {w : World} (h : s.mem B w) {i : Nat} (hi : i < s.bn) : ∃ b off, s.ba = some ⟨b, off, none⟩ ∧ b < B ∧ w.cell? ⟨b, off + i, none⟩ = some (.slice (s.la i) (s.ln i) (s.lc i)) := by
 rcases h.bins with h | ⟨b, off, ha, hB, hc⟩
 ·omega
 ·exact ⟨b, off, ha, hB, hc i hi⟩
structure SK.ok (s : SK) : Prop where
 parts : 2 ≤ s.P ∧ s.P ≤ 1000000
 bins : 1 ≤ s.bn ∧ s.bn ≤ 20
 beta : -100 ≤ s.be0 ∧ s.be0 ≤ s.be1 ∧ s.be1 ≤ 100
 alpha : -100 ≤ s.al0 ∧ s.al0 ≤ s.al1 ∧ s.al1 ≤ 100
 rows : ∀ i, i < s.bn → s.ln i ≤ 40 ∧ BinOk s.P (s.ln i) (s.l i) ∧ ∀ j, j < s.ln i → 1 ≤ (s.l i j).key ∧ (s.l i j).key ≤ 1000000
theorem ranged_any (a : Option Addr) (n c : Nat) (t : Nat → RW) (B : Nat) (w : World) (hBw : B ≤ w.heap.size) (hT : RWs B w a n t) (hn : n ≤ 40) (ht : TabOk n t) :
  Calls Tryz.prog 80 #[.slice a n c] w fun e w' => e = .returned (.bool true) ∧ Below w.heap.size w w' := by
 have HM := Hd (monotoneR_any a n c t 1000000 B w hBw hT ⟨ht.pos, hn⟩ ht.key ht.span ht.up)
 clear hT ht
 go_enter Tryz.func80, Tryz.ntmps80
 go_wp2_with (go_at_call 122; refine HM.out.mono ?_; rintro e W1 ⟨rfl, hb1⟩; have HB := Lib.hid hb1; clear hb1)
 go_ret
 exact ⟨rfl, HB.out⟩
theorem withinB_true {a b c : Int} (h1 : b ≤ a) (h2 : a ≤ c) : withinB a b c = true := by unfold withinB; rw [decide_eq_true h1, decide_eq_true h2]; rfl
theorem skied_any (s : SK) (B : Nat) (w : World) (hBw : B ≤ w.heap.size) (hS : s.mem B w) (hO : s.ok) :
  Calls Tryz.prog 79 #[.agg s.cells] w fun e w' => e = .returned (.bool true) ∧ Below w.heap.size w w' := by
 have HS := Lib.hid hS
 have HB0 := Hd (show Below w.heap.size w (w.alloc (.cells s.cells 30)) from (Below.refl _ _).alloc (Nat.le_refl _) _)
 have HX := Hd (show (w.alloc (.cells s.cells 30)).heap[w.heap.size]? = some (.cells s.cells 30) from heap_alloc_new w _)
 have HM := Hd (fun (W : World) (hb : Below w.heap.size w W) i (hi : i < s.bn) => monotoneF_any (s.la i) (s.ln i) (s.lc i) (s.l i) s.P B W (by have := hb.size; omega) ((hS.rows i hi).below (hb.mono hBw)) ⟨(hO.rows i hi).2.1.pos, (hO.rows i hi).1⟩ (hO.rows i hi).2.2 (hO.rows i hi).2.1.span (hO.rows i hi).2.1.down)
 have HONE := Hd (fun i (hi : i < s.bn) => show 1 ≤ s.ln i ∧ (s.l i 0).key = 1 from ⟨(hO.rows i hi).2.1.pos, (hO.rows i hi).2.1.one⟩)
 have HW1 := Hd (withinB_true hO.parts.1 hO.parts.2)
 have HW2 := Hd (show withinB (s.bn : Int) 1 20 = true from withinB_true (by have := hO.bins; omega) (by have := hO.bins; omega))
 have HS1 := Hd (fspanB_true hO.beta)
 have HS2 := Hd (fspanB_true hO.alpha)
 have hbn := hO.bins.2
 clear hS hO
 obtain ⟨P, ba, bn, bc, be0, be1, al0, al1, la, ln, lc, l⟩ := s
 unfold SK.cells at *
 dsimp only at *
 go_enter Tryz.func79, Tryz.ntmps79
 go_upto_region 1 with (fail)
 generalize World.alloc w _ = V at *
 obtain ⟨e0, e1⟩ := cr2 HX.out
 simp only [hnq] at e0 e1
 go_wp2
 clear e0 e1
 go_loopw [8] (fun x wr => ∃ i : Nat, i ≤ bn ∧ x = .int .i64 (i : Int) ∧ Hid (Below w.heap.size w wr ∧ wr.heap[w.heap.size]? = some (.cells #[.int .i64 P, .slice ba bn bc, .int .i64 be0, .int .i64 be1, .int .i64 al0, .int .i64 al1] 30))) (fun x _ => bn - (intOf x).toNat)
 case atStart => exact ⟨0, Nat.zero_le _, rfl, Lib.hid ⟨HB0.out, HX.out⟩⟩
 case round =>
  clear HB0 HX
  obtain ⟨i, hi, rfl, HB⟩ := hrel
  obtain ⟨e0, e1, e2, e3, e4, e5⟩ := cr6 HB.out.2
  simp only [hnq] at e0 e1 e2 e3 e4 e5
  by_cases hlt : i < bn
  ·have hlt' : (i : Int) < (bn : Int) := by omega
   obtain ⟨b, off, hba, hbB, c0⟩ := (HS.out.below (HB.out.1.mono hBw)).get hlt
   dsimp only at hba c0
   have HMi := Hd (HM.out wr HB.out.1 i hlt)
   obtain ⟨o1, o2⟩ := HONE.out i hlt
   have HRW := Hd (HS.out.rows i hlt)
   dsimp only at HRW
   obtain ⟨lai, hlai⟩ : ∃ x, la i = x := ⟨_, rfl⟩
   obtain ⟨lni, hlni⟩ : ∃ x, ln i = x := ⟨_, rfl⟩
   obtain ⟨lci, hlci⟩ : ∃ x, lc i = x := ⟨_, rfl⟩
   obtain ⟨li, hli⟩ : ∃ x, l i = x := ⟨_, rfl⟩
   rw [hlai, hlni, hlci] at c0 HMi
   rw [hlai, hlni, hli] at HRW
   rw [hlni] at o1
   rw [hli] at o2
   clear HM HONE hlai hlni hlci hli HS
   subst hba
   obtain ⟨b2, off2, hla2, hbB2, k0, _, _⟩ := HRW.out.get (i := 0) o1
   subst hla2
   rw [Nat.zero_mul, Nat.add_zero, o2] at k0
   have HK0 := Lib.hid k0
   have hn0 : (0 : Int) < (lni : Int) := by omega
   have HL2 := Lib.hid hbB2
   clear k0 o1 o2 HRW hbB2
   go_upto_region 6 with (go_at_call 118; refine HMi.out.mono ?_; rintro e W1 ⟨rfl, hb1⟩; have HB1 := Hd (And.intro (HB.out.1.trans (hb1.mono HB.out.1.size)) (blkS HB.out.2 hb1)); have k0 := ((bcell (HB1.out.1.mono hBw)).1 _ _ HL2.out).trans HK0.out; clear hb1 e0 e1 e2 e3 e4 e5 c0)
   go_wp2
   go_roundw
   case rel => exact ⟨i + 1, by omega, by go_num, HB1⟩
   case measure => simp [intOf]; omega
  ·obtain rfl : i = bn := by omega
   clear HM HONE HS
   have HSP1 := Hd (fun W => spanned_any be0 be1 (-100) 100 W)
   have HSP2 := Hd (fun W => spanned_any al0 al1 (-100) 100 W)
   rw [HS1.out] at HSP1
   rw [HS2.out] at HSP2
   have HL := Hd (blkL HB.out.2)
   go_wp2_with (first
    | (go_at_call 81; refine (fwithin_any _ _ _ _).mono ?_; rintro e w' ⟨rfl, rfl⟩; first | rw [HW1.out] | rw [HW2.out])
    | (go_at_call 40; with_reducible refine (HSP1.out _).mono ?_; rintro e W1 ⟨rfl, hb1⟩; have HB1 := Hd (And.intro (HB.out.1.trans (hb1.mono HB.out.1.size)) ((hb1.block _ HL.out).trans HB.out.2)); clear hb1 e0 e1 e2 e3 e4 e5; have e4 := cell_of_row _ _ 4 _ _ _ HB1.out.2; have e5 := cell_of_row _ _ 5 _ _ _ HB1.out.2; simp only [hnq] at e4 e5)
    | (go_at_call 40; with_reducible refine (HSP2.out _).mono ?_; rintro e W2 ⟨rfl, hb2⟩; have HB2 := Hd (HB1.out.1.trans (hb2.mono HB1.out.1.size)); clear hb2 e4 e5))
   go_ret
   exact ⟨rfl, HB2.out⟩
end Go.Proofs.YtgmpelhphnmknaaGreat
