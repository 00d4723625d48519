/- The walks of plane.put, check16 and packable. -/
import Derived.Test.YtgcepjminlapiaaPackLaw
import Derived.Test.YtgcepjminlapiaaRowOwn
import Derived.Test.YtgcepjminlapiaaPlaneQ
import Derived.Test.YtgcepjminlapiaaPlaneA
import Derived.Laws.Shifts
import Derived.Laws.Bits
import Derived.Laws.BitsLemmas
namespace Go.Proofs.Ytgcepjminlapiaa
open Go.RowKit
set_option linter.unusedVariables false
set_option linter.unusedSimpArgs false
def bC (l : List Nat) : List Value := l.map fun (x : Nat) => Value.int .u8 (x : Int)
/-- what is not of type t stays -/
def KeepT (t : TypeId) (w w' : World) : Prop := w.heap.size ≤ w'.heap.size ∧ ∀ k, k < w.heap.size → (∀ cur f, w.heap[k]? ≠ some (.cells cur t f)) → w'.heap[k]? = w.heap[k]?
theorem KeepT.refl (t : TypeId) (w : World) : KeepT t w w := ⟨Nat.le_refl _, fun _ _ _ => rfl⟩
theorem KeepT.trans {t : TypeId} {a b c : World} (h : KeepT t a b) (k : KeepT t b c) : KeepT t a c :=
  ⟨Nat.le_trans h.1 k.1, fun i hi hn => by
    have e := h.2 i hi hn
    rw [k.2 i (Nat.lt_of_lt_of_le hi h.1) (fun cur f => by rw [e]; exact hn cur f), e]⟩
theorem KeepT.alloc (t : TypeId) (w : World) (o : Obj) : KeepT t w (w.alloc o) := ⟨by simp, fun i hi _ => Below.heap_alloc w o i hi⟩
theorem KeepT.drew {t : TypeId} {w w' : World} (h : KeepT t w w') : KeepT t w w'.drew := h
theorem KeepT.own {t : TypeId} {w w' : World} {base k n : Nat} {v : Value} {xs : List Value} (h : w.ownsRow base t k v n xs) (hg : w.grownBy w' v.ownBlock) : KeepT t w w' :=
  ⟨hg.size, fun i hi hn => hg.block i hi (fun e => by
    rcases h.2 with ⟨rfl, _⟩ | ⟨g, cap, cur, rfl, _, hgg, _⟩
    · simp [Value.ownBlock] at e
    · simp [Value.ownBlock] at e
      subst e
      exact hn _ _ hgg)⟩
theorem KeepT.below {t : TypeId} {w w' : World} (h : Below w.heap.size w w') : KeepT t w w' := ⟨h.size, fun i hi _ => h.block i hi⟩
theorem wraps_i64 (n : Int) (h₀ : 0 ≤ n) (h₁ : n < 2 ^ 63) : IntKind.i64.wrap n = n := by rw [IntKind.wrap_i64]; omega
theorem i64_and127 {x : Nat} (h : x < 34359738368) : bits .and .i64 (x : Int) 127 = ((x % 128 : Nat) : Int) := by
  have := bits_mask .i64 63 (by decide) wraps_i64 7 (by decide) (x : Int) (by omega) (by omega)
  simpa using this
theorem i64_or128 {x : Int} (h0 : 0 ≤ x) (h : x < 128) : bits .or .i64 x 128 = x + 128 := by
  obtain ⟨a, rfl⟩ := Int.eq_ofNat_of_zero_le h0
  have h1 := (bits_nat .i64 63 (by decide) wraps_i64 a 128 (by omega) (by omega)).2
  have e : a ||| 128 = a + 128 := by
    have := Nat.two_pow_add_eq_or_of_lt (i := 7) (b := a) (by omega) 1
    rw [Nat.or_comm]; simp at this; omega
  rw [e] at h1
  exact h1.trans (by simp)
theorem info_u8 : (Try.prog.info? 5).map (fun i => (i.zero, i.size, i.bytes)) = some (some (.int .u8 0), 1, 1) := by kernel_rfl
def PutRes (w : World) (base m : Nat) (ys : List Value) (e : Ending) (w' : World) : Prop :=
  ∃ a c, e = .returned (.slice a m c) ∧ w'.ownsRow base 5 1 (.slice a m c) m ys ∧ KeepT 5 w w' ∧ Below base w w'
set_option maxRecDepth 100000 in
set_option maxHeartbeats 1000000 in
theorem put_any (v : Value) (k : Nat) (xs : List Value) (n : Nat) (hn : n < 34359738368) (hk : k ≤ 2000) (w : World) (base : Nat) (hb : base ≤ w.heap.size) (hown : w.ownsRow base 5 1 v k xs) :
    Calls Try.prog 67 #[v, .int .i64 (n : Int)] w (PutRes w base (k + (grp n).length) (xs ++ bC (grp n))) := by
  have hgl := (grp_len 4 n (by simpa using hn)).2
  obtain ⟨i0, hi, hz0, hz1, hz2⟩ := info_parts info_u8
  have HO := Lib.hid hown
  clear hown
  go_enter Try.func67, Try.ntmps67
  go_wp2
  go_loopw [0, 1] (fun s0 s1 wr => ∃ (n' m : Nat) (ys : List Value), s1 = .int .i64 (n' : Int) ∧ n' ≤ n ∧ wr.ownsRow base 5 1 s0 m ys ∧ Hid (ys ++ bC (grp n') = xs ++ bC (grp n) ∧ m + (grp n').length = k + (grp n).length) ∧ KeepT 5 w wr ∧ Below base w wr) (fun _ s1 _ => (intOf s1).toNat)
  case atStart => exact ⟨n, k, xs, rfl, Nat.le_refl _, HO.out, Lib.hid ⟨rfl, rfl⟩, KeepT.refl _ _, Below.refl _ _⟩
  case round =>
    clear HO
    rename_i s0 s1
    obtain ⟨n', m, ys, rfl, hle, hown, HY, hkt, hbl⟩ := hrel
    have hm : m ≤ 2005 := by have := HY.out.2; omega
    have hsz := hkt.1
    by_cases hlt : n' < 128
    · have hlt' : ¬ (128 : Int) ≤ (n' : Int) := by omega
      go_wp2_with (at_builtin; refine wpList_append_own _ rfl _ _ 70 rfl base 5 i0 (.int .u8 0) 1 1 Try.underlying70 hi hz0 hz1 hz2 rfl (by decide) _ m _ rfl (hown.alloc _) ⟨wr.heap.size, 0, none⟩ 1 1 [.int .u8 (n' : Int)] rfl rfl cells_new (by simp; rfl) (by unfold maxLen; omega) (by omega) (by simp; omega) ?_; intro v' w6 hown6 hgrow6 hnil6; obtain ⟨a6, c6, rfl⟩ := own_len hown6)
      go_ret
      have hy := HY.out
      rw [grp_lt hlt] at hy
      refine ⟨a6, c6, ?_, ?_, ?_, ?_⟩
      · rw [← hy.2]; rfl
      · rw [← hy.2, ← hy.1]; exact hown6
      · exact (hkt.trans (KeepT.alloc _ _ _)).trans (KeepT.own (hown.alloc _) hgrow6)
      · exact (hbl.alloc (by omega) _).grown hgrow6 (by simp; omega) (fun g hg => (hown.lt g hg).1)
    · have hlt' : (128 : Int) ≤ (n' : Int) := by omega
      have b1 : bits .and .i64 (n' : Int) 127 = (n' : Int) % 128 := by rw [i64_and127 (by omega)]; simp
      have b2 : bits .or .i64 ((n' : Int) % 128) 128 = (n' : Int) % 128 + 128 := i64_or128 (by omega) (by omega)
      have b3 : ((n' : Int) % 128 + 128) % 256 = (n' : Int) % 128 + 128 := by omega
      go_wp2_with (at_builtin; refine wpList_append_own _ rfl _ _ 70 rfl base 5 i0 (.int .u8 0) 1 1 Try.underlying70 hi hz0 hz1 hz2 rfl (by decide) _ m _ rfl (hown.alloc _) ⟨wr.heap.size, 0, none⟩ 1 1 [.int .u8 ((n' : Int) % 128 + 128)] rfl rfl cells_new (by simp; rfl) (by unfold maxLen; omega) (by omega) (by simp; omega) ?_; intro v' w6 hown6 hgrow6 hnil6; obtain ⟨a6, c6, rfl⟩ := own_len hown6)
      go_roundw
      case rel =>
        have hy := HY.out
        rw [grp_ge hlt] at hy
        refine ⟨n' / 128, m + 1, _, by first | rfl | simp, by omega, hown6, Lib.hid ⟨?_, ?_⟩, (hkt.trans (KeepT.alloc _ _ _)).trans (KeepT.own (hown.alloc _) hgrow6), (hbl.alloc (by omega) _).grown hgrow6 (by simp; omega) (fun g hg => (hown.lt g hg).1)⟩
        · rw [← hy.1]; simp [bC]
        · have := hy.2; simp at this ⊢; omega
      case measure => simp [intOf]; omega
/-- a slice of bytes -/
def Bytes (B : Nat) (w : World) (a : Option Addr) (n : Nat) (f : Nat → Nat) : Prop := n = 0 ∨ ∃ b off, a = some ⟨b, off, none⟩ ∧ b < B ∧ ∀ i, i < n → w.cell? ⟨b, off + i, none⟩ = some (.int .u8 (f i : Int))
theorem Bytes.below {B : Nat} {w w' : World} {a : Option Addr} {n : Nat} {f : Nat → Nat} (h : Bytes B w a n f) (hb : Below B w w') : Bytes B w' a n f := by
  rcases h with h | ⟨b, off, ha, hB, hc⟩
  · exact .inl h
  · exact .inr ⟨b, off, ha, hB, fun i hi => ((bcell hb).1 _ _ hB).trans (hc i hi)⟩
theorem Bytes.up {B B' : Nat} {w : World} {a : Option Addr} {n : Nat} {f : Nat → Nat} (h : Bytes B w a n f) (hb : B ≤ B') : Bytes B' w a n f := by
  rcases h with h | ⟨b, off, ha, hB, hc⟩
  · exact .inl h
  · exact .inr ⟨b, off, ha, by omega, hc⟩
theorem Bytes.congr {B : Nat} {w : World} {a : Option Addr} {n : Nat} {f g : Nat → Nat} (h : Bytes B w a n f) (e : ∀ i, i < n → f i = g i) : Bytes B w a n g := by
  rcases h with h | ⟨b, off, ha, hB, hc⟩
  · exact .inl h
  · exact .inr ⟨b, off, ha, hB, fun i hi => by rw [← e i hi]; exact hc i hi⟩
theorem i64_and255 {x : Nat} (h : x < 34359738368) : bits .and .i64 (x : Int) 255 = (x : Int) % 256 := by
  have := bits_mask .i64 63 (by decide) wraps_i64 8 (by decide) (x : Int) (by omega) (by omega)
  simpa using this
theorem chk_step {f : Nat → Nat} {k : Nat} : ((chkN f (k + 1) : Nat) : Int) = ((chkN f k : Int) + ((k : Int) + 1) * (f k : Int)) % 65521 := by
  rw [chkN]; simp
set_option maxRecDepth 100000 in
set_option maxHeartbeats 1000000 in
theorem check16_any (a : Option Addr) (n c : Nat) (f : Nat → Nat) (w : World) (B : Nat) (hBw : B ≤ w.heap.size) (hb : Bytes B w a n f) (hf : ∀ i, i < n → f i < 256) (hn : n ≤ 2000) :
    Calls Try.prog 68 #[.slice a n c] w fun e w' => e = .returned (.agg #[.int .u8 ((chkN f n / 256 : Nat) : Int), .int .u8 ((chkN f n % 256 : Nat) : Int)]) ∧ Below w.heap.size w w' := by
  have HB := Lib.hid hb
  have HF := Lib.hid hf
  have HS := Lib.hid (fun k => @chk_step f k)
  have HL := Lib.hid (fun k => chkN_lt f k)
  have H0 := Lib.hid (show chkN f 0 = 0 from rfl)
  clear hb hf
  generalize chkN f = C at *
  go_enter Try.func68, Try.ntmps68
  go_wp2
  go_loop [3, 8] (fun s3 t => ∃ k : Nat, k ≤ n ∧ t = .int .i64 (k : Int) ∧ s3 = .int .i64 (C k : Int)) (fun _ t => n - (intOf t).toNat)
  case atStart => exact ⟨0, Nat.zero_le _, rfl, by rw [H0.out]; rfl⟩
  case round =>
    obtain ⟨k, hk, rfl, rfl⟩ := hrel
    have hl := HL.out k
    by_cases hlt : k < n
    · rcases HB.out with e0 | ⟨b, off, rfl, hbB, hc⟩
      · omega
      have c0 := hc k hlt
      have hbz : b < w.heap.size := by omega
      have hfk := HF.out k hlt
      have hs := HS.out k
      have HSK := Lib.hid hs
      have hm : ((k : Int) + 1) * (f k : Int) ≤ 510000 ∧ 0 ≤ ((k : Int) + 1) * (f k : Int) := by
        refine ⟨?_, Int.mul_nonneg (by omega) (by omega)⟩
        have := Int.mul_le_mul (a := (k : Int) + 1) (b := (f k : Int)) (c := 2000) (d := 255) (by omega) (by omega) (by omega) (by omega)
        omega
      obtain ⟨hm1, hm2⟩ := hm
      clear hc hs
      go_wp2
      go_round
      case rel => exact ⟨k + 1, by omega, by go_num, by rw [HSK.out]⟩
      case measure => simp [intOf]; omega
    · obtain rfl : n = k := by omega
      have b1 : bits .and .i64 (C n : Int) 255 = (C n : Int) % 256 := i64_and255 (by omega)
      have b2 : (C n : Int) / 256 % 256 = (C n : Int) / 256 := by omega
      have b3 : (C n : Int) % 256 % 256 = (C n : Int) % 256 := by omega
      go_wp2
      refine bodyPost_ret (v := .agg #[.int .u8 ((C n : Int) / 256), .int .u8 ((C n : Int) % 256)]) ?_ rfl ⟨rfl, (Below.refl _ _).alloc (Nat.le_refl _) _⟩
      simp [results, Try.results68, go_sem]
def packB (m : Nat) (hs : Nat → HV) : Bool := allUpto m (fun i => packableB (hs i))
set_option maxRecDepth 100000 in
set_option maxHeartbeats 2000000 in
theorem packable_any (a : Option Addr) (m d : Nat) (hs : Nat → HV) (w : World) (B : Nat) (hBw : B ≤ w.heap.size) (hH : Hits B w a m hs) :
    Calls Try.prog 66 #[.slice a m d] w fun e w' => e = .returned (.bool (packB m hs)) ∧ Below w.heap.size w w' := by
  have hm := hH.1
  unfold maxLen at hm
  have HH := Lib.hid hH
  have HNo := Lib.hid (fun i (hi : i < m) (h : packableB (hs i) = false) => show packB m hs = false from allUpto_false hi h)
  have HYes := Lib.hid (fun (h : ∀ i, i < m → packableB (hs i) = true) => show packB m hs = true from allUpto_true h)
  generalize packB m hs = R at *
  clear hH
  go_enter Try.func66, Try.ntmps66
  go_wp2
  go_loopw [7] (fun t wr => ∃ k : Nat, k ≤ m ∧ t = .int .i64 (k : Int) ∧ Hid (∀ j, j < k → packableB (hs j) = true) ∧ Below w.heap.size w wr) (fun t _ => m - (intOf t).toNat)
  case atStart => exact ⟨0, Nat.zero_le _, rfl, Lib.hid (fun j h => by omega), Below.refl _ _⟩
  case round =>
    obtain ⟨k, hk, rfl, HALL, hb⟩ := hrel
    by_cases hlt : k < m
    · obtain ⟨b, off, rfl, hbB, y0, y1, y2, y3, y4, y5⟩ := (HH.out.below (hb.mono hBw)).get hlt
      have hbz : b < wr.heap.size := by have := hb.size; omega
      have HNk := Lib.hid (HNo.out k hlt)
      have HST := Lib.hid (fun (h : packableB (hs k) = true) => show ∀ j, j < k + 1 → packableB (hs j) = true from fun j hj => by (by_cases e : j = k; subst e; exact h; exact HALL.out j (by omega)))
      generalize hs k = h at y0 y1 y2 y3 y4 y5 HNk HST
      cases hP : packableB h
      · have HR := Lib.hid (HNk.out hP)
        have HPF := Lib.hid hP
        clear hP HNk HST
        go_wp2_with (go_at_call 57; refine (within_any _ _ _ _).mono ?_; rintro e w' ⟨rfl, rfl⟩)
        all_goals first | (go_ret; exact ⟨ret_bool HR.out.symm, (hb.alloc hb.size _)⟩) | (exfalso; have := HPF.out; simp_all [packableB])
      · have HPT := Lib.hid hP
        simp only [packableB, Bool.and_eq_true] at hP
        obtain ⟨p1, p2, p3, p4, p5, p6⟩ := hP
        go_wp2_with (go_at_call 57; refine (within_any _ _ _ _).mono ?_; rintro e w' ⟨rfl, rfl⟩)
        go_roundw
        case rel => exact ⟨k + 1, by omega, by go_num, Lib.hid (HST.out HPT.out), hb.alloc hb.size _⟩
        case measure => simp [intOf]; omega
    · obtain rfl : m = k := by omega
      go_wp2
      go_ret
      exact ⟨ret_bool (HYes.out HALL.out).symm, hb⟩
end Go.Proofs.Ytgcepjminlapiaa
