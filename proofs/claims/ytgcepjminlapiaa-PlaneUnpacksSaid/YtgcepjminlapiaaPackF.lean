/- The walk of unpack's take. -/
import Derived.Test.YtgcepjminlapiaaPackE
import Derived.Test.YtgcepjminlapiaaTakeLaw
namespace Go.Proofs.Ytgcepjminlapiaa
open Go.RowKit
set_option linter.unusedVariables false
set_option linter.unusedSimpArgs false
/-- the panic by which reading is given up -/
abbrev wrongP : List PanicEntry := [{ v := .iface 139 (.agg #[]), recovered := false }]
/-- the box that holds the bytes still to be read, from place k on -/
abbrev restAt (b off N C k : Nat) : Obj := .cells #[.slice (some ⟨b, off + k, none⟩) (N - k) (C - k)] 70
def TakeRes (pb b off C : Nat) (l : List Nat) (k : Nat) (w : World) (e : Ending) (w' : World) : Prop :=
  w.grownBy w' (some pb) ∧ (match tkP l k with
    | none => e = .panicked wrongP
    | some q => e = .returned (.int .i64 (q.1 : Int)) ∧ w'.heap[pb]? = some (restAt b off l.length C q.2))
theorem grown_refl (w : World) (r : Option Nat) : w.grownBy w r := ⟨rfl, rfl, rfl, Nat.le_refl _, fun _ _ _ => rfl⟩
theorem grown_trans {a b c : World} {r : Option Nat} (h : a.grownBy b r) (k : b.grownBy c r) : a.grownBy c r :=
  ⟨k.os.trans h.os, k.tape.trans h.tape, k.output.trans h.output, Nat.le_trans h.size k.size, fun i hi hn => (k.block i (Nat.lt_of_lt_of_le hi h.size) hn).trans (h.block i hi hn)⟩
theorem grown_set {w : World} {g j : Nat} {cur : Array Value} {e : TypeId} (u : Value) (hg : w.heap[g]? = some (.cells cur e)) : w.grownBy (w.setCell ⟨g, j, none⟩ u) (some g) :=
  ⟨rfl, rfl, rfl, by simp, fun k _ hk => heap_setCell_other w ⟨g, j, none⟩ k u (fun e => hk (by simp [e]))⟩
theorem u8_and127 {x : Nat} (h : x < 256) : bits .and .u8 (x : Int) 127 = (x : Int) % 128 := by
  have := bits_mask .u8 8 (by decide) (fun n h0 h1 => by rw [IntKind.wrap_u8]; omega) 7 (by decide) (x : Int) (by omega) (by omega)
  simpa using this
theorem or_add {acc i y : Nat} (hi : i < 5) (ha : acc < 128 ^ i) (hy : y < 128) : bits .or .i64 (acc : Int) ((128 ^ i * y : Nat) : Int) = ((acc + 128 ^ i * y : Nat) : Int) := by
  have e128 : (128 : Nat) ^ i = 2 ^ (7 * i) := by rw [Nat.pow_mul]
  have hb : (128 : Nat) ^ i * y < 2 ^ 63 := by
    have : (128 : Nat) ^ i ≤ 128 ^ 4 := Nat.pow_le_pow_right (by omega) (by omega)
    have := Nat.mul_le_mul this (show y ≤ 128 by omega)
    have e : (128 : Nat) ^ 4 * 128 = 34359738368 := by decide
    omega
  have hc : acc < 2 ^ 63 := by
    have : (128 : Nat) ^ i ≤ 128 ^ 4 := Nat.pow_le_pow_right (by omega) (by omega)
    have e : (128 : Nat) ^ 4 = 268435456 := by decide
    omega
  have h1 := (bits_nat .i64 63 (by decide) wraps_i64 acc (128 ^ i * y) hc hb).2
  rw [h1]
  congr 1
  rw [e128] at ha ⊢
  rw [Nat.or_comm, Nat.add_comm]
  exact (Nat.two_pow_add_eq_or_of_lt ha y).symm
theorem or_shl {acc i x : Nat} (hi : i < 5) (ha : acc < 128 ^ i) : bits .or .i64 (acc : Int) (wrap64 ((x : Int) % 128 * 2 ^ (7 * i))) = ((acc + 128 ^ i * (x % 128) : Nat) : Int) := by
  have e : ((x : Int) % 128 * 2 ^ (7 * i)) = ((128 ^ i * (x % 128) : Nat) : Int) := by
    have e1 : (2 : Int) ^ (7 * i) = ((128 ^ i : Nat) : Int) := by rw [Int.pow_mul]; simp
    rw [e1, Int.natCast_mul, Int.mul_comm]; simp
  have hb : 128 ^ i * (x % 128) ≤ 34359738368 := by
    have h1 : (128 : Nat) ^ i ≤ 128 ^ 4 := Nat.pow_le_pow_right (by omega) (by omega)
    have h2 := Nat.mul_le_mul h1 (show x % 128 ≤ 128 by omega)
    have e : (128 : Nat) ^ 4 * 128 = 34359738368 := by decide
    omega
  rw [e]
  have e3 : wrap64 ((128 ^ i * (x % 128) : Nat) : Int) = ((128 ^ i * (x % 128) : Nat) : Int) := by unfold wrap64; omega
  rw [e3]
  exact or_add hi ha (by omega)
set_option maxRecDepth 100000 in
set_option maxHeartbeats 1000000 in
theorem take_any (pb b off C : Nat) (l : List Nat) (k : Nat) (w : World) (hl : ∀ x ∈ l, x < 256) (hC : l.length + 2 ≤ C) (hCm : C ≤ maxLen) (hk : k ≤ l.length) (hne : b ≠ pb) (hb : b < w.heap.size)
    (hc : ∀ i, i < l.length → w.cell? ⟨b, off + i, none⟩ = some (.int .u8 ((l.getD i 0 : Nat) : Int))) (hp : w.heap[pb]? = some (restAt b off l.length C k)) :
    Calls Try.prog 89 #[.pointer (some ⟨pb, 0, none⟩)] w (TakeRes pb b off C l k w) := by
  unfold maxLen at hCm
  have HL := Lib.hid (fun i => getD_byte hl i)
  have HC := Lib.hid hc
  have HP := Lib.hid hp
  obtain ⟨N, hN⟩ : ∃ N, N = l.length := ⟨_, rfl⟩
  have HN := Lib.hid hN
  rw [← hN] at hC hk
  have HT := Lib.hid (fun (e : Ending) (w' : World) (g : w.grownBy w' (some pb)) (hn : tkP l k = none) (he : e = .panicked wrongP) => show TakeRes pb b off C l k w e w' from ⟨g, by rw [hn]; exact he⟩)
  have HS := Lib.hid (fun (e : Ending) (w' : World) (x k' : Nat) (g : w.grownBy w' (some pb)) (hn : tkP l k = some (x, k')) (he : e = .returned (.int .i64 (x : Int))) (hh : w'.heap[pb]? = some (restAt b off N C k')) => show TakeRes pb b off C l k w e w' from ⟨g, by rw [hn]; exact ⟨he, by rw [← HN.out]; exact hh⟩⟩)
  have H0 := Lib.hid (tk_start l k)
  generalize hRes : TakeRes pb b off C l k w = Res at *
  clear hRes hl hc hp hN
  go_enter Try.func89, Try.ntmps89
  go_wp2
  go_loopw [2, 5] (fun s2 s5 wr => ∃ i acc : Nat, i ≤ 5 ∧ s5 = .int .i64 (i : Int) ∧ s2 = .int .i64 (acc : Int) ∧ Hid (TkInv l k i acc) ∧ w.grownBy wr (some pb) ∧ k + i ≤ N ∧ Hid (wr.heap[pb]? = some (restAt b off N C (k + i)))) (fun _ s5 _ => 5 - (intOf s5).toNat)
  case atStart => exact ⟨0, 0, by omega, rfl, rfl, H0, grown_refl _ _, by omega, Lib.hid (by rw [HN.out]; exact HP.out)⟩
  case round =>
    obtain ⟨i, acc, hi5, rfl, rfl, HI, hgr, hkN, HB⟩ := hrel
    have c1 : wr.cell? ⟨pb, 0, none⟩ = some (.slice (some ⟨b, off + (k + i), none⟩) (N - (k + i)) (C - (k + i))) := cell_of_row _ _ _ _ _ _ HB.out
    have c2 : wr.frozen? ⟨pb, 0, none⟩ = false := frozen_of_row _ _ _ _ _ HB.out
    by_cases hi : i < 5
    · by_cases he : k + i < N
      · have c3 : wr.cell? ⟨b, off + (k + i), none⟩ = some (.int .u8 ((l.getD (k + i) 0 : Nat) : Int)) := hgr.cell (HC.out (k + i) (by rw [← HN.out]; exact he)) (by simpa using hne)
        have hx := HL.out (k + i)
        obtain ⟨x, hxe⟩ : ∃ x, x = l.getD (k + i) 0 := ⟨_, rfl⟩
        rw [← hxe] at c3 hx
        have HX := Lib.hid hxe
        clear hxe
        have b1 := u8_and127 hx
        have hacc := HI.out.1
        have b2 := or_shl (x := x) hi hacc
        have i1 : (((N - (k + i) : Nat) : Int) == 0) = false := by rw [beq_eq_false_iff_ne]; omega
        have hg2 : ∀ u, w.grownBy (wr.setCell ⟨pb, 0, none⟩ u) (some pb) := fun u => grown_trans hgr (grown_set u HB.out)
        have hh2 : (wr.setCell ⟨pb, 0, none⟩ (.slice (some ⟨b, off + (k + i) + 1, none⟩) (N - (k + i) - 1) (C - (k + i) - 1))).heap[pb]? = some (restAt b off N C (k + (i + 1))) := by
          rw [heap_setCell_same _ _ _ _ _ _ HB.out]
          have q1 : off + (k + (i + 1)) = off + (k + i) + 1 := by omega
          have q2 : N - (k + (i + 1)) = N - (k + i) - 1 := by omega
          have q3 : C - (k + (i + 1)) = C - (k + i) - 1 := by omega
          unfold restAt
          rw [q1, q2, q3]; rfl
        have HG2 := Lib.hid hg2
        have HH2 := Lib.hid hh2
        have i9 : 1 ≤ N - (k + i) := by omega
        have i8 : N - (k + i) ≤ C - (k + i) := by omega
        clear hg2 hh2 hacc
        by_cases hlt : x < 128
        · have hlt' : (x : Int) < 128 := by omega
          by_cases hz : x = 0 ∧ 0 < i
          · obtain ⟨hz1, hz2⟩ := hz
            have HN' := Lib.hid (tk_zero HI.out hi (by rw [← HN.out]; exact he) (by rw [← HX.out]; exact hz1) hz2)
            have hz1' : ((x : Int) == 0) = true := by rw [beq_iff_eq]; omega
            have hz2' : (0 : Int) < (i : Int) := by omega
            clear hz1
            go_wp2
            exact ⟨rfl, HT.out _ _ (HG2.out _) HN'.out rfl⟩
          · have HN' := Lib.hid (tk_last HI.out hi (by rw [← HN.out]; exact he) (by rw [← HX.out]; exact hlt) (by rw [← HX.out]; exact hz))
            have e1 : x % 128 = x := by omega
            rw [e1] at b2
            by_cases hz2 : 0 < i
            · have hz1 : ((x : Int) == 0) = false := by rw [beq_eq_false_iff_ne]; omega
              clear hz
              go_wp2
              all_goals exact HS.out _ _ _ _ (HG2.out _) HN'.out (by rw [← HX.out]; first | (simp; done) | (have hx0 : x = 0 := (by assumption); simp [hx0])) HH2.out
            · have hz2' : ¬ (0 : Int) < (i : Int) := by omega
              clear hz
              go_wp2
              all_goals exact HS.out _ _ _ _ (HG2.out _) HN'.out (by rw [← HX.out]; first | (simp; done) | (have hx0 : x = 0 := (by assumption); simp [hx0])) HH2.out
        · have hlt' : ¬ (x : Int) < 128 := by omega
          have HM := Lib.hid (tk_more HI.out hi (by rw [← HN.out]; exact he) (by rw [← HX.out]; exact hlt))
          go_wp2
          go_roundw
          case rel => exact ⟨i + 1, acc + 128 ^ i * (x % 128), by omega, by go_num, by simp, Lib.hid (by rw [HX.out]; exact HM.out), HG2.out _, by omega, Lib.hid HH2.out⟩
          case measure => simp [intOf]; omega
      · have HN' := Lib.hid (tk_end HI.out hi (by rw [← HN.out]; omega))
        have i1 : (((N - (k + i) : Nat) : Int) == 0) = true := by rw [beq_iff_eq]; omega
        go_wp2
        exact ⟨rfl, HT.out _ _ hgr HN'.out rfl⟩
    · obtain rfl : 5 = i := by omega
      have HN' := Lib.hid (tk_five HI.out)
      go_wp2
      exact ⟨rfl, HT.out _ _ hgr HN'.out rfl⟩
end Go.Proofs.Ytgcepjminlapiaa
