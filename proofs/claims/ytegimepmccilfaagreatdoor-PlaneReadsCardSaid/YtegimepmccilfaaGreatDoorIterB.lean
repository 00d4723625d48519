/- territories: its contract as an iterator. -/
import Derived.Test.YtegimepmccilfaaGreatDoorIter
import Derived.Test.YtegimepmccilfaaGreatDoorBin
import Derived.Test.YtegimepmccilfaaGreatDoorWide2
import Derived.Test.YtegimepmccilfaaGreatDoorSeesLaw
namespace Go.Proofs.YtegimepmccilfaaGreatDoor
open Go.RowKit Go.Shelf
set_option linter.unusedVariables false
set_option linter.unusedSimpArgs false
attribute [local go_sem] Oper.semAt_some
/-- the channels that are not dead, below k -/
def alive (N : Nat) (p : PR) : Nat → List (Fin N)
  | 0 => []
  | k + 1 => if h : k < N then (if deadIs p k = true then alive N p k else alive N p k ++ [⟨k, h⟩]) else alive N p k
theorem alive_dead {N : Nat} {p : PR} {k : Nat} (h : k < N) (hd : deadIs p k = true) : alive N p (k + 1) = alive N p k := by rw [alive, dif_pos h, if_pos hd]
theorem alive_not {N : Nat} {p : PR} {k : Nat} (h : k < N) (hd : ¬ deadIs p k = true) : alive N p (k + 1) = alive N p k ++ [⟨k, h⟩] := by rw [alive, dif_pos h, if_neg hd]
theorem alive_length (N : Nat) (p : PR) : ∀ k, (alive N p k).length ≤ k
  | 0 => by simp [alive]
  | k + 1 => by
    have := alive_length N p k
    rw [alive]; split
    · split
      · omega
      · simp; omega
    · omega
def half (p : PR) : Int := if p.kind = 2 then p.pitch / 2 else 0
def terF (p : PR) (c : Nat) : Int := p.first + (c : Int) * p.pitch - half p
abbrev encT {N : Nat} (p : PR) (c : Fin N) : Array Value := #[.int .i64 ((c.val : Nat) : Int), .agg #[.int .i64 (terF p c.val), .int .i64 (terF p c.val + p.pitch - 1)]]
def KeepsP (n₀ Bs : Nat) (W W' : World) : Prop := Below n₀ W W' ∧ ∀ j, W'.cell? ⟨Bs, j, none⟩ = W.cell? ⟨Bs, j, none⟩
theorem KeepsP.trans {n₀ Bs : Nat} {A B C : World} (h : KeepsP n₀ Bs A B) (k : KeepsP n₀ Bs B C) : KeepsP n₀ Bs A C := ⟨h.1.trans k.1, fun j => (k.2 j).trans (h.2 j)⟩
theorem terF_succ (p : PR) (c : Nat) : terF p (c + 1) = terF p c + p.pitch := by
  unfold terF
  have : ((c + 1 : Nat) : Int) * p.pitch = (c : Int) * p.pitch + p.pitch := by rw [Int.natCast_add, Int.add_mul]; simp
  omega
set_option maxRecDepth 100000 in
set_option maxHeartbeats 4000000 in
theorem ter_in (n : Nat) (hn : 1 ≤ n) (l Bs n₀ N : Nat) (p : PR) (hN : p.strips = (N : Int)) (ix : Int) (hS : Shaped p) (hR : Rising p.en p.es) (hen : p.en ≤ 100) (J Jx : List (Fin N) → World → Prop)
    (hY : ∀ pre x W, J pre W → pre.length < N → YieldAt Fence.wide (n - 1) Tryz.prog l (encT p x) W fun e W' =>
      (e = .returned (.bool true) ∧ J (pre ++ [x]) W' ∧ KeepsP n₀ Bs W W') ∨ (e = .returned (.bool false) ∧ Jx (pre ++ [x]) W'))
    (W : World) (hn₀ : n₀ ≤ W.heap.size) (hBs : ∀ j, W.cell? ⟨Bs, j, none⟩ = (#[.int .i64 p.kind, .int .i64 p.view, .int .i64 p.z, .int .i64 p.first, .int .i64 p.pitch, .int .i64 p.strips, .int .i64 p.spill, .int .i64 p.olo, .int .i64 p.ohi, .int .i64 p.clo, .int .i64 p.chi, .int .i64 p.jitter, .int .i64 p.least, .slice p.da p.dn p.dc, .slice p.ea p.en p.ec, .int .i64 ix] : Array Value)[j]?)
    (hm : p.mem n₀ W) (h0 : J [] W) :
    CallsIn Fence.wide n Tryz.prog 59 #[.func (.yield l) #[] #[], .pointer (some ⟨Bs, 0, none⟩)] W fun e W' => (∃ v, e = .returned v) ∧
      ((∃ ys, ys = alive N p N ∧ J ys W') ∨ (∃ pre, (∃ k, k ≤ N ∧ pre = alive N p k) ∧ Jx pre W')) := by
  have HM := Lib.hid hm
  have HR := Lib.hid hR
  obtain ⟨hst1, hst2⟩ := hS.strips
  obtain ⟨g1, g2⟩ := hS.first
  obtain ⟨b1, b2⟩ := hS.pitch
  simp only [hN] at hst1 hst2 hBs
  have HY := Lib.hid hY
  have HL := Lib.hid (alive_length N p)
  have hT : ∀ c, terF p c = p.first + (c : Int) * p.pitch - half p := fun _ => rfl
  have HP := Lib.hid (fun (c : Nat) W' (h : n₀ ≤ W'.heap.size) (hm' : p.mem n₀ W') => bin_any p c W' n₀ h hm' hR hen)
  have HU := Lib.hid (fun W' => @PR.mem.below p n₀ W W' hm)
  clear hY hm hS hR
  by_cases hk : p.kind = 2
  · have hh : half p = p.pitch / 2 := by rw [half, if_pos hk]
    rw [hh] at hT
    refine callsIn_of_wp Tryz.func59 rfl trivial ?_ rfl
    simp only [Tryz.ntmps59, List.size_toArray, List.length_cons, List.length_nil, Nat.reduceAdd, Nat.reduceSub, Array.replicate_succ, Array.replicate_zero, List.push_toArray, List.append_toArray, List.nil_append, List.cons_append]
    gi_wp2
    gi_loopw [19] (fun t wr => ∃ c : Nat, c ≤ N ∧ t = .int .i64 c ∧ J (alive N p c) wr ∧ KeepsP n₀ Bs W wr) (fun t _ => N - (intOf t).toNat)
    case atStart => exact ⟨0, Nat.zero_le _, rfl, h0, Below.refl _ _, fun _ => rfl⟩
    case round =>
      obtain ⟨c, hc, rfl, hJ, hnx⟩ := hrel
      have hcell := fun j => (hnx.2 j).trans (hBs j)
      have hsz : n₀ ≤ wr.heap.size := Nat.le_trans hn₀ hnx.1.size
      by_cases hlt : c < N
      · have hlt' : (c : Int) < (N : Int) := by omega
        obtain ⟨m1, m2⟩ := mul_bounds (x := (c : Int)) (q := p.pitch) (by omega) (by omega) b1 b2
        have hbin := HP.out c wr hsz (HU.out wr hnx.1)
        by_cases hd : deadIs p c = true
        · have HA1 := Lib.hid (show alive N p (c + 1) = alive N p c from alive_dead hlt hd)
          rw [hd] at hbin
          gi_wp2_with (refine ⟨trivial, (callsIn_wide.2 hbin).mono ?_⟩; rintro e w' ⟨i, rfl, rfl⟩)
          go_roundw
          case rel => exact ⟨c + 1, by omega, by go_num, by rw [HA1.out]; exact hJ, hnx⟩
          case measure => simp [intOf]; omega
        · have HA1 := Lib.hid (show alive N p (c + 1) = alive N p c ++ [⟨c, hlt⟩] from alive_not hlt hd)
          rw [show deadIs p c = false by simpa using hd] at hbin
          obtain ⟨fn, tmps, assign, body, hy, hRr⟩ := HY.out _ ⟨c, hlt⟩ wr hJ (by have := HL.out c; omega)
          unfold encT at hy
          dsimp only at hy
          rw [hT] at hy
          (try simp only [Int.sub_zero] at hy)
          gi_wp2_with (refine ⟨trivial, (callsIn_wide.2 hbin).mono ?_⟩; rintro e w' ⟨i, rfl, rfl⟩)
          refine hRr.mono ?_
          rintro e W3 (⟨rfl, hJ3, hk3⟩ | ⟨rfl, hJx3⟩)
          · gi_wp2
            go_roundw
            case rel => exact ⟨c + 1, by omega, by go_num, by rw [HA1.out]; exact hJ3, hnx.trans hk3⟩
            case measure => simp [intOf]; omega
          · gi_wp2
            refine bodyPost_ret (results_none rfl _ _ _) rfl ?_
            exact ⟨⟨_, rfl⟩, .inr ⟨_, ⟨c + 1, by omega, by rw [HA1.out]⟩, hJx3⟩⟩
      · obtain rfl : c = N := by omega
        gi_wp2
        go_end0
        exact ⟨⟨_, rfl⟩, .inl ⟨_, rfl, hJ⟩⟩
  · have hh : half p = 0 := by rw [half, if_neg hk]
    have hk' : (p.kind == 2) = false := by simp [hk]
    rw [hh] at hT
    refine callsIn_of_wp Tryz.func59 rfl trivial ?_ rfl
    simp only [Tryz.ntmps59, List.size_toArray, List.length_cons, List.length_nil, Nat.reduceAdd, Nat.reduceSub, Array.replicate_succ, Array.replicate_zero, List.push_toArray, List.append_toArray, List.nil_append, List.cons_append]
    gi_wp2
    gi_loopw [19] (fun t wr => ∃ c : Nat, c ≤ N ∧ t = .int .i64 c ∧ J (alive N p c) wr ∧ KeepsP n₀ Bs W wr) (fun t _ => N - (intOf t).toNat)
    case atStart => exact ⟨0, Nat.zero_le _, rfl, h0, Below.refl _ _, fun _ => rfl⟩
    case round =>
      obtain ⟨c, hc, rfl, hJ, hnx⟩ := hrel
      have hcell := fun j => (hnx.2 j).trans (hBs j)
      have hsz : n₀ ≤ wr.heap.size := Nat.le_trans hn₀ hnx.1.size
      by_cases hlt : c < N
      · have hlt' : (c : Int) < (N : Int) := by omega
        obtain ⟨m1, m2⟩ := mul_bounds (x := (c : Int)) (q := p.pitch) (by omega) (by omega) b1 b2
        have hbin := HP.out c wr hsz (HU.out wr hnx.1)
        by_cases hd : deadIs p c = true
        · have HA1 := Lib.hid (show alive N p (c + 1) = alive N p c from alive_dead hlt hd)
          rw [hd] at hbin
          gi_wp2_with (refine ⟨trivial, (callsIn_wide.2 hbin).mono ?_⟩; rintro e w' ⟨i, rfl, rfl⟩)
          go_roundw
          case rel => exact ⟨c + 1, by omega, by go_num, by rw [HA1.out]; exact hJ, hnx⟩
          case measure => simp [intOf]; omega
        · have HA1 := Lib.hid (show alive N p (c + 1) = alive N p c ++ [⟨c, hlt⟩] from alive_not hlt hd)
          rw [show deadIs p c = false by simpa using hd] at hbin
          obtain ⟨fn, tmps, assign, body, hy, hRr⟩ := HY.out _ ⟨c, hlt⟩ wr hJ (by have := HL.out c; omega)
          unfold encT at hy
          dsimp only at hy
          rw [hT] at hy
          (try simp only [Int.sub_zero] at hy)
          gi_wp2_with (refine ⟨trivial, (callsIn_wide.2 hbin).mono ?_⟩; rintro e w' ⟨i, rfl, rfl⟩)
          refine hRr.mono ?_
          rintro e W3 (⟨rfl, hJ3, hk3⟩ | ⟨rfl, hJx3⟩)
          · gi_wp2
            go_roundw
            case rel => exact ⟨c + 1, by omega, by go_num, by rw [HA1.out]; exact hJ3, hnx.trans hk3⟩
            case measure => simp [intOf]; omega
          · gi_wp2
            refine bodyPost_ret (results_none rfl _ _ _) rfl ?_
            exact ⟨⟨_, rfl⟩, .inr ⟨_, ⟨c + 1, by omega, by rw [HA1.out]⟩, hJx3⟩⟩
      · obtain rfl : c = N := by omega
        gi_wp2
        go_end0
        exact ⟨⟨_, rfl⟩, .inl ⟨_, rfl, hJ⟩⟩
set_option maxHeartbeats 400000 in
theorem ter_any (p : PR) (ix : Int) (w : World) :
    Calls Tryz.prog 38 #[p.placed ix] w fun e w' => e = .returned (.func (.func 59) #[] #[.pointer (some ⟨w.heap.size, 0, none⟩)]) ∧ w.alloc (.cells #[.int .i64 p.kind, .int .i64 p.view, .int .i64 p.z, .int .i64 p.first, .int .i64 p.pitch, .int .i64 p.strips, .int .i64 p.spill, .int .i64 p.olo, .int .i64 p.ohi, .int .i64 p.clo, .int .i64 p.chi, .int .i64 p.jitter, .int .i64 p.least, .slice p.da p.dn p.dc, .slice p.ea p.en p.ec, .int .i64 ix] 84) = w' := by
  go_enter Tryz.func38, Tryz.ntmps38
  go_wp2
  go_ret
  exact ⟨rfl, rfl⟩
theorem ter_stops (n : Nat) (hn : 1 ≤ n) (Bs n₀ N : Nat) (p : PR) (ix : Int) (hN : p.strips = (N : Int)) (hS : Shaped p) (hR : Rising p.en p.es) (hen : p.en ≤ 100) (w : World) (hBs : Bs < w.heap.size) (hn₀ : n₀ ≤ w.heap.size)
    (hc : ∀ j, w.cell? ⟨Bs, j, none⟩ = (#[.int .i64 p.kind, .int .i64 p.view, .int .i64 p.z, .int .i64 p.first, .int .i64 p.pitch, .int .i64 p.strips, .int .i64 p.spill, .int .i64 p.olo, .int .i64 p.ohi, .int .i64 p.clo, .int .i64 p.chi, .int .i64 p.jitter, .int .i64 p.least, .slice p.da p.dn p.dc, .slice p.ea p.en p.ec, .int .i64 ix] : Array Value)[j]?) (hm : p.mem n₀ w) :
    SeqStopsK Fence.wide n Tryz.prog 59 #[.pointer (some ⟨Bs, 0, none⟩)] (encT (N := N) p) (KeepsP n₀ Bs) (fun ys => ys = alive N p N) (fun pre => ∃ k, k ≤ N ∧ pre = alive N p k) N w := fun l J Jx W hW _ _ hY h0 => by
  exact ter_in n hn l Bs n₀ N p hN ix hS hR hen J Jx hY W (Nat.le_trans hn₀ hW.size) (fun j => (hW.cell (p := ⟨Bs, j, none⟩) hBs).trans (hc j)) (hm.below (hW.mono hn₀)) h0
end Go.Proofs.YtegimepmccilfaaGreatDoor
